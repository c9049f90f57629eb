-- made by a program of this session (its printer) out of what Lean prints of the given program
import Derived.Test.YtnpkhkhlofkbhaaPWordRightx0
import Derived.Test.YtnpkhkhlofkbhaaPWordRightx1
import Derived.Test.YtnpkhkhlofkbhaaPWordRightx2
import Derived.Test.YtnpkhkhlofkbhaaPWordRightx3
import Derived.Test.YtnpkhkhlofkbhaaPWordRightx4
namespace Go.Proofs.Ytnpkhkhlofkbhaa.PWordRight
open Go.RowKit Go.Proofs.YtnpkhkhlofkbhaaW.PrintWords Go.Proofs.YtnpkhkhlofkbhaaW.PrintLast Go.Proofs.YtnpkhkhlofkbhaaW.PrintMore
attribute [local go_sem] max2_int min2_int max_two min_two max_three min_three max_four min_four   -- for this text's walks alone
set_option linter.unusedVariables false
set_option linter.unusedSimpArgs false

/-! ### wristbandlaw01_WordRight: function 6 -/
mutual
def wristbandlaw01_WordRight.j0 : Nat → Int → Int → List Int → List Int → Int → Bool → Option (Bool)
  | 0, _, _, _, _, _, _ => none
  | k + 1, x0, x1, x2, x3, x4, x26 => if x26 = true then (some true) else ((word_Rot.f x0 x1).bind fun t221 => ((wristbandref01_Rot.f k x0 x1).bind fun t222 => (if t221 = t222 then ((word_Words.f k x2).bind fun t223 => ((wristbandref01_Words.f k x2).bind fun t226 => ((wristbandref01_Same.f k t223 t226).bind fun t229 => (if t229 = true then ((word_Bytes.f k x3).bind fun t230 => ((wristbandref01_Bytes.f k x3).bind fun t233 => (wristbandlaw01_WordRight.j1 k x2 x4 ((strOfNums t230).toList != (strOfNums t233).toList)))) else (wristbandlaw01_WordRight.j1 k x2 x4 true))))) else (wristbandlaw01_WordRight.j1 k x2 x4 true))))
def wristbandlaw01_WordRight.j1 : Nat → List Int → Int → Bool → Option (Bool)
  | 0, _, _, _ => none
  | k + 1, x2, x4, x50 => if x50 = true then (some false) else ((word_Get.f k x2).bind fun bt236 => (if (x2.length : Int) = 8 then (if bt236.2 = 0 then ((wristbandref01_Value.f k x2).bind fun t238 => (if bt236.1 = t238 then (wristbandlaw01_WordRight.j2 k x2 x4) else (some false))) else (some false)) else (if bt236.2 = 1 then (if bt236.1 = 0 then (wristbandlaw01_WordRight.j2 k x2 x4) else (some false)) else (some false))))
def wristbandlaw01_WordRight.j2 : Nat → List Int → Int → Option (Bool)
  | 0, _, _ => none
  | k + 1, x2, x4 => (word_FromLeast.f k x2).bind fun bt239 => ((wristbandref01_FromLeast.f k x2).bind fun bt241 => (if bt239.1 = bt241.1 then (if bt239.2 = bt241.2 then ((word_Put.f k x4).bind fun t243 => ((wristbandref01_Put.f k x4).bind fun t246 => (if (strOfNums t243).toList = (strOfNums t246).toList then ((word_Least.f k x4).bind fun t249 => ((wristbandref01_Least.f k x4).bind fun t252 => (some ((strOfNums t249).toList == (strOfNums t252).toList)))) else (some false)))) else (some false)) else (some false)))
end
def wristbandlaw01_WordRight.f (k : Nat) (a0 : Int) (a1 : Int) (l2 : List Int) (l3 : List Int) (a4 : Int) : Option (Bool) := (wristbandlaw01_awake.f k).bind fun t220 => (if t220 = true then (if (l2.length : Int) > 3000 then (wristbandlaw01_WordRight.j0 k a0 a1 l2 l3 a4 true) else (wristbandlaw01_WordRight.j0 k a0 a1 l2 l3 a4 (decide ((l3.length : Int) > 3000)))) else (some false))
theorem wristbandlaw01_WordRight.mono_l : ∀ k, (∀ y0 y1 y2 y3 y4 y5, LeO (wristbandlaw01_WordRight.j0 k y0 y1 y2 y3 y4 y5) (wristbandlaw01_WordRight.j0 (k + 1) y0 y1 y2 y3 y4 y5)) ∧ (∀ y0 y1 y2, LeO (wristbandlaw01_WordRight.j1 k y0 y1 y2) (wristbandlaw01_WordRight.j1 (k + 1) y0 y1 y2)) ∧ (∀ y0 y1, LeO (wristbandlaw01_WordRight.j2 k y0 y1) (wristbandlaw01_WordRight.j2 (k + 1) y0 y1))
  | 0 => ⟨fun _ _ _ _ _ _ r h => by simp [wristbandlaw01_WordRight.j0] at h, fun _ _ _ r h => by simp [wristbandlaw01_WordRight.j1] at h, fun _ _ r h => by simp [wristbandlaw01_WordRight.j2] at h⟩
  | k + 1 => by
    obtain ⟨ih0, ih1, ih2⟩ := wristbandlaw01_WordRight.mono_l k
    refine ⟨?_, ?_, ?_⟩
    · intro y0 y1 y2 y3 y4 y5
      unfold wristbandlaw01_WordRight.j0
      repeat' first
      | (with_reducible exact ih0 _ _ _ _ _ _)
      | (with_reducible exact ih1 _ _ _)
      | (with_reducible exact ih2 _ _)
      | (with_reducible exact word_Bytes.mono _ _)
      | (with_reducible exact word_FromLeast.mono _ _)
      | (with_reducible exact word_Get.mono _ _)
      | (with_reducible exact word_Least.mono _ _)
      | (with_reducible exact word_Put.mono _ _)
      | (with_reducible exact word_Words.mono _ _)
      | (with_reducible exact wristbandlaw01_awake.mono _)
      | (with_reducible exact wristbandref01_Bytes.mono _ _)
      | (with_reducible exact wristbandref01_FromLeast.mono _ _)
      | (with_reducible exact wristbandref01_Least.mono _ _)
      | (with_reducible exact wristbandref01_Put.mono _ _)
      | (with_reducible exact wristbandref01_Rot.mono _ _ _)
      | (with_reducible exact wristbandref01_Same.mono _ _ _)
      | (with_reducible exact wristbandref01_Value.mono _ _)
      | (with_reducible exact wristbandref01_Words.mono _ _)
      | (with_reducible exact LeO.refl _)
      | (with_reducible exact LeO.none _)
      | (with_reducible refine LeO.ite ?_ ?_)
      | (with_reducible refine LeO.bind ?_ (fun _ => ?_))
      | exact ih0 _ _ _ _ _ _
      | exact ih1 _ _ _
      | exact ih2 _ _
      | exact word_Bytes.mono _ _
      | exact word_FromLeast.mono _ _
      | exact word_Get.mono _ _
      | exact word_Least.mono _ _
      | exact word_Put.mono _ _
      | exact word_Words.mono _ _
      | exact wristbandlaw01_awake.mono _
      | exact wristbandref01_Bytes.mono _ _
      | exact wristbandref01_FromLeast.mono _ _
      | exact wristbandref01_Least.mono _ _
      | exact wristbandref01_Put.mono _ _
      | exact wristbandref01_Rot.mono _ _ _
      | exact wristbandref01_Same.mono _ _ _
      | exact wristbandref01_Value.mono _ _
      | exact wristbandref01_Words.mono _ _
      | exact LeO.none _
      | refine LeO.ite ?_ ?_
      | refine LeO.bind ?_ (fun _ => ?_)
    · intro y0 y1 y2
      unfold wristbandlaw01_WordRight.j1
      repeat' first
      | (with_reducible exact ih0 _ _ _ _ _ _)
      | (with_reducible exact ih1 _ _ _)
      | (with_reducible exact ih2 _ _)
      | (with_reducible exact word_Bytes.mono _ _)
      | (with_reducible exact word_FromLeast.mono _ _)
      | (with_reducible exact word_Get.mono _ _)
      | (with_reducible exact word_Least.mono _ _)
      | (with_reducible exact word_Put.mono _ _)
      | (with_reducible exact word_Words.mono _ _)
      | (with_reducible exact wristbandlaw01_awake.mono _)
      | (with_reducible exact wristbandref01_Bytes.mono _ _)
      | (with_reducible exact wristbandref01_FromLeast.mono _ _)
      | (with_reducible exact wristbandref01_Least.mono _ _)
      | (with_reducible exact wristbandref01_Put.mono _ _)
      | (with_reducible exact wristbandref01_Rot.mono _ _ _)
      | (with_reducible exact wristbandref01_Same.mono _ _ _)
      | (with_reducible exact wristbandref01_Value.mono _ _)
      | (with_reducible exact wristbandref01_Words.mono _ _)
      | (with_reducible exact LeO.refl _)
      | (with_reducible exact LeO.none _)
      | (with_reducible refine LeO.ite ?_ ?_)
      | (with_reducible refine LeO.bind ?_ (fun _ => ?_))
      | exact ih0 _ _ _ _ _ _
      | exact ih1 _ _ _
      | exact ih2 _ _
      | exact word_Bytes.mono _ _
      | exact word_FromLeast.mono _ _
      | exact word_Get.mono _ _
      | exact word_Least.mono _ _
      | exact word_Put.mono _ _
      | exact word_Words.mono _ _
      | exact wristbandlaw01_awake.mono _
      | exact wristbandref01_Bytes.mono _ _
      | exact wristbandref01_FromLeast.mono _ _
      | exact wristbandref01_Least.mono _ _
      | exact wristbandref01_Put.mono _ _
      | exact wristbandref01_Rot.mono _ _ _
      | exact wristbandref01_Same.mono _ _ _
      | exact wristbandref01_Value.mono _ _
      | exact wristbandref01_Words.mono _ _
      | exact LeO.none _
      | refine LeO.ite ?_ ?_
      | refine LeO.bind ?_ (fun _ => ?_)
    · intro y0 y1
      unfold wristbandlaw01_WordRight.j2
      repeat' first
      | (with_reducible exact ih0 _ _ _ _ _ _)
      | (with_reducible exact ih1 _ _ _)
      | (with_reducible exact ih2 _ _)
      | (with_reducible exact word_Bytes.mono _ _)
      | (with_reducible exact word_FromLeast.mono _ _)
      | (with_reducible exact word_Get.mono _ _)
      | (with_reducible exact word_Least.mono _ _)
      | (with_reducible exact word_Put.mono _ _)
      | (with_reducible exact word_Words.mono _ _)
      | (with_reducible exact wristbandlaw01_awake.mono _)
      | (with_reducible exact wristbandref01_Bytes.mono _ _)
      | (with_reducible exact wristbandref01_FromLeast.mono _ _)
      | (with_reducible exact wristbandref01_Least.mono _ _)
      | (with_reducible exact wristbandref01_Put.mono _ _)
      | (with_reducible exact wristbandref01_Rot.mono _ _ _)
      | (with_reducible exact wristbandref01_Same.mono _ _ _)
      | (with_reducible exact wristbandref01_Value.mono _ _)
      | (with_reducible exact wristbandref01_Words.mono _ _)
      | (with_reducible exact LeO.refl _)
      | (with_reducible exact LeO.none _)
      | (with_reducible refine LeO.ite ?_ ?_)
      | (with_reducible refine LeO.bind ?_ (fun _ => ?_))
      | exact ih0 _ _ _ _ _ _
      | exact ih1 _ _ _
      | exact ih2 _ _
      | exact word_Bytes.mono _ _
      | exact word_FromLeast.mono _ _
      | exact word_Get.mono _ _
      | exact word_Least.mono _ _
      | exact word_Put.mono _ _
      | exact word_Words.mono _ _
      | exact wristbandlaw01_awake.mono _
      | exact wristbandref01_Bytes.mono _ _
      | exact wristbandref01_FromLeast.mono _ _
      | exact wristbandref01_Least.mono _ _
      | exact wristbandref01_Put.mono _ _
      | exact wristbandref01_Rot.mono _ _ _
      | exact wristbandref01_Same.mono _ _ _
      | exact wristbandref01_Value.mono _ _
      | exact wristbandref01_Words.mono _ _
      | exact LeO.none _
      | refine LeO.ite ?_ ?_
      | refine LeO.bind ?_ (fun _ => ?_)
theorem wristbandlaw01_WordRight.mono : ∀ a0 a1 a2 a3 a4 k, LeO (wristbandlaw01_WordRight.f k a0 a1 a2 a3 a4) (wristbandlaw01_WordRight.f (k + 1) a0 a1 a2 a3 a4) := by
  intro a0 a1 a2 a3 a4 k
  obtain ⟨ih0, ih1, ih2⟩ := wristbandlaw01_WordRight.mono_l k
  unfold wristbandlaw01_WordRight.f
  repeat' first
      | (with_reducible exact ih0 _ _ _ _ _ _)
      | (with_reducible exact ih1 _ _ _)
      | (with_reducible exact ih2 _ _)
      | (with_reducible exact word_Bytes.mono _ _)
      | (with_reducible exact word_FromLeast.mono _ _)
      | (with_reducible exact word_Get.mono _ _)
      | (with_reducible exact word_Least.mono _ _)
      | (with_reducible exact word_Put.mono _ _)
      | (with_reducible exact word_Words.mono _ _)
      | (with_reducible exact wristbandlaw01_awake.mono _)
      | (with_reducible exact wristbandref01_Bytes.mono _ _)
      | (with_reducible exact wristbandref01_FromLeast.mono _ _)
      | (with_reducible exact wristbandref01_Least.mono _ _)
      | (with_reducible exact wristbandref01_Put.mono _ _)
      | (with_reducible exact wristbandref01_Rot.mono _ _ _)
      | (with_reducible exact wristbandref01_Same.mono _ _ _)
      | (with_reducible exact wristbandref01_Value.mono _ _)
      | (with_reducible exact wristbandref01_Words.mono _ _)
      | (with_reducible exact LeO.refl _)
      | (with_reducible exact LeO.none _)
      | (with_reducible refine LeO.ite ?_ ?_)
      | (with_reducible refine LeO.bind ?_ (fun _ => ?_))
      | exact ih0 _ _ _ _ _ _
      | exact ih1 _ _ _
      | exact ih2 _ _
      | exact word_Bytes.mono _ _
      | exact word_FromLeast.mono _ _
      | exact word_Get.mono _ _
      | exact word_Least.mono _ _
      | exact word_Put.mono _ _
      | exact word_Words.mono _ _
      | exact wristbandlaw01_awake.mono _
      | exact wristbandref01_Bytes.mono _ _
      | exact wristbandref01_FromLeast.mono _ _
      | exact wristbandref01_Least.mono _ _
      | exact wristbandref01_Put.mono _ _
      | exact wristbandref01_Rot.mono _ _ _
      | exact wristbandref01_Same.mono _ _ _
      | exact wristbandref01_Value.mono _ _
      | exact wristbandref01_Words.mono _ _
      | exact LeO.none _
      | refine LeO.ite ?_ ?_
      | refine LeO.bind ?_ (fun _ => ?_)
def wristbandlaw01_WordRight.T5 : Bool × List (List Nat × List Nat) := (true, [([], []), ([], []), ([0, 1], [0, 1]), ([], []), ([], []), ([3, 4, 2], [3, 4]), ([2, 5], [2, 5]), ([6, 5], [6]), ([7], [7]), ([8, 7, 7], [7, 8]), ([7], [7]), ([10, 9, 7], [7, 10]), ([9, 11, 11, 7], [7, 9, 11]), ([12, 7], [7, 12]), ([7, 13], [7, 13]), ([14, 12], [14]), ([15], [15]), ([16, 15, 15], [15, 16]), ([17, 15], [15, 17]), ([15], [15]), ([19, 17, 15], [15, 19]), ([20, 15], [15, 20]), ([18, 21, 15], [15, 18, 21]), ([15, 22], [15, 22])])
def wristbandlaw01_WordRight.B5 : List Nat := [0, 0, 3, 0, 0, 31, 63, 127, 255, 511, 255, 2047, 4095, 8191, 16383, 32767, 65535, 131071, 262143, 65535, 786431, 1835007, 4194303, 8388607]
theorem wristbandlaw01_WordRight.tab5 : rtab .any (opsOf Try.f6 5) = wristbandlaw01_WordRight.T5 := by kernel_rfl
theorem wristbandlaw01_WordRight.bits5 : waitsOk wristbandlaw01_WordRight.T5.2 wristbandlaw01_WordRight.B5 = true := by kernel_rfl
def wristbandlaw01_WordRight.T15 : Bool × List (List Nat × List Nat) := (true, [([], []), ([], []), ([0, 1], [0, 1]), ([2], [2]), ([3], [3]), ([3], [3]), ([4, 5, 3], [3, 4, 5]), ([3, 6], [3, 6]), ([7, 3], [7]), ([8], [8]), ([9, 8, 8], [8, 9]), ([10, 8], [8, 10]), ([8], [8]), ([12, 10, 8], [8, 12]), ([13, 8], [8, 13]), ([11, 14, 8], [8, 11, 14]), ([8, 15], [8, 15]), ([16, 13], [16]), ([17], [17]), ([18, 17, 17], [17, 18]), ([19, 17], [17, 19]), ([17], [17]), ([21, 19, 17], [17, 21]), ([22, 17], [17, 22]), ([20, 23, 17], [17, 20, 23]), ([17, 24], [17, 24]), ([25, 22, 0, 1, 2, 3, 4, 5, 6, 7, 8, 9, 10, 11, 12, 13, 14, 15, 16, 17, 18, 19, 20, 21, 22, 23, 24, 25], [25])])
def wristbandlaw01_WordRight.B15 : List Nat := [0, 0, 3, 7, 15, 15, 63, 127, 255, 511, 1023, 2047, 511, 6143, 14335, 32767, 65535, 131071, 262143, 524287, 1048575, 262143, 3145727, 7340031, 16777215, 33554431, 67108863]
theorem wristbandlaw01_WordRight.tab15 : rtab .any (opsOf Try.f6 15) = wristbandlaw01_WordRight.T15 := by kernel_rfl
theorem wristbandlaw01_WordRight.bits15 : waitsOk wristbandlaw01_WordRight.T15.2 wristbandlaw01_WordRight.B15 = true := by kernel_rfl
set_option maxHeartbeats 8000000 in
set_option maxRecDepth 100000 in
theorem wristbandlaw01_WordRight.calls (k : Nat) (a0 : Int) (a1 : Int) (A2 : Option Addr) (c2 : Nat) (l2 : List Int) (A3 : Option Addr) (c3 : Nat) (l3 : List Int) (a4 : Int) (r : Bool) (w : World) (hr2 : Kd.C (Kd.int .u8) w A2 l2.length l2) (hc2 : l2.length ≤ c2) (hr3 : Kd.C (Kd.int .u32) w A3 l3.length l3) (hc3 : l3.length ≤ c3) (h : wristbandlaw01_WordRight.f k a0 a1 l2 l3 a4 = some r) :
    Calls Try.prog 6 #[.int .u32 a0, .int .i64 a1, .slice A2 l2.length c2, .slice A3 l3.length c3, .int .u64 a4] w fun e w' => e = .returned (.bool r) ∧ Below w.heap.size w w' := by
  have HR2 := Aside0.mk hr2
  have HC2 := Aside0.mk hc2
  clear hr2 hc2
  have HR3 := Aside0.mk hr3
  have HC3 := Aside0.mk hc3
  clear hr3 hc3
  have HB := Aside0.mk (Below.refl w.heap.size w)
  have H : ((wristbandlaw01_awake.f k).bind fun t220 => (if t220 = true then (if (l2.length : Int) > 3000 then (wristbandlaw01_WordRight.j0 k a0 a1 l2 l3 a4 true) else (wristbandlaw01_WordRight.j0 k a0 a1 l2 l3 a4 (decide ((l3.length : Int) > 3000)))) else (some false))) = some r := h
  clear h
  replace H := Option.bind_eq_some_iff.mp H
  obtain ⟨t220, A60, H⟩ := H
  replace H : (if t220 = true then (if (l2.length : Int) > 3000 then (wristbandlaw01_WordRight.j0 k a0 a1 l2 l3 a4 true) else (wristbandlaw01_WordRight.j0 k a0 a1 l2 l3 a4 (decide ((l3.length : Int) > 3000)))) else (some false)) = some r := H
  have A6 := Aside0.mk A60
  clear A60
  by_cases c7 : t220 = true
  · subst c7
    have H1 : (if (l2.length : Int) > 3000 then (wristbandlaw01_WordRight.j0 k a0 a1 l2 l3 a4 true) else (wristbandlaw01_WordRight.j0 k a0 a1 l2 l3 a4 (decide ((l3.length : Int) > 3000)))) = some r := by rw [if_pos rfl] at H; exact H
    clear H
    have H := H1
    clear H1
    have HC8 := Aside0.mk H
    clear H
    go_enter Try.func6, Try.ntmps6
    go_upto_region 3 with (first | ((with_reducible refine gate_callee (f := 26) rfl ?_); refine goesL_ (some 17) rfl rfl Try.func26 (by kernel_rfl) rfl #[] rfl (by (try simp only [List.map_toArray, List.map_cons, List.map_nil]); first | done | rfl | (simp only [List.length_drop, List.length_take]; rfl)) ?_; (with_reducible refine (wristbandlaw01_awake.calls k  true _ A6.out).mono ?_); rintro e w9 ⟨rfl, hb⟩; refine ⟨_, rfl, ?_⟩; have n0_ := Aside0.mk (below_step (by repeat (first | (with_reducible first | exact HB.out | apply below_alloc | apply pw_below_drewN | apply below_drew1) | exact HB.out)) hb); clear HB; have HB := n0_; clear n0_; (try clear hb); (try clear hb2); (try clear hk); (try clear hi)))
    (try simp only [Act.put, List.setIfInBounds_toArray, List.set_cons_zero, List.set_cons_succ])
    go_cut [26] (fun v26 wc => ∃ (kq : Nat) (x26_7 : Bool), v26 = .bool x26_7 ∧ Aside0 (wristbandlaw01_WordRight.j0 kq a0 a1 l2 l3 a4 x26_7 = some r) ∧ Aside0 (kq ≤ k) ∧ Aside0 (Below w.heap.size w wc))
    case first =>
      have H := HC8.out
      clear HC8
      by_cases c10 : (l2.length : Int) > 3000
      · rw [if_pos c10] at H
        have c10b0 : decide (3000 < (l2.length : Int)) = true := decide_eq_true c10
        have c10b1 : decide (3000 < l2.length) = true := decide_eq_true (by omega)
        clear c10
        (first | rw [c10b0] | (simp only [i64_w, i32_w]; rw [c10b0]) | skip)
        have H' := Aside0.mk H
        clear H
        go_wp2
        go_meet
        case rel => exact ⟨_, (true), (by first | rfl | (simp; done) | (simp [*]; done)), H', ⟨by first | omega | exact Nat.le_refl _⟩, ⟨by repeat (first | (with_reducible first | exact HB.out | apply below_alloc | apply pw_below_drewN | apply below_drew1) | exact HB.out)⟩⟩
      · rw [if_neg c10] at H
        have c10b0 : decide (3000 < (l2.length : Int)) = false := decide_eq_false c10
        have c10b1 : decide (3000 < l2.length) = false := decide_eq_false (by omega)
        clear c10
        (first | rw [c10b0] | (simp only [i64_w, i32_w]; rw [c10b0]) | skip)
        have H' := Aside0.mk H
        clear H
        go_wp2
        go_meet
        case rel => exact ⟨_, (decide ((l3.length : Int) > 3000)), (by first | rfl | (simp; done) | (simp [*]; done)), H', ⟨by first | omega | exact Nat.le_refl _⟩, ⟨by repeat (first | (with_reducible first | exact HB.out | apply below_alloc | apply pw_below_drewN | apply below_drew1) | exact HB.out)⟩⟩
    case rest =>
      clear HC8
      try clear c1
      try clear c2
      try clear p2
      try clear c3
      try clear c6
      try clear c7
      try clear c10
      try clear c10b0
      try clear c10b1
      obtain ⟨kq, x26_7, rfl, HA, HJ7, HB⟩ := hcut
      cases kq with
      | zero => exact absurd HA.out (by simp [wristbandlaw01_WordRight.j0])
      | succ kj7 =>
        have H := HA.out
        clear HA
        simp only [wristbandlaw01_WordRight.j0] at H
        by_cases c11 : x26_7 = true
        · subst c11
          have H1 : (some true) = some r := by rw [if_pos rfl] at H; exact H
          clear H
          have H := H1
          clear H1
          obtain rfl := Option.some.inj H
          go_wp2
          go_ret
          exact ⟨by first | rfl | (simp [errW_none, errW_some] <;> rfl) | (simp [*, errW_none, errW_some] <;> rfl), by repeat (first | (with_reducible first | exact HB.out | apply below_alloc | apply pw_below_drewN | apply below_drew1) | exact HB.out)⟩
        · replace c11 := Bool.eq_false_iff.mpr c11
          subst c11
          have H1 : ((word_Rot.f a0 a1).bind fun t221 => ((wristbandref01_Rot.f kj7 a0 a1).bind fun t222 => (if t221 = t222 then ((word_Words.f kj7 l2).bind fun t223 => ((wristbandref01_Words.f kj7 l2).bind fun t226 => ((wristbandref01_Same.f kj7 t223 t226).bind fun t229 => (if t229 = true then ((word_Bytes.f kj7 l3).bind fun t230 => ((wristbandref01_Bytes.f kj7 l3).bind fun t233 => (wristbandlaw01_WordRight.j1 kj7 l2 a4 ((strOfNums t230).toList != (strOfNums t233).toList)))) else (wristbandlaw01_WordRight.j1 kj7 l2 a4 true))))) else (wristbandlaw01_WordRight.j1 kj7 l2 a4 true)))) = some r := by rw [if_neg (show ¬ (false = true) by decide)] at H; exact H
          clear H
          have H := H1
          clear H1
          have HC12 := Aside0.mk H
          clear H
          go_upto_region 5 with (fail)
          go_cut [50] (fun v50 wc => ∃ (kq : Nat) (x50_11 : Bool), v50 = .bool x50_11 ∧ Aside0 (wristbandlaw01_WordRight.j1 kq l2 a4 x50_11 = some r) ∧ Aside0 (kq ≤ kj7) ∧ Aside0 (Below w.heap.size w wc))
          case first =>
            have H := HC12.out
            clear HC12
            replace H := Option.bind_eq_some_iff.mp H
            obtain ⟨t221, A130, H⟩ := H
            replace H : ((wristbandref01_Rot.f kj7 a0 a1).bind fun t222 => (if t221 = t222 then ((word_Words.f kj7 l2).bind fun t223 => ((wristbandref01_Words.f kj7 l2).bind fun t226 => ((wristbandref01_Same.f kj7 t223 t226).bind fun t229 => (if t229 = true then ((word_Bytes.f kj7 l3).bind fun t230 => ((wristbandref01_Bytes.f kj7 l3).bind fun t233 => (wristbandlaw01_WordRight.j1 kj7 l2 a4 ((strOfNums t230).toList != (strOfNums t233).toList)))) else (wristbandlaw01_WordRight.j1 kj7 l2 a4 true))))) else (wristbandlaw01_WordRight.j1 kj7 l2 a4 true))) = some r := H
            have A13 := Aside0.mk A130
            clear A130
            replace H := Option.bind_eq_some_iff.mp H
            obtain ⟨t222, A140, H⟩ := H
            replace H : (if t221 = t222 then ((word_Words.f kj7 l2).bind fun t223 => ((wristbandref01_Words.f kj7 l2).bind fun t226 => ((wristbandref01_Same.f kj7 t223 t226).bind fun t229 => (if t229 = true then ((word_Bytes.f kj7 l3).bind fun t230 => ((wristbandref01_Bytes.f kj7 l3).bind fun t233 => (wristbandlaw01_WordRight.j1 kj7 l2 a4 ((strOfNums t230).toList != (strOfNums t233).toList)))) else (wristbandlaw01_WordRight.j1 kj7 l2 a4 true))))) else (wristbandlaw01_WordRight.j1 kj7 l2 a4 true)) = some r := H
            have A14 := Aside0.mk A140
            clear A140
            by_cases c15 : t221 = t222
            · rw [if_pos c15] at H
              have c15b0 : (t221 == t222) = true := beq_iff_eq.mpr c15
              have c15b1 : (t221 != t222) = false := bne_eq_false_iff_eq.mpr c15
              clear c15
              (first | rw [c15b0] | (simp only [i64_w, i32_w]; rw [c15b0]) | skip)
              replace H := Option.bind_eq_some_iff.mp H
              obtain ⟨t223, A160, H⟩ := H
              replace H : ((wristbandref01_Words.f kj7 l2).bind fun t226 => ((wristbandref01_Same.f kj7 t223 t226).bind fun t229 => (if t229 = true then ((word_Bytes.f kj7 l3).bind fun t230 => ((wristbandref01_Bytes.f kj7 l3).bind fun t233 => (wristbandlaw01_WordRight.j1 kj7 l2 a4 ((strOfNums t230).toList != (strOfNums t233).toList)))) else (wristbandlaw01_WordRight.j1 kj7 l2 a4 true)))) = some r := H
              have A16 := Aside0.mk A160
              clear A160
              replace H := Option.bind_eq_some_iff.mp H
              obtain ⟨t226, A170, H⟩ := H
              replace H : ((wristbandref01_Same.f kj7 t223 t226).bind fun t229 => (if t229 = true then ((word_Bytes.f kj7 l3).bind fun t230 => ((wristbandref01_Bytes.f kj7 l3).bind fun t233 => (wristbandlaw01_WordRight.j1 kj7 l2 a4 ((strOfNums t230).toList != (strOfNums t233).toList)))) else (wristbandlaw01_WordRight.j1 kj7 l2 a4 true))) = some r := H
              have A17 := Aside0.mk A170
              clear A170
              replace H := Option.bind_eq_some_iff.mp H
              obtain ⟨t229, A180, H⟩ := H
              replace H : (if t229 = true then ((word_Bytes.f kj7 l3).bind fun t230 => ((wristbandref01_Bytes.f kj7 l3).bind fun t233 => (wristbandlaw01_WordRight.j1 kj7 l2 a4 ((strOfNums t230).toList != (strOfNums t233).toList)))) else (wristbandlaw01_WordRight.j1 kj7 l2 a4 true)) = some r := H
              have A18 := Aside0.mk A180
              clear A180
              by_cases c19 : t229 = true
              · subst c19
                have H1 : ((word_Bytes.f kj7 l3).bind fun t230 => ((wristbandref01_Bytes.f kj7 l3).bind fun t233 => (wristbandlaw01_WordRight.j1 kj7 l2 a4 ((strOfNums t230).toList != (strOfNums t233).toList)))) = some r := by rw [if_pos rfl] at H; exact H
                clear H
                have H := H1
                clear H1
                replace H := Option.bind_eq_some_iff.mp H
                obtain ⟨t230, A200, H⟩ := H
                replace H : ((wristbandref01_Bytes.f kj7 l3).bind fun t233 => (wristbandlaw01_WordRight.j1 kj7 l2 a4 ((strOfNums t230).toList != (strOfNums t233).toList))) = some r := H
                have A20 := Aside0.mk A200
                clear A200
                replace H := Option.bind_eq_some_iff.mp H
                obtain ⟨t233, A210, H⟩ := H
                replace H : (wristbandlaw01_WordRight.j1 kj7 l2 a4 ((strOfNums t230).toList != (strOfNums t233).toList)) = some r := H
                have A21 := Aside0.mk A210
                clear A210
                have H' := Aside0.mk H
                clear H
                try go_wp2
                have n0_ := Aside0.mk (below_drew1 HB.out)
                clear HB
                have HB := n0_
                clear n0_
                refine start_ (n := 24) (S := fun w' => True) (ds := []) #[false, false, false, false, false, false, false, false, false, false, false, false, false, false, false, false, false, false, false, false, false, false, false, false] (by kernel_rfl) rfl rfl trivial (fun hHeld => ?_); refine with_tabW wristbandlaw01_WordRight.tab5 wristbandlaw01_WordRight.bits5 (fun HT_ HW_ => ?_)
                generalize wc.drew = w22 at HB hHeld ⊢
                refine pure_ (i := 0) (N := some 27) (v := ?_) (a' := ?_) #[true, false, false, false, false, false, false, false, false, false, false, false, false, false, false, false, false, false, false, false, false, false, false, false] rfl rfl (any_of HT_.out (by kernel_rfl)) (fun _ _ _ h => h) (Or.inl ⟨by rfl, ?_⟩) ?_ ?_
                rotate_left
                · intro w'
                  go_simp
                  with_reducible rfl
                rotate_left
                · simp only [Act.put, List.setIfInBounds_toArray, List.set_cons_zero, List.set_cons_succ, i64_w, i32_w]
                  rfl
                refine pure_ (i := 1) (N := some 28) (v := ?_) (a' := ?_) #[true, true, false, false, false, false, false, false, false, false, false, false, false, false, false, false, false, false, false, false, false, false, false, false] rfl rfl (any_of HT_.out (by kernel_rfl)) (fun _ _ _ h => h) (Or.inl ⟨by rfl, ?_⟩) ?_ ?_
                rotate_left
                · intro w'
                  go_simp
                  with_reducible rfl
                rotate_left
                · simp only [Act.put, List.setIfInBounds_toArray, List.set_cons_zero, List.set_cons_succ, i64_w, i32_w]
                  rfl
                refine pure_ (i := 3) (N := some 30) (v := ?_) (a' := ?_) #[true, true, false, true, false, false, false, false, false, false, false, false, false, false, false, false, false, false, false, false, false, false, false, false] rfl rfl (any_of HT_.out (by kernel_rfl)) (fun _ _ _ h => h) (Or.inl ⟨by rfl, ?_⟩) ?_ ?_
                rotate_left
                · intro w'
                  go_simp
                  with_reducible rfl
                rotate_left
                · simp only [Act.put, List.setIfInBounds_toArray, List.set_cons_zero, List.set_cons_succ, i64_w, i32_w]
                  rfl
                refine pure_ (i := 4) (N := some 31) (v := ?_) (a' := ?_) #[true, true, false, true, true, false, false, false, false, false, false, false, false, false, false, false, false, false, false, false, false, false, false, false] rfl rfl (any_of HT_.out (by kernel_rfl)) (fun _ _ _ h => h) (Or.inl ⟨by rfl, ?_⟩) ?_ ?_
                rotate_left
                · intro w'
                  go_simp
                  with_reducible rfl
                rotate_left
                · simp only [Act.put, List.setIfInBounds_toArray, List.set_cons_zero, List.set_cons_succ, i64_w, i32_w]
                  rfl
                refine one_ (i := 2) (N := some 29) #[true, true, true, true, true, false, false, false, false, false, false, false, false, false, false, false, false, false, false, false, false, false, false, false] rfl rfl (one_of HT_.out (by kernel_rfl)) (by decide) (fun K hK => ?_)
                refine goes_ Try.func27 (by kernel_rfl) rfl #[.int .u32 a0, .int .i64 a1] (by first | rfl | (simp [Region.wanted, yielded, *]; done)) rfl rfl (by (try simp only [List.map_toArray, List.map_cons, List.map_nil]); first | done | rfl | (simp only [List.length_drop, List.length_take]; rfl)) ?_
                with_reducible refine (word_Rot.calls a0 a1 t221 _ A13.out).mono ?_
                rintro e w' ⟨rfl, ⟨nd, rfl⟩⟩
                refine ⟨_, rfl, ?_⟩
                refine hK.out _ _ trivial (fun hHeld => ?_)
                clear hK K
                refine norm_ (a' := ?_) ?_ ?_
                rotate_left
                · show Act.put _ (some 29) _ = _
                  simp only [Act.put, List.setIfInBounds_toArray, List.set_cons_zero, List.set_cons_succ, i64_w, i32_w]
                  rfl
                refine one_ (i := 5) (N := some 32) #[true, true, true, true, true, true, false, false, false, false, false, false, false, false, false, false, false, false, false, false, false, false, false, false] rfl rfl (one_of HT_.out (by kernel_rfl)) (by decide) (fun K hK => ?_)
                refine goes_ Try.func28 (by kernel_rfl) rfl #[.int .u32 a0, .int .i64 a1] (by first | rfl | (simp [Region.wanted, yielded, *]; done)) rfl rfl (by (try simp only [List.map_toArray, List.map_cons, List.map_nil]); first | done | rfl | (simp only [List.length_drop, List.length_take]; rfl)) ?_
                with_reducible refine (wristbandref01_Rot.calls kj7 a0 a1 t222 _ A14.out).mono ?_
                rintro e w' ⟨rfl, ⟨nd, rfl⟩⟩
                refine ⟨_, rfl, ?_⟩
                refine hK.out _ _ trivial (fun hHeld => ?_)
                clear hK K
                refine norm_ (a' := ?_) ?_ ?_
                rotate_left
                · show Act.put _ (some 32) _ = _
                  simp only [Act.put, List.setIfInBounds_toArray, List.set_cons_zero, List.set_cons_succ, i64_w, i32_w]
                  rfl
                refine pure_ (i := 6) (N := some 33) (v := ?_) (a' := ?_) #[true, true, true, true, true, true, true, false, false, false, false, false, false, false, false, false, false, false, false, false, false, false, false, false] rfl rfl (any_of HT_.out (by kernel_rfl)) (fun _ _ _ h => h) (Or.inl ⟨by rfl, ?_⟩) ?_ ?_
                rotate_left
                · intro w'
                  go_simp
                  with_reducible rfl
                rotate_left
                · simp only [Act.put, List.setIfInBounds_toArray, List.set_cons_zero, List.set_cons_succ, i64_w, i32_w]
                  rfl
                refine pure_ (i := 7) (N := some 34) (v := ?_) (a' := ?_) #[true, true, true, true, true, true, true, true, false, false, false, false, false, false, false, false, false, false, false, false, false, false, false, false] rfl rfl (any_of HT_.out (by kernel_rfl)) (fun _ _ _ h => h) (Or.inl ⟨by rfl, ?_⟩) ?_ ?_
                rotate_left
                · intro w'
                  go_simp
                  with_reducible rfl
                rotate_left
                · simp only [Act.put, List.setIfInBounds_toArray, List.set_cons_zero, List.set_cons_succ, i64_w, i32_w]
                  rfl
                refine pure_ (i := 8) (N := some 35) (v := ?_) (a' := ?_) #[true, true, true, true, true, true, true, true, true, false, false, false, false, false, false, false, false, false, false, false, false, false, false, false] rfl rfl (any_of HT_.out (by kernel_rfl)) (fun _ _ _ h => h) (Or.inl ⟨by rfl, ?_⟩) ?_ ?_
                rotate_left
                · intro w'
                  go_simp
                  with_reducible rfl
                rotate_left
                · simp only [Act.put, List.setIfInBounds_toArray, List.set_cons_zero, List.set_cons_succ, i64_w, i32_w]
                  rfl
                refine pure_ (i := 10) (N := some 37) (v := ?_) (a' := ?_) #[true, true, true, true, true, true, true, true, true, false, true, false, false, false, false, false, false, false, false, false, false, false, false, false] rfl rfl (any_of HT_.out (by kernel_rfl)) (fun _ _ _ h => h) (Or.inl ⟨by rfl, ?_⟩) ?_ ?_
                rotate_left
                · intro w'
                  go_simp
                  with_reducible rfl
                rotate_left
                · simp only [Act.put, List.setIfInBounds_toArray, List.set_cons_zero, List.set_cons_succ, i64_w, i32_w]
                  rfl
                refine one_ (i := 9) (N := some 36) #[true, true, true, true, true, true, true, true, true, true, true, false, false, false, false, false, false, false, false, false, false, false, false, false] rfl rfl (one_of HT_.out (by kernel_rfl)) (by decide) (fun K hK => ?_)
                refine goes_ Try.func30 (by kernel_rfl) rfl #[.slice A2 l2.length c2] (by first | rfl | (simp [Region.wanted, yielded, *]; done)) rfl rfl (by (try simp only [List.map_toArray, List.map_cons, List.map_nil]); first | done | rfl | (simp only [List.length_drop, List.length_take]; rfl)) ?_
                with_reducible refine (word_Words.calls kj7 (fun k_ => k_ < w.heap.size) _ _ l2 t223 _ ?side1 A16.out).mono ?_
                (case side1 => exact Kd.V_mk HC2.out (Kd.F_below (Kd.C_F (Kd.heap_int .u8) HR2.out) (by repeat (first | (with_reducible first | exact HB.out | apply below_alloc | apply pw_below_drewN | apply below_drew1) | exact HB.out))))
                rintro e w23 ⟨v224, rfl, ho0, hb⟩
                refine ⟨_, rfl, ?_⟩
                have n0_ := Aside0.mk (Kd.R_lower (Kd.R_mono (ok' := fun k_ => True) ho0 (fun _ hk_ => trivial)) (below_size (by repeat (first | (with_reducible first | exact HB.out | apply below_alloc | apply pw_below_drewN | apply below_drew1) | exact HB.out))))
                have n1_ := Aside0.mk (below_step (by repeat (first | (with_reducible first | exact HB.out | apply below_alloc | apply pw_below_drewN | apply below_drew1) | exact HB.out)) hb)
                clear HB
                have HO225 := n0_
                have HB := n1_
                clear n0_ n1_
                (try clear hb)
                (try clear hb2)
                (try clear hk)
                (try clear hi)
                (try clear ho0)
                refine hK.out _ _ trivial (fun hHeld => ?_)
                clear hK K
                refine norm_ (a' := ?_) ?_ ?_
                rotate_left
                · show Act.put _ (some 36) _ = _
                  simp only [Act.put, List.setIfInBounds_toArray, List.set_cons_zero, List.set_cons_succ, i64_w, i32_w]
                  rfl
                refine one_ (i := 11) (N := some 38) #[true, true, true, true, true, true, true, true, true, true, true, true, false, false, false, false, false, false, false, false, false, false, false, false] rfl rfl (one_of HT_.out (by kernel_rfl)) (by decide) (fun K hK => ?_)
                refine goes_ Try.func31 (by kernel_rfl) rfl #[.slice A2 l2.length c2] (by first | rfl | (simp [Region.wanted, yielded, *]; done)) rfl rfl (by (try simp only [List.map_toArray, List.map_cons, List.map_nil]); first | done | rfl | (simp only [List.length_drop, List.length_take]; rfl)) ?_
                with_reducible refine (wristbandref01_Words.calls kj7 _ _ l2 t226 _ ?side1 ?side2 A17.out).mono ?_
                (case side1 => repeat (first | exact (Kd.C_below HR2.out HB.out) | (with_reducible refine Kd.C_alloc ?_ _) | (with_reducible refine Kd.C_drewN ?_ _) | (with_reducible refine Kd.C_drew ?_)))
                (case side2 => exact HC2.out)
                rintro e w24 ⟨v227, rfl, ho0, hb⟩
                refine ⟨_, rfl, ?_⟩
                have n0_ := Aside0.mk (Kd.R_elder' (by (with_reducible repeat (first | apply Kd.R_alloc | apply Kd.R_drewN | apply Kd.R_drew)); exact HO225.out) (Kd.R_base ho0) hb)
                have n1_ := Aside0.mk (Kd.R_lower (Kd.R_new' ho0 (Kd.R_lt (by (with_reducible repeat (first | apply Kd.R_alloc | apply Kd.R_drewN | apply Kd.R_drew)); exact HO225.out))) (below_size (by repeat (first | (with_reducible first | exact HB.out | apply below_alloc | apply pw_below_drewN | apply below_drew1) | exact HB.out))))
                have n2_ := Aside0.mk (below_step (by repeat (first | (with_reducible first | exact HB.out | apply below_alloc | apply pw_below_drewN | apply below_drew1) | exact HB.out)) hb)
                clear HO225
                clear HB
                have HO225 := n0_
                have HO228 := n1_
                have HB := n2_
                clear n0_ n1_ n2_
                (try clear hb)
                (try clear hb2)
                (try clear hk)
                (try clear hi)
                (try clear ho0)
                obtain ⟨Ao25, co25, eo25⟩ := Kd.R_slice HO225.out
                (first | subst eo25 | (injection eo25 with f1_ f2_ f3_; have f4_ := f1_.symm; have f5_ := f3_.symm; clear f1_ f2_ f3_; subst f4_; subst f5_))
                obtain ⟨Ao26, co26, eo26⟩ := Kd.R_slice HO228.out
                (first | subst eo26 | (injection eo26 with f1_ f2_ f3_; have f4_ := f1_.symm; have f5_ := f3_.symm; clear f1_ f2_ f3_; subst f4_; subst f5_))
                refine hK.out _ _ trivial (fun hHeld => ?_)
                clear hK K
                refine norm_ (a' := ?_) ?_ ?_
                rotate_left
                · show Act.put _ (some 38) _ = _
                  simp only [Act.put, List.setIfInBounds_toArray, List.set_cons_zero, List.set_cons_succ, i64_w, i32_w]
                  rfl
                refine one_ (i := 12) (N := some 39) #[true, true, true, true, true, true, true, true, true, true, true, true, true, false, false, false, false, false, false, false, false, false, false, false] rfl rfl (one_of HT_.out (by kernel_rfl)) (by decide) (fun K hK => ?_)
                refine goes_ Try.func29 (by kernel_rfl) rfl #[.slice Ao25 t223.length co25, .slice Ao26 t226.length co26] (by first | rfl | (simp [Region.wanted, yielded, *]; done)) rfl rfl (by (try simp only [List.map_toArray, List.map_cons, List.map_nil]); first | done | rfl | (simp only [List.length_drop, List.length_take]; rfl)) ?_
                with_reducible refine (wristbandref01_Same.calls kj7 _ _ t223 _ _ t226 true _ ?side1 ?side2 ?side3 ?side4 A18.out).mono ?_
                (case side1 => repeat (first | exact (Kd.R_reads' HO225.out).2.2 | (with_reducible refine Kd.C_alloc ?_ _) | (with_reducible refine Kd.C_drewN ?_ _) | (with_reducible refine Kd.C_drew ?_)))
                (case side2 => exact (Kd.R_reads' HO225.out).2.1)
                (case side3 => repeat (first | exact (Kd.R_reads' HO228.out).2.2 | (with_reducible refine Kd.C_alloc ?_ _) | (with_reducible refine Kd.C_drewN ?_ _) | (with_reducible refine Kd.C_drew ?_)))
                (case side4 => exact (Kd.R_reads' HO228.out).2.1)
                rintro e w' ⟨rfl, ⟨nd, rfl⟩⟩
                refine ⟨_, rfl, ?_⟩
                refine hK.out _ _ trivial (fun hHeld => ?_)
                clear hK K
                refine norm_ (a' := ?_) ?_ ?_
                rotate_left
                · show Act.put _ (some 39) _ = _
                  simp only [Act.put, List.setIfInBounds_toArray, List.set_cons_zero, List.set_cons_succ, i64_w, i32_w]
                  rfl
                refine pure_ (i := 13) (N := some 40) (v := ?_) (a' := ?_) #[true, true, true, true, true, true, true, true, true, true, true, true, true, true, false, false, false, false, false, false, false, false, false, false] rfl rfl (any_of HT_.out (by kernel_rfl)) (fun _ _ _ h => h) (Or.inl ⟨by rfl, ?_⟩) ?_ ?_
                rotate_left
                · intro w'
                  go_simp
                  with_reducible rfl
                rotate_left
                · simp only [Act.put, List.setIfInBounds_toArray, List.set_cons_zero, List.set_cons_succ, i64_w, i32_w]
                  rfl
                refine pure_ (i := 14) (N := some 41) (v := ?_) (a' := ?_) #[true, true, true, true, true, true, true, true, true, true, true, true, true, true, true, false, false, false, false, false, false, false, false, false] rfl rfl (any_of HT_.out (by kernel_rfl)) (fun _ _ _ h => h) (Or.inl ⟨by rfl, ?_⟩) ?_ ?_
                rotate_left
                · intro w'
                  go_simp
                  with_reducible rfl
                rotate_left
                · simp only [Act.put, List.setIfInBounds_toArray, List.set_cons_zero, List.set_cons_succ, i64_w, i32_w]
                  rfl
                refine pure_ (i := 15) (N := some 42) (v := ?_) (a' := ?_) #[true, true, true, true, true, true, true, true, true, true, true, true, true, true, true, true, false, false, false, false, false, false, false, false] rfl rfl (any_of HT_.out (by kernel_rfl)) (fun _ _ _ h => h) (Or.inl ⟨by rfl, ?_⟩) ?_ ?_
                rotate_left
                · intro w'
                  go_simp
                  with_reducible rfl
                rotate_left
                · simp only [Act.put, List.setIfInBounds_toArray, List.set_cons_zero, List.set_cons_succ, i64_w, i32_w]
                  rfl
                refine pure_ (i := 16) (N := some 43) (v := ?_) (a' := ?_) #[true, true, true, true, true, true, true, true, true, true, true, true, true, true, true, true, true, false, false, false, false, false, false, false] rfl rfl (any_of HT_.out (by kernel_rfl)) (fun _ _ _ h => h) (Or.inl ⟨by rfl, ?_⟩) ?_ ?_
                rotate_left
                · intro w'
                  go_simp
                  with_reducible rfl
                rotate_left
                · simp only [Act.put, List.setIfInBounds_toArray, List.set_cons_zero, List.set_cons_succ, i64_w, i32_w]
                  rfl
                refine pure_ (i := 19) (N := some 46) (v := ?_) (a' := ?_) #[true, true, true, true, true, true, true, true, true, true, true, true, true, true, true, true, true, false, false, true, false, false, false, false] rfl rfl (any_of HT_.out (by kernel_rfl)) (fun _ _ _ h => h) (Or.inl ⟨by rfl, ?_⟩) ?_ ?_
                rotate_left
                · intro w'
                  go_simp
                  with_reducible rfl
                rotate_left
                · simp only [Act.put, List.setIfInBounds_toArray, List.set_cons_zero, List.set_cons_succ, i64_w, i32_w]
                  rfl
                refine one_ (i := 17) (N := some 44) #[true, true, true, true, true, true, true, true, true, true, true, true, true, true, true, true, true, true, false, true, false, false, false, false] rfl rfl (one_of HT_.out (by kernel_rfl)) (by decide) (fun K hK => ?_)
                refine goes_ Try.func32 (by kernel_rfl) rfl #[.slice A3 l3.length c3] (by first | rfl | (simp [Region.wanted, yielded, *]; done)) rfl rfl (by (try simp only [List.map_toArray, List.map_cons, List.map_nil]); first | done | rfl | (simp only [List.length_drop, List.length_take]; rfl)) ?_
                with_reducible refine (word_Bytes.calls kj7 _ _ l3 t230 _ ?side1 ?side2 A20.out).mono ?_
                (case side1 => repeat (first | exact (Kd.C_below HR3.out (by repeat (first | (with_reducible first | exact HB.out | apply below_alloc | apply pw_below_drewN | apply below_drew1) | exact HB.out))) | (with_reducible refine Kd.C_alloc ?_ _) | (with_reducible refine Kd.C_drewN ?_ _) | (with_reducible refine Kd.C_drew ?_)))
                (case side2 => exact HC3.out)
                rintro e w27 ⟨v231, rfl, ho0, hb⟩
                refine ⟨_, rfl, ?_⟩
                have n0_ := Aside0.mk (Kd.R_below (by (with_reducible repeat (first | apply Kd.R_alloc | apply Kd.R_drewN | apply Kd.R_drew)); exact HO225.out) hb)
                have n1_ := Aside0.mk (Kd.R_below (by (with_reducible repeat (first | apply Kd.R_alloc | apply Kd.R_drewN | apply Kd.R_drew)); exact HO228.out) hb)
                have n2_ := Aside0.mk (Kd.R_lower ho0 (below_size (by repeat (first | (with_reducible first | exact HB.out | apply below_alloc | apply pw_below_drewN | apply below_drew1) | exact HB.out))))
                have n3_ := Aside0.mk (below_step (by repeat (first | (with_reducible first | exact HB.out | apply below_alloc | apply pw_below_drewN | apply below_drew1) | exact HB.out)) hb)
                clear HO225
                clear HO228
                clear HB
                have HO225 := n0_
                have HO228 := n1_
                have HO232 := n2_
                have HB := n3_
                clear n0_ n1_ n2_ n3_
                (try clear hb)
                (try clear hb2)
                (try clear hk)
                (try clear hi)
                (try clear ho0)
                refine hK.out _ _ trivial (fun hHeld => ?_)
                clear hK K
                refine norm_ (a' := ?_) ?_ ?_
                rotate_left
                · show Act.put _ (some 44) _ = _
                  simp only [Act.put, List.setIfInBounds_toArray, List.set_cons_zero, List.set_cons_succ, i64_w, i32_w]
                  rfl
                refine join_ (σ := Value) 2 #[true, true, true, true, true, true, true, true, true, true, true, true, true, true, true, true, true, true, true, true, true, true, false, false] (fun s_ => [(45, .string (strOfNums t230)), (47, s_), (48, .string (strOfNums t233))]) (fun s_ w' => (Kd.R (Kd.int .u32) 23 w' w.heap.size (fun k_ => some k_ ≠ (.slice Ao26 t226.length co26 : Value).ownBlock) (.slice Ao25 t223.length co25) t223) ∧ (Kd.R (Kd.int .u32) 23 w' w.heap.size (fun k_ => some k_ ≠ (.slice Ao25 t223.length co25 : Value).ownBlock) (.slice Ao26 t226.length co26) t226) ∧ (Kd.R (Kd.int .u8) 5 w' w.heap.size (fun k_ => some k_ ≠ (s_ : Value).ownBlock) v231 t230) ∧ (Kd.R (Kd.int .u8) 5 w' w.heap.size (fun k_ => some k_ ≠ (v231 : Value).ownBlock) s_ t233) ∧ (Below w.heap.size w w')) ?_ ?_
                rotate_left
                · intro hCont
                  refine two_ (i := 18) (j := 20) (Ni := some 45) (Nj := some 47) #[true, true, true, true, true, true, true, true, true, true, true, true, true, true, true, true, true, true, true, true, false, false, false, false] #[true, true, true, true, true, true, true, true, true, true, true, true, true, true, true, true, true, true, false, true, true, false, false, false] rfl rfl rfl rfl (two_of HT_.out (by kernel_rfl)) (by decide) (by decide) (fun K hK => ?_) (fun K hK => ?_)
                  · skip
                    refine str_step (src := 22) (dst := 9) (x := .tmp 44) ?hw ?ho ?hx (v := v231) (s := strOfNums t230) (by obtain ⟨A_, c_, rfl⟩ := Kd.R_slice HO232.out; exact Kd.C_string (P := Try.prog) (A := A_) (c := c_) Try.underlying22 Try.underlying5 Try.underlying9 (Kd.R_reads' (by (with_reducible repeat (first | apply Kd.R_alloc | apply Kd.R_drewN | apply Kd.R_drew)); exact HO232.out)).2.2) ?_
                    case ho => rfl
                    case hw => first | rfl | (simp [Region.wanted, yielded, *]; done)
                    case hx => first | rfl | (simp only [Act.eval, Array.getD_eq_getD_getElem?, Option.getD_some, e44]; done)
                    intro w28 hb
                    have n0_ := Aside0.mk (Kd.R_below (by (with_reducible repeat (first | apply Kd.R_alloc | apply Kd.R_drewN | apply Kd.R_drew)); exact HO225.out) hb)
                    have n1_ := Aside0.mk (Kd.R_below (by (with_reducible repeat (first | apply Kd.R_alloc | apply Kd.R_drewN | apply Kd.R_drew)); exact HO228.out) hb)
                    have n2_ := Aside0.mk (Kd.R_below (by (with_reducible repeat (first | apply Kd.R_alloc | apply Kd.R_drewN | apply Kd.R_drew)); exact HO232.out) hb)
                    have n3_ := Aside0.mk (below_step (by repeat (first | (with_reducible first | exact HB.out | apply below_alloc | apply pw_below_drewN | apply below_drew1) | exact HB.out)) hb)
                    clear HO225
                    clear HO228
                    clear HO232
                    clear HB
                    have HO225 := n0_
                    have HO228 := n1_
                    have HO232 := n2_
                    have HB := n3_
                    clear n0_ n1_ n2_ n3_
                    (try clear hb)
                    refine hK.out _ _ trivial (fun hHeld => ?_)
                    clear hK K
                    refine norm_ (a' := ?_) ?_ ?_
                    rotate_left
                    · show Act.put _ (some 45) _ = _
                      simp only [Act.put, List.setIfInBounds_toArray, List.set_cons_zero, List.set_cons_succ, i64_w, i32_w]
                      rfl
                    refine one_ (i := 20) (N := some 47) #[true, true, true, true, true, true, true, true, true, true, true, true, true, true, true, true, true, true, true, true, true, false, false, false] rfl rfl (one_of HT_.out (by kernel_rfl)) (by decide) (fun K hK => ?_)
                    refine goes_ Try.func33 (by kernel_rfl) rfl #[.slice A3 l3.length c3] (by first | rfl | (simp [Region.wanted, yielded, *]; done)) rfl rfl (by (try simp only [List.map_toArray, List.map_cons, List.map_nil]); first | done | rfl | (simp only [List.length_drop, List.length_take]; rfl)) ?_
                    with_reducible refine (wristbandref01_Bytes.calls kj7 _ _ l3 t233 _ ?side1 ?side2 A21.out).mono ?_
                    (case side1 => repeat (first | exact (Kd.C_below HR3.out HB.out) | (with_reducible refine Kd.C_alloc ?_ _) | (with_reducible refine Kd.C_drewN ?_ _) | (with_reducible refine Kd.C_drew ?_)))
                    (case side2 => exact HC3.out)
                    rintro e w29 ⟨v234, rfl, ho0, hb⟩
                    refine ⟨_, rfl, ?_⟩
                    have n0_ := Aside0.mk (Kd.R_below (by (with_reducible repeat (first | apply Kd.R_alloc | apply Kd.R_drewN | apply Kd.R_drew)); exact HO225.out) hb)
                    have n1_ := Aside0.mk (Kd.R_below (by (with_reducible repeat (first | apply Kd.R_alloc | apply Kd.R_drewN | apply Kd.R_drew)); exact HO228.out) hb)
                    have n2_ := Aside0.mk (Kd.R_elder' (by (with_reducible repeat (first | apply Kd.R_alloc | apply Kd.R_drewN | apply Kd.R_drew)); exact HO232.out) (Kd.R_base ho0) hb)
                    have n3_ := Aside0.mk (Kd.R_lower (Kd.R_new' ho0 (Kd.R_lt (by (with_reducible repeat (first | apply Kd.R_alloc | apply Kd.R_drewN | apply Kd.R_drew)); exact HO232.out))) (below_size (by repeat (first | (with_reducible first | exact HB.out | apply below_alloc | apply pw_below_drewN | apply below_drew1) | exact HB.out))))
                    have n4_ := Aside0.mk (below_step (by repeat (first | (with_reducible first | exact HB.out | apply below_alloc | apply pw_below_drewN | apply below_drew1) | exact HB.out)) hb)
                    clear HO225
                    clear HO228
                    clear HO232
                    clear HB
                    have HO225 := n0_
                    have HO228 := n1_
                    have HO232 := n2_
                    have HO235 := n3_
                    have HB := n4_
                    clear n0_ n1_ n2_ n3_ n4_
                    (try clear hb)
                    (try clear hb2)
                    (try clear hk)
                    (try clear hi)
                    (try clear ho0)
                    refine hK.out _ _ trivial (fun hHeld => ?_)
                    clear hK K
                    refine norm_ (a' := ?_) ?_ ?_
                    rotate_left
                    · show Act.put _ (some 47) _ = _
                      simp only [Act.put, List.setIfInBounds_toArray, List.set_cons_zero, List.set_cons_succ, i64_w, i32_w]
                      rfl
                    refine one_ (i := 21) (N := some 48) #[true, true, true, true, true, true, true, true, true, true, true, true, true, true, true, true, true, true, true, true, true, true, false, false] rfl rfl (one_of HT_.out (by kernel_rfl)) (by decide) (fun K hK => ?_)
                    refine str_step (src := 22) (dst := 9) (x := .tmp 47) ?hw ?ho ?hx (v := v234) (s := strOfNums t233) (by obtain ⟨A_, c_, rfl⟩ := Kd.R_slice HO235.out; exact Kd.C_string (P := Try.prog) (A := A_) (c := c_) Try.underlying22 Try.underlying5 Try.underlying9 (Kd.R_reads' (by (with_reducible repeat (first | apply Kd.R_alloc | apply Kd.R_drewN | apply Kd.R_drew)); exact HO235.out)).2.2) ?_
                    case ho => rfl
                    case hw => first | rfl | (simp [Region.wanted, yielded, *]; done)
                    case hx => first | rfl | (simp only [Act.eval, Array.getD_eq_getD_getElem?, Option.getD_some, e47]; done)
                    intro w30 hb
                    have n0_ := Aside0.mk (Kd.R_below (by (with_reducible repeat (first | apply Kd.R_alloc | apply Kd.R_drewN | apply Kd.R_drew)); exact HO225.out) hb)
                    have n1_ := Aside0.mk (Kd.R_below (by (with_reducible repeat (first | apply Kd.R_alloc | apply Kd.R_drewN | apply Kd.R_drew)); exact HO228.out) hb)
                    have n2_ := Aside0.mk (Kd.R_below (by (with_reducible repeat (first | apply Kd.R_alloc | apply Kd.R_drewN | apply Kd.R_drew)); exact HO232.out) hb)
                    have n3_ := Aside0.mk (Kd.R_below (by (with_reducible repeat (first | apply Kd.R_alloc | apply Kd.R_drewN | apply Kd.R_drew)); exact HO235.out) hb)
                    have n4_ := Aside0.mk (below_step (by repeat (first | (with_reducible first | exact HB.out | apply below_alloc | apply pw_below_drewN | apply below_drew1) | exact HB.out)) hb)
                    clear HO225
                    clear HO228
                    clear HO232
                    clear HO235
                    clear HB
                    have HO225 := n0_
                    have HO228 := n1_
                    have HO232 := n2_
                    have HO235 := n3_
                    have HB := n4_
                    clear n0_ n1_ n2_ n3_ n4_
                    (try clear hb)
                    refine hK.out _ _ trivial (fun hHeld => ?_)
                    clear hK K
                    refine norm_ (a' := ?_) ?_ ?_
                    rotate_left
                    · show Act.put _ (some 48) _ = _
                      simp only [Act.put, List.setIfInBounds_toArray, List.set_cons_zero, List.set_cons_succ, i64_w, i32_w]
                      rfl
                    exact norm_ (by simp only [putAll, Act.put, List.setIfInBounds_toArray, List.set_cons_zero, List.set_cons_succ]) (hCont (v234) _ ⟨(by (with_reducible repeat (first | apply Kd.R_alloc | apply Kd.R_drewN | apply Kd.R_drew)); exact Kd.R_mono HO225.out (fun _ hk => hk.2)), (by (with_reducible repeat (first | apply Kd.R_alloc | apply Kd.R_drewN | apply Kd.R_drew)); exact Kd.R_mono HO228.out (fun _ hk => hk.2)), (by (with_reducible repeat (first | apply Kd.R_alloc | apply Kd.R_drewN | apply Kd.R_drew)); exact Kd.R_mono HO232.out (fun _ hk => hk.2)), (by (with_reducible repeat (first | apply Kd.R_alloc | apply Kd.R_drewN | apply Kd.R_drew)); exact Kd.R_mono HO235.out (fun _ hk => hk.2)), (by repeat (first | (with_reducible first | exact HB.out | apply below_alloc | apply pw_below_drewN | apply below_drew1) | exact HB.out))⟩)
                  · skip
                    refine goes_ Try.func33 (by kernel_rfl) rfl #[.slice A3 l3.length c3] (by first | rfl | (simp [Region.wanted, yielded, *]; done)) rfl rfl (by (try simp only [List.map_toArray, List.map_cons, List.map_nil]); first | done | rfl | (simp only [List.length_drop, List.length_take]; rfl)) ?_
                    with_reducible refine (wristbandref01_Bytes.calls kj7 _ _ l3 t233 _ ?side1 ?side2 A21.out).mono ?_
                    (case side1 => repeat (first | exact (Kd.C_below HR3.out HB.out) | (with_reducible refine Kd.C_alloc ?_ _) | (with_reducible refine Kd.C_drewN ?_ _) | (with_reducible refine Kd.C_drew ?_)))
                    (case side2 => exact HC3.out)
                    rintro e w28 ⟨v234, rfl, ho0, hb⟩
                    refine ⟨_, rfl, ?_⟩
                    have n0_ := Aside0.mk (Kd.R_below (by (with_reducible repeat (first | apply Kd.R_alloc | apply Kd.R_drewN | apply Kd.R_drew)); exact HO225.out) hb)
                    have n1_ := Aside0.mk (Kd.R_below (by (with_reducible repeat (first | apply Kd.R_alloc | apply Kd.R_drewN | apply Kd.R_drew)); exact HO228.out) hb)
                    have n2_ := Aside0.mk (Kd.R_elder' (by (with_reducible repeat (first | apply Kd.R_alloc | apply Kd.R_drewN | apply Kd.R_drew)); exact HO232.out) (Kd.R_base ho0) hb)
                    have n3_ := Aside0.mk (Kd.R_lower (Kd.R_new' ho0 (Kd.R_lt (by (with_reducible repeat (first | apply Kd.R_alloc | apply Kd.R_drewN | apply Kd.R_drew)); exact HO232.out))) (below_size (by repeat (first | (with_reducible first | exact HB.out | apply below_alloc | apply pw_below_drewN | apply below_drew1) | exact HB.out))))
                    have n4_ := Aside0.mk (below_step (by repeat (first | (with_reducible first | exact HB.out | apply below_alloc | apply pw_below_drewN | apply below_drew1) | exact HB.out)) hb)
                    clear HO225
                    clear HO228
                    clear HO232
                    clear HB
                    have HO225 := n0_
                    have HO228 := n1_
                    have HO232 := n2_
                    have HO235 := n3_
                    have HB := n4_
                    clear n0_ n1_ n2_ n3_ n4_
                    (try clear hb)
                    (try clear hb2)
                    (try clear hk)
                    (try clear hi)
                    (try clear ho0)
                    refine hK.out _ _ trivial (fun hHeld => ?_)
                    clear hK K
                    refine norm_ (a' := ?_) ?_ ?_
                    rotate_left
                    · show Act.put _ (some 47) _ = _
                      simp only [Act.put, List.setIfInBounds_toArray, List.set_cons_zero, List.set_cons_succ, i64_w, i32_w]
                      rfl
                    refine two_ (i := 18) (j := 21) (Ni := some 45) (Nj := some 48) #[true, true, true, true, true, true, true, true, true, true, true, true, true, true, true, true, true, true, true, true, true, false, false, false] #[true, true, true, true, true, true, true, true, true, true, true, true, true, true, true, true, true, true, false, true, true, true, false, false] rfl rfl rfl rfl (two_of HT_.out (by kernel_rfl)) (by decide) (by decide) (fun K hK => ?_) (fun K hK => ?_)
                    · skip
                      refine str_step (src := 22) (dst := 9) (x := .tmp 44) ?hw ?ho ?hx (v := v231) (s := strOfNums t230) (by obtain ⟨A_, c_, rfl⟩ := Kd.R_slice HO232.out; exact Kd.C_string (P := Try.prog) (A := A_) (c := c_) Try.underlying22 Try.underlying5 Try.underlying9 (Kd.R_reads' (by (with_reducible repeat (first | apply Kd.R_alloc | apply Kd.R_drewN | apply Kd.R_drew)); exact HO232.out)).2.2) ?_
                      case ho => rfl
                      case hw => first | rfl | (simp [Region.wanted, yielded, *]; done)
                      case hx => first | rfl | (simp only [Act.eval, Array.getD_eq_getD_getElem?, Option.getD_some, e44]; done)
                      intro w29 hb
                      have n0_ := Aside0.mk (Kd.R_below (by (with_reducible repeat (first | apply Kd.R_alloc | apply Kd.R_drewN | apply Kd.R_drew)); exact HO225.out) hb)
                      have n1_ := Aside0.mk (Kd.R_below (by (with_reducible repeat (first | apply Kd.R_alloc | apply Kd.R_drewN | apply Kd.R_drew)); exact HO228.out) hb)
                      have n2_ := Aside0.mk (Kd.R_below (by (with_reducible repeat (first | apply Kd.R_alloc | apply Kd.R_drewN | apply Kd.R_drew)); exact HO232.out) hb)
                      have n3_ := Aside0.mk (Kd.R_below (by (with_reducible repeat (first | apply Kd.R_alloc | apply Kd.R_drewN | apply Kd.R_drew)); exact HO235.out) hb)
                      have n4_ := Aside0.mk (below_step (by repeat (first | (with_reducible first | exact HB.out | apply below_alloc | apply pw_below_drewN | apply below_drew1) | exact HB.out)) hb)
                      clear HO225
                      clear HO228
                      clear HO232
                      clear HO235
                      clear HB
                      have HO225 := n0_
                      have HO228 := n1_
                      have HO232 := n2_
                      have HO235 := n3_
                      have HB := n4_
                      clear n0_ n1_ n2_ n3_ n4_
                      (try clear hb)
                      refine hK.out _ _ trivial (fun hHeld => ?_)
                      clear hK K
                      refine norm_ (a' := ?_) ?_ ?_
                      rotate_left
                      · show Act.put _ (some 45) _ = _
                        simp only [Act.put, List.setIfInBounds_toArray, List.set_cons_zero, List.set_cons_succ, i64_w, i32_w]
                        rfl
                      refine one_ (i := 21) (N := some 48) #[true, true, true, true, true, true, true, true, true, true, true, true, true, true, true, true, true, true, true, true, true, true, false, false] rfl rfl (one_of HT_.out (by kernel_rfl)) (by decide) (fun K hK => ?_)
                      refine str_step (src := 22) (dst := 9) (x := .tmp 47) ?hw ?ho ?hx (v := v234) (s := strOfNums t233) (by obtain ⟨A_, c_, rfl⟩ := Kd.R_slice HO235.out; exact Kd.C_string (P := Try.prog) (A := A_) (c := c_) Try.underlying22 Try.underlying5 Try.underlying9 (Kd.R_reads' (by (with_reducible repeat (first | apply Kd.R_alloc | apply Kd.R_drewN | apply Kd.R_drew)); exact HO235.out)).2.2) ?_
                      case ho => rfl
                      case hw => first | rfl | (simp [Region.wanted, yielded, *]; done)
                      case hx => first | rfl | (simp only [Act.eval, Array.getD_eq_getD_getElem?, Option.getD_some, e47]; done)
                      intro w30 hb
                      have n0_ := Aside0.mk (Kd.R_below (by (with_reducible repeat (first | apply Kd.R_alloc | apply Kd.R_drewN | apply Kd.R_drew)); exact HO225.out) hb)
                      have n1_ := Aside0.mk (Kd.R_below (by (with_reducible repeat (first | apply Kd.R_alloc | apply Kd.R_drewN | apply Kd.R_drew)); exact HO228.out) hb)
                      have n2_ := Aside0.mk (Kd.R_below (by (with_reducible repeat (first | apply Kd.R_alloc | apply Kd.R_drewN | apply Kd.R_drew)); exact HO232.out) hb)
                      have n3_ := Aside0.mk (Kd.R_below (by (with_reducible repeat (first | apply Kd.R_alloc | apply Kd.R_drewN | apply Kd.R_drew)); exact HO235.out) hb)
                      have n4_ := Aside0.mk (below_step (by repeat (first | (with_reducible first | exact HB.out | apply below_alloc | apply pw_below_drewN | apply below_drew1) | exact HB.out)) hb)
                      clear HO225
                      clear HO228
                      clear HO232
                      clear HO235
                      clear HB
                      have HO225 := n0_
                      have HO228 := n1_
                      have HO232 := n2_
                      have HO235 := n3_
                      have HB := n4_
                      clear n0_ n1_ n2_ n3_ n4_
                      (try clear hb)
                      refine hK.out _ _ trivial (fun hHeld => ?_)
                      clear hK K
                      refine norm_ (a' := ?_) ?_ ?_
                      rotate_left
                      · show Act.put _ (some 48) _ = _
                        simp only [Act.put, List.setIfInBounds_toArray, List.set_cons_zero, List.set_cons_succ, i64_w, i32_w]
                        rfl
                      exact norm_ (by simp only [putAll, Act.put, List.setIfInBounds_toArray, List.set_cons_zero, List.set_cons_succ]) (hCont (v234) _ ⟨(by (with_reducible repeat (first | apply Kd.R_alloc | apply Kd.R_drewN | apply Kd.R_drew)); exact Kd.R_mono HO225.out (fun _ hk => hk.2)), (by (with_reducible repeat (first | apply Kd.R_alloc | apply Kd.R_drewN | apply Kd.R_drew)); exact Kd.R_mono HO228.out (fun _ hk => hk.2)), (by (with_reducible repeat (first | apply Kd.R_alloc | apply Kd.R_drewN | apply Kd.R_drew)); exact Kd.R_mono HO232.out (fun _ hk => hk.2)), (by (with_reducible repeat (first | apply Kd.R_alloc | apply Kd.R_drewN | apply Kd.R_drew)); exact Kd.R_mono HO235.out (fun _ hk => hk.2)), (by repeat (first | (with_reducible first | exact HB.out | apply below_alloc | apply pw_below_drewN | apply below_drew1) | exact HB.out))⟩)
                    · skip
                      refine str_step (src := 22) (dst := 9) (x := .tmp 47) ?hw ?ho ?hx (v := v234) (s := strOfNums t233) (by obtain ⟨A_, c_, rfl⟩ := Kd.R_slice HO235.out; exact Kd.C_string (P := Try.prog) (A := A_) (c := c_) Try.underlying22 Try.underlying5 Try.underlying9 (Kd.R_reads' (by (with_reducible repeat (first | apply Kd.R_alloc | apply Kd.R_drewN | apply Kd.R_drew)); exact HO235.out)).2.2) ?_
                      case ho => rfl
                      case hw => first | rfl | (simp [Region.wanted, yielded, *]; done)
                      case hx => first | rfl | (simp only [Act.eval, Array.getD_eq_getD_getElem?, Option.getD_some, e47]; done)
                      intro w29 hb
                      have n0_ := Aside0.mk (Kd.R_below (by (with_reducible repeat (first | apply Kd.R_alloc | apply Kd.R_drewN | apply Kd.R_drew)); exact HO225.out) hb)
                      have n1_ := Aside0.mk (Kd.R_below (by (with_reducible repeat (first | apply Kd.R_alloc | apply Kd.R_drewN | apply Kd.R_drew)); exact HO228.out) hb)
                      have n2_ := Aside0.mk (Kd.R_below (by (with_reducible repeat (first | apply Kd.R_alloc | apply Kd.R_drewN | apply Kd.R_drew)); exact HO232.out) hb)
                      have n3_ := Aside0.mk (Kd.R_below (by (with_reducible repeat (first | apply Kd.R_alloc | apply Kd.R_drewN | apply Kd.R_drew)); exact HO235.out) hb)
                      have n4_ := Aside0.mk (below_step (by repeat (first | (with_reducible first | exact HB.out | apply below_alloc | apply pw_below_drewN | apply below_drew1) | exact HB.out)) hb)
                      clear HO225
                      clear HO228
                      clear HO232
                      clear HO235
                      clear HB
                      have HO225 := n0_
                      have HO228 := n1_
                      have HO232 := n2_
                      have HO235 := n3_
                      have HB := n4_
                      clear n0_ n1_ n2_ n3_ n4_
                      (try clear hb)
                      refine hK.out _ _ trivial (fun hHeld => ?_)
                      clear hK K
                      refine norm_ (a' := ?_) ?_ ?_
                      rotate_left
                      · show Act.put _ (some 48) _ = _
                        simp only [Act.put, List.setIfInBounds_toArray, List.set_cons_zero, List.set_cons_succ, i64_w, i32_w]
                        rfl
                      refine one_ (i := 18) (N := some 45) #[true, true, true, true, true, true, true, true, true, true, true, true, true, true, true, true, true, true, true, true, true, true, false, false] rfl rfl (one_of HT_.out (by kernel_rfl)) (by decide) (fun K hK => ?_)
                      refine str_step (src := 22) (dst := 9) (x := .tmp 44) ?hw ?ho ?hx (v := v231) (s := strOfNums t230) (by obtain ⟨A_, c_, rfl⟩ := Kd.R_slice HO232.out; exact Kd.C_string (P := Try.prog) (A := A_) (c := c_) Try.underlying22 Try.underlying5 Try.underlying9 (Kd.R_reads' (by (with_reducible repeat (first | apply Kd.R_alloc | apply Kd.R_drewN | apply Kd.R_drew)); exact HO232.out)).2.2) ?_
                      case ho => rfl
                      case hw => first | rfl | (simp [Region.wanted, yielded, *]; done)
                      case hx => first | rfl | (simp only [Act.eval, Array.getD_eq_getD_getElem?, Option.getD_some, e44]; done)
                      intro w30 hb
                      have n0_ := Aside0.mk (Kd.R_below (by (with_reducible repeat (first | apply Kd.R_alloc | apply Kd.R_drewN | apply Kd.R_drew)); exact HO225.out) hb)
                      have n1_ := Aside0.mk (Kd.R_below (by (with_reducible repeat (first | apply Kd.R_alloc | apply Kd.R_drewN | apply Kd.R_drew)); exact HO228.out) hb)
                      have n2_ := Aside0.mk (Kd.R_below (by (with_reducible repeat (first | apply Kd.R_alloc | apply Kd.R_drewN | apply Kd.R_drew)); exact HO232.out) hb)
                      have n3_ := Aside0.mk (Kd.R_below (by (with_reducible repeat (first | apply Kd.R_alloc | apply Kd.R_drewN | apply Kd.R_drew)); exact HO235.out) hb)
                      have n4_ := Aside0.mk (below_step (by repeat (first | (with_reducible first | exact HB.out | apply below_alloc | apply pw_below_drewN | apply below_drew1) | exact HB.out)) hb)
                      clear HO225
                      clear HO228
                      clear HO232
                      clear HO235
                      clear HB
                      have HO225 := n0_
                      have HO228 := n1_
                      have HO232 := n2_
                      have HO235 := n3_
                      have HB := n4_
                      clear n0_ n1_ n2_ n3_ n4_
                      (try clear hb)
                      refine hK.out _ _ trivial (fun hHeld => ?_)
                      clear hK K
                      refine norm_ (a' := ?_) ?_ ?_
                      rotate_left
                      · show Act.put _ (some 45) _ = _
                        simp only [Act.put, List.setIfInBounds_toArray, List.set_cons_zero, List.set_cons_succ, i64_w, i32_w]
                        rfl
                      exact norm_ (by simp only [putAll, Act.put, List.setIfInBounds_toArray, List.set_cons_zero, List.set_cons_succ]) (hCont (v234) _ ⟨(by (with_reducible repeat (first | apply Kd.R_alloc | apply Kd.R_drewN | apply Kd.R_drew)); exact Kd.R_mono HO225.out (fun _ hk => hk.2)), (by (with_reducible repeat (first | apply Kd.R_alloc | apply Kd.R_drewN | apply Kd.R_drew)); exact Kd.R_mono HO228.out (fun _ hk => hk.2)), (by (with_reducible repeat (first | apply Kd.R_alloc | apply Kd.R_drewN | apply Kd.R_drew)); exact Kd.R_mono HO232.out (fun _ hk => hk.2)), (by (with_reducible repeat (first | apply Kd.R_alloc | apply Kd.R_drewN | apply Kd.R_drew)); exact Kd.R_mono HO235.out (fun _ hk => hk.2)), (by repeat (first | (with_reducible first | exact HB.out | apply below_alloc | apply pw_below_drewN | apply below_drew1) | exact HB.out))⟩)
                rintro v234 w31 ⟨h0_, h1_, h2_, h3_, h4_⟩
                have n0_ : Aside0 (Kd.R (Kd.int .u32) 23 w31 w.heap.size (fun k_ => some k_ ≠ (.slice Ao26 t226.length co26 : Value).ownBlock) (.slice Ao25 t223.length co25) t223) := ⟨h0_⟩
                have n1_ : Aside0 (Kd.R (Kd.int .u32) 23 w31 w.heap.size (fun k_ => some k_ ≠ (.slice Ao25 t223.length co25 : Value).ownBlock) (.slice Ao26 t226.length co26) t226) := ⟨h1_⟩
                have n2_ : Aside0 (Kd.R (Kd.int .u8) 5 w31 w.heap.size (fun k_ => some k_ ≠ (v234 : Value).ownBlock) v231 t230) := ⟨h2_⟩
                have n3_ : Aside0 (Kd.R (Kd.int .u8) 5 w31 w.heap.size (fun k_ => some k_ ≠ (v231 : Value).ownBlock) v234 t233) := ⟨h3_⟩
                have n4_ : Aside0 (Below w.heap.size w w31) := ⟨h4_⟩
                clear HB
                clear h0_ h1_ h2_ h3_ h4_
                have HO225 := n0_
                have HO228 := n1_
                have HO232 := n2_
                have HO235 := n3_
                have HB := n4_
                clear n0_ n1_ n2_ n3_ n4_
                have hHeld := trivial
                refine norm_ (a' := ?_) ?_ ?_
                rotate_left
                · simp only [putAll, Act.put, List.setIfInBounds_toArray, List.set_cons_zero, List.set_cons_succ]
                  rfl
                refine pure_ (i := 22) (N := some 49) (v := ?_) (a' := ?_) #[true, true, true, true, true, true, true, true, true, true, true, true, true, true, true, true, true, true, true, true, true, true, true, false] rfl rfl (any_of HT_.out (by kernel_rfl)) (fun _ _ _ h => h) (Or.inl ⟨by rfl, ?_⟩) ?_ ?_
                rotate_left
                · intro w'
                  go_simp
                  with_reducible rfl
                rotate_left
                · simp only [Act.put, List.setIfInBounds_toArray, List.set_cons_zero, List.set_cons_succ, i64_w, i32_w]
                  rfl
                refine pure_ (i := 23) (N := some 50) (v := ?_) (a' := ?_) #[true, true, true, true, true, true, true, true, true, true, true, true, true, true, true, true, true, true, true, true, true, true, true, true] rfl rfl (any_of HT_.out (by kernel_rfl)) (fun _ _ _ h => h) (Or.inl ⟨by rfl, ?_⟩) ?_ ?_
                rotate_left
                · intro w'
                  go_simp
                  with_reducible rfl
                rotate_left
                · simp only [Act.put, List.setIfInBounds_toArray, List.set_cons_zero, List.set_cons_succ, i64_w, i32_w]
                  rfl
                refine done_ (done_of HT_.out (by kernel_rfl)) ?_
                try go_wp2
                go_meet
                case rel => exact ⟨_, (((strOfNums t230).toList != (strOfNums t233).toList)), (by first | rfl | (simp; done) | (simp [*]; done)), H', ⟨by have := HJ7.out; first | omega | exact Nat.le_refl _⟩, ⟨by repeat (first | (with_reducible first | exact HB.out | apply below_alloc | apply pw_below_drewN | apply below_drew1) | exact HB.out)⟩⟩
              · replace c19 := Bool.eq_false_iff.mpr c19
                subst c19
                have H1 : (wristbandlaw01_WordRight.j1 kj7 l2 a4 true) = some r := by rw [if_neg (show ¬ (false = true) by decide)] at H; exact H
                clear H
                have H := H1
                clear H1
                have H' := Aside0.mk H
                clear H
                try go_wp2
                have n0_ := Aside0.mk (below_drew1 HB.out)
                clear HB
                have HB := n0_
                clear n0_
                refine start_ (n := 24) (S := fun w' => True) (ds := []) #[false, false, false, false, false, false, false, false, false, false, false, false, false, false, false, false, false, false, false, false, false, false, false, false] (by kernel_rfl) rfl rfl trivial (fun hHeld => ?_); refine with_tabW wristbandlaw01_WordRight.tab5 wristbandlaw01_WordRight.bits5 (fun HT_ HW_ => ?_)
                generalize wc.drew = w32 at HB hHeld ⊢
                refine pure_ (i := 0) (N := some 27) (v := ?_) (a' := ?_) #[true, false, false, false, false, false, false, false, false, false, false, false, false, false, false, false, false, false, false, false, false, false, false, false] rfl rfl (any_of HT_.out (by kernel_rfl)) (fun _ _ _ h => h) (Or.inl ⟨by rfl, ?_⟩) ?_ ?_
                rotate_left
                · intro w'
                  go_simp
                  with_reducible rfl
                rotate_left
                · simp only [Act.put, List.setIfInBounds_toArray, List.set_cons_zero, List.set_cons_succ, i64_w, i32_w]
                  rfl
                refine pure_ (i := 1) (N := some 28) (v := ?_) (a' := ?_) #[true, true, false, false, false, false, false, false, false, false, false, false, false, false, false, false, false, false, false, false, false, false, false, false] rfl rfl (any_of HT_.out (by kernel_rfl)) (fun _ _ _ h => h) (Or.inl ⟨by rfl, ?_⟩) ?_ ?_
                rotate_left
                · intro w'
                  go_simp
                  with_reducible rfl
                rotate_left
                · simp only [Act.put, List.setIfInBounds_toArray, List.set_cons_zero, List.set_cons_succ, i64_w, i32_w]
                  rfl
                refine pure_ (i := 3) (N := some 30) (v := ?_) (a' := ?_) #[true, true, false, true, false, false, false, false, false, false, false, false, false, false, false, false, false, false, false, false, false, false, false, false] rfl rfl (any_of HT_.out (by kernel_rfl)) (fun _ _ _ h => h) (Or.inl ⟨by rfl, ?_⟩) ?_ ?_
                rotate_left
                · intro w'
                  go_simp
                  with_reducible rfl
                rotate_left
                · simp only [Act.put, List.setIfInBounds_toArray, List.set_cons_zero, List.set_cons_succ, i64_w, i32_w]
                  rfl
                refine pure_ (i := 4) (N := some 31) (v := ?_) (a' := ?_) #[true, true, false, true, true, false, false, false, false, false, false, false, false, false, false, false, false, false, false, false, false, false, false, false] rfl rfl (any_of HT_.out (by kernel_rfl)) (fun _ _ _ h => h) (Or.inl ⟨by rfl, ?_⟩) ?_ ?_
                rotate_left
                · intro w'
                  go_simp
                  with_reducible rfl
                rotate_left
                · simp only [Act.put, List.setIfInBounds_toArray, List.set_cons_zero, List.set_cons_succ, i64_w, i32_w]
                  rfl
                refine one_ (i := 2) (N := some 29) #[true, true, true, true, true, false, false, false, false, false, false, false, false, false, false, false, false, false, false, false, false, false, false, false] rfl rfl (one_of HT_.out (by kernel_rfl)) (by decide) (fun K hK => ?_)
                refine goes_ Try.func27 (by kernel_rfl) rfl #[.int .u32 a0, .int .i64 a1] (by first | rfl | (simp [Region.wanted, yielded, *]; done)) rfl rfl (by (try simp only [List.map_toArray, List.map_cons, List.map_nil]); first | done | rfl | (simp only [List.length_drop, List.length_take]; rfl)) ?_
                with_reducible refine (word_Rot.calls a0 a1 t221 _ A13.out).mono ?_
                rintro e w' ⟨rfl, ⟨nd, rfl⟩⟩
                refine ⟨_, rfl, ?_⟩
                refine hK.out _ _ trivial (fun hHeld => ?_)
                clear hK K
                refine norm_ (a' := ?_) ?_ ?_
                rotate_left
                · show Act.put _ (some 29) _ = _
                  simp only [Act.put, List.setIfInBounds_toArray, List.set_cons_zero, List.set_cons_succ, i64_w, i32_w]
                  rfl
                refine one_ (i := 5) (N := some 32) #[true, true, true, true, true, true, false, false, false, false, false, false, false, false, false, false, false, false, false, false, false, false, false, false] rfl rfl (one_of HT_.out (by kernel_rfl)) (by decide) (fun K hK => ?_)
                refine goes_ Try.func28 (by kernel_rfl) rfl #[.int .u32 a0, .int .i64 a1] (by first | rfl | (simp [Region.wanted, yielded, *]; done)) rfl rfl (by (try simp only [List.map_toArray, List.map_cons, List.map_nil]); first | done | rfl | (simp only [List.length_drop, List.length_take]; rfl)) ?_
                with_reducible refine (wristbandref01_Rot.calls kj7 a0 a1 t222 _ A14.out).mono ?_
                rintro e w' ⟨rfl, ⟨nd, rfl⟩⟩
                refine ⟨_, rfl, ?_⟩
                refine hK.out _ _ trivial (fun hHeld => ?_)
                clear hK K
                refine norm_ (a' := ?_) ?_ ?_
                rotate_left
                · show Act.put _ (some 32) _ = _
                  simp only [Act.put, List.setIfInBounds_toArray, List.set_cons_zero, List.set_cons_succ, i64_w, i32_w]
                  rfl
                refine pure_ (i := 6) (N := some 33) (v := ?_) (a' := ?_) #[true, true, true, true, true, true, true, false, false, false, false, false, false, false, false, false, false, false, false, false, false, false, false, false] rfl rfl (any_of HT_.out (by kernel_rfl)) (fun _ _ _ h => h) (Or.inl ⟨by rfl, ?_⟩) ?_ ?_
                rotate_left
                · intro w'
                  go_simp
                  with_reducible rfl
                rotate_left
                · simp only [Act.put, List.setIfInBounds_toArray, List.set_cons_zero, List.set_cons_succ, i64_w, i32_w]
                  rfl
                refine pure_ (i := 7) (N := some 34) (v := ?_) (a' := ?_) #[true, true, true, true, true, true, true, true, false, false, false, false, false, false, false, false, false, false, false, false, false, false, false, false] rfl rfl (any_of HT_.out (by kernel_rfl)) (fun _ _ _ h => h) (Or.inl ⟨by rfl, ?_⟩) ?_ ?_
                rotate_left
                · intro w'
                  go_simp
                  with_reducible rfl
                rotate_left
                · simp only [Act.put, List.setIfInBounds_toArray, List.set_cons_zero, List.set_cons_succ, i64_w, i32_w]
                  rfl
                refine pure_ (i := 8) (N := some 35) (v := ?_) (a' := ?_) #[true, true, true, true, true, true, true, true, true, false, false, false, false, false, false, false, false, false, false, false, false, false, false, false] rfl rfl (any_of HT_.out (by kernel_rfl)) (fun _ _ _ h => h) (Or.inl ⟨by rfl, ?_⟩) ?_ ?_
                rotate_left
                · intro w'
                  go_simp
                  with_reducible rfl
                rotate_left
                · simp only [Act.put, List.setIfInBounds_toArray, List.set_cons_zero, List.set_cons_succ, i64_w, i32_w]
                  rfl
                refine pure_ (i := 10) (N := some 37) (v := ?_) (a' := ?_) #[true, true, true, true, true, true, true, true, true, false, true, false, false, false, false, false, false, false, false, false, false, false, false, false] rfl rfl (any_of HT_.out (by kernel_rfl)) (fun _ _ _ h => h) (Or.inl ⟨by rfl, ?_⟩) ?_ ?_
                rotate_left
                · intro w'
                  go_simp
                  with_reducible rfl
                rotate_left
                · simp only [Act.put, List.setIfInBounds_toArray, List.set_cons_zero, List.set_cons_succ, i64_w, i32_w]
                  rfl
                refine one_ (i := 9) (N := some 36) #[true, true, true, true, true, true, true, true, true, true, true, false, false, false, false, false, false, false, false, false, false, false, false, false] rfl rfl (one_of HT_.out (by kernel_rfl)) (by decide) (fun K hK => ?_)
                refine goes_ Try.func30 (by kernel_rfl) rfl #[.slice A2 l2.length c2] (by first | rfl | (simp [Region.wanted, yielded, *]; done)) rfl rfl (by (try simp only [List.map_toArray, List.map_cons, List.map_nil]); first | done | rfl | (simp only [List.length_drop, List.length_take]; rfl)) ?_
                with_reducible refine (word_Words.calls kj7 (fun k_ => k_ < w.heap.size) _ _ l2 t223 _ ?side1 A16.out).mono ?_
                (case side1 => exact Kd.V_mk HC2.out (Kd.F_below (Kd.C_F (Kd.heap_int .u8) HR2.out) (by repeat (first | (with_reducible first | exact HB.out | apply below_alloc | apply pw_below_drewN | apply below_drew1) | exact HB.out))))
                rintro e w33 ⟨v224, rfl, ho0, hb⟩
                refine ⟨_, rfl, ?_⟩
                have n0_ := Aside0.mk (Kd.R_lower (Kd.R_mono (ok' := fun k_ => True) ho0 (fun _ hk_ => trivial)) (below_size (by repeat (first | (with_reducible first | exact HB.out | apply below_alloc | apply pw_below_drewN | apply below_drew1) | exact HB.out))))
                have n1_ := Aside0.mk (below_step (by repeat (first | (with_reducible first | exact HB.out | apply below_alloc | apply pw_below_drewN | apply below_drew1) | exact HB.out)) hb)
                clear HB
                have HO225 := n0_
                have HB := n1_
                clear n0_ n1_
                (try clear hb)
                (try clear hb2)
                (try clear hk)
                (try clear hi)
                (try clear ho0)
                refine hK.out _ _ trivial (fun hHeld => ?_)
                clear hK K
                refine norm_ (a' := ?_) ?_ ?_
                rotate_left
                · show Act.put _ (some 36) _ = _
                  simp only [Act.put, List.setIfInBounds_toArray, List.set_cons_zero, List.set_cons_succ, i64_w, i32_w]
                  rfl
                refine one_ (i := 11) (N := some 38) #[true, true, true, true, true, true, true, true, true, true, true, true, false, false, false, false, false, false, false, false, false, false, false, false] rfl rfl (one_of HT_.out (by kernel_rfl)) (by decide) (fun K hK => ?_)
                refine goes_ Try.func31 (by kernel_rfl) rfl #[.slice A2 l2.length c2] (by first | rfl | (simp [Region.wanted, yielded, *]; done)) rfl rfl (by (try simp only [List.map_toArray, List.map_cons, List.map_nil]); first | done | rfl | (simp only [List.length_drop, List.length_take]; rfl)) ?_
                with_reducible refine (wristbandref01_Words.calls kj7 _ _ l2 t226 _ ?side1 ?side2 A17.out).mono ?_
                (case side1 => repeat (first | exact (Kd.C_below HR2.out HB.out) | (with_reducible refine Kd.C_alloc ?_ _) | (with_reducible refine Kd.C_drewN ?_ _) | (with_reducible refine Kd.C_drew ?_)))
                (case side2 => exact HC2.out)
                rintro e w34 ⟨v227, rfl, ho0, hb⟩
                refine ⟨_, rfl, ?_⟩
                have n0_ := Aside0.mk (Kd.R_elder' (by (with_reducible repeat (first | apply Kd.R_alloc | apply Kd.R_drewN | apply Kd.R_drew)); exact HO225.out) (Kd.R_base ho0) hb)
                have n1_ := Aside0.mk (Kd.R_lower (Kd.R_new' ho0 (Kd.R_lt (by (with_reducible repeat (first | apply Kd.R_alloc | apply Kd.R_drewN | apply Kd.R_drew)); exact HO225.out))) (below_size (by repeat (first | (with_reducible first | exact HB.out | apply below_alloc | apply pw_below_drewN | apply below_drew1) | exact HB.out))))
                have n2_ := Aside0.mk (below_step (by repeat (first | (with_reducible first | exact HB.out | apply below_alloc | apply pw_below_drewN | apply below_drew1) | exact HB.out)) hb)
                clear HO225
                clear HB
                have HO225 := n0_
                have HO228 := n1_
                have HB := n2_
                clear n0_ n1_ n2_
                (try clear hb)
                (try clear hb2)
                (try clear hk)
                (try clear hi)
                (try clear ho0)
                obtain ⟨Ao35, co35, eo35⟩ := Kd.R_slice HO225.out
                (first | subst eo35 | (injection eo35 with f1_ f2_ f3_; have f4_ := f1_.symm; have f5_ := f3_.symm; clear f1_ f2_ f3_; subst f4_; subst f5_))
                obtain ⟨Ao36, co36, eo36⟩ := Kd.R_slice HO228.out
                (first | subst eo36 | (injection eo36 with f1_ f2_ f3_; have f4_ := f1_.symm; have f5_ := f3_.symm; clear f1_ f2_ f3_; subst f4_; subst f5_))
                refine hK.out _ _ trivial (fun hHeld => ?_)
                clear hK K
                refine norm_ (a' := ?_) ?_ ?_
                rotate_left
                · show Act.put _ (some 38) _ = _
                  simp only [Act.put, List.setIfInBounds_toArray, List.set_cons_zero, List.set_cons_succ, i64_w, i32_w]
                  rfl
                refine one_ (i := 12) (N := some 39) #[true, true, true, true, true, true, true, true, true, true, true, true, true, false, false, false, false, false, false, false, false, false, false, false] rfl rfl (one_of HT_.out (by kernel_rfl)) (by decide) (fun K hK => ?_)
                refine goes_ Try.func29 (by kernel_rfl) rfl #[.slice Ao35 t223.length co35, .slice Ao36 t226.length co36] (by first | rfl | (simp [Region.wanted, yielded, *]; done)) rfl rfl (by (try simp only [List.map_toArray, List.map_cons, List.map_nil]); first | done | rfl | (simp only [List.length_drop, List.length_take]; rfl)) ?_
                with_reducible refine (wristbandref01_Same.calls kj7 _ _ t223 _ _ t226 false _ ?side1 ?side2 ?side3 ?side4 A18.out).mono ?_
                (case side1 => repeat (first | exact (Kd.R_reads' HO225.out).2.2 | (with_reducible refine Kd.C_alloc ?_ _) | (with_reducible refine Kd.C_drewN ?_ _) | (with_reducible refine Kd.C_drew ?_)))
                (case side2 => exact (Kd.R_reads' HO225.out).2.1)
                (case side3 => repeat (first | exact (Kd.R_reads' HO228.out).2.2 | (with_reducible refine Kd.C_alloc ?_ _) | (with_reducible refine Kd.C_drewN ?_ _) | (with_reducible refine Kd.C_drew ?_)))
                (case side4 => exact (Kd.R_reads' HO228.out).2.1)
                rintro e w' ⟨rfl, ⟨nd, rfl⟩⟩
                refine ⟨_, rfl, ?_⟩
                refine hK.out _ _ trivial (fun hHeld => ?_)
                clear hK K
                refine norm_ (a' := ?_) ?_ ?_
                rotate_left
                · show Act.put _ (some 39) _ = _
                  simp only [Act.put, List.setIfInBounds_toArray, List.set_cons_zero, List.set_cons_succ, i64_w, i32_w]
                  rfl
                refine pure_ (i := 13) (N := some 40) (v := ?_) (a' := ?_) #[true, true, true, true, true, true, true, true, true, true, true, true, true, true, false, false, false, false, false, false, false, false, false, false] rfl rfl (any_of HT_.out (by kernel_rfl)) (fun _ _ _ h => h) (Or.inl ⟨by rfl, ?_⟩) ?_ ?_
                rotate_left
                · intro w'
                  go_simp
                  with_reducible rfl
                rotate_left
                · simp only [Act.put, List.setIfInBounds_toArray, List.set_cons_zero, List.set_cons_succ, i64_w, i32_w]
                  rfl
                refine pure_ (i := 14) (N := some 41) (v := ?_) (a' := ?_) #[true, true, true, true, true, true, true, true, true, true, true, true, true, true, true, false, false, false, false, false, false, false, false, false] rfl rfl (any_of HT_.out (by kernel_rfl)) (fun _ _ _ h => h) (Or.inl ⟨by rfl, ?_⟩) ?_ ?_
                rotate_left
                · intro w'
                  go_simp
                  with_reducible rfl
                rotate_left
                · simp only [Act.put, List.setIfInBounds_toArray, List.set_cons_zero, List.set_cons_succ, i64_w, i32_w]
                  rfl
                refine pure_ (i := 15) (N := some 42) (v := ?_) (a' := ?_) #[true, true, true, true, true, true, true, true, true, true, true, true, true, true, true, true, false, false, false, false, false, false, false, false] rfl rfl (any_of HT_.out (by kernel_rfl)) (fun _ _ _ h => h) (Or.inl ⟨by rfl, ?_⟩) ?_ ?_
                rotate_left
                · intro w'
                  go_simp
                  with_reducible rfl
                rotate_left
                · simp only [Act.put, List.setIfInBounds_toArray, List.set_cons_zero, List.set_cons_succ, i64_w, i32_w]
                  rfl
                refine pure_ (i := 16) (N := some 43) (v := undef) (a' := ?_) #[true, true, true, true, true, true, true, true, true, true, true, true, true, true, true, true, true, false, false, false, false, false, false, false] rfl rfl (any_of HT_.out (by kernel_rfl)) (fun _ _ _ h => h) (Or.inr ⟨by rfl, rfl⟩) ?_ ?_
                rotate_left
                · simp only [Act.put, List.setIfInBounds_toArray, List.set_cons_zero, List.set_cons_succ, i64_w, i32_w]
                  rfl
                refine pure_ (i := 17) (N := some 44) (v := undef) (a' := ?_) #[true, true, true, true, true, true, true, true, true, true, true, true, true, true, true, true, true, true, false, false, false, false, false, false] rfl rfl (any_of HT_.out (by kernel_rfl)) (fun _ _ _ h => h) (Or.inr ⟨by rfl, rfl⟩) ?_ ?_
                rotate_left
                · simp only [Act.put, List.setIfInBounds_toArray, List.set_cons_zero, List.set_cons_succ, i64_w, i32_w]
                  rfl
                refine pure_ (i := 18) (N := some 45) (v := undef) (a' := ?_) #[true, true, true, true, true, true, true, true, true, true, true, true, true, true, true, true, true, true, true, false, false, false, false, false] rfl rfl (any_of HT_.out (by kernel_rfl)) (fun _ _ _ h => h) (Or.inr ⟨by rfl, rfl⟩) ?_ ?_
                rotate_left
                · simp only [Act.put, List.setIfInBounds_toArray, List.set_cons_zero, List.set_cons_succ, i64_w, i32_w]
                  rfl
                refine pure_ (i := 19) (N := some 46) (v := undef) (a' := ?_) #[true, true, true, true, true, true, true, true, true, true, true, true, true, true, true, true, true, true, true, true, false, false, false, false] rfl rfl (any_of HT_.out (by kernel_rfl)) (fun _ _ _ h => h) (Or.inr ⟨by rfl, rfl⟩) ?_ ?_
                rotate_left
                · simp only [Act.put, List.setIfInBounds_toArray, List.set_cons_zero, List.set_cons_succ, i64_w, i32_w]
                  rfl
                refine pure_ (i := 20) (N := some 47) (v := undef) (a' := ?_) #[true, true, true, true, true, true, true, true, true, true, true, true, true, true, true, true, true, true, true, true, true, false, false, false] rfl rfl (any_of HT_.out (by kernel_rfl)) (fun _ _ _ h => h) (Or.inr ⟨by rfl, rfl⟩) ?_ ?_
                rotate_left
                · simp only [Act.put, List.setIfInBounds_toArray, List.set_cons_zero, List.set_cons_succ, i64_w, i32_w]
                  rfl
                refine pure_ (i := 21) (N := some 48) (v := undef) (a' := ?_) #[true, true, true, true, true, true, true, true, true, true, true, true, true, true, true, true, true, true, true, true, true, true, false, false] rfl rfl (any_of HT_.out (by kernel_rfl)) (fun _ _ _ h => h) (Or.inr ⟨by rfl, rfl⟩) ?_ ?_
                rotate_left
                · simp only [Act.put, List.setIfInBounds_toArray, List.set_cons_zero, List.set_cons_succ, i64_w, i32_w]
                  rfl
                refine pure_ (i := 22) (N := some 49) (v := undef) (a' := ?_) #[true, true, true, true, true, true, true, true, true, true, true, true, true, true, true, true, true, true, true, true, true, true, true, false] rfl rfl (any_of HT_.out (by kernel_rfl)) (fun _ _ _ h => h) (Or.inr ⟨by rfl, rfl⟩) ?_ ?_
                rotate_left
                · simp only [Act.put, List.setIfInBounds_toArray, List.set_cons_zero, List.set_cons_succ, i64_w, i32_w]
                  rfl
                refine pure_ (i := 23) (N := some 50) (v := ?_) (a' := ?_) #[true, true, true, true, true, true, true, true, true, true, true, true, true, true, true, true, true, true, true, true, true, true, true, true] rfl rfl (any_of HT_.out (by kernel_rfl)) (fun _ _ _ h => h) (Or.inl ⟨by rfl, ?_⟩) ?_ ?_
                rotate_left
                · intro w'
                  go_simp
                  with_reducible rfl
                rotate_left
                · simp only [Act.put, List.setIfInBounds_toArray, List.set_cons_zero, List.set_cons_succ, i64_w, i32_w]
                  rfl
                refine done_ (done_of HT_.out (by kernel_rfl)) ?_
                try go_wp2
                go_meet
                case rel => exact ⟨_, (true), (by first | rfl | (simp; done) | (simp [*]; done)), H', ⟨by have := HJ7.out; first | omega | exact Nat.le_refl _⟩, ⟨by repeat (first | (with_reducible first | exact HB.out | apply below_alloc | apply pw_below_drewN | apply below_drew1) | exact HB.out)⟩⟩
            · rw [if_neg c15] at H
              have c15b0 : (t221 == t222) = false := beq_eq_false_iff_ne.mpr c15
              have c15b1 : (t221 != t222) = true := bne_iff_ne.mpr c15
              (first | rw [c15b0] | (simp only [i64_w, i32_w]; rw [c15b0]) | skip)
              have H' := Aside0.mk H
              clear H
              try go_wp2
              have n0_ := Aside0.mk (below_drew1 HB.out)
              clear HB
              have HB := n0_
              clear n0_
              refine start_ (n := 24) (S := fun w' => True) (ds := []) #[false, false, false, false, false, false, false, false, false, false, false, false, false, false, false, false, false, false, false, false, false, false, false, false] (by kernel_rfl) rfl rfl trivial (fun hHeld => ?_); refine with_tabW wristbandlaw01_WordRight.tab5 wristbandlaw01_WordRight.bits5 (fun HT_ HW_ => ?_)
              generalize wc.drew = w37 at HB hHeld ⊢
              refine pure_ (i := 0) (N := some 27) (v := ?_) (a' := ?_) #[true, false, false, false, false, false, false, false, false, false, false, false, false, false, false, false, false, false, false, false, false, false, false, false] rfl rfl (any_of HT_.out (by kernel_rfl)) (fun _ _ _ h => h) (Or.inl ⟨by rfl, ?_⟩) ?_ ?_
              rotate_left
              · intro w'
                go_simp
                with_reducible rfl
              rotate_left
              · simp only [Act.put, List.setIfInBounds_toArray, List.set_cons_zero, List.set_cons_succ, i64_w, i32_w]
                rfl
              refine pure_ (i := 1) (N := some 28) (v := ?_) (a' := ?_) #[true, true, false, false, false, false, false, false, false, false, false, false, false, false, false, false, false, false, false, false, false, false, false, false] rfl rfl (any_of HT_.out (by kernel_rfl)) (fun _ _ _ h => h) (Or.inl ⟨by rfl, ?_⟩) ?_ ?_
              rotate_left
              · intro w'
                go_simp
                with_reducible rfl
              rotate_left
              · simp only [Act.put, List.setIfInBounds_toArray, List.set_cons_zero, List.set_cons_succ, i64_w, i32_w]
                rfl
              refine pure_ (i := 3) (N := some 30) (v := ?_) (a' := ?_) #[true, true, false, true, false, false, false, false, false, false, false, false, false, false, false, false, false, false, false, false, false, false, false, false] rfl rfl (any_of HT_.out (by kernel_rfl)) (fun _ _ _ h => h) (Or.inl ⟨by rfl, ?_⟩) ?_ ?_
              rotate_left
              · intro w'
                go_simp
                with_reducible rfl
              rotate_left
              · simp only [Act.put, List.setIfInBounds_toArray, List.set_cons_zero, List.set_cons_succ, i64_w, i32_w]
                rfl
              refine pure_ (i := 4) (N := some 31) (v := ?_) (a' := ?_) #[true, true, false, true, true, false, false, false, false, false, false, false, false, false, false, false, false, false, false, false, false, false, false, false] rfl rfl (any_of HT_.out (by kernel_rfl)) (fun _ _ _ h => h) (Or.inl ⟨by rfl, ?_⟩) ?_ ?_
              rotate_left
              · intro w'
                go_simp
                with_reducible rfl
              rotate_left
              · simp only [Act.put, List.setIfInBounds_toArray, List.set_cons_zero, List.set_cons_succ, i64_w, i32_w]
                rfl
              refine one_ (i := 2) (N := some 29) #[true, true, true, true, true, false, false, false, false, false, false, false, false, false, false, false, false, false, false, false, false, false, false, false] rfl rfl (one_of HT_.out (by kernel_rfl)) (by decide) (fun K hK => ?_)
              refine goes_ Try.func27 (by kernel_rfl) rfl #[.int .u32 a0, .int .i64 a1] (by first | rfl | (simp [Region.wanted, yielded, *]; done)) rfl rfl (by (try simp only [List.map_toArray, List.map_cons, List.map_nil]); first | done | rfl | (simp only [List.length_drop, List.length_take]; rfl)) ?_
              with_reducible refine (word_Rot.calls a0 a1 t221 _ A13.out).mono ?_
              rintro e w' ⟨rfl, ⟨nd, rfl⟩⟩
              refine ⟨_, rfl, ?_⟩
              refine hK.out _ _ trivial (fun hHeld => ?_)
              clear hK K
              refine norm_ (a' := ?_) ?_ ?_
              rotate_left
              · show Act.put _ (some 29) _ = _
                simp only [Act.put, List.setIfInBounds_toArray, List.set_cons_zero, List.set_cons_succ, i64_w, i32_w]
                rfl
              refine one_ (i := 5) (N := some 32) #[true, true, true, true, true, true, false, false, false, false, false, false, false, false, false, false, false, false, false, false, false, false, false, false] rfl rfl (one_of HT_.out (by kernel_rfl)) (by decide) (fun K hK => ?_)
              refine goes_ Try.func28 (by kernel_rfl) rfl #[.int .u32 a0, .int .i64 a1] (by first | rfl | (simp [Region.wanted, yielded, *]; done)) rfl rfl (by (try simp only [List.map_toArray, List.map_cons, List.map_nil]); first | done | rfl | (simp only [List.length_drop, List.length_take]; rfl)) ?_
              with_reducible refine (wristbandref01_Rot.calls kj7 a0 a1 t222 _ A14.out).mono ?_
              rintro e w' ⟨rfl, ⟨nd, rfl⟩⟩
              refine ⟨_, rfl, ?_⟩
              refine hK.out _ _ trivial (fun hHeld => ?_)
              clear hK K
              refine norm_ (a' := ?_) ?_ ?_
              rotate_left
              · show Act.put _ (some 32) _ = _
                simp only [Act.put, List.setIfInBounds_toArray, List.set_cons_zero, List.set_cons_succ, i64_w, i32_w]
                rfl
              refine pure_ (i := 6) (N := some 33) (v := ?_) (a' := ?_) #[true, true, true, true, true, true, true, false, false, false, false, false, false, false, false, false, false, false, false, false, false, false, false, false] rfl rfl (any_of HT_.out (by kernel_rfl)) (fun _ _ _ h => h) (Or.inl ⟨by rfl, ?_⟩) ?_ ?_
              rotate_left
              · intro w'
                go_simp
                with_reducible rfl
              rotate_left
              · simp only [Act.put, List.setIfInBounds_toArray, List.set_cons_zero, List.set_cons_succ, i64_w, i32_w]
                rfl
              refine pure_ (i := 7) (N := some 34) (v := ?_) (a' := ?_) #[true, true, true, true, true, true, true, true, false, false, false, false, false, false, false, false, false, false, false, false, false, false, false, false] rfl rfl (any_of HT_.out (by kernel_rfl)) (fun _ _ _ h => h) (Or.inl ⟨by rfl, ?_⟩) ?_ ?_
              rotate_left
              · intro w'
                go_simp
                with_reducible rfl
              rotate_left
              · simp only [Act.put, List.setIfInBounds_toArray, List.set_cons_zero, List.set_cons_succ, i64_w, i32_w]
                rfl
              refine pure_ (i := 8) (N := some 35) (v := undef) (a' := ?_) #[true, true, true, true, true, true, true, true, true, false, false, false, false, false, false, false, false, false, false, false, false, false, false, false] rfl rfl (any_of HT_.out (by kernel_rfl)) (fun _ _ _ h => h) (Or.inr ⟨by rfl, rfl⟩) ?_ ?_
              rotate_left
              · simp only [Act.put, List.setIfInBounds_toArray, List.set_cons_zero, List.set_cons_succ, i64_w, i32_w]
                rfl
              refine pure_ (i := 9) (N := some 36) (v := undef) (a' := ?_) #[true, true, true, true, true, true, true, true, true, true, false, false, false, false, false, false, false, false, false, false, false, false, false, false] rfl rfl (any_of HT_.out (by kernel_rfl)) (fun _ _ _ h => h) (Or.inr ⟨by rfl, rfl⟩) ?_ ?_
              rotate_left
              · simp only [Act.put, List.setIfInBounds_toArray, List.set_cons_zero, List.set_cons_succ, i64_w, i32_w]
                rfl
              refine pure_ (i := 10) (N := some 37) (v := undef) (a' := ?_) #[true, true, true, true, true, true, true, true, true, true, true, false, false, false, false, false, false, false, false, false, false, false, false, false] rfl rfl (any_of HT_.out (by kernel_rfl)) (fun _ _ _ h => h) (Or.inr ⟨by rfl, rfl⟩) ?_ ?_
              rotate_left
              · simp only [Act.put, List.setIfInBounds_toArray, List.set_cons_zero, List.set_cons_succ, i64_w, i32_w]
                rfl
              refine pure_ (i := 11) (N := some 38) (v := undef) (a' := ?_) #[true, true, true, true, true, true, true, true, true, true, true, true, false, false, false, false, false, false, false, false, false, false, false, false] rfl rfl (any_of HT_.out (by kernel_rfl)) (fun _ _ _ h => h) (Or.inr ⟨by rfl, rfl⟩) ?_ ?_
              rotate_left
              · simp only [Act.put, List.setIfInBounds_toArray, List.set_cons_zero, List.set_cons_succ, i64_w, i32_w]
                rfl
              refine pure_ (i := 12) (N := some 39) (v := undef) (a' := ?_) #[true, true, true, true, true, true, true, true, true, true, true, true, true, false, false, false, false, false, false, false, false, false, false, false] rfl rfl (any_of HT_.out (by kernel_rfl)) (fun _ _ _ h => h) (Or.inr ⟨by rfl, rfl⟩) ?_ ?_
              rotate_left
              · simp only [Act.put, List.setIfInBounds_toArray, List.set_cons_zero, List.set_cons_succ, i64_w, i32_w]
                rfl
              refine pure_ (i := 13) (N := some 40) (v := undef) (a' := ?_) #[true, true, true, true, true, true, true, true, true, true, true, true, true, true, false, false, false, false, false, false, false, false, false, false] rfl rfl (any_of HT_.out (by kernel_rfl)) (fun _ _ _ h => h) (Or.inr ⟨by rfl, rfl⟩) ?_ ?_
              rotate_left
              · simp only [Act.put, List.setIfInBounds_toArray, List.set_cons_zero, List.set_cons_succ, i64_w, i32_w]
                rfl
              refine pure_ (i := 14) (N := some 41) (v := ?_) (a' := ?_) #[true, true, true, true, true, true, true, true, true, true, true, true, true, true, true, false, false, false, false, false, false, false, false, false] rfl rfl (any_of HT_.out (by kernel_rfl)) (fun _ _ _ h => h) (Or.inl ⟨by rfl, ?_⟩) ?_ ?_
              rotate_left
              · intro w'
                go_simp
                with_reducible rfl
              rotate_left
              · simp only [Act.put, List.setIfInBounds_toArray, List.set_cons_zero, List.set_cons_succ, i64_w, i32_w]
                rfl
              refine pure_ (i := 15) (N := some 42) (v := ?_) (a' := ?_) #[true, true, true, true, true, true, true, true, true, true, true, true, true, true, true, true, false, false, false, false, false, false, false, false] rfl rfl (any_of HT_.out (by kernel_rfl)) (fun _ _ _ h => h) (Or.inl ⟨by rfl, ?_⟩) ?_ ?_
              rotate_left
              · intro w'
                go_simp
                with_reducible rfl
              rotate_left
              · simp only [Act.put, List.setIfInBounds_toArray, List.set_cons_zero, List.set_cons_succ, i64_w, i32_w]
                rfl
              refine pure_ (i := 16) (N := some 43) (v := undef) (a' := ?_) #[true, true, true, true, true, true, true, true, true, true, true, true, true, true, true, true, true, false, false, false, false, false, false, false] rfl rfl (any_of HT_.out (by kernel_rfl)) (fun _ _ _ h => h) (Or.inr ⟨by rfl, rfl⟩) ?_ ?_
              rotate_left
              · simp only [Act.put, List.setIfInBounds_toArray, List.set_cons_zero, List.set_cons_succ, i64_w, i32_w]
                rfl
              refine pure_ (i := 17) (N := some 44) (v := undef) (a' := ?_) #[true, true, true, true, true, true, true, true, true, true, true, true, true, true, true, true, true, true, false, false, false, false, false, false] rfl rfl (any_of HT_.out (by kernel_rfl)) (fun _ _ _ h => h) (Or.inr ⟨by rfl, rfl⟩) ?_ ?_
              rotate_left
              · simp only [Act.put, List.setIfInBounds_toArray, List.set_cons_zero, List.set_cons_succ, i64_w, i32_w]
                rfl
              refine pure_ (i := 18) (N := some 45) (v := undef) (a' := ?_) #[true, true, true, true, true, true, true, true, true, true, true, true, true, true, true, true, true, true, true, false, false, false, false, false] rfl rfl (any_of HT_.out (by kernel_rfl)) (fun _ _ _ h => h) (Or.inr ⟨by rfl, rfl⟩) ?_ ?_
              rotate_left
              · simp only [Act.put, List.setIfInBounds_toArray, List.set_cons_zero, List.set_cons_succ, i64_w, i32_w]
                rfl
              refine pure_ (i := 19) (N := some 46) (v := undef) (a' := ?_) #[true, true, true, true, true, true, true, true, true, true, true, true, true, true, true, true, true, true, true, true, false, false, false, false] rfl rfl (any_of HT_.out (by kernel_rfl)) (fun _ _ _ h => h) (Or.inr ⟨by rfl, rfl⟩) ?_ ?_
              rotate_left
              · simp only [Act.put, List.setIfInBounds_toArray, List.set_cons_zero, List.set_cons_succ, i64_w, i32_w]
                rfl
              refine pure_ (i := 20) (N := some 47) (v := undef) (a' := ?_) #[true, true, true, true, true, true, true, true, true, true, true, true, true, true, true, true, true, true, true, true, true, false, false, false] rfl rfl (any_of HT_.out (by kernel_rfl)) (fun _ _ _ h => h) (Or.inr ⟨by rfl, rfl⟩) ?_ ?_
              rotate_left
              · simp only [Act.put, List.setIfInBounds_toArray, List.set_cons_zero, List.set_cons_succ, i64_w, i32_w]
                rfl
              refine pure_ (i := 21) (N := some 48) (v := undef) (a' := ?_) #[true, true, true, true, true, true, true, true, true, true, true, true, true, true, true, true, true, true, true, true, true, true, false, false] rfl rfl (any_of HT_.out (by kernel_rfl)) (fun _ _ _ h => h) (Or.inr ⟨by rfl, rfl⟩) ?_ ?_
              rotate_left
              · simp only [Act.put, List.setIfInBounds_toArray, List.set_cons_zero, List.set_cons_succ, i64_w, i32_w]
                rfl
              refine pure_ (i := 22) (N := some 49) (v := undef) (a' := ?_) #[true, true, true, true, true, true, true, true, true, true, true, true, true, true, true, true, true, true, true, true, true, true, true, false] rfl rfl (any_of HT_.out (by kernel_rfl)) (fun _ _ _ h => h) (Or.inr ⟨by rfl, rfl⟩) ?_ ?_
              rotate_left
              · simp only [Act.put, List.setIfInBounds_toArray, List.set_cons_zero, List.set_cons_succ, i64_w, i32_w]
                rfl
              refine pure_ (i := 23) (N := some 50) (v := ?_) (a' := ?_) #[true, true, true, true, true, true, true, true, true, true, true, true, true, true, true, true, true, true, true, true, true, true, true, true] rfl rfl (any_of HT_.out (by kernel_rfl)) (fun _ _ _ h => h) (Or.inl ⟨by rfl, ?_⟩) ?_ ?_
              rotate_left
              · intro w'
                go_simp
                with_reducible rfl
              rotate_left
              · simp only [Act.put, List.setIfInBounds_toArray, List.set_cons_zero, List.set_cons_succ, i64_w, i32_w]
                rfl
              refine done_ (done_of HT_.out (by kernel_rfl)) ?_
              try go_wp2
              go_meet
              case rel => exact ⟨_, (true), (by first | rfl | (simp; done) | (simp [*]; done)), H', ⟨by have := HJ7.out; first | omega | exact Nat.le_refl _⟩, ⟨by repeat (first | (with_reducible first | exact HB.out | apply below_alloc | apply pw_below_drewN | apply below_drew1) | exact HB.out)⟩⟩
          case rest =>
            clear HC12
            try clear c1
            try clear c2
            try clear p2
            try clear c3
            try clear c15
            try clear c15b0
            try clear c15b1
            try clear c19
            try clear c27
            try clear c28
            try clear c29
            try clear c30
            try clear c31
            obtain ⟨kq, x50_11, rfl, HA, HJ11, HB⟩ := hcut
            cases kq with
            | zero => exact absurd HA.out (by simp [wristbandlaw01_WordRight.j1])
            | succ kj11 =>
              have H := HA.out
              clear HA
              simp only [wristbandlaw01_WordRight.j1] at H
              by_cases c38 : x50_11 = true
              · subst c38
                have H1 : (some false) = some r := by rw [if_pos rfl] at H; exact H
                clear H
                have H := H1
                clear H1
                obtain rfl := Option.some.inj H
                go_wp2
                go_ret
                exact ⟨by first | rfl | (simp [errW_none, errW_some] <;> rfl) | (simp [*, errW_none, errW_some] <;> rfl), by repeat (first | (with_reducible first | exact HB.out | apply below_alloc | apply pw_below_drewN | apply below_drew1) | exact HB.out)⟩
              · replace c38 := Bool.eq_false_iff.mpr c38
                subst c38
                have H1 : ((word_Get.f kj11 l2).bind fun bt236 => (if (l2.length : Int) = 8 then (if bt236.2 = 0 then ((wristbandref01_Value.f kj11 l2).bind fun t238 => (if bt236.1 = t238 then (wristbandlaw01_WordRight.j2 kj11 l2 a4) else (some false))) else (some false)) else (if bt236.2 = 1 then (if bt236.1 = 0 then (wristbandlaw01_WordRight.j2 kj11 l2 a4) else (some false)) else (some false)))) = some r := by rw [if_neg (show ¬ (false = true) by decide)] at H; exact H
                clear H
                have H := H1
                clear H1
                replace H := Option.bind_eq_some_iff.mp H
                obtain ⟨⟨t236, t237⟩, A390, H⟩ := H
                replace H : (if (l2.length : Int) = 8 then (if t237 = 0 then ((wristbandref01_Value.f kj11 l2).bind fun t238 => (if t236 = t238 then (wristbandlaw01_WordRight.j2 kj11 l2 a4) else (some false))) else (some false)) else (if t237 = 1 then (if t236 = 0 then (wristbandlaw01_WordRight.j2 kj11 l2 a4) else (some false)) else (some false))) = some r := H
                have A39 := Aside0.mk A390
                clear A390
                have HC40 := Aside0.mk H
                clear H
                go_upto_if 58 with (first | ((with_reducible refine gate_callee (f := 34) rfl ?_); refine goesL_ (some 53) rfl rfl Try.func34 (by kernel_rfl) rfl #[.slice A2 l2.length c2] rfl (by (try simp only [List.map_toArray, List.map_cons, List.map_nil]); first | done | rfl | (simp only [List.length_drop, List.length_take]; rfl)) ?_; (with_reducible refine (word_Get.calls kj11 _ _ l2 t236 t237 _ ?side1 ?side2 A39.out).mono ?_); (case side1 => repeat (first | exact (Kd.C_below HR2.out HB.out) | (with_reducible refine Kd.C_alloc ?_ _) | (with_reducible refine Kd.C_drewN ?_ _) | (with_reducible refine Kd.C_drew ?_))); (case side2 => exact HC2.out); rintro e w' ⟨rfl, ⟨nd, rfl⟩⟩; refine ⟨_, rfl, ?_⟩))
                (try simp only [Act.put, List.setIfInBounds_toArray, List.set_cons_zero, List.set_cons_succ])
                go_cut [] (fun wc => ∃ (kq : Nat), Aside0 (wristbandlaw01_WordRight.j2 kq l2 a4 = some r) ∧ Aside0 (kq ≤ kj11) ∧ Aside0 (Below w.heap.size w wc))
                case first =>
                  have H := HC40.out
                  clear HC40
                  by_cases c41 : (l2.length : Int) = 8
                  · rw [if_pos c41] at H
                    have c41b0 : ((l2.length : Int) == 8) = true := beq_iff_eq.mpr c41
                    have c41b1 : ((l2.length : Int) != 8) = false := bne_eq_false_iff_eq.mpr c41
                    clear c41
                    (first | rw [c41b0] | (simp only [i64_w, i32_w]; rw [c41b0]) | skip)
                    by_cases c42 : t237 = 0
                    · rw [if_pos c42] at H
                      have c42b0 : (t237 == 0) = true := beq_iff_eq.mpr c42
                      have c42b1 : (t237 != 0) = false := bne_eq_false_iff_eq.mpr c42
                      clear c42
                      replace H := Option.bind_eq_some_iff.mp H
                      obtain ⟨t238, A430, H⟩ := H
                      replace H : (if t236 = t238 then (wristbandlaw01_WordRight.j2 kj11 l2 a4) else (some false)) = some r := H
                      have A43 := Aside0.mk A430
                      clear A430
                      by_cases c44 : t236 = t238
                      · rw [if_pos c44] at H
                        have c44b0 : (t236 == t238) = true := beq_iff_eq.mpr c44
                        have c44b1 : (t236 != t238) = false := bne_eq_false_iff_eq.mpr c44
                        clear c44
                        have H' := Aside0.mk H
                        clear H
                        go_wp2_with (first | (go_at_call 35; (with_reducible refine (wristbandref01_Value.calls kj11 _ _ l2 t238 _ ?side1 ?side2 A43.out).mono ?_); (case side1 => repeat (first | exact (Kd.C_below HR2.out HB.out) | (with_reducible refine Kd.C_alloc ?_ _) | (with_reducible refine Kd.C_drewN ?_ _) | (with_reducible refine Kd.C_drew ?_))); (case side2 => exact HC2.out); rintro e w' ⟨rfl, ⟨nd, rfl⟩⟩))
                        go_meet
                        case rel => exact ⟨_, H', ⟨by have := HJ7.out; have := HJ11.out; first | omega | exact Nat.le_refl _⟩, ⟨by repeat (first | (with_reducible first | exact HB.out | apply below_alloc | apply pw_below_drewN | apply below_drew1) | exact HB.out)⟩⟩
                      · rw [if_neg c44] at H
                        have c44b0 : (t236 == t238) = false := beq_eq_false_iff_ne.mpr c44
                        have c44b1 : (t236 != t238) = true := bne_iff_ne.mpr c44
                        obtain rfl := Option.some.inj H
                        go_wp2_with (first | (go_at_call 35; (with_reducible refine (wristbandref01_Value.calls kj11 _ _ l2 t238 _ ?side1 ?side2 A43.out).mono ?_); (case side1 => repeat (first | exact (Kd.C_below HR2.out HB.out) | (with_reducible refine Kd.C_alloc ?_ _) | (with_reducible refine Kd.C_drewN ?_ _) | (with_reducible refine Kd.C_drew ?_))); (case side2 => exact HC2.out); rintro e w' ⟨rfl, ⟨nd, rfl⟩⟩))
                        go_ret
                        exact ⟨by first | rfl | (simp [errW_none, errW_some] <;> rfl) | (simp [*, errW_none, errW_some] <;> rfl), by repeat (first | (with_reducible first | exact HB.out | apply below_alloc | apply pw_below_drewN | apply below_drew1) | exact HB.out)⟩
                    · rw [if_neg c42] at H
                      have c42b0 : (t237 == 0) = false := beq_eq_false_iff_ne.mpr c42
                      have c42b1 : (t237 != 0) = true := bne_iff_ne.mpr c42
                      obtain rfl := Option.some.inj H
                      go_wp2
                      go_ret
                      exact ⟨by first | rfl | (simp [errW_none, errW_some] <;> rfl) | (simp [*, errW_none, errW_some] <;> rfl), by repeat (first | (with_reducible first | exact HB.out | apply below_alloc | apply pw_below_drewN | apply below_drew1) | exact HB.out)⟩
                  · rw [if_neg c41] at H
                    have c41b0 : ((l2.length : Int) == 8) = false := beq_eq_false_iff_ne.mpr c41
                    have c41b1 : ((l2.length : Int) != 8) = true := bne_iff_ne.mpr c41
                    (first | rw [c41b0] | (simp only [i64_w, i32_w]; rw [c41b0]) | skip)
                    by_cases c45 : t237 = 1
                    · rw [if_pos c45] at H
                      have c45b0 : (t237 == 1) = true := beq_iff_eq.mpr c45
                      have c45b1 : (t237 != 1) = false := bne_eq_false_iff_eq.mpr c45
                      clear c45
                      by_cases c46 : t236 = 0
                      · rw [if_pos c46] at H
                        have c46b0 : (t236 == 0) = true := beq_iff_eq.mpr c46
                        have c46b1 : (t236 != 0) = false := bne_eq_false_iff_eq.mpr c46
                        clear c46
                        have H' := Aside0.mk H
                        clear H
                        go_wp2
                        go_meet
                        case rel => exact ⟨_, H', ⟨by have := HJ7.out; have := HJ11.out; first | omega | exact Nat.le_refl _⟩, ⟨by repeat (first | (with_reducible first | exact HB.out | apply below_alloc | apply pw_below_drewN | apply below_drew1) | exact HB.out)⟩⟩
                      · rw [if_neg c46] at H
                        have c46b0 : (t236 == 0) = false := beq_eq_false_iff_ne.mpr c46
                        have c46b1 : (t236 != 0) = true := bne_iff_ne.mpr c46
                        obtain rfl := Option.some.inj H
                        go_wp2
                        go_ret
                        exact ⟨by first | rfl | (simp [errW_none, errW_some] <;> rfl) | (simp [*, errW_none, errW_some] <;> rfl), by repeat (first | (with_reducible first | exact HB.out | apply below_alloc | apply pw_below_drewN | apply below_drew1) | exact HB.out)⟩
                    · rw [if_neg c45] at H
                      have c45b0 : (t237 == 1) = false := beq_eq_false_iff_ne.mpr c45
                      have c45b1 : (t237 != 1) = true := bne_iff_ne.mpr c45
                      obtain rfl := Option.some.inj H
                      go_wp2
                      go_ret
                      exact ⟨by first | rfl | (simp [errW_none, errW_some] <;> rfl) | (simp [*, errW_none, errW_some] <;> rfl), by repeat (first | (with_reducible first | exact HB.out | apply below_alloc | apply pw_below_drewN | apply below_drew1) | exact HB.out)⟩
                case rest =>
                  clear HC40
                  try clear c1
                  try clear c2
                  try clear p2
                  try clear c3
                  try clear c4
                  try clear c15
                  try clear c15b0
                  try clear c15b1
                  try clear c19
                  try clear c27
                  try clear c28
                  try clear c29
                  try clear c30
                  try clear c31
                  try clear c34
                  try clear c38
                  try clear c41
                  try clear c41b0
                  try clear c41b1
                  try clear c42
                  try clear c42b0
                  try clear c42b1
                  try clear c44
                  try clear c44b0
                  try clear c44b1
                  try clear c45
                  try clear c45b0
                  try clear c45b1
                  try clear c46
                  try clear c46b0
                  try clear c46b1
                  try clear p2
                  obtain ⟨kq, HA, HJ39, HB⟩ := hcut
                  cases kq with
                  | zero => exact absurd HA.out (by simp [wristbandlaw01_WordRight.j2])
                  | succ kj39 =>
                    have H := HA.out
                    clear HA
                    simp only [wristbandlaw01_WordRight.j2] at H
                    replace H := Option.bind_eq_some_iff.mp H
                    obtain ⟨⟨t239, t240⟩, A470, H⟩ := H
                    replace H : ((wristbandref01_FromLeast.f kj39 l2).bind fun bt241 => (if t239 = bt241.1 then (if t240 = bt241.2 then ((word_Put.f kj39 a4).bind fun t243 => ((wristbandref01_Put.f kj39 a4).bind fun t246 => (if (strOfNums t243).toList = (strOfNums t246).toList then ((word_Least.f kj39 a4).bind fun t249 => ((wristbandref01_Least.f kj39 a4).bind fun t252 => (some ((strOfNums t249).toList == (strOfNums t252).toList)))) else (some false)))) else (some false)) else (some false))) = some r := H
                    have A47 := Aside0.mk A470
                    clear A470
                    replace H := Option.bind_eq_some_iff.mp H
                    obtain ⟨⟨t241, t242⟩, A480, H⟩ := H
                    replace H : (if t239 = t241 then (if t240 = t242 then ((word_Put.f kj39 a4).bind fun t243 => ((wristbandref01_Put.f kj39 a4).bind fun t246 => (if (strOfNums t243).toList = (strOfNums t246).toList then ((word_Least.f kj39 a4).bind fun t249 => ((wristbandref01_Least.f kj39 a4).bind fun t252 => (some ((strOfNums t249).toList == (strOfNums t252).toList)))) else (some false)))) else (some false)) else (some false)) = some r := H
                    have A48 := Aside0.mk A480
                    clear A480
                    by_cases c49 : t239 = t241
                    · rw [if_pos c49] at H
                      have c49b0 : (t239 == t241) = true := beq_iff_eq.mpr c49
                      have c49b1 : (t239 != t241) = false := bne_eq_false_iff_eq.mpr c49
                      clear c49
                      by_cases c50 : t240 = t242
                      · rw [if_pos c50] at H
                        have c50b0 : (t240 == t242) = true := beq_iff_eq.mpr c50
                        have c50b1 : (t240 != t242) = false := bne_eq_false_iff_eq.mpr c50
                        clear c50
                        replace H := Option.bind_eq_some_iff.mp H
                        obtain ⟨t243, A510, H⟩ := H
                        replace H : ((wristbandref01_Put.f kj39 a4).bind fun t246 => (if (strOfNums t243).toList = (strOfNums t246).toList then ((word_Least.f kj39 a4).bind fun t249 => ((wristbandref01_Least.f kj39 a4).bind fun t252 => (some ((strOfNums t249).toList == (strOfNums t252).toList)))) else (some false))) = some r := H
                        have A51 := Aside0.mk A510
                        clear A510
                        replace H := Option.bind_eq_some_iff.mp H
                        obtain ⟨t246, A520, H⟩ := H
                        replace H : (if (strOfNums t243).toList = (strOfNums t246).toList then ((word_Least.f kj39 a4).bind fun t249 => ((wristbandref01_Least.f kj39 a4).bind fun t252 => (some ((strOfNums t249).toList == (strOfNums t252).toList)))) else (some false)) = some r := H
                        have A52 := Aside0.mk A520
                        clear A520
                        by_cases c53 : (strOfNums t243).toList = (strOfNums t246).toList
                        · rw [if_pos c53] at H
                          have c53b0 : ((strOfNums t243).toList == (strOfNums t246).toList) = true := beq_iff_eq.mpr c53
                          have c53b1 : ((strOfNums t243).toList != (strOfNums t246).toList) = false := bne_eq_false_iff_eq.mpr c53
                          clear c53
                          replace H := Option.bind_eq_some_iff.mp H
                          obtain ⟨t249, A540, H⟩ := H
                          replace H : ((wristbandref01_Least.f kj39 a4).bind fun t252 => (some ((strOfNums t249).toList == (strOfNums t252).toList))) = some r := H
                          have A54 := Aside0.mk A540
                          clear A540
                          replace H := Option.bind_eq_some_iff.mp H
                          obtain ⟨t252, A550, H⟩ := H
                          replace H : (some ((strOfNums t249).toList == (strOfNums t252).toList)) = some r := H
                          have A55 := Aside0.mk A550
                          clear A550
                          obtain rfl := Option.some.inj H
                          try go_wp2_with (first | ((with_reducible refine gate_callee (f := 36) rfl ?_); refine goesL_ (some 75) rfl rfl Try.func36 (by kernel_rfl) rfl #[.slice A2 l2.length c2] rfl (by (try simp only [List.map_toArray, List.map_cons, List.map_nil]); first | done | rfl | (simp only [List.length_drop, List.length_take]; rfl)) ?_; (with_reducible refine (word_FromLeast.calls kj39 _ _ l2 t239 t240 _ ?side1 ?side2 A47.out).mono ?_); (case side1 => repeat (first | exact (Kd.C_below HR2.out HB.out) | (with_reducible refine Kd.C_alloc ?_ _) | (with_reducible refine Kd.C_drewN ?_ _) | (with_reducible refine Kd.C_drew ?_))); (case side2 => exact HC2.out); rintro e w' ⟨rfl, ⟨nd, rfl⟩⟩; refine ⟨_, rfl, ?_⟩) | ((with_reducible refine gate_callee (f := 37) rfl ?_); refine goesL_ (some 80) rfl rfl Try.func37 (by kernel_rfl) rfl #[.slice A2 l2.length c2] rfl (by (try simp only [List.map_toArray, List.map_cons, List.map_nil]); first | done | rfl | (simp only [List.length_drop, List.length_take]; rfl)) ?_; (with_reducible refine (wristbandref01_FromLeast.calls kj39 _ _ l2 t241 t242 _ ?side1 ?side2 A48.out).mono ?_); (case side1 => repeat (first | exact (Kd.C_below HR2.out (by repeat (first | (with_reducible first | exact HB.out | apply below_alloc | apply pw_below_drewN | apply below_drew1) | exact HB.out))) | (with_reducible refine Kd.C_alloc ?_ _) | (with_reducible refine Kd.C_drewN ?_ _) | (with_reducible refine Kd.C_drew ?_))); (case side2 => exact HC2.out); rintro e w' ⟨rfl, ⟨nd, rfl⟩⟩; refine ⟨_, rfl, ?_⟩))
                          (try (rw [drewN_self wc]; generalize hq_ : World.drewN wc _ = wc; have n0_ : Aside0 (Below w.heap.size w wc) := ⟨by rw [← hq_]; exact (by repeat (first | (with_reducible first | exact HB.out | apply below_alloc | apply pw_below_drewN | apply below_drew1) | exact HB.out))⟩; clear HB hq_; have HB := n0_; clear n0_))
                          have n0_ := Aside0.mk (below_drew1 HB.out)
                          clear HB
                          have HB := n0_
                          clear n0_
                          refine start_ (n := 27) (S := fun w' => True) (ds := []) #[false, false, false, false, false, false, false, false, false, false, false, false, false, false, false, false, false, false, false, false, false, false, false, false, false, false, false] (by kernel_rfl) rfl rfl trivial (fun hHeld => ?_); refine with_tabW wristbandlaw01_WordRight.tab15 wristbandlaw01_WordRight.bits15 (fun HT_ HW_ => ?_)
                          generalize wc.drew = w56 at HB hHeld ⊢
                          refine pure_ (i := 0) (N := some 83) (v := ?_) (a' := ?_) #[true, false, false, false, false, false, false, false, false, false, false, false, false, false, false, false, false, false, false, false, false, false, false, false, false, false, false] rfl rfl (any_of HT_.out (by kernel_rfl)) (fun _ _ _ h => h) (Or.inl ⟨by rfl, ?_⟩) ?_ ?_
                          rotate_left
                          · intro w'
                            go_simp
                            with_reducible rfl
                          rotate_left
                          · simp only [Act.put, List.setIfInBounds_toArray, List.set_cons_zero, List.set_cons_succ, i64_w, i32_w]
                            rfl
                          refine pure_ (i := 1) (N := some 84) (v := ?_) (a' := ?_) #[true, true, false, false, false, false, false, false, false, false, false, false, false, false, false, false, false, false, false, false, false, false, false, false, false, false, false] rfl rfl (any_of HT_.out (by kernel_rfl)) (fun _ _ _ h => h) (Or.inl ⟨by rfl, ?_⟩) ?_ ?_
                          rotate_left
                          · intro w'
                            go_simp
                            with_reducible rfl
                          rotate_left
                          · simp only [Act.put, List.setIfInBounds_toArray, List.set_cons_zero, List.set_cons_succ, i64_w, i32_w]
                            rfl
                          refine inv_at [2, 3, 4, 5, 6, 7, 8, 9, 10, 11, 12, 13, 14, 15, 16, 17, 18, 19, 20, 21, 22, 23, 24, 25, 26] (fun a0_ b a w' => ∃ (v244 : Value) (v247 : Value) (v250 : Value) (v253 : Value), a = putSel a0_ b [(2, 85, .bool (t239 == t241)), (3, 86, .bool (t239 == t241)), (4, 87, .int .i64 t240), (5, 88, .int .i64 t242), (6, 89, .bool (t240 == t242)), (7, 90, .bool (t240 == t242)), (8, 91, .bool (t240 == t242)), (9, 92, .int .u64 a4), (10, 93, v244), (11, 94, .string (strOfNums t243)), (12, 95, .int .u64 a4), (13, 96, v247), (14, 97, .string (strOfNums t246)), (15, 98, .bool ((strOfNums t243).toList == (strOfNums t246).toList)), (16, 99, .bool ((strOfNums t243).toList == (strOfNums t246).toList)), (17, 100, .bool ((strOfNums t243).toList == (strOfNums t246).toList)), (18, 101, .int .u64 a4), (19, 102, v250), (20, 103, .string (strOfNums t249)), (21, 104, .int .u64 a4), (22, 105, v253), (23, 106, .string (strOfNums t252)), (24, 107, .bool ((strOfNums t249).toList == (strOfNums t252).toList)), (25, 108, .bool ((strOfNums t249).toList == (strOfNums t252).toList)), (26, 10, .bool ((strOfNums t249).toList == (strOfNums t252).toList))] ∧ (Below w.heap.size w w') ∧ (b 10 = true → Kd.R (Kd.int .u8) 5 w' w.heap.size (fun _ => True) v244 t243) ∧ (b 13 = true → Kd.R (Kd.int .u8) 5 w' w.heap.size (fun _ => True) v247 t246) ∧ (b 19 = true → Kd.R (Kd.int .u8) 5 w' w.heap.size (fun _ => True) v250 t249) ∧ (b 22 = true → Kd.R (Kd.int .u8) 5 w' w.heap.size (fun _ => True) v253 t252)) HT_.out HW_.out (by kernel_rfl) (by kernel_rfl) ?_ ?_ ?_
                          · exact ⟨.bool false, .bool false, .bool false, .bool false, by simp only [putSel, Bool.false_eq_true, if_false], HB.out, fun h_ => absurd h_ (by decide), fun h_ => absurd h_ (by decide), fun h_ => absurd h_ (by decide), fun h_ => absurd h_ (by decide)⟩
                          · skip
                            clear HB
                            refine steps_cons ?_ ?_
                            · rintro b a w' ⟨v244, v247, v250, v253, ha, Q_HB, Q_HO245, Q_HO248, Q_HO251, Q_HO254⟩ hb_ hon hoff
                              refine ⟨_, rfl, fun K hK => ?_⟩
                              have e83 : a.tmps[83]? = some (.int .u64 t239) := by rw [ha]; exact (putSel_off rfl).trans rfl
                              have e84 : a.tmps[84]? = some (.int .u64 t241) := by rw [ha]; exact (putSel_off rfl).trans rfl
                              replace ha := Aside0.mk ha
                              have HB := Aside0.mk Q_HB
                              refine value_ (w1 := w') (v := .bool (t239 == t241)) (by rfl) rfl ?_ ?_
                              · go_simp
                                (try simp only [i64_w])
                                try rfl
                              refine hK.out _ _ ⟨v244, v247, v250, v253, (by rw [ha.out]; exact putSel_upk 0 hb_ rfl rfl rfl), Q_HB, fun h0_ => absurd ((hoff 10 (by kernel_rfl)).symm.trans h0_) (by decide), fun h0_ => absurd ((hoff 13 (by kernel_rfl)).symm.trans h0_) (by decide), fun h0_ => absurd ((hoff 19 (by kernel_rfl)).symm.trans h0_) (by decide), fun h0_ => absurd ((hoff 22 (by kernel_rfl)).symm.trans h0_) (by decide)⟩
                            refine steps_cons ?_ ?_
                            · rintro b a w' ⟨v244, v247, v250, v253, ha, Q_HB, Q_HO245, Q_HO248, Q_HO251, Q_HO254⟩ hb_ hon hoff
                              refine ⟨_, rfl, fun K hK => ?_⟩
                              have e85 : a.tmps[85]? = some (.bool (t239 == t241)) := by rw [ha]; exact putSel_on (e := (2, 85, .bool (t239 == t241))) 0 rfl rfl (hon 2 (by kernel_rfl)) rfl
                              replace ha := Aside0.mk ha
                              have HB := Aside0.mk Q_HB
                              refine value_ (w1 := w') (v := .bool (t239 == t241)) (by rfl) rfl ?_ ?_
                              · go_simp
                                (try simp only [i64_w])
                                try rfl
                              refine hK.out _ _ ⟨v244, v247, v250, v253, (by rw [ha.out]; exact putSel_upk 1 hb_ rfl rfl rfl), Q_HB, fun h0_ => absurd ((hoff 10 (by kernel_rfl)).symm.trans h0_) (by decide), fun h0_ => absurd ((hoff 13 (by kernel_rfl)).symm.trans h0_) (by decide), fun h0_ => absurd ((hoff 19 (by kernel_rfl)).symm.trans h0_) (by decide), fun h0_ => absurd ((hoff 22 (by kernel_rfl)).symm.trans h0_) (by decide)⟩
                            refine steps_cons ?_ ?_
                            · rintro b a w' ⟨v244, v247, v250, v253, ha, Q_HB, Q_HO245, Q_HO248, Q_HO251, Q_HO254⟩ hb_ hon hoff
                              refine ⟨_, rfl, fun K hK => ?_⟩
                              have e14 : a.tmps[14]? = some (.int .i64 t240) := by rw [ha]; exact (putSel_off rfl).trans rfl
                              have e86 : a.tmps[86]? = some (.bool (t239 == t241)) := by rw [ha]; exact putSel_on (e := (3, 86, .bool (t239 == t241))) 1 rfl rfl (hon 3 (by kernel_rfl)) rfl
                              replace ha := Aside0.mk ha
                              have HB := Aside0.mk Q_HB
                              refine value_ (w1 := w') (v := .int .i64 t240) (wanted_on rfl rfl rfl (e86.trans (by first | rfl | (simp [*]; done)))) rfl ?_ ?_
                              · go_simp
                                (try simp only [i64_w])
                                try rfl
                              refine hK.out _ _ ⟨v244, v247, v250, v253, (by rw [ha.out]; exact putSel_upk 2 hb_ rfl rfl rfl), Q_HB, fun h0_ => absurd ((hoff 10 (by kernel_rfl)).symm.trans h0_) (by decide), fun h0_ => absurd ((hoff 13 (by kernel_rfl)).symm.trans h0_) (by decide), fun h0_ => absurd ((hoff 19 (by kernel_rfl)).symm.trans h0_) (by decide), fun h0_ => absurd ((hoff 22 (by kernel_rfl)).symm.trans h0_) (by decide)⟩
                            refine steps_cons ?_ ?_
                            · rintro b a w' ⟨v244, v247, v250, v253, ha, Q_HB, Q_HO245, Q_HO248, Q_HO251, Q_HO254⟩ hb_ hon hoff
                              refine ⟨_, rfl, fun K hK => ?_⟩
                              have e16 : a.tmps[16]? = some (.int .i64 t242) := by rw [ha]; exact (putSel_off rfl).trans rfl
                              have e86 : a.tmps[86]? = some (.bool (t239 == t241)) := by rw [ha]; exact putSel_on (e := (3, 86, .bool (t239 == t241))) 1 rfl rfl (hon 3 (by kernel_rfl)) rfl
                              replace ha := Aside0.mk ha
                              have HB := Aside0.mk Q_HB
                              refine value_ (w1 := w') (v := .int .i64 t242) (wanted_on rfl rfl rfl (e86.trans (by first | rfl | (simp [*]; done)))) rfl ?_ ?_
                              · go_simp
                                (try simp only [i64_w])
                                try rfl
                              refine hK.out _ _ ⟨v244, v247, v250, v253, (by rw [ha.out]; exact putSel_upk 3 hb_ rfl rfl rfl), Q_HB, fun h0_ => absurd ((hoff 10 (by kernel_rfl)).symm.trans h0_) (by decide), fun h0_ => absurd ((hoff 13 (by kernel_rfl)).symm.trans h0_) (by decide), fun h0_ => absurd ((hoff 19 (by kernel_rfl)).symm.trans h0_) (by decide), fun h0_ => absurd ((hoff 22 (by kernel_rfl)).symm.trans h0_) (by decide)⟩
                            refine steps_cons ?_ ?_
                            · rintro b a w' ⟨v244, v247, v250, v253, ha, Q_HB, Q_HO245, Q_HO248, Q_HO251, Q_HO254⟩ hb_ hon hoff
                              refine ⟨_, rfl, fun K hK => ?_⟩
                              have e87 : a.tmps[87]? = some (.int .i64 t240) := by rw [ha]; exact putSel_on (e := (4, 87, .int .i64 t240)) 2 rfl rfl (hon 4 (by kernel_rfl)) rfl
                              have e88 : a.tmps[88]? = some (.int .i64 t242) := by rw [ha]; exact putSel_on (e := (5, 88, .int .i64 t242)) 3 rfl rfl (hon 5 (by kernel_rfl)) rfl
                              have e86 : a.tmps[86]? = some (.bool (t239 == t241)) := by rw [ha]; exact putSel_on (e := (3, 86, .bool (t239 == t241))) 1 rfl rfl (hon 3 (by kernel_rfl)) rfl
                              replace ha := Aside0.mk ha
                              have HB := Aside0.mk Q_HB
                              refine value_ (w1 := w') (v := .bool (t240 == t242)) (wanted_on rfl rfl rfl (e86.trans (by first | rfl | (simp [*]; done)))) rfl ?_ ?_
                              · go_simp
                                (try simp only [i64_w])
                                try rfl
                              refine hK.out _ _ ⟨v244, v247, v250, v253, (by rw [ha.out]; exact putSel_upk 4 hb_ rfl rfl rfl), Q_HB, fun h0_ => absurd ((hoff 10 (by kernel_rfl)).symm.trans h0_) (by decide), fun h0_ => absurd ((hoff 13 (by kernel_rfl)).symm.trans h0_) (by decide), fun h0_ => absurd ((hoff 19 (by kernel_rfl)).symm.trans h0_) (by decide), fun h0_ => absurd ((hoff 22 (by kernel_rfl)).symm.trans h0_) (by decide)⟩
                            refine steps_cons ?_ ?_
                            · rintro b a w' ⟨v244, v247, v250, v253, ha, Q_HB, Q_HO245, Q_HO248, Q_HO251, Q_HO254⟩ hb_ hon hoff
                              refine ⟨_, rfl, fun K hK => ?_⟩
                              have e86 : a.tmps[86]? = some (.bool (t239 == t241)) := by rw [ha]; exact putSel_on (e := (3, 86, .bool (t239 == t241))) 1 rfl rfl (hon 3 (by kernel_rfl)) rfl
                              have e89 : a.tmps[89]? = some (.bool (t240 == t242)) := by rw [ha]; exact putSel_on (e := (6, 89, .bool (t240 == t242))) 4 rfl rfl (hon 6 (by kernel_rfl)) rfl
                              replace ha := Aside0.mk ha
                              have HB := Aside0.mk Q_HB
                              refine value_ (w1 := w') (v := .bool (t240 == t242)) (by rfl) rfl ?_ ?_
                              · go_simp
                                (try simp only [i64_w])
                                try rfl
                              refine hK.out _ _ ⟨v244, v247, v250, v253, (by rw [ha.out]; exact putSel_upk 5 hb_ rfl rfl rfl), Q_HB, fun h0_ => absurd ((hoff 10 (by kernel_rfl)).symm.trans h0_) (by decide), fun h0_ => absurd ((hoff 13 (by kernel_rfl)).symm.trans h0_) (by decide), fun h0_ => absurd ((hoff 19 (by kernel_rfl)).symm.trans h0_) (by decide), fun h0_ => absurd ((hoff 22 (by kernel_rfl)).symm.trans h0_) (by decide)⟩
                            refine steps_cons ?_ ?_
                            · rintro b a w' ⟨v244, v247, v250, v253, ha, Q_HB, Q_HO245, Q_HO248, Q_HO251, Q_HO254⟩ hb_ hon hoff
                              refine ⟨_, rfl, fun K hK => ?_⟩
                              have e90 : a.tmps[90]? = some (.bool (t240 == t242)) := by rw [ha]; exact putSel_on (e := (7, 90, .bool (t240 == t242))) 5 rfl rfl (hon 7 (by kernel_rfl)) rfl
                              replace ha := Aside0.mk ha
                              have HB := Aside0.mk Q_HB
                              refine value_ (w1 := w') (v := .bool (t240 == t242)) (by rfl) rfl ?_ ?_
                              · go_simp
                                (try simp only [i64_w])
                                try rfl
                              refine hK.out _ _ ⟨v244, v247, v250, v253, (by rw [ha.out]; exact putSel_upk 6 hb_ rfl rfl rfl), Q_HB, fun h0_ => absurd ((hoff 10 (by kernel_rfl)).symm.trans h0_) (by decide), fun h0_ => absurd ((hoff 13 (by kernel_rfl)).symm.trans h0_) (by decide), fun h0_ => absurd ((hoff 19 (by kernel_rfl)).symm.trans h0_) (by decide), fun h0_ => absurd ((hoff 22 (by kernel_rfl)).symm.trans h0_) (by decide)⟩
                            refine steps_cons ?_ ?_
                            · rintro b a w' ⟨v244, v247, v250, v253, ha, Q_HB, Q_HO245, Q_HO248, Q_HO251, Q_HO254⟩ hb_ hon hoff
                              refine ⟨_, rfl, fun K hK => ?_⟩
                              have e4 : a.tmps[4]? = some (.int .u64 a4) := by rw [ha]; exact (putSel_off rfl).trans rfl
                              have e91 : a.tmps[91]? = some (.bool (t240 == t242)) := by rw [ha]; exact putSel_on (e := (8, 91, .bool (t240 == t242))) 6 rfl rfl (hon 8 (by kernel_rfl)) rfl
                              replace ha := Aside0.mk ha
                              have HB := Aside0.mk Q_HB
                              refine value_ (w1 := w') (v := .int .u64 a4) (wanted_on rfl rfl rfl (e91.trans (by first | rfl | (simp [*]; done)))) rfl ?_ ?_
                              · go_simp
                                (try simp only [i64_w])
                                try rfl
                              refine hK.out _ _ ⟨v244, v247, v250, v253, (by rw [ha.out]; exact putSel_upk 7 hb_ rfl rfl rfl), Q_HB, fun h0_ => absurd ((hoff 10 (by kernel_rfl)).symm.trans h0_) (by decide), fun h0_ => absurd ((hoff 13 (by kernel_rfl)).symm.trans h0_) (by decide), fun h0_ => absurd ((hoff 19 (by kernel_rfl)).symm.trans h0_) (by decide), fun h0_ => absurd ((hoff 22 (by kernel_rfl)).symm.trans h0_) (by decide)⟩
                            refine steps_cons ?_ ?_
                            · rintro b a w' ⟨v244, v247, v250, v253, ha, Q_HB, Q_HO245, Q_HO248, Q_HO251, Q_HO254⟩ hb_ hon hoff
                              refine ⟨_, rfl, fun K hK => ?_⟩
                              have e92 : a.tmps[92]? = some (.int .u64 a4) := by rw [ha]; exact putSel_on (e := (9, 92, .int .u64 a4)) 7 rfl rfl (hon 9 (by kernel_rfl)) rfl
                              have e91 : a.tmps[91]? = some (.bool (t240 == t242)) := by rw [ha]; exact putSel_on (e := (8, 91, .bool (t240 == t242))) 6 rfl rfl (hon 8 (by kernel_rfl)) rfl
                              replace ha := Aside0.mk ha
                              have HB := Aside0.mk Q_HB
                              refine goes_ Try.func38 (by kernel_rfl) rfl #[.int .u64 a4] (by first | rfl | (simp [Region.wanted, yielded, *]; done)) rfl rfl (by first | (simp only [List.map_toArray, List.map_cons, List.map_nil, Act.eval, Array.getD_eq_getD_getElem?, Option.getD_some, e92, e91]; done) | (simp only [List.map_toArray, List.map_cons, List.map_nil, Act.eval, Array.getD_eq_getD_getElem?, Option.getD_some, e92, e91]; rfl)) ?_
                              with_reducible refine (word_Put.calls kj39 a4 t243 _ A51.out).mono ?_
                              rintro e w57 ⟨v244, rfl, ho0, hb⟩
                              refine ⟨_, rfl, ?_⟩
                              have n0_ := Aside0.mk (Kd.R_lower ho0 (below_size (by repeat (first | (with_reducible first | exact HB.out | apply below_alloc | apply pw_below_drewN | apply below_drew1) | exact HB.out))))
                              have n1_ := Aside0.mk (below_step (by repeat (first | (with_reducible first | exact HB.out | apply below_alloc | apply pw_below_drewN | apply below_drew1) | exact HB.out)) hb)
                              clear HB
                              have HO245 := n0_
                              have HB := n1_
                              clear n0_ n1_
                              (try clear hb)
                              (try clear hb2)
                              (try clear hk)
                              (try clear hi)
                              (try clear ho0)
                              refine hK.out _ _ ⟨v244, v247, v250, v253, (by rw [ha.out]; exact putSel_upk 8 hb_ rfl rfl rfl), (by repeat (first | (with_reducible first | exact HB.out | apply below_alloc | apply pw_below_drewN | apply below_drew1) | exact HB.out)), fun _ => (by (with_reducible repeat (first | apply Kd.R_alloc | apply Kd.R_drewN | apply Kd.R_drew)); exact HO245.out), fun h0_ => absurd ((hoff 13 (by kernel_rfl)).symm.trans h0_) (by decide), fun h0_ => absurd ((hoff 19 (by kernel_rfl)).symm.trans h0_) (by decide), fun h0_ => absurd ((hoff 22 (by kernel_rfl)).symm.trans h0_) (by decide)⟩
                            refine steps_cons ?_ ?_
                            · rintro b a w' ⟨v244, v247, v250, v253, ha, Q_HB, Q_HO245, Q_HO248, Q_HO251, Q_HO254⟩ hb_ hon hoff
                              refine ⟨_, rfl, fun K hK => ?_⟩
                              have e93 : a.tmps[93]? = some (v244) := by rw [ha]; exact putSel_on (e := (10, 93, v244)) 8 rfl rfl (hon 10 (by kernel_rfl)) rfl
                              have e91 : a.tmps[91]? = some (.bool (t240 == t242)) := by rw [ha]; exact putSel_on (e := (8, 91, .bool (t240 == t242))) 6 rfl rfl (hon 8 (by kernel_rfl)) rfl
                              replace ha := Aside0.mk ha
                              have HB := Aside0.mk Q_HB
                              have HO245 := Aside0.mk (Q_HO245 (hon 10 (by kernel_rfl)))
                              refine str_step (src := 22) (dst := 9) (x := .tmp 93) ?hw ?ho ?hx (v := v244) (s := strOfNums t243) (by obtain ⟨A_, c_, rfl⟩ := Kd.R_slice HO245.out; exact Kd.C_string (P := Try.prog) (A := A_) (c := c_) Try.underlying22 Try.underlying5 Try.underlying9 (Kd.R_reads' (by (with_reducible repeat (first | apply Kd.R_alloc | apply Kd.R_drewN | apply Kd.R_drew)); exact HO245.out)).2.2) ?_
                              case ho => rfl
                              case hw => first | rfl | (simp [Region.wanted, yielded, *]; done)
                              case hx => first | rfl | (simp only [Act.eval, Array.getD_eq_getD_getElem?, Option.getD_some, e93]; done)
                              intro w59 hb
                              have n0_ := Aside0.mk (Kd.R_below (by (with_reducible repeat (first | apply Kd.R_alloc | apply Kd.R_drewN | apply Kd.R_drew)); exact HO245.out) hb)
                              have n1_ := Aside0.mk (below_step (by repeat (first | (with_reducible first | exact HB.out | apply below_alloc | apply pw_below_drewN | apply below_drew1) | exact HB.out)) hb)
                              have z_HO248 := fun (h0_ : b 13 = true) => (show Kd.R (Kd.int .u8) 5 w59 w.heap.size (fun _ => True) v247 t246 from by first | exact (Kd.R_below (by (with_reducible repeat (first | apply Kd.R_alloc | apply Kd.R_drewN | apply Kd.R_drew)); exact (Q_HO248 h0_)) hb) | exact Kd.R_mono (Kd.R_below (by (with_reducible repeat (first | apply Kd.R_alloc | apply Kd.R_drewN | apply Kd.R_drew)); exact (Q_HO248 h0_)) hb) (fun _ h_ => by first | trivial | exact h_ | exact h_.1))
                              clear HO245
                              clear HB
                              have HO245 := n0_
                              have HB := n1_
                              clear n0_ n1_
                              (try clear hb)
                              refine hK.out _ _ ⟨v244, v247, v250, v253, (by rw [ha.out]; exact putSel_upk 9 hb_ rfl rfl rfl), (by repeat (first | (with_reducible first | exact HB.out | apply below_alloc | apply pw_below_drewN | apply below_drew1) | exact HB.out)), fun _ => (by (with_reducible repeat (first | apply Kd.R_alloc | apply Kd.R_drewN | apply Kd.R_drew)); exact HO245.out), z_HO248, fun h0_ => absurd ((hoff 19 (by kernel_rfl)).symm.trans h0_) (by decide), fun h0_ => absurd ((hoff 22 (by kernel_rfl)).symm.trans h0_) (by decide)⟩
                            refine steps_cons ?_ ?_
                            · rintro b a w' ⟨v244, v247, v250, v253, ha, Q_HB, Q_HO245, Q_HO248, Q_HO251, Q_HO254⟩ hb_ hon hoff
                              refine ⟨_, rfl, fun K hK => ?_⟩
                              have e4 : a.tmps[4]? = some (.int .u64 a4) := by rw [ha]; exact (putSel_off rfl).trans rfl
                              have e91 : a.tmps[91]? = some (.bool (t240 == t242)) := by rw [ha]; exact putSel_on (e := (8, 91, .bool (t240 == t242))) 6 rfl rfl (hon 8 (by kernel_rfl)) rfl
                              replace ha := Aside0.mk ha
                              have HB := Aside0.mk Q_HB
                              refine value_ (w1 := w') (v := .int .u64 a4) (wanted_on rfl rfl rfl (e91.trans (by first | rfl | (simp [*]; done)))) rfl ?_ ?_
                              · go_simp
                                (try simp only [i64_w])
                                try rfl
                              refine hK.out _ _ ⟨v244, v247, v250, v253, (by rw [ha.out]; exact putSel_upk 10 hb_ rfl rfl rfl), Q_HB, Q_HO245, fun h0_ => absurd ((hoff 13 (by kernel_rfl)).symm.trans h0_) (by decide), fun h0_ => absurd ((hoff 19 (by kernel_rfl)).symm.trans h0_) (by decide), fun h0_ => absurd ((hoff 22 (by kernel_rfl)).symm.trans h0_) (by decide)⟩
                            refine steps_cons ?_ ?_
                            · rintro b a w' ⟨v244, v247, v250, v253, ha, Q_HB, Q_HO245, Q_HO248, Q_HO251, Q_HO254⟩ hb_ hon hoff
                              refine ⟨_, rfl, fun K hK => ?_⟩
                              have e95 : a.tmps[95]? = some (.int .u64 a4) := by rw [ha]; exact putSel_on (e := (12, 95, .int .u64 a4)) 10 rfl rfl (hon 12 (by kernel_rfl)) rfl
                              have e91 : a.tmps[91]? = some (.bool (t240 == t242)) := by rw [ha]; exact putSel_on (e := (8, 91, .bool (t240 == t242))) 6 rfl rfl (hon 8 (by kernel_rfl)) rfl
                              replace ha := Aside0.mk ha
                              have HB := Aside0.mk Q_HB
                              have HO245 := Aside0.mk (Q_HO245 (hon 10 (by kernel_rfl)))
                              refine goes_ Try.func39 (by kernel_rfl) rfl #[.int .u64 a4] (by first | rfl | (simp [Region.wanted, yielded, *]; done)) rfl rfl (by first | (simp only [List.map_toArray, List.map_cons, List.map_nil, Act.eval, Array.getD_eq_getD_getElem?, Option.getD_some, e95, e91]; done) | (simp only [List.map_toArray, List.map_cons, List.map_nil, Act.eval, Array.getD_eq_getD_getElem?, Option.getD_some, e95, e91]; rfl)) ?_
                              with_reducible refine (wristbandref01_Put.calls kj39 a4 t246 _ A52.out).mono ?_
                              rintro e w59 ⟨v247, rfl, ho0, hb⟩
                              refine ⟨_, rfl, ?_⟩
                              have n0_ := Aside0.mk (Kd.R_elder' (by (with_reducible repeat (first | apply Kd.R_alloc | apply Kd.R_drewN | apply Kd.R_drew)); exact HO245.out) (Kd.R_base ho0) hb)
                              have n1_ := Aside0.mk (Kd.R_lower (Kd.R_new' ho0 (Kd.R_lt (by (with_reducible repeat (first | apply Kd.R_alloc | apply Kd.R_drewN | apply Kd.R_drew)); exact HO245.out))) (below_size (by repeat (first | (with_reducible first | exact HB.out | apply below_alloc | apply pw_below_drewN | apply below_drew1) | exact HB.out))))
                              have n2_ := Aside0.mk (below_step (by repeat (first | (with_reducible first | exact HB.out | apply below_alloc | apply pw_below_drewN | apply below_drew1) | exact HB.out)) hb)
                              clear HO245
                              clear HB
                              have HO245 := n0_
                              have HO248 := n1_
                              have HB := n2_
                              clear n0_ n1_ n2_
                              (try clear hb)
                              (try clear hb2)
                              (try clear hk)
                              (try clear hi)
                              (try clear ho0)
                              refine hK.out _ _ ⟨v244, v247, v250, v253, (by rw [ha.out]; exact putSel_upk 11 hb_ rfl rfl rfl), (by repeat (first | (with_reducible first | exact HB.out | apply below_alloc | apply pw_below_drewN | apply below_drew1) | exact HB.out)), fun _ => (by (with_reducible repeat (first | apply Kd.R_alloc | apply Kd.R_drewN | apply Kd.R_drew)); first | exact Kd.R_mono HO245.out (fun _ hk => hk.2) | exact Kd.R_mono (HO245.out) (fun _ hk => by first | trivial | exact hk | exact hk.1 | exact hk.2 | (simp_all; done))), fun _ => (by (with_reducible repeat (first | apply Kd.R_alloc | apply Kd.R_drewN | apply Kd.R_drew)); first | exact Kd.R_mono HO248.out (fun _ hk => hk.2) | exact Kd.R_mono (HO248.out) (fun _ hk => by first | trivial | exact hk | exact hk.1 | exact hk.2 | (simp_all; done))), fun h0_ => absurd ((hoff 19 (by kernel_rfl)).symm.trans h0_) (by decide), fun h0_ => absurd ((hoff 22 (by kernel_rfl)).symm.trans h0_) (by decide)⟩
                            refine steps_cons ?_ ?_
                            · rintro b a w' ⟨v244, v247, v250, v253, ha, Q_HB, Q_HO245, Q_HO248, Q_HO251, Q_HO254⟩ hb_ hon hoff
                              refine ⟨_, rfl, fun K hK => ?_⟩
                              have e96 : a.tmps[96]? = some (v247) := by rw [ha]; exact putSel_on (e := (13, 96, v247)) 11 rfl rfl (hon 13 (by kernel_rfl)) rfl
                              have e91 : a.tmps[91]? = some (.bool (t240 == t242)) := by rw [ha]; exact putSel_on (e := (8, 91, .bool (t240 == t242))) 6 rfl rfl (hon 8 (by kernel_rfl)) rfl
                              replace ha := Aside0.mk ha
                              have HB := Aside0.mk Q_HB
                              have HO245 := Aside0.mk (Q_HO245 (hon 10 (by kernel_rfl)))
                              have HO248 := Aside0.mk (Q_HO248 (hon 13 (by kernel_rfl)))
                              refine str_step (src := 22) (dst := 9) (x := .tmp 96) ?hw ?ho ?hx (v := v247) (s := strOfNums t246) (by obtain ⟨A_, c_, rfl⟩ := Kd.R_slice HO248.out; exact Kd.C_string (P := Try.prog) (A := A_) (c := c_) Try.underlying22 Try.underlying5 Try.underlying9 (Kd.R_reads' (by (with_reducible repeat (first | apply Kd.R_alloc | apply Kd.R_drewN | apply Kd.R_drew)); exact HO248.out)).2.2) ?_
                              case ho => rfl
                              case hw => first | rfl | (simp [Region.wanted, yielded, *]; done)
                              case hx => first | rfl | (simp only [Act.eval, Array.getD_eq_getD_getElem?, Option.getD_some, e96]; done)
                              intro w60 hb
                              have n0_ := Aside0.mk (Kd.R_below (by (with_reducible repeat (first | apply Kd.R_alloc | apply Kd.R_drewN | apply Kd.R_drew)); exact HO245.out) hb)
                              have n1_ := Aside0.mk (Kd.R_below (by (with_reducible repeat (first | apply Kd.R_alloc | apply Kd.R_drewN | apply Kd.R_drew)); exact HO248.out) hb)
                              have n2_ := Aside0.mk (below_step (by repeat (first | (with_reducible first | exact HB.out | apply below_alloc | apply pw_below_drewN | apply below_drew1) | exact HB.out)) hb)
                              clear HO245
                              clear HO248
                              clear HB
                              have HO245 := n0_
                              have HO248 := n1_
                              have HB := n2_
                              clear n0_ n1_ n2_
                              (try clear hb)
                              refine hK.out _ _ ⟨v244, v247, v250, v253, (by rw [ha.out]; exact putSel_upk 12 hb_ rfl rfl rfl), (by repeat (first | (with_reducible first | exact HB.out | apply below_alloc | apply pw_below_drewN | apply below_drew1) | exact HB.out)), fun _ => (by (with_reducible repeat (first | apply Kd.R_alloc | apply Kd.R_drewN | apply Kd.R_drew)); first | exact HO245.out | exact Kd.R_mono (HO245.out) (fun _ hk => by first | trivial | exact hk | exact hk.1 | exact hk.2 | (simp_all; done))), fun _ => (by (with_reducible repeat (first | apply Kd.R_alloc | apply Kd.R_drewN | apply Kd.R_drew)); first | exact HO248.out | exact Kd.R_mono (HO248.out) (fun _ hk => by first | trivial | exact hk | exact hk.1 | exact hk.2 | (simp_all; done))), fun h0_ => absurd ((hoff 19 (by kernel_rfl)).symm.trans h0_) (by decide), fun h0_ => absurd ((hoff 22 (by kernel_rfl)).symm.trans h0_) (by decide)⟩
                            refine steps_cons ?_ ?_
                            · rintro b a w' ⟨v244, v247, v250, v253, ha, Q_HB, Q_HO245, Q_HO248, Q_HO251, Q_HO254⟩ hb_ hon hoff
                              refine ⟨_, rfl, fun K hK => ?_⟩
                              have e94 : a.tmps[94]? = some (.string (strOfNums t243)) := by rw [ha]; exact putSel_on (e := (11, 94, .string (strOfNums t243))) 9 rfl rfl (hon 11 (by kernel_rfl)) rfl
                              have e97 : a.tmps[97]? = some (.string (strOfNums t246)) := by rw [ha]; exact putSel_on (e := (14, 97, .string (strOfNums t246))) 12 rfl rfl (hon 14 (by kernel_rfl)) rfl
                              have e91 : a.tmps[91]? = some (.bool (t240 == t242)) := by rw [ha]; exact putSel_on (e := (8, 91, .bool (t240 == t242))) 6 rfl rfl (hon 8 (by kernel_rfl)) rfl
                              replace ha := Aside0.mk ha
                              have HB := Aside0.mk Q_HB
                              have HO245 := Aside0.mk (Q_HO245 (hon 10 (by kernel_rfl)))
                              have HO248 := Aside0.mk (Q_HO248 (hon 13 (by kernel_rfl)))
                              refine value_ (w1 := w') (v := .bool ((strOfNums t243).toList == (strOfNums t246).toList)) (wanted_on rfl rfl rfl (e91.trans (by first | rfl | (simp [*]; done)))) rfl ?_ ?_
                              · go_simp
                                (try simp only [i64_w])
                                try rfl
                              refine hK.out _ _ ⟨v244, v247, v250, v253, (by rw [ha.out]; exact putSel_upk 13 hb_ rfl rfl rfl), Q_HB, Q_HO245, Q_HO248, fun h0_ => absurd ((hoff 19 (by kernel_rfl)).symm.trans h0_) (by decide), fun h0_ => absurd ((hoff 22 (by kernel_rfl)).symm.trans h0_) (by decide)⟩
                            refine steps_cons ?_ ?_
                            · rintro b a w' ⟨v244, v247, v250, v253, ha, Q_HB, Q_HO245, Q_HO248, Q_HO251, Q_HO254⟩ hb_ hon hoff
                              refine ⟨_, rfl, fun K hK => ?_⟩
                              have e91 : a.tmps[91]? = some (.bool (t240 == t242)) := by rw [ha]; exact putSel_on (e := (8, 91, .bool (t240 == t242))) 6 rfl rfl (hon 8 (by kernel_rfl)) rfl
                              have e98 : a.tmps[98]? = some (.bool ((strOfNums t243).toList == (strOfNums t246).toList)) := by rw [ha]; exact putSel_on (e := (15, 98, .bool ((strOfNums t243).toList == (strOfNums t246).toList))) 13 rfl rfl (hon 15 (by kernel_rfl)) rfl
                              replace ha := Aside0.mk ha
                              have HB := Aside0.mk Q_HB
                              have HO245 := Aside0.mk (Q_HO245 (hon 10 (by kernel_rfl)))
                              have HO248 := Aside0.mk (Q_HO248 (hon 13 (by kernel_rfl)))
                              refine value_ (w1 := w') (v := .bool ((strOfNums t243).toList == (strOfNums t246).toList)) (by rfl) rfl ?_ ?_
                              · go_simp
                                (try simp only [i64_w])
                                try rfl
                              refine hK.out _ _ ⟨v244, v247, v250, v253, (by rw [ha.out]; exact putSel_upk 14 hb_ rfl rfl rfl), Q_HB, Q_HO245, Q_HO248, fun h0_ => absurd ((hoff 19 (by kernel_rfl)).symm.trans h0_) (by decide), fun h0_ => absurd ((hoff 22 (by kernel_rfl)).symm.trans h0_) (by decide)⟩
                            refine steps_cons ?_ ?_
                            · rintro b a w' ⟨v244, v247, v250, v253, ha, Q_HB, Q_HO245, Q_HO248, Q_HO251, Q_HO254⟩ hb_ hon hoff
                              refine ⟨_, rfl, fun K hK => ?_⟩
                              have e99 : a.tmps[99]? = some (.bool ((strOfNums t243).toList == (strOfNums t246).toList)) := by rw [ha]; exact putSel_on (e := (16, 99, .bool ((strOfNums t243).toList == (strOfNums t246).toList))) 14 rfl rfl (hon 16 (by kernel_rfl)) rfl
                              replace ha := Aside0.mk ha
                              have HB := Aside0.mk Q_HB
                              have HO245 := Aside0.mk (Q_HO245 (hon 10 (by kernel_rfl)))
                              have HO248 := Aside0.mk (Q_HO248 (hon 13 (by kernel_rfl)))
                              refine value_ (w1 := w') (v := .bool ((strOfNums t243).toList == (strOfNums t246).toList)) (by rfl) rfl ?_ ?_
                              · go_simp
                                (try simp only [i64_w])
                                try rfl
                              refine hK.out _ _ ⟨v244, v247, v250, v253, (by rw [ha.out]; exact putSel_upk 15 hb_ rfl rfl rfl), Q_HB, Q_HO245, Q_HO248, fun h0_ => absurd ((hoff 19 (by kernel_rfl)).symm.trans h0_) (by decide), fun h0_ => absurd ((hoff 22 (by kernel_rfl)).symm.trans h0_) (by decide)⟩
                            refine steps_cons ?_ ?_
                            · rintro b a w' ⟨v244, v247, v250, v253, ha, Q_HB, Q_HO245, Q_HO248, Q_HO251, Q_HO254⟩ hb_ hon hoff
                              refine ⟨_, rfl, fun K hK => ?_⟩
                              have e4 : a.tmps[4]? = some (.int .u64 a4) := by rw [ha]; exact (putSel_off rfl).trans rfl
                              have e100 : a.tmps[100]? = some (.bool ((strOfNums t243).toList == (strOfNums t246).toList)) := by rw [ha]; exact putSel_on (e := (17, 100, .bool ((strOfNums t243).toList == (strOfNums t246).toList))) 15 rfl rfl (hon 17 (by kernel_rfl)) rfl
                              replace ha := Aside0.mk ha
                              have HB := Aside0.mk Q_HB
                              have HO245 := Aside0.mk (Q_HO245 (hon 10 (by kernel_rfl)))
                              have HO248 := Aside0.mk (Q_HO248 (hon 13 (by kernel_rfl)))
                              refine value_ (w1 := w') (v := .int .u64 a4) (wanted_on rfl rfl rfl (e100.trans (by first | rfl | (simp [*]; done)))) rfl ?_ ?_
                              · go_simp
                                (try simp only [i64_w])
                                try rfl
                              refine hK.out _ _ ⟨v244, v247, v250, v253, (by rw [ha.out]; exact putSel_upk 16 hb_ rfl rfl rfl), Q_HB, Q_HO245, Q_HO248, fun h0_ => absurd ((hoff 19 (by kernel_rfl)).symm.trans h0_) (by decide), fun h0_ => absurd ((hoff 22 (by kernel_rfl)).symm.trans h0_) (by decide)⟩
                            refine steps_cons ?_ ?_
                            · rintro b a w' ⟨v244, v247, v250, v253, ha, Q_HB, Q_HO245, Q_HO248, Q_HO251, Q_HO254⟩ hb_ hon hoff
                              refine ⟨_, rfl, fun K hK => ?_⟩
                              have e101 : a.tmps[101]? = some (.int .u64 a4) := by rw [ha]; exact putSel_on (e := (18, 101, .int .u64 a4)) 16 rfl rfl (hon 18 (by kernel_rfl)) rfl
                              have e100 : a.tmps[100]? = some (.bool ((strOfNums t243).toList == (strOfNums t246).toList)) := by rw [ha]; exact putSel_on (e := (17, 100, .bool ((strOfNums t243).toList == (strOfNums t246).toList))) 15 rfl rfl (hon 17 (by kernel_rfl)) rfl
                              replace ha := Aside0.mk ha
                              have HB := Aside0.mk Q_HB
                              have HO245 := Aside0.mk (Q_HO245 (hon 10 (by kernel_rfl)))
                              have HO248 := Aside0.mk (Q_HO248 (hon 13 (by kernel_rfl)))
                              refine goes_ Try.func40 (by kernel_rfl) rfl #[.int .u64 a4] (by first | rfl | (simp [Region.wanted, yielded, *]; done)) rfl rfl (by first | (simp only [List.map_toArray, List.map_cons, List.map_nil, Act.eval, Array.getD_eq_getD_getElem?, Option.getD_some, e101, e100]; done) | (simp only [List.map_toArray, List.map_cons, List.map_nil, Act.eval, Array.getD_eq_getD_getElem?, Option.getD_some, e101, e100]; rfl)) ?_
                              with_reducible refine (word_Least.calls kj39 a4 t249 _ A54.out).mono ?_
                              rintro e w62 ⟨v250, rfl, ho0, hb⟩
                              refine ⟨_, rfl, ?_⟩
                              have n0_ := Aside0.mk (Kd.R_elder' (by (with_reducible repeat (first | apply Kd.R_alloc | apply Kd.R_drewN | apply Kd.R_drew)); exact HO245.out) (Kd.R_base ho0) hb)
                              have n1_ := Aside0.mk (Kd.R_elder' (by (with_reducible repeat (first | apply Kd.R_alloc | apply Kd.R_drewN | apply Kd.R_drew)); exact HO248.out) (Kd.R_base ho0) hb)
                              have n2_ := Aside0.mk (Kd.R_lower (Kd.R_new' (Kd.R_new' ho0 (Kd.R_lt (by (with_reducible repeat (first | apply Kd.R_alloc | apply Kd.R_drewN | apply Kd.R_drew)); exact HO245.out))) (Kd.R_lt (by (with_reducible repeat (first | apply Kd.R_alloc | apply Kd.R_drewN | apply Kd.R_drew)); exact HO248.out))) (below_size (by repeat (first | (with_reducible first | exact HB.out | apply below_alloc | apply pw_below_drewN | apply below_drew1) | exact HB.out))))
                              have n3_ := Aside0.mk (below_step (by repeat (first | (with_reducible first | exact HB.out | apply below_alloc | apply pw_below_drewN | apply below_drew1) | exact HB.out)) hb)
                              clear HO245
                              clear HO248
                              clear HB
                              have HO245 := n0_
                              have HO248 := n1_
                              have HO251 := n2_
                              have HB := n3_
                              clear n0_ n1_ n2_ n3_
                              (try clear hb)
                              (try clear hb2)
                              (try clear hk)
                              (try clear hi)
                              (try clear ho0)
                              refine hK.out _ _ ⟨v244, v247, v250, v253, (by rw [ha.out]; exact putSel_upk 17 hb_ rfl rfl rfl), (by repeat (first | (with_reducible first | exact HB.out | apply below_alloc | apply pw_below_drewN | apply below_drew1) | exact HB.out)), fun _ => (by (with_reducible repeat (first | apply Kd.R_alloc | apply Kd.R_drewN | apply Kd.R_drew)); first | exact HO245.out | exact Kd.R_mono (HO245.out) (fun _ hk => by first | trivial | exact hk | exact hk.1 | exact hk.2 | (simp_all; done))), fun _ => (by (with_reducible repeat (first | apply Kd.R_alloc | apply Kd.R_drewN | apply Kd.R_drew)); first | exact HO248.out | exact Kd.R_mono (HO248.out) (fun _ hk => by first | trivial | exact hk | exact hk.1 | exact hk.2 | (simp_all; done))), fun _ => (by (with_reducible repeat (first | apply Kd.R_alloc | apply Kd.R_drewN | apply Kd.R_drew)); first | exact Kd.R_mono HO251.out (fun _ hk => ⟨hk.1.2, hk.2⟩) | exact Kd.R_mono (HO251.out) (fun _ hk => by first | trivial | exact hk | exact hk.1 | exact hk.2 | (simp_all; done))), fun h0_ => absurd ((hoff 22 (by kernel_rfl)).symm.trans h0_) (by decide)⟩
                            refine steps_cons ?_ ?_
                            · rintro b a w' ⟨v244, v247, v250, v253, ha, Q_HB, Q_HO245, Q_HO248, Q_HO251, Q_HO254⟩ hb_ hon hoff
                              refine ⟨_, rfl, fun K hK => ?_⟩
                              have e102 : a.tmps[102]? = some (v250) := by rw [ha]; exact putSel_on (e := (19, 102, v250)) 17 rfl rfl (hon 19 (by kernel_rfl)) rfl
                              have e100 : a.tmps[100]? = some (.bool ((strOfNums t243).toList == (strOfNums t246).toList)) := by rw [ha]; exact putSel_on (e := (17, 100, .bool ((strOfNums t243).toList == (strOfNums t246).toList))) 15 rfl rfl (hon 17 (by kernel_rfl)) rfl
                              replace ha := Aside0.mk ha
                              have HB := Aside0.mk Q_HB
                              have HO245 := Aside0.mk (Q_HO245 (hon 10 (by kernel_rfl)))
                              have HO248 := Aside0.mk (Q_HO248 (hon 13 (by kernel_rfl)))
                              have HO251 := Aside0.mk (Q_HO251 (hon 19 (by kernel_rfl)))
                              refine str_step (src := 22) (dst := 9) (x := .tmp 102) ?hw ?ho ?hx (v := v250) (s := strOfNums t249) (by obtain ⟨A_, c_, rfl⟩ := Kd.R_slice HO251.out; exact Kd.C_string (P := Try.prog) (A := A_) (c := c_) Try.underlying22 Try.underlying5 Try.underlying9 (Kd.R_reads' (by (with_reducible repeat (first | apply Kd.R_alloc | apply Kd.R_drewN | apply Kd.R_drew)); exact HO251.out)).2.2) ?_
                              case ho => rfl
                              case hw => first | rfl | (simp [Region.wanted, yielded, *]; done)
                              case hx => first | rfl | (simp only [Act.eval, Array.getD_eq_getD_getElem?, Option.getD_some, e102]; done)
                              intro w63 hb
                              have n0_ := Aside0.mk (Kd.R_below (by (with_reducible repeat (first | apply Kd.R_alloc | apply Kd.R_drewN | apply Kd.R_drew)); exact HO245.out) hb)
                              have n1_ := Aside0.mk (Kd.R_below (by (with_reducible repeat (first | apply Kd.R_alloc | apply Kd.R_drewN | apply Kd.R_drew)); exact HO248.out) hb)
                              have n2_ := Aside0.mk (Kd.R_below (by (with_reducible repeat (first | apply Kd.R_alloc | apply Kd.R_drewN | apply Kd.R_drew)); exact HO251.out) hb)
                              have n3_ := Aside0.mk (below_step (by repeat (first | (with_reducible first | exact HB.out | apply below_alloc | apply pw_below_drewN | apply below_drew1) | exact HB.out)) hb)
                              have z_HO254 := fun (h0_ : b 22 = true) => (show Kd.R (Kd.int .u8) 5 w63 w.heap.size (fun _ => True) v253 t252 from by first | exact (Kd.R_below (by (with_reducible repeat (first | apply Kd.R_alloc | apply Kd.R_drewN | apply Kd.R_drew)); exact (Q_HO254 h0_)) hb) | exact Kd.R_mono (Kd.R_below (by (with_reducible repeat (first | apply Kd.R_alloc | apply Kd.R_drewN | apply Kd.R_drew)); exact (Q_HO254 h0_)) hb) (fun _ h_ => by first | trivial | exact h_ | exact h_.1))
                              clear HO245
                              clear HO248
                              clear HO251
                              clear HB
                              have HO245 := n0_
                              have HO248 := n1_
                              have HO251 := n2_
                              have HB := n3_
                              clear n0_ n1_ n2_ n3_
                              (try clear hb)
                              refine hK.out _ _ ⟨v244, v247, v250, v253, (by rw [ha.out]; exact putSel_upk 18 hb_ rfl rfl rfl), (by repeat (first | (with_reducible first | exact HB.out | apply below_alloc | apply pw_below_drewN | apply below_drew1) | exact HB.out)), fun _ => (by (with_reducible repeat (first | apply Kd.R_alloc | apply Kd.R_drewN | apply Kd.R_drew)); first | exact HO245.out | exact Kd.R_mono (HO245.out) (fun _ hk => by first | trivial | exact hk | exact hk.1 | exact hk.2 | (simp_all; done))), fun _ => (by (with_reducible repeat (first | apply Kd.R_alloc | apply Kd.R_drewN | apply Kd.R_drew)); first | exact HO248.out | exact Kd.R_mono (HO248.out) (fun _ hk => by first | trivial | exact hk | exact hk.1 | exact hk.2 | (simp_all; done))), fun _ => (by (with_reducible repeat (first | apply Kd.R_alloc | apply Kd.R_drewN | apply Kd.R_drew)); first | exact HO251.out | exact Kd.R_mono (HO251.out) (fun _ hk => by first | trivial | exact hk | exact hk.1 | exact hk.2 | (simp_all; done))), z_HO254⟩
                            refine steps_cons ?_ ?_
                            · rintro b a w' ⟨v244, v247, v250, v253, ha, Q_HB, Q_HO245, Q_HO248, Q_HO251, Q_HO254⟩ hb_ hon hoff
                              refine ⟨_, rfl, fun K hK => ?_⟩
                              have e4 : a.tmps[4]? = some (.int .u64 a4) := by rw [ha]; exact (putSel_off rfl).trans rfl
                              have e100 : a.tmps[100]? = some (.bool ((strOfNums t243).toList == (strOfNums t246).toList)) := by rw [ha]; exact putSel_on (e := (17, 100, .bool ((strOfNums t243).toList == (strOfNums t246).toList))) 15 rfl rfl (hon 17 (by kernel_rfl)) rfl
                              replace ha := Aside0.mk ha
                              have HB := Aside0.mk Q_HB
                              have HO245 := Aside0.mk (Q_HO245 (hon 10 (by kernel_rfl)))
                              have HO248 := Aside0.mk (Q_HO248 (hon 13 (by kernel_rfl)))
                              refine value_ (w1 := w') (v := .int .u64 a4) (wanted_on rfl rfl rfl (e100.trans (by first | rfl | (simp [*]; done)))) rfl ?_ ?_
                              · go_simp
                                (try simp only [i64_w])
                                try rfl
                              refine hK.out _ _ ⟨v244, v247, v250, v253, (by rw [ha.out]; exact putSel_upk 19 hb_ rfl rfl rfl), Q_HB, Q_HO245, Q_HO248, Q_HO251, fun h0_ => absurd ((hoff 22 (by kernel_rfl)).symm.trans h0_) (by decide)⟩
                            refine steps_cons ?_ ?_
                            · rintro b a w' ⟨v244, v247, v250, v253, ha, Q_HB, Q_HO245, Q_HO248, Q_HO251, Q_HO254⟩ hb_ hon hoff
                              refine ⟨_, rfl, fun K hK => ?_⟩
                              have e104 : a.tmps[104]? = some (.int .u64 a4) := by rw [ha]; exact putSel_on (e := (21, 104, .int .u64 a4)) 19 rfl rfl (hon 21 (by kernel_rfl)) rfl
                              have e100 : a.tmps[100]? = some (.bool ((strOfNums t243).toList == (strOfNums t246).toList)) := by rw [ha]; exact putSel_on (e := (17, 100, .bool ((strOfNums t243).toList == (strOfNums t246).toList))) 15 rfl rfl (hon 17 (by kernel_rfl)) rfl
                              replace ha := Aside0.mk ha
                              have HB := Aside0.mk Q_HB
                              have HO245 := Aside0.mk (Q_HO245 (hon 10 (by kernel_rfl)))
                              have HO248 := Aside0.mk (Q_HO248 (hon 13 (by kernel_rfl)))
                              have HO251 := Aside0.mk (Q_HO251 (hon 19 (by kernel_rfl)))
                              refine goes_ Try.func41 (by kernel_rfl) rfl #[.int .u64 a4] (by first | rfl | (simp [Region.wanted, yielded, *]; done)) rfl rfl (by first | (simp only [List.map_toArray, List.map_cons, List.map_nil, Act.eval, Array.getD_eq_getD_getElem?, Option.getD_some, e104, e100]; done) | (simp only [List.map_toArray, List.map_cons, List.map_nil, Act.eval, Array.getD_eq_getD_getElem?, Option.getD_some, e104, e100]; rfl)) ?_
                              with_reducible refine (wristbandref01_Least.calls kj39 a4 t252 _ A55.out).mono ?_
                              rintro e w63 ⟨v253, rfl, ho0, hb⟩
                              refine ⟨_, rfl, ?_⟩
                              have n0_ := Aside0.mk (Kd.R_elder' (by (with_reducible repeat (first | apply Kd.R_alloc | apply Kd.R_drewN | apply Kd.R_drew)); exact HO245.out) (Kd.R_base ho0) hb)
                              have n1_ := Aside0.mk (Kd.R_elder' (by (with_reducible repeat (first | apply Kd.R_alloc | apply Kd.R_drewN | apply Kd.R_drew)); exact HO248.out) (Kd.R_base ho0) hb)
                              have n2_ := Aside0.mk (Kd.R_elder' (by (with_reducible repeat (first | apply Kd.R_alloc | apply Kd.R_drewN | apply Kd.R_drew)); exact HO251.out) (Kd.R_base ho0) hb)
                              have n3_ := Aside0.mk (Kd.R_lower (Kd.R_new' (Kd.R_new' (Kd.R_new' ho0 (Kd.R_lt (by (with_reducible repeat (first | apply Kd.R_alloc | apply Kd.R_drewN | apply Kd.R_drew)); exact HO245.out))) (Kd.R_lt (by (with_reducible repeat (first | apply Kd.R_alloc | apply Kd.R_drewN | apply Kd.R_drew)); exact HO248.out))) (Kd.R_lt (by (with_reducible repeat (first | apply Kd.R_alloc | apply Kd.R_drewN | apply Kd.R_drew)); exact HO251.out))) (below_size (by repeat (first | (with_reducible first | exact HB.out | apply below_alloc | apply pw_below_drewN | apply below_drew1) | exact HB.out))))
                              have n4_ := Aside0.mk (below_step (by repeat (first | (with_reducible first | exact HB.out | apply below_alloc | apply pw_below_drewN | apply below_drew1) | exact HB.out)) hb)
                              clear HO245
                              clear HO248
                              clear HO251
                              clear HB
                              have HO245 := n0_
                              have HO248 := n1_
                              have HO251 := n2_
                              have HO254 := n3_
                              have HB := n4_
                              clear n0_ n1_ n2_ n3_ n4_
                              (try clear hb)
                              (try clear hb2)
                              (try clear hk)
                              (try clear hi)
                              (try clear ho0)
                              refine hK.out _ _ ⟨v244, v247, v250, v253, (by rw [ha.out]; exact putSel_upk 20 hb_ rfl rfl rfl), (by repeat (first | (with_reducible first | exact HB.out | apply below_alloc | apply pw_below_drewN | apply below_drew1) | exact HB.out)), fun _ => (by (with_reducible repeat (first | apply Kd.R_alloc | apply Kd.R_drewN | apply Kd.R_drew)); first | exact Kd.R_mono HO245.out (fun _ hk => ⟨hk.1.1, ⟨hk.1.2, hk.2⟩⟩) | exact Kd.R_mono (HO245.out) (fun _ hk => by first | trivial | exact hk | exact hk.1 | exact hk.2 | (simp_all; done))), fun _ => (by (with_reducible repeat (first | apply Kd.R_alloc | apply Kd.R_drewN | apply Kd.R_drew)); first | exact Kd.R_mono HO248.out (fun _ hk => ⟨hk.1.1, ⟨hk.1.2, hk.2⟩⟩) | exact Kd.R_mono (HO248.out) (fun _ hk => by first | trivial | exact hk | exact hk.1 | exact hk.2 | (simp_all; done))), fun _ => (by (with_reducible repeat (first | apply Kd.R_alloc | apply Kd.R_drewN | apply Kd.R_drew)); first | exact Kd.R_mono HO251.out (fun _ hk => ⟨hk.1.1, ⟨hk.1.2, hk.2⟩⟩) | exact Kd.R_mono (HO251.out) (fun _ hk => by first | trivial | exact hk | exact hk.1 | exact hk.2 | (simp_all; done))), fun _ => (by (with_reducible repeat (first | apply Kd.R_alloc | apply Kd.R_drewN | apply Kd.R_drew)); first | exact Kd.R_mono HO254.out (fun _ hk => ⟨hk.1.1.2, ⟨hk.1.2, hk.2⟩⟩) | exact Kd.R_mono (HO254.out) (fun _ hk => by first | trivial | exact hk | exact hk.1 | exact hk.2 | (simp_all; done)))⟩
                            refine steps_cons ?_ ?_
                            · rintro b a w' ⟨v244, v247, v250, v253, ha, Q_HB, Q_HO245, Q_HO248, Q_HO251, Q_HO254⟩ hb_ hon hoff
                              refine ⟨_, rfl, fun K hK => ?_⟩
                              have e105 : a.tmps[105]? = some (v253) := by rw [ha]; exact putSel_on (e := (22, 105, v253)) 20 rfl rfl (hon 22 (by kernel_rfl)) rfl
                              have e100 : a.tmps[100]? = some (.bool ((strOfNums t243).toList == (strOfNums t246).toList)) := by rw [ha]; exact putSel_on (e := (17, 100, .bool ((strOfNums t243).toList == (strOfNums t246).toList))) 15 rfl rfl (hon 17 (by kernel_rfl)) rfl
                              replace ha := Aside0.mk ha
                              have HB := Aside0.mk Q_HB
                              have HO245 := Aside0.mk (Q_HO245 (hon 10 (by kernel_rfl)))
                              have HO248 := Aside0.mk (Q_HO248 (hon 13 (by kernel_rfl)))
                              have HO251 := Aside0.mk (Q_HO251 (hon 19 (by kernel_rfl)))
                              have HO254 := Aside0.mk (Q_HO254 (hon 22 (by kernel_rfl)))
                              refine str_step (src := 22) (dst := 9) (x := .tmp 105) ?hw ?ho ?hx (v := v253) (s := strOfNums t252) (by obtain ⟨A_, c_, rfl⟩ := Kd.R_slice HO254.out; exact Kd.C_string (P := Try.prog) (A := A_) (c := c_) Try.underlying22 Try.underlying5 Try.underlying9 (Kd.R_reads' (by (with_reducible repeat (first | apply Kd.R_alloc | apply Kd.R_drewN | apply Kd.R_drew)); exact HO254.out)).2.2) ?_
                              case ho => rfl
                              case hw => first | rfl | (simp [Region.wanted, yielded, *]; done)
                              case hx => first | rfl | (simp only [Act.eval, Array.getD_eq_getD_getElem?, Option.getD_some, e105]; done)
                              intro w64 hb
                              have n0_ := Aside0.mk (Kd.R_below (by (with_reducible repeat (first | apply Kd.R_alloc | apply Kd.R_drewN | apply Kd.R_drew)); exact HO245.out) hb)
                              have n1_ := Aside0.mk (Kd.R_below (by (with_reducible repeat (first | apply Kd.R_alloc | apply Kd.R_drewN | apply Kd.R_drew)); exact HO248.out) hb)
                              have n2_ := Aside0.mk (Kd.R_below (by (with_reducible repeat (first | apply Kd.R_alloc | apply Kd.R_drewN | apply Kd.R_drew)); exact HO251.out) hb)
                              have n3_ := Aside0.mk (Kd.R_below (by (with_reducible repeat (first | apply Kd.R_alloc | apply Kd.R_drewN | apply Kd.R_drew)); exact HO254.out) hb)
                              have n4_ := Aside0.mk (below_step (by repeat (first | (with_reducible first | exact HB.out | apply below_alloc | apply pw_below_drewN | apply below_drew1) | exact HB.out)) hb)
                              clear HO245
                              clear HO248
                              clear HO251
                              clear HO254
                              clear HB
                              have HO245 := n0_
                              have HO248 := n1_
                              have HO251 := n2_
                              have HO254 := n3_
                              have HB := n4_
                              clear n0_ n1_ n2_ n3_ n4_
                              (try clear hb)
                              refine hK.out _ _ ⟨v244, v247, v250, v253, (by rw [ha.out]; exact putSel_upk 21 hb_ rfl rfl rfl), (by repeat (first | (with_reducible first | exact HB.out | apply below_alloc | apply pw_below_drewN | apply below_drew1) | exact HB.out)), fun _ => (by (with_reducible repeat (first | apply Kd.R_alloc | apply Kd.R_drewN | apply Kd.R_drew)); first | exact HO245.out | exact Kd.R_mono (HO245.out) (fun _ hk => by first | trivial | exact hk | exact hk.1 | exact hk.2 | (simp_all; done))), fun _ => (by (with_reducible repeat (first | apply Kd.R_alloc | apply Kd.R_drewN | apply Kd.R_drew)); first | exact HO248.out | exact Kd.R_mono (HO248.out) (fun _ hk => by first | trivial | exact hk | exact hk.1 | exact hk.2 | (simp_all; done))), fun _ => (by (with_reducible repeat (first | apply Kd.R_alloc | apply Kd.R_drewN | apply Kd.R_drew)); first | exact HO251.out | exact Kd.R_mono (HO251.out) (fun _ hk => by first | trivial | exact hk | exact hk.1 | exact hk.2 | (simp_all; done))), fun _ => (by (with_reducible repeat (first | apply Kd.R_alloc | apply Kd.R_drewN | apply Kd.R_drew)); first | exact HO254.out | exact Kd.R_mono (HO254.out) (fun _ hk => by first | trivial | exact hk | exact hk.1 | exact hk.2 | (simp_all; done)))⟩
                            refine steps_cons ?_ ?_
                            · rintro b a w' ⟨v244, v247, v250, v253, ha, Q_HB, Q_HO245, Q_HO248, Q_HO251, Q_HO254⟩ hb_ hon hoff
                              refine ⟨_, rfl, fun K hK => ?_⟩
                              have e103 : a.tmps[103]? = some (.string (strOfNums t249)) := by rw [ha]; exact putSel_on (e := (20, 103, .string (strOfNums t249))) 18 rfl rfl (hon 20 (by kernel_rfl)) rfl
                              have e106 : a.tmps[106]? = some (.string (strOfNums t252)) := by rw [ha]; exact putSel_on (e := (23, 106, .string (strOfNums t252))) 21 rfl rfl (hon 23 (by kernel_rfl)) rfl
                              have e100 : a.tmps[100]? = some (.bool ((strOfNums t243).toList == (strOfNums t246).toList)) := by rw [ha]; exact putSel_on (e := (17, 100, .bool ((strOfNums t243).toList == (strOfNums t246).toList))) 15 rfl rfl (hon 17 (by kernel_rfl)) rfl
                              replace ha := Aside0.mk ha
                              have HB := Aside0.mk Q_HB
                              have HO245 := Aside0.mk (Q_HO245 (hon 10 (by kernel_rfl)))
                              have HO248 := Aside0.mk (Q_HO248 (hon 13 (by kernel_rfl)))
                              have HO251 := Aside0.mk (Q_HO251 (hon 19 (by kernel_rfl)))
                              have HO254 := Aside0.mk (Q_HO254 (hon 22 (by kernel_rfl)))
                              refine value_ (w1 := w') (v := .bool ((strOfNums t249).toList == (strOfNums t252).toList)) (wanted_on rfl rfl rfl (e100.trans (by first | rfl | (simp [*]; done)))) rfl ?_ ?_
                              · go_simp
                                (try simp only [i64_w])
                                try rfl
                              refine hK.out _ _ ⟨v244, v247, v250, v253, (by rw [ha.out]; exact putSel_upk 22 hb_ rfl rfl rfl), Q_HB, Q_HO245, Q_HO248, Q_HO251, Q_HO254⟩
                            refine steps_cons ?_ ?_
                            · rintro b a w' ⟨v244, v247, v250, v253, ha, Q_HB, Q_HO245, Q_HO248, Q_HO251, Q_HO254⟩ hb_ hon hoff
                              refine ⟨_, rfl, fun K hK => ?_⟩
                              have e100 : a.tmps[100]? = some (.bool ((strOfNums t243).toList == (strOfNums t246).toList)) := by rw [ha]; exact putSel_on (e := (17, 100, .bool ((strOfNums t243).toList == (strOfNums t246).toList))) 15 rfl rfl (hon 17 (by kernel_rfl)) rfl
                              have e107 : a.tmps[107]? = some (.bool ((strOfNums t249).toList == (strOfNums t252).toList)) := by rw [ha]; exact putSel_on (e := (24, 107, .bool ((strOfNums t249).toList == (strOfNums t252).toList))) 22 rfl rfl (hon 24 (by kernel_rfl)) rfl
                              replace ha := Aside0.mk ha
                              have HB := Aside0.mk Q_HB
                              have HO245 := Aside0.mk (Q_HO245 (hon 10 (by kernel_rfl)))
                              have HO248 := Aside0.mk (Q_HO248 (hon 13 (by kernel_rfl)))
                              have HO251 := Aside0.mk (Q_HO251 (hon 19 (by kernel_rfl)))
                              have HO254 := Aside0.mk (Q_HO254 (hon 22 (by kernel_rfl)))
                              refine value_ (w1 := w') (v := .bool ((strOfNums t249).toList == (strOfNums t252).toList)) (by rfl) rfl ?_ ?_
                              · go_simp
                                (try simp only [i64_w])
                                try rfl
                              refine hK.out _ _ ⟨v244, v247, v250, v253, (by rw [ha.out]; exact putSel_upk 23 hb_ rfl rfl rfl), Q_HB, Q_HO245, Q_HO248, Q_HO251, Q_HO254⟩
                            refine steps_cons ?_ ?_
                            · rintro b a w' ⟨v244, v247, v250, v253, ha, Q_HB, Q_HO245, Q_HO248, Q_HO251, Q_HO254⟩ hb_ hon hoff
                              refine ⟨_, rfl, fun K hK => ?_⟩
                              have e108 : a.tmps[108]? = some (.bool ((strOfNums t249).toList == (strOfNums t252).toList)) := by rw [ha]; exact putSel_on (e := (25, 108, .bool ((strOfNums t249).toList == (strOfNums t252).toList))) 23 rfl rfl (hon 25 (by kernel_rfl)) rfl
                              replace ha := Aside0.mk ha
                              have HB := Aside0.mk Q_HB
                              have HO245 := Aside0.mk (Q_HO245 (hon 10 (by kernel_rfl)))
                              have HO248 := Aside0.mk (Q_HO248 (hon 13 (by kernel_rfl)))
                              have HO251 := Aside0.mk (Q_HO251 (hon 19 (by kernel_rfl)))
                              have HO254 := Aside0.mk (Q_HO254 (hon 22 (by kernel_rfl)))
                              refine value_ (w1 := w') (v := .bool ((strOfNums t249).toList == (strOfNums t252).toList)) (by rfl) rfl ?_ ?_
                              · go_simp
                                (try simp only [i64_w])
                                try rfl
                              refine hK.out _ _ ⟨v244, v247, v250, v253, (by rw [ha.out]; exact putSel_upk 24 hb_ rfl rfl rfl), Q_HB, Q_HO245, Q_HO248, Q_HO251, Q_HO254⟩
                            exact steps_nil
                          rintro b a w65 hall ⟨v244, v247, v250, v253, ha, Q_HB, Q_HO245, Q_HO248, Q_HO251, Q_HO254⟩
                          clear HB
                          have hb2_ := hall 2 (by kernel_rfl)
                          have hb3_ := hall 3 (by kernel_rfl)
                          have hb4_ := hall 4 (by kernel_rfl)
                          have hb5_ := hall 5 (by kernel_rfl)
                          have hb6_ := hall 6 (by kernel_rfl)
                          have hb7_ := hall 7 (by kernel_rfl)
                          have hb8_ := hall 8 (by kernel_rfl)
                          have hb9_ := hall 9 (by kernel_rfl)
                          have hb10_ := hall 10 (by kernel_rfl)
                          have hb11_ := hall 11 (by kernel_rfl)
                          have hb12_ := hall 12 (by kernel_rfl)
                          have hb13_ := hall 13 (by kernel_rfl)
                          have hb14_ := hall 14 (by kernel_rfl)
                          have hb15_ := hall 15 (by kernel_rfl)
                          have hb16_ := hall 16 (by kernel_rfl)
                          have hb17_ := hall 17 (by kernel_rfl)
                          have hb18_ := hall 18 (by kernel_rfl)
                          have hb19_ := hall 19 (by kernel_rfl)
                          have hb20_ := hall 20 (by kernel_rfl)
                          have hb21_ := hall 21 (by kernel_rfl)
                          have hb22_ := hall 22 (by kernel_rfl)
                          have hb23_ := hall 23 (by kernel_rfl)
                          have hb24_ := hall 24 (by kernel_rfl)
                          have hb25_ := hall 25 (by kernel_rfl)
                          have hb26_ := hall 26 (by kernel_rfl)
                          subst ha
                          simp only [putSel, hb2_, hb3_, hb4_, hb5_, hb6_, hb7_, hb8_, hb9_, hb10_, hb11_, hb12_, hb13_, hb14_, hb15_, hb16_, hb17_, hb18_, hb19_, hb20_, hb21_, hb22_, hb23_, hb24_, hb25_, hb26_, if_true, Act.put, List.setIfInBounds_toArray, List.set_cons_zero, List.set_cons_succ]
                          have HB := Aside0.mk Q_HB
                          clear Q_HB
                          have HO245 := Aside0.mk (Q_HO245 hb10_)
                          clear Q_HO245
                          have HO248 := Aside0.mk (Q_HO248 hb13_)
                          clear Q_HO248
                          have HO251 := Aside0.mk (Q_HO251 hb19_)
                          clear Q_HO251
                          have HO254 := Aside0.mk (Q_HO254 hb22_)
                          clear Q_HO254
                          clear hall hb2_ hb3_ hb4_ hb5_ hb6_ hb7_ hb8_ hb9_ hb10_ hb11_ hb12_ hb13_ hb14_ hb15_ hb16_ hb17_ hb18_ hb19_ hb20_ hb21_ hb22_ hb23_ hb24_ hb25_ hb26_
                          try go_wp2
                          go_ret
                          exact ⟨by first | rfl | (simp [errW_none, errW_some] <;> rfl) | (simp [*, errW_none, errW_some] <;> rfl), by repeat (first | (with_reducible first | exact HB.out | apply below_alloc | apply pw_below_drewN | apply below_drew1) | exact HB.out)⟩
                        · rw [if_neg c53] at H
                          have c53b0 : ((strOfNums t243).toList == (strOfNums t246).toList) = false := beq_eq_false_iff_ne.mpr c53
                          have c53b1 : ((strOfNums t243).toList != (strOfNums t246).toList) = true := bne_iff_ne.mpr c53
                          obtain rfl := Option.some.inj H
                          try go_wp2_with (first | ((with_reducible refine gate_callee (f := 36) rfl ?_); refine goesL_ (some 75) rfl rfl Try.func36 (by kernel_rfl) rfl #[.slice A2 l2.length c2] rfl (by (try simp only [List.map_toArray, List.map_cons, List.map_nil]); first | done | rfl | (simp only [List.length_drop, List.length_take]; rfl)) ?_; (with_reducible refine (word_FromLeast.calls kj39 _ _ l2 t239 t240 _ ?side1 ?side2 A47.out).mono ?_); (case side1 => repeat (first | exact (Kd.C_below HR2.out HB.out) | (with_reducible refine Kd.C_alloc ?_ _) | (with_reducible refine Kd.C_drewN ?_ _) | (with_reducible refine Kd.C_drew ?_))); (case side2 => exact HC2.out); rintro e w' ⟨rfl, ⟨nd, rfl⟩⟩; refine ⟨_, rfl, ?_⟩) | ((with_reducible refine gate_callee (f := 37) rfl ?_); refine goesL_ (some 80) rfl rfl Try.func37 (by kernel_rfl) rfl #[.slice A2 l2.length c2] rfl (by (try simp only [List.map_toArray, List.map_cons, List.map_nil]); first | done | rfl | (simp only [List.length_drop, List.length_take]; rfl)) ?_; (with_reducible refine (wristbandref01_FromLeast.calls kj39 _ _ l2 t241 t242 _ ?side1 ?side2 A48.out).mono ?_); (case side1 => repeat (first | exact (Kd.C_below HR2.out (by repeat (first | (with_reducible first | exact HB.out | apply below_alloc | apply pw_below_drewN | apply below_drew1) | exact HB.out))) | (with_reducible refine Kd.C_alloc ?_ _) | (with_reducible refine Kd.C_drewN ?_ _) | (with_reducible refine Kd.C_drew ?_))); (case side2 => exact HC2.out); rintro e w' ⟨rfl, ⟨nd, rfl⟩⟩; refine ⟨_, rfl, ?_⟩))
                          (try (rw [drewN_self wc]; generalize hq_ : World.drewN wc _ = wc; have n0_ : Aside0 (Below w.heap.size w wc) := ⟨by rw [← hq_]; exact (by repeat (first | (with_reducible first | exact HB.out | apply below_alloc | apply pw_below_drewN | apply below_drew1) | exact HB.out))⟩; clear HB hq_; have HB := n0_; clear n0_))
                          have n0_ := Aside0.mk (below_drew1 HB.out)
                          clear HB
                          have HB := n0_
                          clear n0_
                          refine start_ (n := 27) (S := fun w' => True) (ds := []) #[false, false, false, false, false, false, false, false, false, false, false, false, false, false, false, false, false, false, false, false, false, false, false, false, false, false, false] (by kernel_rfl) rfl rfl trivial (fun hHeld => ?_); refine with_tabW wristbandlaw01_WordRight.tab15 wristbandlaw01_WordRight.bits15 (fun HT_ HW_ => ?_)
                          generalize wc.drew = w66 at HB hHeld ⊢
                          refine pure_ (i := 0) (N := some 83) (v := ?_) (a' := ?_) #[true, false, false, false, false, false, false, false, false, false, false, false, false, false, false, false, false, false, false, false, false, false, false, false, false, false, false] rfl rfl (any_of HT_.out (by kernel_rfl)) (fun _ _ _ h => h) (Or.inl ⟨by rfl, ?_⟩) ?_ ?_
                          rotate_left
                          · intro w'
                            go_simp
                            with_reducible rfl
                          rotate_left
                          · simp only [Act.put, List.setIfInBounds_toArray, List.set_cons_zero, List.set_cons_succ, i64_w, i32_w]
                            rfl
                          refine pure_ (i := 1) (N := some 84) (v := ?_) (a' := ?_) #[true, true, false, false, false, false, false, false, false, false, false, false, false, false, false, false, false, false, false, false, false, false, false, false, false, false, false] rfl rfl (any_of HT_.out (by kernel_rfl)) (fun _ _ _ h => h) (Or.inl ⟨by rfl, ?_⟩) ?_ ?_
                          rotate_left
                          · intro w'
                            go_simp
                            with_reducible rfl
                          rotate_left
                          · simp only [Act.put, List.setIfInBounds_toArray, List.set_cons_zero, List.set_cons_succ, i64_w, i32_w]
                            rfl
                          refine inv_at [2, 3, 4, 5, 6, 7, 8, 9, 10, 11, 12, 13, 14, 15, 16, 17, 18, 19, 20, 21, 22, 23, 24, 25, 26] (fun a0_ b a w' => ∃ (v244 : Value) (v247 : Value), a = putSel a0_ b [(2, 85, .bool (t239 == t241)), (3, 86, .bool (t239 == t241)), (4, 87, .int .i64 t240), (5, 88, .int .i64 t242), (6, 89, .bool (t240 == t242)), (7, 90, .bool (t240 == t242)), (8, 91, .bool (t240 == t242)), (9, 92, .int .u64 a4), (10, 93, v244), (11, 94, .string (strOfNums t243)), (12, 95, .int .u64 a4), (13, 96, v247), (14, 97, .string (strOfNums t246)), (15, 98, .bool ((strOfNums t243).toList == (strOfNums t246).toList)), (16, 99, .bool ((strOfNums t243).toList == (strOfNums t246).toList)), (17, 100, .bool ((strOfNums t243).toList == (strOfNums t246).toList)), (18, 101, undef), (19, 102, undef), (20, 103, undef), (21, 104, undef), (22, 105, undef), (23, 106, undef), (24, 107, undef), (25, 108, .bool false), (26, 10, .bool false)] ∧ (Below w.heap.size w w') ∧ (b 10 = true → Kd.R (Kd.int .u8) 5 w' w.heap.size (fun _ => True) v244 t243) ∧ (b 13 = true → Kd.R (Kd.int .u8) 5 w' w.heap.size (fun _ => True) v247 t246)) HT_.out HW_.out (by kernel_rfl) (by kernel_rfl) ?_ ?_ ?_
                          · exact ⟨.bool false, .bool false, by simp only [putSel, Bool.false_eq_true, if_false], HB.out, fun h_ => absurd h_ (by decide), fun h_ => absurd h_ (by decide)⟩
                          · skip
                            clear HB
                            refine steps_cons ?_ ?_
                            · rintro b a w' ⟨v244, v247, ha, Q_HB, Q_HO245, Q_HO248⟩ hb_ hon hoff
                              refine ⟨_, rfl, fun K hK => ?_⟩
                              have e83 : a.tmps[83]? = some (.int .u64 t239) := by rw [ha]; exact (putSel_off rfl).trans rfl
                              have e84 : a.tmps[84]? = some (.int .u64 t241) := by rw [ha]; exact (putSel_off rfl).trans rfl
                              replace ha := Aside0.mk ha
                              have HB := Aside0.mk Q_HB
                              refine value_ (w1 := w') (v := .bool (t239 == t241)) (by rfl) rfl ?_ ?_
                              · go_simp
                                (try simp only [i64_w])
                                try rfl
                              refine hK.out _ _ ⟨v244, v247, (by rw [ha.out]; exact putSel_upk 0 hb_ rfl rfl rfl), Q_HB, fun h0_ => absurd ((hoff 10 (by kernel_rfl)).symm.trans h0_) (by decide), fun h0_ => absurd ((hoff 13 (by kernel_rfl)).symm.trans h0_) (by decide)⟩
                            refine steps_cons ?_ ?_
                            · rintro b a w' ⟨v244, v247, ha, Q_HB, Q_HO245, Q_HO248⟩ hb_ hon hoff
                              refine ⟨_, rfl, fun K hK => ?_⟩
                              have e85 : a.tmps[85]? = some (.bool (t239 == t241)) := by rw [ha]; exact putSel_on (e := (2, 85, .bool (t239 == t241))) 0 rfl rfl (hon 2 (by kernel_rfl)) rfl
                              replace ha := Aside0.mk ha
                              have HB := Aside0.mk Q_HB
                              refine value_ (w1 := w') (v := .bool (t239 == t241)) (by rfl) rfl ?_ ?_
                              · go_simp
                                (try simp only [i64_w])
                                try rfl
                              refine hK.out _ _ ⟨v244, v247, (by rw [ha.out]; exact putSel_upk 1 hb_ rfl rfl rfl), Q_HB, fun h0_ => absurd ((hoff 10 (by kernel_rfl)).symm.trans h0_) (by decide), fun h0_ => absurd ((hoff 13 (by kernel_rfl)).symm.trans h0_) (by decide)⟩
                            refine steps_cons ?_ ?_
                            · rintro b a w' ⟨v244, v247, ha, Q_HB, Q_HO245, Q_HO248⟩ hb_ hon hoff
                              refine ⟨_, rfl, fun K hK => ?_⟩
                              have e14 : a.tmps[14]? = some (.int .i64 t240) := by rw [ha]; exact (putSel_off rfl).trans rfl
                              have e86 : a.tmps[86]? = some (.bool (t239 == t241)) := by rw [ha]; exact putSel_on (e := (3, 86, .bool (t239 == t241))) 1 rfl rfl (hon 3 (by kernel_rfl)) rfl
                              replace ha := Aside0.mk ha
                              have HB := Aside0.mk Q_HB
                              refine value_ (w1 := w') (v := .int .i64 t240) (wanted_on rfl rfl rfl (e86.trans (by first | rfl | (simp [*]; done)))) rfl ?_ ?_
                              · go_simp
                                (try simp only [i64_w])
                                try rfl
                              refine hK.out _ _ ⟨v244, v247, (by rw [ha.out]; exact putSel_upk 2 hb_ rfl rfl rfl), Q_HB, fun h0_ => absurd ((hoff 10 (by kernel_rfl)).symm.trans h0_) (by decide), fun h0_ => absurd ((hoff 13 (by kernel_rfl)).symm.trans h0_) (by decide)⟩
                            refine steps_cons ?_ ?_
                            · rintro b a w' ⟨v244, v247, ha, Q_HB, Q_HO245, Q_HO248⟩ hb_ hon hoff
                              refine ⟨_, rfl, fun K hK => ?_⟩
                              have e16 : a.tmps[16]? = some (.int .i64 t242) := by rw [ha]; exact (putSel_off rfl).trans rfl
                              have e86 : a.tmps[86]? = some (.bool (t239 == t241)) := by rw [ha]; exact putSel_on (e := (3, 86, .bool (t239 == t241))) 1 rfl rfl (hon 3 (by kernel_rfl)) rfl
                              replace ha := Aside0.mk ha
                              have HB := Aside0.mk Q_HB
                              refine value_ (w1 := w') (v := .int .i64 t242) (wanted_on rfl rfl rfl (e86.trans (by first | rfl | (simp [*]; done)))) rfl ?_ ?_
                              · go_simp
                                (try simp only [i64_w])
                                try rfl
                              refine hK.out _ _ ⟨v244, v247, (by rw [ha.out]; exact putSel_upk 3 hb_ rfl rfl rfl), Q_HB, fun h0_ => absurd ((hoff 10 (by kernel_rfl)).symm.trans h0_) (by decide), fun h0_ => absurd ((hoff 13 (by kernel_rfl)).symm.trans h0_) (by decide)⟩
                            refine steps_cons ?_ ?_
                            · rintro b a w' ⟨v244, v247, ha, Q_HB, Q_HO245, Q_HO248⟩ hb_ hon hoff
                              refine ⟨_, rfl, fun K hK => ?_⟩
                              have e87 : a.tmps[87]? = some (.int .i64 t240) := by rw [ha]; exact putSel_on (e := (4, 87, .int .i64 t240)) 2 rfl rfl (hon 4 (by kernel_rfl)) rfl
                              have e88 : a.tmps[88]? = some (.int .i64 t242) := by rw [ha]; exact putSel_on (e := (5, 88, .int .i64 t242)) 3 rfl rfl (hon 5 (by kernel_rfl)) rfl
                              have e86 : a.tmps[86]? = some (.bool (t239 == t241)) := by rw [ha]; exact putSel_on (e := (3, 86, .bool (t239 == t241))) 1 rfl rfl (hon 3 (by kernel_rfl)) rfl
                              replace ha := Aside0.mk ha
                              have HB := Aside0.mk Q_HB
                              refine value_ (w1 := w') (v := .bool (t240 == t242)) (wanted_on rfl rfl rfl (e86.trans (by first | rfl | (simp [*]; done)))) rfl ?_ ?_
                              · go_simp
                                (try simp only [i64_w])
                                try rfl
                              refine hK.out _ _ ⟨v244, v247, (by rw [ha.out]; exact putSel_upk 4 hb_ rfl rfl rfl), Q_HB, fun h0_ => absurd ((hoff 10 (by kernel_rfl)).symm.trans h0_) (by decide), fun h0_ => absurd ((hoff 13 (by kernel_rfl)).symm.trans h0_) (by decide)⟩
                            refine steps_cons ?_ ?_
                            · rintro b a w' ⟨v244, v247, ha, Q_HB, Q_HO245, Q_HO248⟩ hb_ hon hoff
                              refine ⟨_, rfl, fun K hK => ?_⟩
                              have e86 : a.tmps[86]? = some (.bool (t239 == t241)) := by rw [ha]; exact putSel_on (e := (3, 86, .bool (t239 == t241))) 1 rfl rfl (hon 3 (by kernel_rfl)) rfl
                              have e89 : a.tmps[89]? = some (.bool (t240 == t242)) := by rw [ha]; exact putSel_on (e := (6, 89, .bool (t240 == t242))) 4 rfl rfl (hon 6 (by kernel_rfl)) rfl
                              replace ha := Aside0.mk ha
                              have HB := Aside0.mk Q_HB
                              refine value_ (w1 := w') (v := .bool (t240 == t242)) (by rfl) rfl ?_ ?_
                              · go_simp
                                (try simp only [i64_w])
                                try rfl
                              refine hK.out _ _ ⟨v244, v247, (by rw [ha.out]; exact putSel_upk 5 hb_ rfl rfl rfl), Q_HB, fun h0_ => absurd ((hoff 10 (by kernel_rfl)).symm.trans h0_) (by decide), fun h0_ => absurd ((hoff 13 (by kernel_rfl)).symm.trans h0_) (by decide)⟩
                            refine steps_cons ?_ ?_
                            · rintro b a w' ⟨v244, v247, ha, Q_HB, Q_HO245, Q_HO248⟩ hb_ hon hoff
                              refine ⟨_, rfl, fun K hK => ?_⟩
                              have e90 : a.tmps[90]? = some (.bool (t240 == t242)) := by rw [ha]; exact putSel_on (e := (7, 90, .bool (t240 == t242))) 5 rfl rfl (hon 7 (by kernel_rfl)) rfl
                              replace ha := Aside0.mk ha
                              have HB := Aside0.mk Q_HB
                              refine value_ (w1 := w') (v := .bool (t240 == t242)) (by rfl) rfl ?_ ?_
                              · go_simp
                                (try simp only [i64_w])
                                try rfl
                              refine hK.out _ _ ⟨v244, v247, (by rw [ha.out]; exact putSel_upk 6 hb_ rfl rfl rfl), Q_HB, fun h0_ => absurd ((hoff 10 (by kernel_rfl)).symm.trans h0_) (by decide), fun h0_ => absurd ((hoff 13 (by kernel_rfl)).symm.trans h0_) (by decide)⟩
                            refine steps_cons ?_ ?_
                            · rintro b a w' ⟨v244, v247, ha, Q_HB, Q_HO245, Q_HO248⟩ hb_ hon hoff
                              refine ⟨_, rfl, fun K hK => ?_⟩
                              have e4 : a.tmps[4]? = some (.int .u64 a4) := by rw [ha]; exact (putSel_off rfl).trans rfl
                              have e91 : a.tmps[91]? = some (.bool (t240 == t242)) := by rw [ha]; exact putSel_on (e := (8, 91, .bool (t240 == t242))) 6 rfl rfl (hon 8 (by kernel_rfl)) rfl
                              replace ha := Aside0.mk ha
                              have HB := Aside0.mk Q_HB
                              refine value_ (w1 := w') (v := .int .u64 a4) (wanted_on rfl rfl rfl (e91.trans (by first | rfl | (simp [*]; done)))) rfl ?_ ?_
                              · go_simp
                                (try simp only [i64_w])
                                try rfl
                              refine hK.out _ _ ⟨v244, v247, (by rw [ha.out]; exact putSel_upk 7 hb_ rfl rfl rfl), Q_HB, fun h0_ => absurd ((hoff 10 (by kernel_rfl)).symm.trans h0_) (by decide), fun h0_ => absurd ((hoff 13 (by kernel_rfl)).symm.trans h0_) (by decide)⟩
                            refine steps_cons ?_ ?_
                            · rintro b a w' ⟨v244, v247, ha, Q_HB, Q_HO245, Q_HO248⟩ hb_ hon hoff
                              refine ⟨_, rfl, fun K hK => ?_⟩
                              have e92 : a.tmps[92]? = some (.int .u64 a4) := by rw [ha]; exact putSel_on (e := (9, 92, .int .u64 a4)) 7 rfl rfl (hon 9 (by kernel_rfl)) rfl
                              have e91 : a.tmps[91]? = some (.bool (t240 == t242)) := by rw [ha]; exact putSel_on (e := (8, 91, .bool (t240 == t242))) 6 rfl rfl (hon 8 (by kernel_rfl)) rfl
                              replace ha := Aside0.mk ha
                              have HB := Aside0.mk Q_HB
                              refine goes_ Try.func38 (by kernel_rfl) rfl #[.int .u64 a4] (by first | rfl | (simp [Region.wanted, yielded, *]; done)) rfl rfl (by first | (simp only [List.map_toArray, List.map_cons, List.map_nil, Act.eval, Array.getD_eq_getD_getElem?, Option.getD_some, e92, e91]; done) | (simp only [List.map_toArray, List.map_cons, List.map_nil, Act.eval, Array.getD_eq_getD_getElem?, Option.getD_some, e92, e91]; rfl)) ?_
                              with_reducible refine (word_Put.calls kj39 a4 t243 _ A51.out).mono ?_
                              rintro e w67 ⟨v244, rfl, ho0, hb⟩
                              refine ⟨_, rfl, ?_⟩
                              have n0_ := Aside0.mk (Kd.R_lower ho0 (below_size (by repeat (first | (with_reducible first | exact HB.out | apply below_alloc | apply pw_below_drewN | apply below_drew1) | exact HB.out))))
                              have n1_ := Aside0.mk (below_step (by repeat (first | (with_reducible first | exact HB.out | apply below_alloc | apply pw_below_drewN | apply below_drew1) | exact HB.out)) hb)
                              clear HB
                              have HO245 := n0_
                              have HB := n1_
                              clear n0_ n1_
                              (try clear hb)
                              (try clear hb2)
                              (try clear hk)
                              (try clear hi)
                              (try clear ho0)
                              refine hK.out _ _ ⟨v244, v247, (by rw [ha.out]; exact putSel_upk 8 hb_ rfl rfl rfl), (by repeat (first | (with_reducible first | exact HB.out | apply below_alloc | apply pw_below_drewN | apply below_drew1) | exact HB.out)), fun _ => (by (with_reducible repeat (first | apply Kd.R_alloc | apply Kd.R_drewN | apply Kd.R_drew)); exact HO245.out), fun h0_ => absurd ((hoff 13 (by kernel_rfl)).symm.trans h0_) (by decide)⟩
                            refine steps_cons ?_ ?_
                            · rintro b a w' ⟨v244, v247, ha, Q_HB, Q_HO245, Q_HO248⟩ hb_ hon hoff
                              refine ⟨_, rfl, fun K hK => ?_⟩
                              have e93 : a.tmps[93]? = some (v244) := by rw [ha]; exact putSel_on (e := (10, 93, v244)) 8 rfl rfl (hon 10 (by kernel_rfl)) rfl
                              have e91 : a.tmps[91]? = some (.bool (t240 == t242)) := by rw [ha]; exact putSel_on (e := (8, 91, .bool (t240 == t242))) 6 rfl rfl (hon 8 (by kernel_rfl)) rfl
                              replace ha := Aside0.mk ha
                              have HB := Aside0.mk Q_HB
                              have HO245 := Aside0.mk (Q_HO245 (hon 10 (by kernel_rfl)))
                              refine str_step (src := 22) (dst := 9) (x := .tmp 93) ?hw ?ho ?hx (v := v244) (s := strOfNums t243) (by obtain ⟨A_, c_, rfl⟩ := Kd.R_slice HO245.out; exact Kd.C_string (P := Try.prog) (A := A_) (c := c_) Try.underlying22 Try.underlying5 Try.underlying9 (Kd.R_reads' (by (with_reducible repeat (first | apply Kd.R_alloc | apply Kd.R_drewN | apply Kd.R_drew)); exact HO245.out)).2.2) ?_
                              case ho => rfl
                              case hw => first | rfl | (simp [Region.wanted, yielded, *]; done)
                              case hx => first | rfl | (simp only [Act.eval, Array.getD_eq_getD_getElem?, Option.getD_some, e93]; done)
                              intro w69 hb
                              have n0_ := Aside0.mk (Kd.R_below (by (with_reducible repeat (first | apply Kd.R_alloc | apply Kd.R_drewN | apply Kd.R_drew)); exact HO245.out) hb)
                              have n1_ := Aside0.mk (below_step (by repeat (first | (with_reducible first | exact HB.out | apply below_alloc | apply pw_below_drewN | apply below_drew1) | exact HB.out)) hb)
                              have z_HO248 := fun (h0_ : b 13 = true) => (show Kd.R (Kd.int .u8) 5 w69 w.heap.size (fun _ => True) v247 t246 from by first | exact (Kd.R_below (by (with_reducible repeat (first | apply Kd.R_alloc | apply Kd.R_drewN | apply Kd.R_drew)); exact (Q_HO248 h0_)) hb) | exact Kd.R_mono (Kd.R_below (by (with_reducible repeat (first | apply Kd.R_alloc | apply Kd.R_drewN | apply Kd.R_drew)); exact (Q_HO248 h0_)) hb) (fun _ h_ => by first | trivial | exact h_ | exact h_.1))
                              clear HO245
                              clear HB
                              have HO245 := n0_
                              have HB := n1_
                              clear n0_ n1_
                              (try clear hb)
                              refine hK.out _ _ ⟨v244, v247, (by rw [ha.out]; exact putSel_upk 9 hb_ rfl rfl rfl), (by repeat (first | (with_reducible first | exact HB.out | apply below_alloc | apply pw_below_drewN | apply below_drew1) | exact HB.out)), fun _ => (by (with_reducible repeat (first | apply Kd.R_alloc | apply Kd.R_drewN | apply Kd.R_drew)); exact HO245.out), z_HO248⟩
                            refine steps_cons ?_ ?_
                            · rintro b a w' ⟨v244, v247, ha, Q_HB, Q_HO245, Q_HO248⟩ hb_ hon hoff
                              refine ⟨_, rfl, fun K hK => ?_⟩
                              have e4 : a.tmps[4]? = some (.int .u64 a4) := by rw [ha]; exact (putSel_off rfl).trans rfl
                              have e91 : a.tmps[91]? = some (.bool (t240 == t242)) := by rw [ha]; exact putSel_on (e := (8, 91, .bool (t240 == t242))) 6 rfl rfl (hon 8 (by kernel_rfl)) rfl
                              replace ha := Aside0.mk ha
                              have HB := Aside0.mk Q_HB
                              refine value_ (w1 := w') (v := .int .u64 a4) (wanted_on rfl rfl rfl (e91.trans (by first | rfl | (simp [*]; done)))) rfl ?_ ?_
                              · go_simp
                                (try simp only [i64_w])
                                try rfl
                              refine hK.out _ _ ⟨v244, v247, (by rw [ha.out]; exact putSel_upk 10 hb_ rfl rfl rfl), Q_HB, Q_HO245, fun h0_ => absurd ((hoff 13 (by kernel_rfl)).symm.trans h0_) (by decide)⟩
                            refine steps_cons ?_ ?_
                            · rintro b a w' ⟨v244, v247, ha, Q_HB, Q_HO245, Q_HO248⟩ hb_ hon hoff
                              refine ⟨_, rfl, fun K hK => ?_⟩
                              have e95 : a.tmps[95]? = some (.int .u64 a4) := by rw [ha]; exact putSel_on (e := (12, 95, .int .u64 a4)) 10 rfl rfl (hon 12 (by kernel_rfl)) rfl
                              have e91 : a.tmps[91]? = some (.bool (t240 == t242)) := by rw [ha]; exact putSel_on (e := (8, 91, .bool (t240 == t242))) 6 rfl rfl (hon 8 (by kernel_rfl)) rfl
                              replace ha := Aside0.mk ha
                              have HB := Aside0.mk Q_HB
                              have HO245 := Aside0.mk (Q_HO245 (hon 10 (by kernel_rfl)))
                              refine goes_ Try.func39 (by kernel_rfl) rfl #[.int .u64 a4] (by first | rfl | (simp [Region.wanted, yielded, *]; done)) rfl rfl (by first | (simp only [List.map_toArray, List.map_cons, List.map_nil, Act.eval, Array.getD_eq_getD_getElem?, Option.getD_some, e95, e91]; done) | (simp only [List.map_toArray, List.map_cons, List.map_nil, Act.eval, Array.getD_eq_getD_getElem?, Option.getD_some, e95, e91]; rfl)) ?_
                              with_reducible refine (wristbandref01_Put.calls kj39 a4 t246 _ A52.out).mono ?_
                              rintro e w69 ⟨v247, rfl, ho0, hb⟩
                              refine ⟨_, rfl, ?_⟩
                              have n0_ := Aside0.mk (Kd.R_elder' (by (with_reducible repeat (first | apply Kd.R_alloc | apply Kd.R_drewN | apply Kd.R_drew)); exact HO245.out) (Kd.R_base ho0) hb)
                              have n1_ := Aside0.mk (Kd.R_lower (Kd.R_new' ho0 (Kd.R_lt (by (with_reducible repeat (first | apply Kd.R_alloc | apply Kd.R_drewN | apply Kd.R_drew)); exact HO245.out))) (below_size (by repeat (first | (with_reducible first | exact HB.out | apply below_alloc | apply pw_below_drewN | apply below_drew1) | exact HB.out))))
                              have n2_ := Aside0.mk (below_step (by repeat (first | (with_reducible first | exact HB.out | apply below_alloc | apply pw_below_drewN | apply below_drew1) | exact HB.out)) hb)
                              clear HO245
                              clear HB
                              have HO245 := n0_
                              have HO248 := n1_
                              have HB := n2_
                              clear n0_ n1_ n2_
                              (try clear hb)
                              (try clear hb2)
                              (try clear hk)
                              (try clear hi)
                              (try clear ho0)
                              refine hK.out _ _ ⟨v244, v247, (by rw [ha.out]; exact putSel_upk 11 hb_ rfl rfl rfl), (by repeat (first | (with_reducible first | exact HB.out | apply below_alloc | apply pw_below_drewN | apply below_drew1) | exact HB.out)), fun _ => (by (with_reducible repeat (first | apply Kd.R_alloc | apply Kd.R_drewN | apply Kd.R_drew)); first | exact Kd.R_mono HO245.out (fun _ hk => hk.2) | exact Kd.R_mono (HO245.out) (fun _ hk => by first | trivial | exact hk | exact hk.1 | exact hk.2 | (simp_all; done))), fun _ => (by (with_reducible repeat (first | apply Kd.R_alloc | apply Kd.R_drewN | apply Kd.R_drew)); first | exact Kd.R_mono HO248.out (fun _ hk => hk.2) | exact Kd.R_mono (HO248.out) (fun _ hk => by first | trivial | exact hk | exact hk.1 | exact hk.2 | (simp_all; done)))⟩
                            refine steps_cons ?_ ?_
                            · rintro b a w' ⟨v244, v247, ha, Q_HB, Q_HO245, Q_HO248⟩ hb_ hon hoff
                              refine ⟨_, rfl, fun K hK => ?_⟩
                              have e96 : a.tmps[96]? = some (v247) := by rw [ha]; exact putSel_on (e := (13, 96, v247)) 11 rfl rfl (hon 13 (by kernel_rfl)) rfl
                              have e91 : a.tmps[91]? = some (.bool (t240 == t242)) := by rw [ha]; exact putSel_on (e := (8, 91, .bool (t240 == t242))) 6 rfl rfl (hon 8 (by kernel_rfl)) rfl
                              replace ha := Aside0.mk ha
                              have HB := Aside0.mk Q_HB
                              have HO245 := Aside0.mk (Q_HO245 (hon 10 (by kernel_rfl)))
                              have HO248 := Aside0.mk (Q_HO248 (hon 13 (by kernel_rfl)))
                              refine str_step (src := 22) (dst := 9) (x := .tmp 96) ?hw ?ho ?hx (v := v247) (s := strOfNums t246) (by obtain ⟨A_, c_, rfl⟩ := Kd.R_slice HO248.out; exact Kd.C_string (P := Try.prog) (A := A_) (c := c_) Try.underlying22 Try.underlying5 Try.underlying9 (Kd.R_reads' (by (with_reducible repeat (first | apply Kd.R_alloc | apply Kd.R_drewN | apply Kd.R_drew)); exact HO248.out)).2.2) ?_
                              case ho => rfl
                              case hw => first | rfl | (simp [Region.wanted, yielded, *]; done)
                              case hx => first | rfl | (simp only [Act.eval, Array.getD_eq_getD_getElem?, Option.getD_some, e96]; done)
                              intro w70 hb
                              have n0_ := Aside0.mk (Kd.R_below (by (with_reducible repeat (first | apply Kd.R_alloc | apply Kd.R_drewN | apply Kd.R_drew)); exact HO245.out) hb)
                              have n1_ := Aside0.mk (Kd.R_below (by (with_reducible repeat (first | apply Kd.R_alloc | apply Kd.R_drewN | apply Kd.R_drew)); exact HO248.out) hb)
                              have n2_ := Aside0.mk (below_step (by repeat (first | (with_reducible first | exact HB.out | apply below_alloc | apply pw_below_drewN | apply below_drew1) | exact HB.out)) hb)
                              clear HO245
                              clear HO248
                              clear HB
                              have HO245 := n0_
                              have HO248 := n1_
                              have HB := n2_
                              clear n0_ n1_ n2_
                              (try clear hb)
                              refine hK.out _ _ ⟨v244, v247, (by rw [ha.out]; exact putSel_upk 12 hb_ rfl rfl rfl), (by repeat (first | (with_reducible first | exact HB.out | apply below_alloc | apply pw_below_drewN | apply below_drew1) | exact HB.out)), fun _ => (by (with_reducible repeat (first | apply Kd.R_alloc | apply Kd.R_drewN | apply Kd.R_drew)); first | exact HO245.out | exact Kd.R_mono (HO245.out) (fun _ hk => by first | trivial | exact hk | exact hk.1 | exact hk.2 | (simp_all; done))), fun _ => (by (with_reducible repeat (first | apply Kd.R_alloc | apply Kd.R_drewN | apply Kd.R_drew)); first | exact HO248.out | exact Kd.R_mono (HO248.out) (fun _ hk => by first | trivial | exact hk | exact hk.1 | exact hk.2 | (simp_all; done)))⟩
                            refine steps_cons ?_ ?_
                            · rintro b a w' ⟨v244, v247, ha, Q_HB, Q_HO245, Q_HO248⟩ hb_ hon hoff
                              refine ⟨_, rfl, fun K hK => ?_⟩
                              have e94 : a.tmps[94]? = some (.string (strOfNums t243)) := by rw [ha]; exact putSel_on (e := (11, 94, .string (strOfNums t243))) 9 rfl rfl (hon 11 (by kernel_rfl)) rfl
                              have e97 : a.tmps[97]? = some (.string (strOfNums t246)) := by rw [ha]; exact putSel_on (e := (14, 97, .string (strOfNums t246))) 12 rfl rfl (hon 14 (by kernel_rfl)) rfl
                              have e91 : a.tmps[91]? = some (.bool (t240 == t242)) := by rw [ha]; exact putSel_on (e := (8, 91, .bool (t240 == t242))) 6 rfl rfl (hon 8 (by kernel_rfl)) rfl
                              replace ha := Aside0.mk ha
                              have HB := Aside0.mk Q_HB
                              have HO245 := Aside0.mk (Q_HO245 (hon 10 (by kernel_rfl)))
                              have HO248 := Aside0.mk (Q_HO248 (hon 13 (by kernel_rfl)))
                              refine value_ (w1 := w') (v := .bool ((strOfNums t243).toList == (strOfNums t246).toList)) (wanted_on rfl rfl rfl (e91.trans (by first | rfl | (simp [*]; done)))) rfl ?_ ?_
                              · go_simp
                                (try simp only [i64_w])
                                try rfl
                              refine hK.out _ _ ⟨v244, v247, (by rw [ha.out]; exact putSel_upk 13 hb_ rfl rfl rfl), Q_HB, Q_HO245, Q_HO248⟩
                            refine steps_cons ?_ ?_
                            · rintro b a w' ⟨v244, v247, ha, Q_HB, Q_HO245, Q_HO248⟩ hb_ hon hoff
                              refine ⟨_, rfl, fun K hK => ?_⟩
                              have e91 : a.tmps[91]? = some (.bool (t240 == t242)) := by rw [ha]; exact putSel_on (e := (8, 91, .bool (t240 == t242))) 6 rfl rfl (hon 8 (by kernel_rfl)) rfl
                              have e98 : a.tmps[98]? = some (.bool ((strOfNums t243).toList == (strOfNums t246).toList)) := by rw [ha]; exact putSel_on (e := (15, 98, .bool ((strOfNums t243).toList == (strOfNums t246).toList))) 13 rfl rfl (hon 15 (by kernel_rfl)) rfl
                              replace ha := Aside0.mk ha
                              have HB := Aside0.mk Q_HB
                              have HO245 := Aside0.mk (Q_HO245 (hon 10 (by kernel_rfl)))
                              have HO248 := Aside0.mk (Q_HO248 (hon 13 (by kernel_rfl)))
                              refine value_ (w1 := w') (v := .bool ((strOfNums t243).toList == (strOfNums t246).toList)) (by rfl) rfl ?_ ?_
                              · go_simp
                                (try simp only [i64_w])
                                try rfl
                              refine hK.out _ _ ⟨v244, v247, (by rw [ha.out]; exact putSel_upk 14 hb_ rfl rfl rfl), Q_HB, Q_HO245, Q_HO248⟩
                            refine steps_cons ?_ ?_
                            · rintro b a w' ⟨v244, v247, ha, Q_HB, Q_HO245, Q_HO248⟩ hb_ hon hoff
                              refine ⟨_, rfl, fun K hK => ?_⟩
                              have e99 : a.tmps[99]? = some (.bool ((strOfNums t243).toList == (strOfNums t246).toList)) := by rw [ha]; exact putSel_on (e := (16, 99, .bool ((strOfNums t243).toList == (strOfNums t246).toList))) 14 rfl rfl (hon 16 (by kernel_rfl)) rfl
                              replace ha := Aside0.mk ha
                              have HB := Aside0.mk Q_HB
                              have HO245 := Aside0.mk (Q_HO245 (hon 10 (by kernel_rfl)))
                              have HO248 := Aside0.mk (Q_HO248 (hon 13 (by kernel_rfl)))
                              refine value_ (w1 := w') (v := .bool ((strOfNums t243).toList == (strOfNums t246).toList)) (by rfl) rfl ?_ ?_
                              · go_simp
                                (try simp only [i64_w])
                                try rfl
                              refine hK.out _ _ ⟨v244, v247, (by rw [ha.out]; exact putSel_upk 15 hb_ rfl rfl rfl), Q_HB, Q_HO245, Q_HO248⟩
                            refine steps_cons ?_ ?_
                            · rintro b a w' ⟨v244, v247, ha, Q_HB, Q_HO245, Q_HO248⟩ hb_ hon hoff
                              refine ⟨_, rfl, fun K hK => ?_⟩
                              have e100 : a.tmps[100]? = some (.bool ((strOfNums t243).toList == (strOfNums t246).toList)) := by rw [ha]; exact putSel_on (e := (17, 100, .bool ((strOfNums t243).toList == (strOfNums t246).toList))) 15 rfl rfl (hon 17 (by kernel_rfl)) rfl
                              replace ha := Aside0.mk ha
                              have HB := Aside0.mk Q_HB
                              have HO245 := Aside0.mk (Q_HO245 (hon 10 (by kernel_rfl)))
                              have HO248 := Aside0.mk (Q_HO248 (hon 13 (by kernel_rfl)))
                              refine off_ (wanted_off rfl rfl rfl (e100.trans (by first | rfl | (simp [*]; done)))) ?_
                              refine hK.out _ _ ⟨v244, v247, (by rw [ha.out]; exact putSel_upk 16 hb_ rfl rfl rfl), Q_HB, Q_HO245, Q_HO248⟩
                            refine steps_cons ?_ ?_
                            · rintro b a w' ⟨v244, v247, ha, Q_HB, Q_HO245, Q_HO248⟩ hb_ hon hoff
                              refine ⟨_, rfl, fun K hK => ?_⟩
                              have e100 : a.tmps[100]? = some (.bool ((strOfNums t243).toList == (strOfNums t246).toList)) := by rw [ha]; exact putSel_on (e := (17, 100, .bool ((strOfNums t243).toList == (strOfNums t246).toList))) 15 rfl rfl (hon 17 (by kernel_rfl)) rfl
                              replace ha := Aside0.mk ha
                              have HB := Aside0.mk Q_HB
                              have HO245 := Aside0.mk (Q_HO245 (hon 10 (by kernel_rfl)))
                              have HO248 := Aside0.mk (Q_HO248 (hon 13 (by kernel_rfl)))
                              refine off_ (wanted_off rfl rfl rfl (e100.trans (by first | rfl | (simp [*]; done)))) ?_
                              refine hK.out _ _ ⟨v244, v247, (by rw [ha.out]; exact putSel_upk 17 hb_ rfl rfl rfl), Q_HB, Q_HO245, Q_HO248⟩
                            refine steps_cons ?_ ?_
                            · rintro b a w' ⟨v244, v247, ha, Q_HB, Q_HO245, Q_HO248⟩ hb_ hon hoff
                              refine ⟨_, rfl, fun K hK => ?_⟩
                              have e100 : a.tmps[100]? = some (.bool ((strOfNums t243).toList == (strOfNums t246).toList)) := by rw [ha]; exact putSel_on (e := (17, 100, .bool ((strOfNums t243).toList == (strOfNums t246).toList))) 15 rfl rfl (hon 17 (by kernel_rfl)) rfl
                              replace ha := Aside0.mk ha
                              have HB := Aside0.mk Q_HB
                              have HO245 := Aside0.mk (Q_HO245 (hon 10 (by kernel_rfl)))
                              have HO248 := Aside0.mk (Q_HO248 (hon 13 (by kernel_rfl)))
                              refine off_ (wanted_off rfl rfl rfl (e100.trans (by first | rfl | (simp [*]; done)))) ?_
                              refine hK.out _ _ ⟨v244, v247, (by rw [ha.out]; exact putSel_upk 18 hb_ rfl rfl rfl), Q_HB, Q_HO245, Q_HO248⟩
                            refine steps_cons ?_ ?_
                            · rintro b a w' ⟨v244, v247, ha, Q_HB, Q_HO245, Q_HO248⟩ hb_ hon hoff
                              refine ⟨_, rfl, fun K hK => ?_⟩
                              have e100 : a.tmps[100]? = some (.bool ((strOfNums t243).toList == (strOfNums t246).toList)) := by rw [ha]; exact putSel_on (e := (17, 100, .bool ((strOfNums t243).toList == (strOfNums t246).toList))) 15 rfl rfl (hon 17 (by kernel_rfl)) rfl
                              replace ha := Aside0.mk ha
                              have HB := Aside0.mk Q_HB
                              have HO245 := Aside0.mk (Q_HO245 (hon 10 (by kernel_rfl)))
                              have HO248 := Aside0.mk (Q_HO248 (hon 13 (by kernel_rfl)))
                              refine off_ (wanted_off rfl rfl rfl (e100.trans (by first | rfl | (simp [*]; done)))) ?_
                              refine hK.out _ _ ⟨v244, v247, (by rw [ha.out]; exact putSel_upk 19 hb_ rfl rfl rfl), Q_HB, Q_HO245, Q_HO248⟩
                            refine steps_cons ?_ ?_
                            · rintro b a w' ⟨v244, v247, ha, Q_HB, Q_HO245, Q_HO248⟩ hb_ hon hoff
                              refine ⟨_, rfl, fun K hK => ?_⟩
                              have e100 : a.tmps[100]? = some (.bool ((strOfNums t243).toList == (strOfNums t246).toList)) := by rw [ha]; exact putSel_on (e := (17, 100, .bool ((strOfNums t243).toList == (strOfNums t246).toList))) 15 rfl rfl (hon 17 (by kernel_rfl)) rfl
                              replace ha := Aside0.mk ha
                              have HB := Aside0.mk Q_HB
                              have HO245 := Aside0.mk (Q_HO245 (hon 10 (by kernel_rfl)))
                              have HO248 := Aside0.mk (Q_HO248 (hon 13 (by kernel_rfl)))
                              refine off_ (wanted_off rfl rfl rfl (e100.trans (by first | rfl | (simp [*]; done)))) ?_
                              refine hK.out _ _ ⟨v244, v247, (by rw [ha.out]; exact putSel_upk 20 hb_ rfl rfl rfl), Q_HB, Q_HO245, Q_HO248⟩
                            refine steps_cons ?_ ?_
                            · rintro b a w' ⟨v244, v247, ha, Q_HB, Q_HO245, Q_HO248⟩ hb_ hon hoff
                              refine ⟨_, rfl, fun K hK => ?_⟩
                              have e100 : a.tmps[100]? = some (.bool ((strOfNums t243).toList == (strOfNums t246).toList)) := by rw [ha]; exact putSel_on (e := (17, 100, .bool ((strOfNums t243).toList == (strOfNums t246).toList))) 15 rfl rfl (hon 17 (by kernel_rfl)) rfl
                              replace ha := Aside0.mk ha
                              have HB := Aside0.mk Q_HB
                              have HO245 := Aside0.mk (Q_HO245 (hon 10 (by kernel_rfl)))
                              have HO248 := Aside0.mk (Q_HO248 (hon 13 (by kernel_rfl)))
                              refine off_ (wanted_off rfl rfl rfl (e100.trans (by first | rfl | (simp [*]; done)))) ?_
                              refine hK.out _ _ ⟨v244, v247, (by rw [ha.out]; exact putSel_upk 21 hb_ rfl rfl rfl), Q_HB, Q_HO245, Q_HO248⟩
                            refine steps_cons ?_ ?_
                            · rintro b a w' ⟨v244, v247, ha, Q_HB, Q_HO245, Q_HO248⟩ hb_ hon hoff
                              refine ⟨_, rfl, fun K hK => ?_⟩
                              have e100 : a.tmps[100]? = some (.bool ((strOfNums t243).toList == (strOfNums t246).toList)) := by rw [ha]; exact putSel_on (e := (17, 100, .bool ((strOfNums t243).toList == (strOfNums t246).toList))) 15 rfl rfl (hon 17 (by kernel_rfl)) rfl
                              replace ha := Aside0.mk ha
                              have HB := Aside0.mk Q_HB
                              have HO245 := Aside0.mk (Q_HO245 (hon 10 (by kernel_rfl)))
                              have HO248 := Aside0.mk (Q_HO248 (hon 13 (by kernel_rfl)))
                              refine off_ (wanted_off rfl rfl rfl (e100.trans (by first | rfl | (simp [*]; done)))) ?_
                              refine hK.out _ _ ⟨v244, v247, (by rw [ha.out]; exact putSel_upk 22 hb_ rfl rfl rfl), Q_HB, Q_HO245, Q_HO248⟩
                            refine steps_cons ?_ ?_
                            · rintro b a w' ⟨v244, v247, ha, Q_HB, Q_HO245, Q_HO248⟩ hb_ hon hoff
                              refine ⟨_, rfl, fun K hK => ?_⟩
                              have e100 : a.tmps[100]? = some (.bool ((strOfNums t243).toList == (strOfNums t246).toList)) := by rw [ha]; exact putSel_on (e := (17, 100, .bool ((strOfNums t243).toList == (strOfNums t246).toList))) 15 rfl rfl (hon 17 (by kernel_rfl)) rfl
                              have e107 : a.tmps[107]? = some (undef) := by rw [ha]; exact putSel_on (e := (24, 107, undef)) 22 rfl rfl (hon 24 (by kernel_rfl)) rfl
                              replace ha := Aside0.mk ha
                              have HB := Aside0.mk Q_HB
                              have HO245 := Aside0.mk (Q_HO245 (hon 10 (by kernel_rfl)))
                              have HO248 := Aside0.mk (Q_HO248 (hon 13 (by kernel_rfl)))
                              refine value_ (w1 := w') (v := .bool false) (by rfl) rfl ?_ ?_
                              · go_simp
                                (try simp only [i64_w])
                                try rfl
                              refine hK.out _ _ ⟨v244, v247, (by rw [ha.out]; exact putSel_upk 23 hb_ rfl rfl rfl), Q_HB, Q_HO245, Q_HO248⟩
                            refine steps_cons ?_ ?_
                            · rintro b a w' ⟨v244, v247, ha, Q_HB, Q_HO245, Q_HO248⟩ hb_ hon hoff
                              refine ⟨_, rfl, fun K hK => ?_⟩
                              have e108 : a.tmps[108]? = some (.bool false) := by rw [ha]; exact putSel_on (e := (25, 108, .bool false)) 23 rfl rfl (hon 25 (by kernel_rfl)) rfl
                              replace ha := Aside0.mk ha
                              have HB := Aside0.mk Q_HB
                              have HO245 := Aside0.mk (Q_HO245 (hon 10 (by kernel_rfl)))
                              have HO248 := Aside0.mk (Q_HO248 (hon 13 (by kernel_rfl)))
                              refine value_ (w1 := w') (v := .bool false) (by rfl) rfl ?_ ?_
                              · go_simp
                                (try simp only [i64_w])
                                try rfl
                              refine hK.out _ _ ⟨v244, v247, (by rw [ha.out]; exact putSel_upk 24 hb_ rfl rfl rfl), Q_HB, Q_HO245, Q_HO248⟩
                            exact steps_nil
                          rintro b a w71 hall ⟨v244, v247, ha, Q_HB, Q_HO245, Q_HO248⟩
                          clear HB
                          have hb2_ := hall 2 (by kernel_rfl)
                          have hb3_ := hall 3 (by kernel_rfl)
                          have hb4_ := hall 4 (by kernel_rfl)
                          have hb5_ := hall 5 (by kernel_rfl)
                          have hb6_ := hall 6 (by kernel_rfl)
                          have hb7_ := hall 7 (by kernel_rfl)
                          have hb8_ := hall 8 (by kernel_rfl)
                          have hb9_ := hall 9 (by kernel_rfl)
                          have hb10_ := hall 10 (by kernel_rfl)
                          have hb11_ := hall 11 (by kernel_rfl)
                          have hb12_ := hall 12 (by kernel_rfl)
                          have hb13_ := hall 13 (by kernel_rfl)
                          have hb14_ := hall 14 (by kernel_rfl)
                          have hb15_ := hall 15 (by kernel_rfl)
                          have hb16_ := hall 16 (by kernel_rfl)
                          have hb17_ := hall 17 (by kernel_rfl)
                          have hb18_ := hall 18 (by kernel_rfl)
                          have hb19_ := hall 19 (by kernel_rfl)
                          have hb20_ := hall 20 (by kernel_rfl)
                          have hb21_ := hall 21 (by kernel_rfl)
                          have hb22_ := hall 22 (by kernel_rfl)
                          have hb23_ := hall 23 (by kernel_rfl)
                          have hb24_ := hall 24 (by kernel_rfl)
                          have hb25_ := hall 25 (by kernel_rfl)
                          have hb26_ := hall 26 (by kernel_rfl)
                          subst ha
                          simp only [putSel, hb2_, hb3_, hb4_, hb5_, hb6_, hb7_, hb8_, hb9_, hb10_, hb11_, hb12_, hb13_, hb14_, hb15_, hb16_, hb17_, hb18_, hb19_, hb20_, hb21_, hb22_, hb23_, hb24_, hb25_, hb26_, if_true, Act.put, List.setIfInBounds_toArray, List.set_cons_zero, List.set_cons_succ]
                          have HB := Aside0.mk Q_HB
                          clear Q_HB
                          have HO245 := Aside0.mk (Q_HO245 hb10_)
                          clear Q_HO245
                          have HO248 := Aside0.mk (Q_HO248 hb13_)
                          clear Q_HO248
                          clear hall hb2_ hb3_ hb4_ hb5_ hb6_ hb7_ hb8_ hb9_ hb10_ hb11_ hb12_ hb13_ hb14_ hb15_ hb16_ hb17_ hb18_ hb19_ hb20_ hb21_ hb22_ hb23_ hb24_ hb25_ hb26_
                          try go_wp2
                          go_ret
                          exact ⟨by first | rfl | (simp [errW_none, errW_some] <;> rfl) | (simp [*, errW_none, errW_some] <;> rfl), by repeat (first | (with_reducible first | exact HB.out | apply below_alloc | apply pw_below_drewN | apply below_drew1) | exact HB.out)⟩
                      · rw [if_neg c50] at H
                        have c50b0 : (t240 == t242) = false := beq_eq_false_iff_ne.mpr c50
                        have c50b1 : (t240 != t242) = true := bne_iff_ne.mpr c50
                        obtain rfl := Option.some.inj H
                        try go_wp2_with (first | ((with_reducible refine gate_callee (f := 36) rfl ?_); refine goesL_ (some 75) rfl rfl Try.func36 (by kernel_rfl) rfl #[.slice A2 l2.length c2] rfl (by (try simp only [List.map_toArray, List.map_cons, List.map_nil]); first | done | rfl | (simp only [List.length_drop, List.length_take]; rfl)) ?_; (with_reducible refine (word_FromLeast.calls kj39 _ _ l2 t239 t240 _ ?side1 ?side2 A47.out).mono ?_); (case side1 => repeat (first | exact (Kd.C_below HR2.out HB.out) | (with_reducible refine Kd.C_alloc ?_ _) | (with_reducible refine Kd.C_drewN ?_ _) | (with_reducible refine Kd.C_drew ?_))); (case side2 => exact HC2.out); rintro e w' ⟨rfl, ⟨nd, rfl⟩⟩; refine ⟨_, rfl, ?_⟩) | ((with_reducible refine gate_callee (f := 37) rfl ?_); refine goesL_ (some 80) rfl rfl Try.func37 (by kernel_rfl) rfl #[.slice A2 l2.length c2] rfl (by (try simp only [List.map_toArray, List.map_cons, List.map_nil]); first | done | rfl | (simp only [List.length_drop, List.length_take]; rfl)) ?_; (with_reducible refine (wristbandref01_FromLeast.calls kj39 _ _ l2 t241 t242 _ ?side1 ?side2 A48.out).mono ?_); (case side1 => repeat (first | exact (Kd.C_below HR2.out (by repeat (first | (with_reducible first | exact HB.out | apply below_alloc | apply pw_below_drewN | apply below_drew1) | exact HB.out))) | (with_reducible refine Kd.C_alloc ?_ _) | (with_reducible refine Kd.C_drewN ?_ _) | (with_reducible refine Kd.C_drew ?_))); (case side2 => exact HC2.out); rintro e w' ⟨rfl, ⟨nd, rfl⟩⟩; refine ⟨_, rfl, ?_⟩))
                        (try (rw [drewN_self wc]; generalize hq_ : World.drewN wc _ = wc; have n0_ : Aside0 (Below w.heap.size w wc) := ⟨by rw [← hq_]; exact (by repeat (first | (with_reducible first | exact HB.out | apply below_alloc | apply pw_below_drewN | apply below_drew1) | exact HB.out))⟩; clear HB hq_; have HB := n0_; clear n0_))
                        have n0_ := Aside0.mk (below_drew1 HB.out)
                        clear HB
                        have HB := n0_
                        clear n0_
                        refine start_ (n := 27) (S := fun w' => True) (ds := []) #[false, false, false, false, false, false, false, false, false, false, false, false, false, false, false, false, false, false, false, false, false, false, false, false, false, false, false] (by kernel_rfl) rfl rfl trivial (fun hHeld => ?_); refine with_tabW wristbandlaw01_WordRight.tab15 wristbandlaw01_WordRight.bits15 (fun HT_ HW_ => ?_)
                        generalize wc.drew = w72 at HB hHeld ⊢
                        refine pure_ (i := 0) (N := some 83) (v := ?_) (a' := ?_) #[true, false, false, false, false, false, false, false, false, false, false, false, false, false, false, false, false, false, false, false, false, false, false, false, false, false, false] rfl rfl (any_of HT_.out (by kernel_rfl)) (fun _ _ _ h => h) (Or.inl ⟨by rfl, ?_⟩) ?_ ?_
                        rotate_left
                        · intro w'
                          go_simp
                          with_reducible rfl
                        rotate_left
                        · simp only [Act.put, List.setIfInBounds_toArray, List.set_cons_zero, List.set_cons_succ, i64_w, i32_w]
                          rfl
                        refine pure_ (i := 1) (N := some 84) (v := ?_) (a' := ?_) #[true, true, false, false, false, false, false, false, false, false, false, false, false, false, false, false, false, false, false, false, false, false, false, false, false, false, false] rfl rfl (any_of HT_.out (by kernel_rfl)) (fun _ _ _ h => h) (Or.inl ⟨by rfl, ?_⟩) ?_ ?_
                        rotate_left
                        · intro w'
                          go_simp
                          with_reducible rfl
                        rotate_left
                        · simp only [Act.put, List.setIfInBounds_toArray, List.set_cons_zero, List.set_cons_succ, i64_w, i32_w]
                          rfl
                        refine pure_ (i := 2) (N := some 85) (v := ?_) (a' := ?_) #[true, true, true, false, false, false, false, false, false, false, false, false, false, false, false, false, false, false, false, false, false, false, false, false, false, false, false] rfl rfl (any_of HT_.out (by kernel_rfl)) (fun _ _ _ h => h) (Or.inl ⟨by rfl, ?_⟩) ?_ ?_
                        rotate_left
                        · intro w'
                          go_simp
                          with_reducible rfl
                        rotate_left
                        · simp only [Act.put, List.setIfInBounds_toArray, List.set_cons_zero, List.set_cons_succ, i64_w, i32_w]
                          rfl
                        refine pure_ (i := 3) (N := some 86) (v := ?_) (a' := ?_) #[true, true, true, true, false, false, false, false, false, false, false, false, false, false, false, false, false, false, false, false, false, false, false, false, false, false, false] rfl rfl (any_of HT_.out (by kernel_rfl)) (fun _ _ _ h => h) (Or.inl ⟨by rfl, ?_⟩) ?_ ?_
                        rotate_left
                        · intro w'
                          go_simp
                          with_reducible rfl
                        rotate_left
                        · simp only [Act.put, List.setIfInBounds_toArray, List.set_cons_zero, List.set_cons_succ, i64_w, i32_w]
                          rfl
                        refine pure_ (i := 4) (N := some 87) (v := ?_) (a' := ?_) #[true, true, true, true, true, false, false, false, false, false, false, false, false, false, false, false, false, false, false, false, false, false, false, false, false, false, false] rfl rfl (any_of HT_.out (by kernel_rfl)) (fun _ _ _ h => h) (Or.inl ⟨by rfl, ?_⟩) ?_ ?_
                        rotate_left
                        · intro w'
                          go_simp
                          with_reducible rfl
                        rotate_left
                        · simp only [Act.put, List.setIfInBounds_toArray, List.set_cons_zero, List.set_cons_succ, i64_w, i32_w]
                          rfl
                        refine pure_ (i := 5) (N := some 88) (v := ?_) (a' := ?_) #[true, true, true, true, true, true, false, false, false, false, false, false, false, false, false, false, false, false, false, false, false, false, false, false, false, false, false] rfl rfl (any_of HT_.out (by kernel_rfl)) (fun _ _ _ h => h) (Or.inl ⟨by rfl, ?_⟩) ?_ ?_
                        rotate_left
                        · intro w'
                          go_simp
                          with_reducible rfl
                        rotate_left
                        · simp only [Act.put, List.setIfInBounds_toArray, List.set_cons_zero, List.set_cons_succ, i64_w, i32_w]
                          rfl
                        refine pure_ (i := 6) (N := some 89) (v := ?_) (a' := ?_) #[true, true, true, true, true, true, true, false, false, false, false, false, false, false, false, false, false, false, false, false, false, false, false, false, false, false, false] rfl rfl (any_of HT_.out (by kernel_rfl)) (fun _ _ _ h => h) (Or.inl ⟨by rfl, ?_⟩) ?_ ?_
                        rotate_left
                        · intro w'
                          go_simp
                          with_reducible rfl
                        rotate_left
                        · simp only [Act.put, List.setIfInBounds_toArray, List.set_cons_zero, List.set_cons_succ, i64_w, i32_w]
                          rfl
                        refine pure_ (i := 7) (N := some 90) (v := ?_) (a' := ?_) #[true, true, true, true, true, true, true, true, false, false, false, false, false, false, false, false, false, false, false, false, false, false, false, false, false, false, false] rfl rfl (any_of HT_.out (by kernel_rfl)) (fun _ _ _ h => h) (Or.inl ⟨by rfl, ?_⟩) ?_ ?_
                        rotate_left
                        · intro w'
                          go_simp
                          with_reducible rfl
                        rotate_left
                        · simp only [Act.put, List.setIfInBounds_toArray, List.set_cons_zero, List.set_cons_succ, i64_w, i32_w]
                          rfl
                        refine pure_ (i := 8) (N := some 91) (v := ?_) (a' := ?_) #[true, true, true, true, true, true, true, true, true, false, false, false, false, false, false, false, false, false, false, false, false, false, false, false, false, false, false] rfl rfl (any_of HT_.out (by kernel_rfl)) (fun _ _ _ h => h) (Or.inl ⟨by rfl, ?_⟩) ?_ ?_
                        rotate_left
                        · intro w'
                          go_simp
                          with_reducible rfl
                        rotate_left
                        · simp only [Act.put, List.setIfInBounds_toArray, List.set_cons_zero, List.set_cons_succ, i64_w, i32_w]
                          rfl
                        refine pure_ (i := 9) (N := some 92) (v := undef) (a' := ?_) #[true, true, true, true, true, true, true, true, true, true, false, false, false, false, false, false, false, false, false, false, false, false, false, false, false, false, false] rfl rfl (any_of HT_.out (by kernel_rfl)) (fun _ _ _ h => h) (Or.inr ⟨by rfl, rfl⟩) ?_ ?_
                        rotate_left
                        · simp only [Act.put, List.setIfInBounds_toArray, List.set_cons_zero, List.set_cons_succ, i64_w, i32_w]
                          rfl
                        refine pure_ (i := 10) (N := some 93) (v := undef) (a' := ?_) #[true, true, true, true, true, true, true, true, true, true, true, false, false, false, false, false, false, false, false, false, false, false, false, false, false, false, false] rfl rfl (any_of HT_.out (by kernel_rfl)) (fun _ _ _ h => h) (Or.inr ⟨by rfl, rfl⟩) ?_ ?_
                        rotate_left
                        · simp only [Act.put, List.setIfInBounds_toArray, List.set_cons_zero, List.set_cons_succ, i64_w, i32_w]
                          rfl
                        refine pure_ (i := 11) (N := some 94) (v := undef) (a' := ?_) #[true, true, true, true, true, true, true, true, true, true, true, true, false, false, false, false, false, false, false, false, false, false, false, false, false, false, false] rfl rfl (any_of HT_.out (by kernel_rfl)) (fun _ _ _ h => h) (Or.inr ⟨by rfl, rfl⟩) ?_ ?_
                        rotate_left
                        · simp only [Act.put, List.setIfInBounds_toArray, List.set_cons_zero, List.set_cons_succ, i64_w, i32_w]
                          rfl
                        refine pure_ (i := 12) (N := some 95) (v := undef) (a' := ?_) #[true, true, true, true, true, true, true, true, true, true, true, true, true, false, false, false, false, false, false, false, false, false, false, false, false, false, false] rfl rfl (any_of HT_.out (by kernel_rfl)) (fun _ _ _ h => h) (Or.inr ⟨by rfl, rfl⟩) ?_ ?_
                        rotate_left
                        · simp only [Act.put, List.setIfInBounds_toArray, List.set_cons_zero, List.set_cons_succ, i64_w, i32_w]
                          rfl
                        refine pure_ (i := 13) (N := some 96) (v := undef) (a' := ?_) #[true, true, true, true, true, true, true, true, true, true, true, true, true, true, false, false, false, false, false, false, false, false, false, false, false, false, false] rfl rfl (any_of HT_.out (by kernel_rfl)) (fun _ _ _ h => h) (Or.inr ⟨by rfl, rfl⟩) ?_ ?_
                        rotate_left
                        · simp only [Act.put, List.setIfInBounds_toArray, List.set_cons_zero, List.set_cons_succ, i64_w, i32_w]
                          rfl
                        refine pure_ (i := 14) (N := some 97) (v := undef) (a' := ?_) #[true, true, true, true, true, true, true, true, true, true, true, true, true, true, true, false, false, false, false, false, false, false, false, false, false, false, false] rfl rfl (any_of HT_.out (by kernel_rfl)) (fun _ _ _ h => h) (Or.inr ⟨by rfl, rfl⟩) ?_ ?_
                        rotate_left
                        · simp only [Act.put, List.setIfInBounds_toArray, List.set_cons_zero, List.set_cons_succ, i64_w, i32_w]
                          rfl
                        refine pure_ (i := 15) (N := some 98) (v := undef) (a' := ?_) #[true, true, true, true, true, true, true, true, true, true, true, true, true, true, true, true, false, false, false, false, false, false, false, false, false, false, false] rfl rfl (any_of HT_.out (by kernel_rfl)) (fun _ _ _ h => h) (Or.inr ⟨by rfl, rfl⟩) ?_ ?_
                        rotate_left
                        · simp only [Act.put, List.setIfInBounds_toArray, List.set_cons_zero, List.set_cons_succ, i64_w, i32_w]
                          rfl
                        refine pure_ (i := 16) (N := some 99) (v := ?_) (a' := ?_) #[true, true, true, true, true, true, true, true, true, true, true, true, true, true, true, true, true, false, false, false, false, false, false, false, false, false, false] rfl rfl (any_of HT_.out (by kernel_rfl)) (fun _ _ _ h => h) (Or.inl ⟨by rfl, ?_⟩) ?_ ?_
                        rotate_left
                        · intro w'
                          go_simp
                          with_reducible rfl
                        rotate_left
                        · simp only [Act.put, List.setIfInBounds_toArray, List.set_cons_zero, List.set_cons_succ, i64_w, i32_w]
                          rfl
                        refine pure_ (i := 17) (N := some 100) (v := ?_) (a' := ?_) #[true, true, true, true, true, true, true, true, true, true, true, true, true, true, true, true, true, true, false, false, false, false, false, false, false, false, false] rfl rfl (any_of HT_.out (by kernel_rfl)) (fun _ _ _ h => h) (Or.inl ⟨by rfl, ?_⟩) ?_ ?_
                        rotate_left
                        · intro w'
                          go_simp
                          with_reducible rfl
                        rotate_left
                        · simp only [Act.put, List.setIfInBounds_toArray, List.set_cons_zero, List.set_cons_succ, i64_w, i32_w]
                          rfl
                        refine pure_ (i := 18) (N := some 101) (v := undef) (a' := ?_) #[true, true, true, true, true, true, true, true, true, true, true, true, true, true, true, true, true, true, true, false, false, false, false, false, false, false, false] rfl rfl (any_of HT_.out (by kernel_rfl)) (fun _ _ _ h => h) (Or.inr ⟨by rfl, rfl⟩) ?_ ?_
                        rotate_left
                        · simp only [Act.put, List.setIfInBounds_toArray, List.set_cons_zero, List.set_cons_succ, i64_w, i32_w]
                          rfl
                        refine pure_ (i := 19) (N := some 102) (v := undef) (a' := ?_) #[true, true, true, true, true, true, true, true, true, true, true, true, true, true, true, true, true, true, true, true, false, false, false, false, false, false, false] rfl rfl (any_of HT_.out (by kernel_rfl)) (fun _ _ _ h => h) (Or.inr ⟨by rfl, rfl⟩) ?_ ?_
                        rotate_left
                        · simp only [Act.put, List.setIfInBounds_toArray, List.set_cons_zero, List.set_cons_succ, i64_w, i32_w]
                          rfl
                        refine pure_ (i := 20) (N := some 103) (v := undef) (a' := ?_) #[true, true, true, true, true, true, true, true, true, true, true, true, true, true, true, true, true, true, true, true, true, false, false, false, false, false, false] rfl rfl (any_of HT_.out (by kernel_rfl)) (fun _ _ _ h => h) (Or.inr ⟨by rfl, rfl⟩) ?_ ?_
                        rotate_left
                        · simp only [Act.put, List.setIfInBounds_toArray, List.set_cons_zero, List.set_cons_succ, i64_w, i32_w]
                          rfl
                        refine pure_ (i := 21) (N := some 104) (v := undef) (a' := ?_) #[true, true, true, true, true, true, true, true, true, true, true, true, true, true, true, true, true, true, true, true, true, true, false, false, false, false, false] rfl rfl (any_of HT_.out (by kernel_rfl)) (fun _ _ _ h => h) (Or.inr ⟨by rfl, rfl⟩) ?_ ?_
                        rotate_left
                        · simp only [Act.put, List.setIfInBounds_toArray, List.set_cons_zero, List.set_cons_succ, i64_w, i32_w]
                          rfl
                        refine pure_ (i := 22) (N := some 105) (v := undef) (a' := ?_) #[true, true, true, true, true, true, true, true, true, true, true, true, true, true, true, true, true, true, true, true, true, true, true, false, false, false, false] rfl rfl (any_of HT_.out (by kernel_rfl)) (fun _ _ _ h => h) (Or.inr ⟨by rfl, rfl⟩) ?_ ?_
                        rotate_left
                        · simp only [Act.put, List.setIfInBounds_toArray, List.set_cons_zero, List.set_cons_succ, i64_w, i32_w]
                          rfl
                        refine pure_ (i := 23) (N := some 106) (v := undef) (a' := ?_) #[true, true, true, true, true, true, true, true, true, true, true, true, true, true, true, true, true, true, true, true, true, true, true, true, false, false, false] rfl rfl (any_of HT_.out (by kernel_rfl)) (fun _ _ _ h => h) (Or.inr ⟨by rfl, rfl⟩) ?_ ?_
                        rotate_left
                        · simp only [Act.put, List.setIfInBounds_toArray, List.set_cons_zero, List.set_cons_succ, i64_w, i32_w]
                          rfl
                        refine pure_ (i := 24) (N := some 107) (v := undef) (a' := ?_) #[true, true, true, true, true, true, true, true, true, true, true, true, true, true, true, true, true, true, true, true, true, true, true, true, true, false, false] rfl rfl (any_of HT_.out (by kernel_rfl)) (fun _ _ _ h => h) (Or.inr ⟨by rfl, rfl⟩) ?_ ?_
                        rotate_left
                        · simp only [Act.put, List.setIfInBounds_toArray, List.set_cons_zero, List.set_cons_succ, i64_w, i32_w]
                          rfl
                        refine pure_ (i := 25) (N := some 108) (v := ?_) (a' := ?_) #[true, true, true, true, true, true, true, true, true, true, true, true, true, true, true, true, true, true, true, true, true, true, true, true, true, true, false] rfl rfl (any_of HT_.out (by kernel_rfl)) (fun _ _ _ h => h) (Or.inl ⟨by rfl, ?_⟩) ?_ ?_
                        rotate_left
                        · intro w'
                          go_simp
                          with_reducible rfl
                        rotate_left
                        · simp only [Act.put, List.setIfInBounds_toArray, List.set_cons_zero, List.set_cons_succ, i64_w, i32_w]
                          rfl
                        refine pure_ (i := 26) (N := some 10) (v := ?_) (a' := ?_) #[true, true, true, true, true, true, true, true, true, true, true, true, true, true, true, true, true, true, true, true, true, true, true, true, true, true, true] rfl rfl (any_of HT_.out (by kernel_rfl)) (fun _ _ _ h => h) (Or.inl ⟨by rfl, ?_⟩) ?_ ?_
                        rotate_left
                        · intro w'
                          go_simp
                          with_reducible rfl
                        rotate_left
                        · simp only [Act.put, List.setIfInBounds_toArray, List.set_cons_zero, List.set_cons_succ, i64_w, i32_w]
                          rfl
                        refine done_ (done_of HT_.out (by kernel_rfl)) ?_
                        try go_wp2
                        go_ret
                        exact ⟨by first | rfl | (simp [errW_none, errW_some] <;> rfl) | (simp [*, errW_none, errW_some] <;> rfl), by repeat (first | (with_reducible first | exact HB.out | apply below_alloc | apply pw_below_drewN | apply below_drew1) | exact HB.out)⟩
                    · rw [if_neg c49] at H
                      have c49b0 : (t239 == t241) = false := beq_eq_false_iff_ne.mpr c49
                      have c49b1 : (t239 != t241) = true := bne_iff_ne.mpr c49
                      obtain rfl := Option.some.inj H
                      try go_wp2_with (first | ((with_reducible refine gate_callee (f := 36) rfl ?_); refine goesL_ (some 75) rfl rfl Try.func36 (by kernel_rfl) rfl #[.slice A2 l2.length c2] rfl (by (try simp only [List.map_toArray, List.map_cons, List.map_nil]); first | done | rfl | (simp only [List.length_drop, List.length_take]; rfl)) ?_; (with_reducible refine (word_FromLeast.calls kj39 _ _ l2 t239 t240 _ ?side1 ?side2 A47.out).mono ?_); (case side1 => repeat (first | exact (Kd.C_below HR2.out HB.out) | (with_reducible refine Kd.C_alloc ?_ _) | (with_reducible refine Kd.C_drewN ?_ _) | (with_reducible refine Kd.C_drew ?_))); (case side2 => exact HC2.out); rintro e w' ⟨rfl, ⟨nd, rfl⟩⟩; refine ⟨_, rfl, ?_⟩) | ((with_reducible refine gate_callee (f := 37) rfl ?_); refine goesL_ (some 80) rfl rfl Try.func37 (by kernel_rfl) rfl #[.slice A2 l2.length c2] rfl (by (try simp only [List.map_toArray, List.map_cons, List.map_nil]); first | done | rfl | (simp only [List.length_drop, List.length_take]; rfl)) ?_; (with_reducible refine (wristbandref01_FromLeast.calls kj39 _ _ l2 t241 t242 _ ?side1 ?side2 A48.out).mono ?_); (case side1 => repeat (first | exact (Kd.C_below HR2.out (by repeat (first | (with_reducible first | exact HB.out | apply below_alloc | apply pw_below_drewN | apply below_drew1) | exact HB.out))) | (with_reducible refine Kd.C_alloc ?_ _) | (with_reducible refine Kd.C_drewN ?_ _) | (with_reducible refine Kd.C_drew ?_))); (case side2 => exact HC2.out); rintro e w' ⟨rfl, ⟨nd, rfl⟩⟩; refine ⟨_, rfl, ?_⟩))
                      (try (rw [drewN_self wc]; generalize hq_ : World.drewN wc _ = wc; have n0_ : Aside0 (Below w.heap.size w wc) := ⟨by rw [← hq_]; exact (by repeat (first | (with_reducible first | exact HB.out | apply below_alloc | apply pw_below_drewN | apply below_drew1) | exact HB.out))⟩; clear HB hq_; have HB := n0_; clear n0_))
                      have n0_ := Aside0.mk (below_drew1 HB.out)
                      clear HB
                      have HB := n0_
                      clear n0_
                      refine start_ (n := 27) (S := fun w' => True) (ds := []) #[false, false, false, false, false, false, false, false, false, false, false, false, false, false, false, false, false, false, false, false, false, false, false, false, false, false, false] (by kernel_rfl) rfl rfl trivial (fun hHeld => ?_); refine with_tabW wristbandlaw01_WordRight.tab15 wristbandlaw01_WordRight.bits15 (fun HT_ HW_ => ?_)
                      generalize wc.drew = w73 at HB hHeld ⊢
                      refine pure_ (i := 0) (N := some 83) (v := ?_) (a' := ?_) #[true, false, false, false, false, false, false, false, false, false, false, false, false, false, false, false, false, false, false, false, false, false, false, false, false, false, false] rfl rfl (any_of HT_.out (by kernel_rfl)) (fun _ _ _ h => h) (Or.inl ⟨by rfl, ?_⟩) ?_ ?_
                      rotate_left
                      · intro w'
                        go_simp
                        with_reducible rfl
                      rotate_left
                      · simp only [Act.put, List.setIfInBounds_toArray, List.set_cons_zero, List.set_cons_succ, i64_w, i32_w]
                        rfl
                      refine pure_ (i := 1) (N := some 84) (v := ?_) (a' := ?_) #[true, true, false, false, false, false, false, false, false, false, false, false, false, false, false, false, false, false, false, false, false, false, false, false, false, false, false] rfl rfl (any_of HT_.out (by kernel_rfl)) (fun _ _ _ h => h) (Or.inl ⟨by rfl, ?_⟩) ?_ ?_
                      rotate_left
                      · intro w'
                        go_simp
                        with_reducible rfl
                      rotate_left
                      · simp only [Act.put, List.setIfInBounds_toArray, List.set_cons_zero, List.set_cons_succ, i64_w, i32_w]
                        rfl
                      refine pure_ (i := 2) (N := some 85) (v := ?_) (a' := ?_) #[true, true, true, false, false, false, false, false, false, false, false, false, false, false, false, false, false, false, false, false, false, false, false, false, false, false, false] rfl rfl (any_of HT_.out (by kernel_rfl)) (fun _ _ _ h => h) (Or.inl ⟨by rfl, ?_⟩) ?_ ?_
                      rotate_left
                      · intro w'
                        go_simp
                        with_reducible rfl
                      rotate_left
                      · simp only [Act.put, List.setIfInBounds_toArray, List.set_cons_zero, List.set_cons_succ, i64_w, i32_w]
                        rfl
                      refine pure_ (i := 3) (N := some 86) (v := ?_) (a' := ?_) #[true, true, true, true, false, false, false, false, false, false, false, false, false, false, false, false, false, false, false, false, false, false, false, false, false, false, false] rfl rfl (any_of HT_.out (by kernel_rfl)) (fun _ _ _ h => h) (Or.inl ⟨by rfl, ?_⟩) ?_ ?_
                      rotate_left
                      · intro w'
                        go_simp
                        with_reducible rfl
                      rotate_left
                      · simp only [Act.put, List.setIfInBounds_toArray, List.set_cons_zero, List.set_cons_succ, i64_w, i32_w]
                        rfl
                      refine pure_ (i := 4) (N := some 87) (v := undef) (a' := ?_) #[true, true, true, true, true, false, false, false, false, false, false, false, false, false, false, false, false, false, false, false, false, false, false, false, false, false, false] rfl rfl (any_of HT_.out (by kernel_rfl)) (fun _ _ _ h => h) (Or.inr ⟨by rfl, rfl⟩) ?_ ?_
                      rotate_left
                      · simp only [Act.put, List.setIfInBounds_toArray, List.set_cons_zero, List.set_cons_succ, i64_w, i32_w]
                        rfl
                      refine pure_ (i := 5) (N := some 88) (v := undef) (a' := ?_) #[true, true, true, true, true, true, false, false, false, false, false, false, false, false, false, false, false, false, false, false, false, false, false, false, false, false, false] rfl rfl (any_of HT_.out (by kernel_rfl)) (fun _ _ _ h => h) (Or.inr ⟨by rfl, rfl⟩) ?_ ?_
                      rotate_left
                      · simp only [Act.put, List.setIfInBounds_toArray, List.set_cons_zero, List.set_cons_succ, i64_w, i32_w]
                        rfl
                      refine pure_ (i := 6) (N := some 89) (v := undef) (a' := ?_) #[true, true, true, true, true, true, true, false, false, false, false, false, false, false, false, false, false, false, false, false, false, false, false, false, false, false, false] rfl rfl (any_of HT_.out (by kernel_rfl)) (fun _ _ _ h => h) (Or.inr ⟨by rfl, rfl⟩) ?_ ?_
                      rotate_left
                      · simp only [Act.put, List.setIfInBounds_toArray, List.set_cons_zero, List.set_cons_succ, i64_w, i32_w]
                        rfl
                      refine pure_ (i := 7) (N := some 90) (v := ?_) (a' := ?_) #[true, true, true, true, true, true, true, true, false, false, false, false, false, false, false, false, false, false, false, false, false, false, false, false, false, false, false] rfl rfl (any_of HT_.out (by kernel_rfl)) (fun _ _ _ h => h) (Or.inl ⟨by rfl, ?_⟩) ?_ ?_
                      rotate_left
                      · intro w'
                        go_simp
                        with_reducible rfl
                      rotate_left
                      · simp only [Act.put, List.setIfInBounds_toArray, List.set_cons_zero, List.set_cons_succ, i64_w, i32_w]
                        rfl
                      refine pure_ (i := 8) (N := some 91) (v := ?_) (a' := ?_) #[true, true, true, true, true, true, true, true, true, false, false, false, false, false, false, false, false, false, false, false, false, false, false, false, false, false, false] rfl rfl (any_of HT_.out (by kernel_rfl)) (fun _ _ _ h => h) (Or.inl ⟨by rfl, ?_⟩) ?_ ?_
                      rotate_left
                      · intro w'
                        go_simp
                        with_reducible rfl
                      rotate_left
                      · simp only [Act.put, List.setIfInBounds_toArray, List.set_cons_zero, List.set_cons_succ, i64_w, i32_w]
                        rfl
                      refine pure_ (i := 9) (N := some 92) (v := undef) (a' := ?_) #[true, true, true, true, true, true, true, true, true, true, false, false, false, false, false, false, false, false, false, false, false, false, false, false, false, false, false] rfl rfl (any_of HT_.out (by kernel_rfl)) (fun _ _ _ h => h) (Or.inr ⟨by rfl, rfl⟩) ?_ ?_
                      rotate_left
                      · simp only [Act.put, List.setIfInBounds_toArray, List.set_cons_zero, List.set_cons_succ, i64_w, i32_w]
                        rfl
                      refine pure_ (i := 10) (N := some 93) (v := undef) (a' := ?_) #[true, true, true, true, true, true, true, true, true, true, true, false, false, false, false, false, false, false, false, false, false, false, false, false, false, false, false] rfl rfl (any_of HT_.out (by kernel_rfl)) (fun _ _ _ h => h) (Or.inr ⟨by rfl, rfl⟩) ?_ ?_
                      rotate_left
                      · simp only [Act.put, List.setIfInBounds_toArray, List.set_cons_zero, List.set_cons_succ, i64_w, i32_w]
                        rfl
                      refine pure_ (i := 11) (N := some 94) (v := undef) (a' := ?_) #[true, true, true, true, true, true, true, true, true, true, true, true, false, false, false, false, false, false, false, false, false, false, false, false, false, false, false] rfl rfl (any_of HT_.out (by kernel_rfl)) (fun _ _ _ h => h) (Or.inr ⟨by rfl, rfl⟩) ?_ ?_
                      rotate_left
                      · simp only [Act.put, List.setIfInBounds_toArray, List.set_cons_zero, List.set_cons_succ, i64_w, i32_w]
                        rfl
                      refine pure_ (i := 12) (N := some 95) (v := undef) (a' := ?_) #[true, true, true, true, true, true, true, true, true, true, true, true, true, false, false, false, false, false, false, false, false, false, false, false, false, false, false] rfl rfl (any_of HT_.out (by kernel_rfl)) (fun _ _ _ h => h) (Or.inr ⟨by rfl, rfl⟩) ?_ ?_
                      rotate_left
                      · simp only [Act.put, List.setIfInBounds_toArray, List.set_cons_zero, List.set_cons_succ, i64_w, i32_w]
                        rfl
                      refine pure_ (i := 13) (N := some 96) (v := undef) (a' := ?_) #[true, true, true, true, true, true, true, true, true, true, true, true, true, true, false, false, false, false, false, false, false, false, false, false, false, false, false] rfl rfl (any_of HT_.out (by kernel_rfl)) (fun _ _ _ h => h) (Or.inr ⟨by rfl, rfl⟩) ?_ ?_
                      rotate_left
                      · simp only [Act.put, List.setIfInBounds_toArray, List.set_cons_zero, List.set_cons_succ, i64_w, i32_w]
                        rfl
                      refine pure_ (i := 14) (N := some 97) (v := undef) (a' := ?_) #[true, true, true, true, true, true, true, true, true, true, true, true, true, true, true, false, false, false, false, false, false, false, false, false, false, false, false] rfl rfl (any_of HT_.out (by kernel_rfl)) (fun _ _ _ h => h) (Or.inr ⟨by rfl, rfl⟩) ?_ ?_
                      rotate_left
                      · simp only [Act.put, List.setIfInBounds_toArray, List.set_cons_zero, List.set_cons_succ, i64_w, i32_w]
                        rfl
                      refine pure_ (i := 15) (N := some 98) (v := undef) (a' := ?_) #[true, true, true, true, true, true, true, true, true, true, true, true, true, true, true, true, false, false, false, false, false, false, false, false, false, false, false] rfl rfl (any_of HT_.out (by kernel_rfl)) (fun _ _ _ h => h) (Or.inr ⟨by rfl, rfl⟩) ?_ ?_
                      rotate_left
                      · simp only [Act.put, List.setIfInBounds_toArray, List.set_cons_zero, List.set_cons_succ, i64_w, i32_w]
                        rfl
                      refine pure_ (i := 16) (N := some 99) (v := ?_) (a' := ?_) #[true, true, true, true, true, true, true, true, true, true, true, true, true, true, true, true, true, false, false, false, false, false, false, false, false, false, false] rfl rfl (any_of HT_.out (by kernel_rfl)) (fun _ _ _ h => h) (Or.inl ⟨by rfl, ?_⟩) ?_ ?_
                      rotate_left
                      · intro w'
                        go_simp
                        with_reducible rfl
                      rotate_left
                      · simp only [Act.put, List.setIfInBounds_toArray, List.set_cons_zero, List.set_cons_succ, i64_w, i32_w]
                        rfl
                      refine pure_ (i := 17) (N := some 100) (v := ?_) (a' := ?_) #[true, true, true, true, true, true, true, true, true, true, true, true, true, true, true, true, true, true, false, false, false, false, false, false, false, false, false] rfl rfl (any_of HT_.out (by kernel_rfl)) (fun _ _ _ h => h) (Or.inl ⟨by rfl, ?_⟩) ?_ ?_
                      rotate_left
                      · intro w'
                        go_simp
                        with_reducible rfl
                      rotate_left
                      · simp only [Act.put, List.setIfInBounds_toArray, List.set_cons_zero, List.set_cons_succ, i64_w, i32_w]
                        rfl
                      refine pure_ (i := 18) (N := some 101) (v := undef) (a' := ?_) #[true, true, true, true, true, true, true, true, true, true, true, true, true, true, true, true, true, true, true, false, false, false, false, false, false, false, false] rfl rfl (any_of HT_.out (by kernel_rfl)) (fun _ _ _ h => h) (Or.inr ⟨by rfl, rfl⟩) ?_ ?_
                      rotate_left
                      · simp only [Act.put, List.setIfInBounds_toArray, List.set_cons_zero, List.set_cons_succ, i64_w, i32_w]
                        rfl
                      refine pure_ (i := 19) (N := some 102) (v := undef) (a' := ?_) #[true, true, true, true, true, true, true, true, true, true, true, true, true, true, true, true, true, true, true, true, false, false, false, false, false, false, false] rfl rfl (any_of HT_.out (by kernel_rfl)) (fun _ _ _ h => h) (Or.inr ⟨by rfl, rfl⟩) ?_ ?_
                      rotate_left
                      · simp only [Act.put, List.setIfInBounds_toArray, List.set_cons_zero, List.set_cons_succ, i64_w, i32_w]
                        rfl
                      refine pure_ (i := 20) (N := some 103) (v := undef) (a' := ?_) #[true, true, true, true, true, true, true, true, true, true, true, true, true, true, true, true, true, true, true, true, true, false, false, false, false, false, false] rfl rfl (any_of HT_.out (by kernel_rfl)) (fun _ _ _ h => h) (Or.inr ⟨by rfl, rfl⟩) ?_ ?_
                      rotate_left
                      · simp only [Act.put, List.setIfInBounds_toArray, List.set_cons_zero, List.set_cons_succ, i64_w, i32_w]
                        rfl
                      refine pure_ (i := 21) (N := some 104) (v := undef) (a' := ?_) #[true, true, true, true, true, true, true, true, true, true, true, true, true, true, true, true, true, true, true, true, true, true, false, false, false, false, false] rfl rfl (any_of HT_.out (by kernel_rfl)) (fun _ _ _ h => h) (Or.inr ⟨by rfl, rfl⟩) ?_ ?_
                      rotate_left
                      · simp only [Act.put, List.setIfInBounds_toArray, List.set_cons_zero, List.set_cons_succ, i64_w, i32_w]
                        rfl
                      refine pure_ (i := 22) (N := some 105) (v := undef) (a' := ?_) #[true, true, true, true, true, true, true, true, true, true, true, true, true, true, true, true, true, true, true, true, true, true, true, false, false, false, false] rfl rfl (any_of HT_.out (by kernel_rfl)) (fun _ _ _ h => h) (Or.inr ⟨by rfl, rfl⟩) ?_ ?_
                      rotate_left
                      · simp only [Act.put, List.setIfInBounds_toArray, List.set_cons_zero, List.set_cons_succ, i64_w, i32_w]
                        rfl
                      refine pure_ (i := 23) (N := some 106) (v := undef) (a' := ?_) #[true, true, true, true, true, true, true, true, true, true, true, true, true, true, true, true, true, true, true, true, true, true, true, true, false, false, false] rfl rfl (any_of HT_.out (by kernel_rfl)) (fun _ _ _ h => h) (Or.inr ⟨by rfl, rfl⟩) ?_ ?_
                      rotate_left
                      · simp only [Act.put, List.setIfInBounds_toArray, List.set_cons_zero, List.set_cons_succ, i64_w, i32_w]
                        rfl
                      refine pure_ (i := 24) (N := some 107) (v := undef) (a' := ?_) #[true, true, true, true, true, true, true, true, true, true, true, true, true, true, true, true, true, true, true, true, true, true, true, true, true, false, false] rfl rfl (any_of HT_.out (by kernel_rfl)) (fun _ _ _ h => h) (Or.inr ⟨by rfl, rfl⟩) ?_ ?_
                      rotate_left
                      · simp only [Act.put, List.setIfInBounds_toArray, List.set_cons_zero, List.set_cons_succ, i64_w, i32_w]
                        rfl
                      refine pure_ (i := 25) (N := some 108) (v := ?_) (a' := ?_) #[true, true, true, true, true, true, true, true, true, true, true, true, true, true, true, true, true, true, true, true, true, true, true, true, true, true, false] rfl rfl (any_of HT_.out (by kernel_rfl)) (fun _ _ _ h => h) (Or.inl ⟨by rfl, ?_⟩) ?_ ?_
                      rotate_left
                      · intro w'
                        go_simp
                        with_reducible rfl
                      rotate_left
                      · simp only [Act.put, List.setIfInBounds_toArray, List.set_cons_zero, List.set_cons_succ, i64_w, i32_w]
                        rfl
                      refine pure_ (i := 26) (N := some 10) (v := ?_) (a' := ?_) #[true, true, true, true, true, true, true, true, true, true, true, true, true, true, true, true, true, true, true, true, true, true, true, true, true, true, true] rfl rfl (any_of HT_.out (by kernel_rfl)) (fun _ _ _ h => h) (Or.inl ⟨by rfl, ?_⟩) ?_ ?_
                      rotate_left
                      · intro w'
                        go_simp
                        with_reducible rfl
                      rotate_left
                      · simp only [Act.put, List.setIfInBounds_toArray, List.set_cons_zero, List.set_cons_succ, i64_w, i32_w]
                        rfl
                      refine done_ (done_of HT_.out (by kernel_rfl)) ?_
                      try go_wp2
                      go_ret
                      exact ⟨by first | rfl | (simp [errW_none, errW_some] <;> rfl) | (simp [*, errW_none, errW_some] <;> rfl), by repeat (first | (with_reducible first | exact HB.out | apply below_alloc | apply pw_below_drewN | apply below_drew1) | exact HB.out)⟩
  · replace c7 := Bool.eq_false_iff.mpr c7
    subst c7
    have H1 : (some false) = some r := by rw [if_neg (show ¬ (false = true) by decide)] at H; exact H
    clear H
    have H := H1
    clear H1
    obtain rfl := Option.some.inj H
    go_enter Try.func6, Try.ntmps6
    go_wp2_with (first | ((with_reducible refine gate_callee (f := 26) rfl ?_); refine goesL_ (some 17) rfl rfl Try.func26 (by kernel_rfl) rfl #[] rfl (by (try simp only [List.map_toArray, List.map_cons, List.map_nil]); first | done | rfl | (simp only [List.length_drop, List.length_take]; rfl)) ?_; (with_reducible refine (wristbandlaw01_awake.calls k  false _ A6.out).mono ?_); rintro e w74 ⟨rfl, hb⟩; refine ⟨_, rfl, ?_⟩; have n0_ := Aside0.mk (below_step (by repeat (first | (with_reducible first | exact HB.out | apply below_alloc | apply pw_below_drewN | apply below_drew1) | exact HB.out)) hb); clear HB; have HB := n0_; clear n0_; (try clear hb); (try clear hb2); (try clear hk); (try clear hi)))
    go_ret
    exact ⟨by first | rfl | (simp [errW_none, errW_some] <;> rfl) | (simp [*, errW_none, errW_some] <;> rfl), by repeat (first | (with_reducible first | exact HB.out | apply below_alloc | apply pw_below_drewN | apply below_drew1) | exact HB.out)⟩

/-- THE ONE PURE STATEMENT of wristbandlaw01_WordRight: yours. -/
def wristbandlaw01_WordRight.Pure : Prop := ∀ (a0 : Int) (a1 : Int) (l2 : List Int) (l3 : List Int) (a4 : Int), (Lit.int .u32 a0).wf = true → (Lit.int .i64 a1).wf = true → l2.length ≤ maxLen → l2.length * 1 ≤ 140737488351232 → (∀ x ∈ l2, (Lit.int .u8 x).wf = true) → l3.length ≤ maxLen → l3.length * 4 ≤ 140737488351232 → (∀ x ∈ l3, (Lit.int .u32 x).wf = true) → (Lit.int .u64 a4).wf = true → ∃ k, wristbandlaw01_WordRight.f k a0 a1 l2 l3 a4 = some true
theorem wristbandlaw01_WordRight.walk (P : wristbandlaw01_WordRight.Pure) (a0 : Int) (a1 : Int) (a2 : Option Addr) (len2 cap2 : Nat) (z2 : List Int) (a3 : Option Addr) (len3 cap3 : Nat) (z3 : List Int) (a4 : Int) (w : World) (w0 : (Lit.int .u32 a0).wf = true) (w1 : (Lit.int .i64 a1).wf = true) (w2 : (a2 = none ∧ len2 = 0 ∧ cap2 = 0 ∧ z2 = []) ∨ ∃ x, a2 = some x ∧ len2 ≤ cap2 ∧ cap2 ≤ maxLen ∧ z2.length = cap2 ∧ (∀ i, i < z2.length → w.cell? (x.add i) = some (.int .u8 (z2.getD i 0))) ∧ ∀ n ∈ z2, (Lit.int .u8 n).wf = true) (y2 : len2 * 1 ≤ 140737488351232) (w3 : (a3 = none ∧ len3 = 0 ∧ cap3 = 0 ∧ z3 = []) ∨ ∃ x, a3 = some x ∧ len3 ≤ cap3 ∧ cap3 ≤ maxLen ∧ z3.length = cap3 ∧ (∀ i, i < z3.length → w.cell? (x.add i) = some (.int .u32 (z3.getD i 0))) ∧ ∀ n ∈ z3, (Lit.int .u32 n).wf = true) (y3 : len3 * 4 ≤ 140737488351232) (w4 : (Lit.int .u64 a4).wf = true) :
    Calls Try.prog 6 #[.int .u32 a0, .int .i64 a1, .slice a2 len2 cap2, .slice a3 len3 cap3, .int .u64 a4] w fun e w' => e = .returned (.bool true) ∧ Below w.heap.size w w' := by
  obtain ⟨l2, rfl, hr2, hm2, hw2, hc2⟩ := ReadsInt.ofRowC w2
  obtain ⟨l3, rfl, hr3, hm3, hw3, hc3⟩ := ReadsInt.ofRowC w3
  obtain ⟨k, h⟩ := P a0 a1 l2 l3 a4 w0 w1 hm2 y2 hw2 hm3 y3 hw3 w4
  refine (wristbandlaw01_WordRight.calls k a0 a1 _ _ l2 _ _ l3 a4 true w (Kd.C_of_reads (d := (0 : Int)) (h1 := fun _ => rfl) hr2) hc2 (Kd.C_of_reads (d := (0 : Int)) (h1 := fun _ => rfl) hr3) hc3 h).mono ?_
  rintro e w' ⟨rfl, hd⟩
  exact ⟨rfl, hd⟩

end Go.Proofs.Ytnpkhkhlofkbhaa.PWordRight
