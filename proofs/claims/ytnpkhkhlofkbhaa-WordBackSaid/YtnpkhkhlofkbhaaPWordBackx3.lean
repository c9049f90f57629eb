-- made by a program of this session (its printer) out of what Lean prints of the given program
import Derived.Test.YtnpkhkhlofkbhaaPWordBackx0
import Derived.Test.YtnpkhkhlofkbhaaPWordBackx1
import Derived.Test.YtnpkhkhlofkbhaaPWordBackx2
namespace Go.Proofs.Ytnpkhkhlofkbhaa.PWordBack
open Go.RowKit Go.Proofs.YtnpkhkhlofkbhaaW.PrintWords Go.Proofs.YtnpkhkhlofkbhaaW.PrintLast Go.Proofs.YtnpkhkhlofkbhaaW.PrintMore
attribute [local go_sem] max2_int min2_int max_two min_two max_three min_three max_four min_four   -- for this text's walks alone
set_option linter.unusedVariables false
set_option linter.unusedSimpArgs false

/-! ### wristbandlaw01_WordBack: function 7 -/
mutual
def wristbandlaw01_WordBack.j0 : Nat → List Int → List Int → Int → Int → Bool → Option (Bool)
  | 0, _, _, _, _, _ => none
  | k + 1, x0, x1, x2, x3, x24 => if x24 = true then (some true) else ((word_Put.f k x2).bind fun t180 => ((word_Get.f k t180).bind fun bt183 => ((word_Least.f k x2).bind fun t185 => ((word_FromLeast.f k t185).bind fun bt188 => (if bt183.2 = 0 then (if bt183.1 = x2 then (if bt188.2 = 0 then (if bt188.1 = x2 then ((word_Bytes.f k x1).bind fun t190 => ((word_Words.f k t190).bind fun t193 => ((wristbandref01_Same.f k t193 x1).bind fun t196 => (if t196 = true then ((word_Words.f k x0).bind fun t197 => ((word_Bytes.f k t197).bind fun t200 => (if 0 ≤ (wrap64 ((wrap64 ((x0.length : Int) / 4)) * 4)) then (if (wrap64 ((wrap64 ((x0.length : Int) / 4)) * 4)) ≤ (x0.length : Int) then (wristbandlaw01_WordBack.j1 k x0 x2 x3 ((strOfNums t200).toList != (strOfNums (x0.take ((wrap64 ((wrap64 ((x0.length : Int) / 4)) * 4)) : Int).toNat)).toList)) else (none)) else (none)))) else (wristbandlaw01_WordBack.j1 k x0 x2 x3 true))))) else (wristbandlaw01_WordBack.j1 k x0 x2 x3 true)) else (wristbandlaw01_WordBack.j1 k x0 x2 x3 true)) else (wristbandlaw01_WordBack.j1 k x0 x2 x3 true)) else (wristbandlaw01_WordBack.j1 k x0 x2 x3 true))))))
def wristbandlaw01_WordBack.j1 : Nat → List Int → Int → Int → Bool → Option (Bool)
  | 0, _, _, _, _ => none
  | k + 1, x0, x2, x3, x74 => if x74 = true then (some false) else ((word_Least.f k x2).bind fun t204 => ((word_Least.f k x3).bind fun t207 => (if (((strOfNums t204).toList == (strOfNums t207).toList) != (x2 == x3)) = true then (wristbandlaw01_WordBack.j2 k x0 true) else (if x2 ≤ x3 then ((word_Least.f k x2).bind fun t210 => ((word_Least.f k x3).bind fun t213 => (wristbandlaw01_WordBack.j2 k x0 (decide ((t210.length : Int) > (t213.length : Int)))))) else (wristbandlaw01_WordBack.j2 k x0 false)))))
def wristbandlaw01_WordBack.j2 : Nat → List Int → Bool → Option (Bool)
  | 0, _, _ => none
  | k + 1, x0, x99 => if x99 = true then (some false) else ((word_FromLeast.f k x0).bind fun bt216 => (if bt216.2 = 0 then ((word_Least.f k bt216.1).bind fun t218 => (some ((strOfNums t218).toList == (strOfNums x0).toList))) else (if bt216.1 = 0 then (some true) else (some false))))
end
def wristbandlaw01_WordBack.f (k : Nat) (l0 : List Int) (l1 : List Int) (a2 : Int) (a3 : Int) : Option (Bool) := (wristbandlaw01_awake.f k).bind fun t179 => (if t179 = true then (if (l0.length : Int) > 3000 then (wristbandlaw01_WordBack.j0 k l0 l1 a2 a3 true) else (wristbandlaw01_WordBack.j0 k l0 l1 a2 a3 (decide ((l1.length : Int) > 3000)))) else (some false))
theorem wristbandlaw01_WordBack.mono_l : ∀ k, (∀ y0 y1 y2 y3 y4, LeO (wristbandlaw01_WordBack.j0 k y0 y1 y2 y3 y4) (wristbandlaw01_WordBack.j0 (k + 1) y0 y1 y2 y3 y4)) ∧ (∀ y0 y1 y2 y3, LeO (wristbandlaw01_WordBack.j1 k y0 y1 y2 y3) (wristbandlaw01_WordBack.j1 (k + 1) y0 y1 y2 y3)) ∧ (∀ y0 y1, LeO (wristbandlaw01_WordBack.j2 k y0 y1) (wristbandlaw01_WordBack.j2 (k + 1) y0 y1))
  | 0 => ⟨fun _ _ _ _ _ r h => by simp [wristbandlaw01_WordBack.j0] at h, fun _ _ _ _ r h => by simp [wristbandlaw01_WordBack.j1] at h, fun _ _ r h => by simp [wristbandlaw01_WordBack.j2] at h⟩
  | k + 1 => by
   obtain ⟨ih0, ih1, ih2⟩ := wristbandlaw01_WordBack.mono_l k
   refine ⟨?_, ?_, ?_⟩
   ·intro y0 y1 y2 y3 y4
    unfold wristbandlaw01_WordBack.j0
    repeat' first
    | (with_reducible exact ih0 _ _ _ _ _)
    | (with_reducible exact ih1 _ _ _ _)
    | (with_reducible exact ih2 _ _)
    | (with_reducible exact word_Bytes.mono _ _)
    | (with_reducible exact word_FromLeast.mono _ _)
    | (with_reducible exact word_Get.mono _ _)
    | (with_reducible exact word_Least.mono _ _)
    | (with_reducible exact word_Put.mono _ _)
    | (with_reducible exact word_Words.mono _ _)
    | (with_reducible exact wristbandlaw01_awake.mono _)
    | (with_reducible exact wristbandref01_Same.mono _ _ _)
    | (with_reducible exact LeO.refl _)
    | (with_reducible exact LeO.none _)
    | (with_reducible refine LeO.ite ?_ ?_)
    | (with_reducible refine LeO.bind ?_ (fun _ => ?_))
    | exact ih0 _ _ _ _ _
    | exact ih1 _ _ _ _
    | exact ih2 _ _
    | exact word_Bytes.mono _ _
    | exact word_FromLeast.mono _ _
    | exact word_Get.mono _ _
    | exact word_Least.mono _ _
    | exact word_Put.mono _ _
    | exact word_Words.mono _ _
    | exact wristbandlaw01_awake.mono _
    | exact wristbandref01_Same.mono _ _ _
    | exact LeO.none _
    | refine LeO.ite ?_ ?_
    | refine LeO.bind ?_ (fun _ => ?_)
   ·intro y0 y1 y2 y3
    unfold wristbandlaw01_WordBack.j1
    repeat' first
    | (with_reducible exact ih0 _ _ _ _ _)
    | (with_reducible exact ih1 _ _ _ _)
    | (with_reducible exact ih2 _ _)
    | (with_reducible exact word_Bytes.mono _ _)
    | (with_reducible exact word_FromLeast.mono _ _)
    | (with_reducible exact word_Get.mono _ _)
    | (with_reducible exact word_Least.mono _ _)
    | (with_reducible exact word_Put.mono _ _)
    | (with_reducible exact word_Words.mono _ _)
    | (with_reducible exact wristbandlaw01_awake.mono _)
    | (with_reducible exact wristbandref01_Same.mono _ _ _)
    | (with_reducible exact LeO.refl _)
    | (with_reducible exact LeO.none _)
    | (with_reducible refine LeO.ite ?_ ?_)
    | (with_reducible refine LeO.bind ?_ (fun _ => ?_))
    | exact ih0 _ _ _ _ _
    | exact ih1 _ _ _ _
    | exact ih2 _ _
    | exact word_Bytes.mono _ _
    | exact word_FromLeast.mono _ _
    | exact word_Get.mono _ _
    | exact word_Least.mono _ _
    | exact word_Put.mono _ _
    | exact word_Words.mono _ _
    | exact wristbandlaw01_awake.mono _
    | exact wristbandref01_Same.mono _ _ _
    | exact LeO.none _
    | refine LeO.ite ?_ ?_
    | refine LeO.bind ?_ (fun _ => ?_)
   ·intro y0 y1
    unfold wristbandlaw01_WordBack.j2
    repeat' first
    | (with_reducible exact ih0 _ _ _ _ _)
    | (with_reducible exact ih1 _ _ _ _)
    | (with_reducible exact ih2 _ _)
    | (with_reducible exact word_Bytes.mono _ _)
    | (with_reducible exact word_FromLeast.mono _ _)
    | (with_reducible exact word_Get.mono _ _)
    | (with_reducible exact word_Least.mono _ _)
    | (with_reducible exact word_Put.mono _ _)
    | (with_reducible exact word_Words.mono _ _)
    | (with_reducible exact wristbandlaw01_awake.mono _)
    | (with_reducible exact wristbandref01_Same.mono _ _ _)
    | (with_reducible exact LeO.refl _)
    | (with_reducible exact LeO.none _)
    | (with_reducible refine LeO.ite ?_ ?_)
    | (with_reducible refine LeO.bind ?_ (fun _ => ?_))
    | exact ih0 _ _ _ _ _
    | exact ih1 _ _ _ _
    | exact ih2 _ _
    | exact word_Bytes.mono _ _
    | exact word_FromLeast.mono _ _
    | exact word_Get.mono _ _
    | exact word_Least.mono _ _
    | exact word_Put.mono _ _
    | exact word_Words.mono _ _
    | exact wristbandlaw01_awake.mono _
    | exact wristbandref01_Same.mono _ _ _
    | exact LeO.none _
    | refine LeO.ite ?_ ?_
    | refine LeO.bind ?_ (fun _ => ?_)
theorem wristbandlaw01_WordBack.mono : ∀ a0 a1 a2 a3 k, LeO (wristbandlaw01_WordBack.f k a0 a1 a2 a3) (wristbandlaw01_WordBack.f (k + 1) a0 a1 a2 a3) := by
  intro a0 a1 a2 a3 k; obtain ⟨ih0, ih1, ih2⟩ := wristbandlaw01_WordBack.mono_l k
  unfold wristbandlaw01_WordBack.f
  repeat' first
    | (with_reducible exact ih0 _ _ _ _ _)
    | (with_reducible exact ih1 _ _ _ _)
    | (with_reducible exact ih2 _ _)
    | (with_reducible exact word_Bytes.mono _ _)
    | (with_reducible exact word_FromLeast.mono _ _)
    | (with_reducible exact word_Get.mono _ _)
    | (with_reducible exact word_Least.mono _ _)
    | (with_reducible exact word_Put.mono _ _)
    | (with_reducible exact word_Words.mono _ _)
    | (with_reducible exact wristbandlaw01_awake.mono _)
    | (with_reducible exact wristbandref01_Same.mono _ _ _)
    | (with_reducible exact LeO.refl _)
    | (with_reducible exact LeO.none _)
    | (with_reducible refine LeO.ite ?_ ?_)
    | (with_reducible refine LeO.bind ?_ (fun _ => ?_))
    | exact ih0 _ _ _ _ _
    | exact ih1 _ _ _ _
    | exact ih2 _ _
    | exact word_Bytes.mono _ _
    | exact word_FromLeast.mono _ _
    | exact word_Get.mono _ _
    | exact word_Least.mono _ _
    | exact word_Put.mono _ _
    | exact word_Words.mono _ _
    | exact wristbandlaw01_awake.mono _
    | exact wristbandref01_Same.mono _ _ _
    | exact LeO.none _
    | refine LeO.ite ?_ ?_
    | refine LeO.bind ?_ (fun _ => ?_)
def wristbandlaw01_WordBack.T7 : Bool × List (List Nat × List Nat) := (true, [([], []), ([0], [0]), ([1], [1]), ([2], [2]), ([2], [2]), ([3, 4, 2], [2, 3, 4]), ([2, 5], [2, 5]), ([6, 2], [6]), ([7], [7]), ([8, 7], [7, 8]), ([7, 9], [7, 9]), ([10, 7], [10]), ([11], [11]), ([11], [11]), ([12, 13, 11], [11, 12, 13]), ([11, 14], [11, 14]), ([15, 11], [15]), ([16], [16]), ([17, 16, 16], [16, 17]), ([18, 18, 16], [16, 18]), ([16], [16]), ([19, 20, 19, 16], [16, 19, 20]), ([21, 16], [16, 21]), ([16, 22], [16, 22]), ([23, 21], [23]), ([24], [24]), ([25, 24, 24], [24, 25]), ([26, 26, 24], [24, 26]), ([27, 24], [24, 27]), ([24], [24]), ([24], [24]), ([30, 24], [24, 30]), ([31, 24], [24, 31]), ([32, 24], [24, 32]), ([29, 33, 24], [24, 29, 33]), ([34, 24], [24, 34]), ([28, 35, 24], [24, 28, 35]), ([24, 36], [24, 36])])
def wristbandlaw01_WordBack.B7 : List Nat := [0, 1, 3, 7, 7, 31, 63, 127, 255, 511, 1023, 2047, 4095, 4095, 16383, 32767, 65535, 131071, 262143, 524287, 131071, 2097151, 4194303, 8388607, 16777215, 33554431, 67108863, 134217727, 268435455, 33554431, 33554431, 1107296255, 3254779903, 7549747199, 16676552703, 33856421887, 68719476735, 137438953471]
theorem wristbandlaw01_WordBack.tab7 : rtab .any (opsOf Try.f7 7) = wristbandlaw01_WordBack.T7 := by kernel_rfl
theorem wristbandlaw01_WordBack.bits7 : waitsOk wristbandlaw01_WordBack.T7.2 wristbandlaw01_WordBack.B7 = true := by kernel_rfl
def wristbandlaw01_WordBack.T9 : Bool × List (List Nat × List Nat) := (true, [([], []), ([0], [0]), ([1], [1]), ([], []), ([3, 1], [3]), ([4], [4]), ([2, 5], [2, 5]), ([], []), ([], []), ([7, 8], [7, 8]), ([6, 9], [6, 9]), ([10, 4], [10]), ([11], [11]), ([11], [11]), ([12, 13, 11], [11, 12, 13]), ([14, 11, 11], [11, 14]), ([15], [15]), ([16, 15, 15], [15, 16]), ([17, 15], [15, 17]), ([15], [15]), ([19, 17, 15], [15, 19]), ([20, 15], [15, 20]), ([18, 21, 15], [15, 18, 21]), ([15, 22, 11], [11, 15, 22]), ([11, 23], [11, 23])])
def wristbandlaw01_WordBack.B9 : List Nat := [0, 1, 3, 0, 11, 27, 63, 0, 0, 384, 1023, 2047, 4095, 4095, 16383, 32767, 65535, 131071, 262143, 65535, 786431, 1835007, 4194303, 8388607, 16777215]
theorem wristbandlaw01_WordBack.tab9 : rtab .any (opsOf Try.f7 9) = wristbandlaw01_WordBack.T9 := by kernel_rfl
theorem wristbandlaw01_WordBack.bits9 : waitsOk wristbandlaw01_WordBack.T9.2 wristbandlaw01_WordBack.B9 = true := by kernel_rfl
def wristbandlaw01_WordBack.T12 : Bool × List (List Nat × List Nat) := (true, [([], []), ([0], [0]), ([1], [1]), ([2], [2]), ([3, 2], [2, 3]), ([2, 4], [2, 4]), ([5, 2], [5]), ([6], [6]), ([7, 6], [6, 7]), ([8, 6, 6], [6, 8]), ([9], [9]), ([10, 9, 9], [9, 10]), ([11, 9], [9, 11]), ([9], [9]), ([13, 9], [9, 13]), ([12, 14, 9], [9, 12, 14]), ([9, 15, 6], [6, 9, 15]), ([6, 16], [6, 16]), ([17, 11, 0, 1, 2, 3, 4, 5, 6, 7, 8, 9, 10, 11, 12, 13, 14, 15, 16, 17], [17])])
def wristbandlaw01_WordBack.B12 : List Nat := [0, 1, 3, 7, 15, 31, 63, 127, 255, 511, 1023, 2047, 4095, 1023, 9215, 32767, 65535, 131071, 262143]
theorem wristbandlaw01_WordBack.tab12 : rtab .any (opsOf Try.f7 12) = wristbandlaw01_WordBack.T12 := by kernel_rfl
theorem wristbandlaw01_WordBack.bits12 : waitsOk wristbandlaw01_WordBack.T12.2 wristbandlaw01_WordBack.B12 = true := by kernel_rfl
set_option maxHeartbeats 8000000 in
set_option maxRecDepth 100000 in
theorem wristbandlaw01_WordBack.calls (k : Nat) (A0 : Option Addr) (c0 : Nat) (l0 : List Int) (A1 : Option Addr) (c1 : Nat) (l1 : List Int) (a2 : Int) (a3 : Int) (r : Bool) (w : World) (hr0 : Kd.C (Kd.int .u8) w A0 l0.length l0) (hc0 : l0.length ≤ c0) (hr1 : Kd.C (Kd.int .u32) w A1 l1.length l1) (hc1 : l1.length ≤ c1) (h : wristbandlaw01_WordBack.f k l0 l1 a2 a3 = some r) :
   Calls Try.prog 7 #[.slice A0 l0.length c0, .slice A1 l1.length c1, .int .u64 a2, .int .u64 a3] w fun e w' => e = .returned (.bool r) ∧ Below w.heap.size w w' := by
  have HR0 := Aside0.mk hr0; have HC0 := Aside0.mk hc0; clear hr0 hc0; have HR1 := Aside0.mk hr1; have HC1 := Aside0.mk hc1; clear hr1 hc1; have HB := Aside0.mk (Below.refl w.heap.size w); have H : ((wristbandlaw01_awake.f k).bind fun t179 => (if t179 = true then (if (l0.length : Int) > 3000 then (wristbandlaw01_WordBack.j0 k l0 l1 a2 a3 true) else (wristbandlaw01_WordBack.j0 k l0 l1 a2 a3 (decide ((l1.length : Int) > 3000)))) else (some false))) = some r := h
  clear h; replace H := Option.bind_eq_some_iff.mp H
  obtain ⟨t179, A50, H⟩ := H
  replace H : (if t179 = true then (if (l0.length : Int) > 3000 then (wristbandlaw01_WordBack.j0 k l0 l1 a2 a3 true) else (wristbandlaw01_WordBack.j0 k l0 l1 a2 a3 (decide ((l1.length : Int) > 3000)))) else (some false)) = some r := H
  have A5 := Aside0.mk A50; clear A50; by_cases c6 : t179 = true
  ·subst c6
   have H1 : (if (l0.length : Int) > 3000 then (wristbandlaw01_WordBack.j0 k l0 l1 a2 a3 true) else (wristbandlaw01_WordBack.j0 k l0 l1 a2 a3 (decide ((l1.length : Int) > 3000)))) = some r := by rw [if_pos rfl] at H; exact H
   clear H; have H := H1; clear H1; have HC7 := Aside0.mk H; clear H; go_enter Try.func7, Try.ntmps7
   go_upto_region 3 with (first | ((with_reducible refine gate_callee (f := 26) rfl ?_); refine goesL_ (some 15) rfl rfl Try.func26 (by kernel_rfl) rfl #[] rfl (by (try simp only [mT, mC, mN]); first | done | rfl | (simp only [List.length_drop, List.length_take]; rfl)) ?_; (with_reducible refine (wristbandlaw01_awake.calls k  true _ A5.out).mono ?_); rintro e w8 ⟨rfl, hb⟩; refine ⟨_, rfl, ?_⟩; have n0_ := Aside0.mk (below_step (by repeat (first | (with_reducible first | exact HB.out | apply bA | apply bN | apply bD) | exact HB.out)) hb); clear HB; have HB := n0_; clear n0_; (try clear hb); (try clear hb2); (try clear hk); (try clear hi)))
   (try simp only [Act.put, sA, s0, sS])
   go_cut [24] (fun v24 wc => ∃ (kq : Nat) (x24_6 : Bool), v24 = .bool x24_6 ∧ Aside0 (wristbandlaw01_WordBack.j0 kq l0 l1 a2 a3 x24_6 = some r) ∧ Aside0 (kq ≤ k) ∧ Aside0 (Below w.heap.size w wc))
   case first =>
    have H := HC7.out
    clear HC7; by_cases c9 : (l0.length : Int) > 3000
    ·rw [if_pos c9] at H
     have c9b0 : decide (3000 < (l0.length : Int)) = true := decide_eq_true c9
     have c9b1 : decide (3000 < l0.length) = true := decide_eq_true (by omega)
     clear c9; (first | rw [c9b0] | (simp only [i64_w, i32_w]; rw [c9b0]) | skip); have H' := Aside0.mk H; clear H; go_wp2
     go_meet
     case rel => exact ⟨_, (true), (by first | rfl | (simp; done) | (simp [*]; done)), H', ⟨by first | omega | exact Nat.le_refl _⟩, ⟨by repeat (first | (with_reducible first | exact HB.out | apply bA | apply bN | apply bD) | exact HB.out)⟩⟩
    ·rw [if_neg c9] at H
     have c9b0 : decide (3000 < (l0.length : Int)) = false := decide_eq_false c9
     have c9b1 : decide (3000 < l0.length) = false := decide_eq_false (by omega)
     clear c9; (first | rw [c9b0] | (simp only [i64_w, i32_w]; rw [c9b0]) | skip); have H' := Aside0.mk H; clear H; go_wp2
     go_meet
     case rel => exact ⟨_, (decide ((l1.length : Int) > 3000)), (by first | rfl | (simp; done) | (simp [*]; done)), H', ⟨by first | omega | exact Nat.le_refl _⟩, ⟨by repeat (first | (with_reducible first | exact HB.out | apply bA | apply bN | apply bD) | exact HB.out)⟩⟩
   case rest =>
    clear HC7; try clear c1
    try clear c2
    try clear p2
    try clear c6
    try clear c7
    try clear c9
    try clear c9b0
    try clear c9b1
    obtain ⟨kq, x24_6, rfl, HA, HJ6, HB⟩ := hcut
    cases kq with
    | zero => exact absurd HA.out (by simp [wristbandlaw01_WordBack.j0])
    | succ kj6 =>
     have H := HA.out
     clear HA; simp only [wristbandlaw01_WordBack.j0] at H
     by_cases c10 : x24_6 = true
     ·subst c10
      have H1 : (some true) = some r := by rw [if_pos rfl] at H; exact H
      clear H; have H := H1; clear H1; obtain rfl := Option.some.inj H
      go_wp2
      go_ret
      exact ⟨by first | rfl | (simp [errW_none, errW_some] <;> rfl) | (simp [*, errW_none, errW_some] <;> rfl), by repeat (first | (with_reducible first | exact HB.out | apply bA | apply bN | apply bD) | exact HB.out)⟩
     ·replace c10 := Bool.eq_false_iff.mpr c10
      subst c10; have H1 : ((word_Put.f kj6 a2).bind fun t180 => ((word_Get.f kj6 t180).bind fun bt183 => ((word_Least.f kj6 a2).bind fun t185 => ((word_FromLeast.f kj6 t185).bind fun bt188 => (if bt183.2 = 0 then (if bt183.1 = a2 then (if bt188.2 = 0 then (if bt188.1 = a2 then ((word_Bytes.f kj6 l1).bind fun t190 => ((word_Words.f kj6 t190).bind fun t193 => ((wristbandref01_Same.f kj6 t193 l1).bind fun t196 => (if t196 = true then ((word_Words.f kj6 l0).bind fun t197 => ((word_Bytes.f kj6 t197).bind fun t200 => (if 0 ≤ (wrap64 ((wrap64 ((l0.length : Int) / 4)) * 4)) then (if (wrap64 ((wrap64 ((l0.length : Int) / 4)) * 4)) ≤ (l0.length : Int) then (wristbandlaw01_WordBack.j1 kj6 l0 a2 a3 ((strOfNums t200).toList != (strOfNums (l0.take ((wrap64 ((wrap64 ((l0.length : Int) / 4)) * 4)) : Int).toNat)).toList)) else (none)) else (none)))) else (wristbandlaw01_WordBack.j1 kj6 l0 a2 a3 true))))) else (wristbandlaw01_WordBack.j1 kj6 l0 a2 a3 true)) else (wristbandlaw01_WordBack.j1 kj6 l0 a2 a3 true)) else (wristbandlaw01_WordBack.j1 kj6 l0 a2 a3 true)) else (wristbandlaw01_WordBack.j1 kj6 l0 a2 a3 true)))))) = some r := by rw [if_neg (show ¬ (false = true) by decide)] at H; exact H
      clear H; have H := H1; clear H1; replace H := Option.bind_eq_some_iff.mp H
      obtain ⟨t180, A110, H⟩ := H
      replace H : ((word_Get.f kj6 t180).bind fun bt183 => ((word_Least.f kj6 a2).bind fun t185 => ((word_FromLeast.f kj6 t185).bind fun bt188 => (if bt183.2 = 0 then (if bt183.1 = a2 then (if bt188.2 = 0 then (if bt188.1 = a2 then ((word_Bytes.f kj6 l1).bind fun t190 => ((word_Words.f kj6 t190).bind fun t193 => ((wristbandref01_Same.f kj6 t193 l1).bind fun t196 => (if t196 = true then ((word_Words.f kj6 l0).bind fun t197 => ((word_Bytes.f kj6 t197).bind fun t200 => (if 0 ≤ (wrap64 ((wrap64 ((l0.length : Int) / 4)) * 4)) then (if (wrap64 ((wrap64 ((l0.length : Int) / 4)) * 4)) ≤ (l0.length : Int) then (wristbandlaw01_WordBack.j1 kj6 l0 a2 a3 ((strOfNums t200).toList != (strOfNums (l0.take ((wrap64 ((wrap64 ((l0.length : Int) / 4)) * 4)) : Int).toNat)).toList)) else (none)) else (none)))) else (wristbandlaw01_WordBack.j1 kj6 l0 a2 a3 true))))) else (wristbandlaw01_WordBack.j1 kj6 l0 a2 a3 true)) else (wristbandlaw01_WordBack.j1 kj6 l0 a2 a3 true)) else (wristbandlaw01_WordBack.j1 kj6 l0 a2 a3 true)) else (wristbandlaw01_WordBack.j1 kj6 l0 a2 a3 true))))) = some r := H
      have A11 := Aside0.mk A110; clear A110; replace H := Option.bind_eq_some_iff.mp H
      obtain ⟨⟨t183, t184⟩, A120, H⟩ := H
      replace H : ((word_Least.f kj6 a2).bind fun t185 => ((word_FromLeast.f kj6 t185).bind fun bt188 => (if t184 = 0 then (if t183 = a2 then (if bt188.2 = 0 then (if bt188.1 = a2 then ((word_Bytes.f kj6 l1).bind fun t190 => ((word_Words.f kj6 t190).bind fun t193 => ((wristbandref01_Same.f kj6 t193 l1).bind fun t196 => (if t196 = true then ((word_Words.f kj6 l0).bind fun t197 => ((word_Bytes.f kj6 t197).bind fun t200 => (if 0 ≤ (wrap64 ((wrap64 ((l0.length : Int) / 4)) * 4)) then (if (wrap64 ((wrap64 ((l0.length : Int) / 4)) * 4)) ≤ (l0.length : Int) then (wristbandlaw01_WordBack.j1 kj6 l0 a2 a3 ((strOfNums t200).toList != (strOfNums (l0.take ((wrap64 ((wrap64 ((l0.length : Int) / 4)) * 4)) : Int).toNat)).toList)) else (none)) else (none)))) else (wristbandlaw01_WordBack.j1 kj6 l0 a2 a3 true))))) else (wristbandlaw01_WordBack.j1 kj6 l0 a2 a3 true)) else (wristbandlaw01_WordBack.j1 kj6 l0 a2 a3 true)) else (wristbandlaw01_WordBack.j1 kj6 l0 a2 a3 true)) else (wristbandlaw01_WordBack.j1 kj6 l0 a2 a3 true)))) = some r := H
      have A12 := Aside0.mk A120; clear A120; replace H := Option.bind_eq_some_iff.mp H
      obtain ⟨t185, A130, H⟩ := H
      replace H : ((word_FromLeast.f kj6 t185).bind fun bt188 => (if t184 = 0 then (if t183 = a2 then (if bt188.2 = 0 then (if bt188.1 = a2 then ((word_Bytes.f kj6 l1).bind fun t190 => ((word_Words.f kj6 t190).bind fun t193 => ((wristbandref01_Same.f kj6 t193 l1).bind fun t196 => (if t196 = true then ((word_Words.f kj6 l0).bind fun t197 => ((word_Bytes.f kj6 t197).bind fun t200 => (if 0 ≤ (wrap64 ((wrap64 ((l0.length : Int) / 4)) * 4)) then (if (wrap64 ((wrap64 ((l0.length : Int) / 4)) * 4)) ≤ (l0.length : Int) then (wristbandlaw01_WordBack.j1 kj6 l0 a2 a3 ((strOfNums t200).toList != (strOfNums (l0.take ((wrap64 ((wrap64 ((l0.length : Int) / 4)) * 4)) : Int).toNat)).toList)) else (none)) else (none)))) else (wristbandlaw01_WordBack.j1 kj6 l0 a2 a3 true))))) else (wristbandlaw01_WordBack.j1 kj6 l0 a2 a3 true)) else (wristbandlaw01_WordBack.j1 kj6 l0 a2 a3 true)) else (wristbandlaw01_WordBack.j1 kj6 l0 a2 a3 true)) else (wristbandlaw01_WordBack.j1 kj6 l0 a2 a3 true))) = some r := H
      have A13 := Aside0.mk A130; clear A130; replace H := Option.bind_eq_some_iff.mp H
      obtain ⟨⟨t188, t189⟩, A140, H⟩ := H
      replace H : (if t184 = 0 then (if t183 = a2 then (if t189 = 0 then (if t188 = a2 then ((word_Bytes.f kj6 l1).bind fun t190 => ((word_Words.f kj6 t190).bind fun t193 => ((wristbandref01_Same.f kj6 t193 l1).bind fun t196 => (if t196 = true then ((word_Words.f kj6 l0).bind fun t197 => ((word_Bytes.f kj6 t197).bind fun t200 => (if 0 ≤ (wrap64 ((wrap64 ((l0.length : Int) / 4)) * 4)) then (if (wrap64 ((wrap64 ((l0.length : Int) / 4)) * 4)) ≤ (l0.length : Int) then (wristbandlaw01_WordBack.j1 kj6 l0 a2 a3 ((strOfNums t200).toList != (strOfNums (l0.take ((wrap64 ((wrap64 ((l0.length : Int) / 4)) * 4)) : Int).toNat)).toList)) else (none)) else (none)))) else (wristbandlaw01_WordBack.j1 kj6 l0 a2 a3 true))))) else (wristbandlaw01_WordBack.j1 kj6 l0 a2 a3 true)) else (wristbandlaw01_WordBack.j1 kj6 l0 a2 a3 true)) else (wristbandlaw01_WordBack.j1 kj6 l0 a2 a3 true)) else (wristbandlaw01_WordBack.j1 kj6 l0 a2 a3 true)) = some r := H
      have A14 := Aside0.mk A140; clear A140; have HC15 := Aside0.mk H; clear H; go_upto_region 7 with (first | ((with_reducible refine gate_callee (f := 38) rfl ?_); refine goesL_ (some 27) rfl rfl Try.func38 (by kernel_rfl) rfl #[.int .u64 a2] rfl (by (try simp only [mT, mC, mN]); first | done | rfl | (simp only [List.length_drop, List.length_take]; rfl)) ?_; (with_reducible refine (word_Put.calls kj6 a2 t180 _ A11.out).mono ?_); rintro e w16 ⟨v181, rfl, ho0, hb⟩; refine ⟨_, rfl, ?_⟩; have n0_ := Aside0.mk (Kd.R_lower ho0 (below_size (by repeat (first | (with_reducible first | exact HB.out | apply bA | apply bN | apply bD) | exact HB.out)))); have n1_ := Aside0.mk (below_step (by repeat (first | (with_reducible first | exact HB.out | apply bA | apply bN | apply bD) | exact HB.out)) hb); clear HB; have HO182 := n0_; have HB := n1_; clear n0_ n1_; (try clear hb); (try clear hb2); (try clear hk); (try clear hi); (try clear ho0); obtain ⟨Ao17, co17, eo17⟩ := Kd.R_slice HO182.out; subst eo17) | ((with_reducible refine gate_callee (f := 34) rfl ?_); refine goesL_ (some 28) rfl rfl Try.func34 (by kernel_rfl) rfl #[.slice Ao17 t180.length co17] rfl (by (try simp only [mT, mC, mN]); first | done | rfl | (simp only [List.length_drop, List.length_take]; rfl)) ?_; (with_reducible refine (word_Get.calls kj6 _ _ t180 t183 t184 _ ?side1 ?side2 A12.out).mono ?_); (case side1 => repeat (first | exact (Kd.R_reads' HO182.out).2.2 | (with_reducible refine Kd.C_alloc ?_ _) | (with_reducible refine Kd.C_drewN ?_ _) | (with_reducible refine Kd.C_drew ?_))); (case side2 => exact (Kd.R_reads' HO182.out).2.1); rintro e w' ⟨rfl, ⟨nd, rfl⟩⟩; refine ⟨_, rfl, ?_⟩) | ((with_reducible refine gate_callee (f := 40) rfl ?_); refine goesL_ (some 33) rfl rfl Try.func40 (by kernel_rfl) rfl #[.int .u64 a2] rfl (by (try simp only [mT, mC, mN]); first | done | rfl | (simp only [List.length_drop, List.length_take]; rfl)) ?_; (with_reducible refine (word_Least.calls kj6 a2 t185 _ A13.out).mono ?_); rintro e w18 ⟨v186, rfl, ho0, hb⟩; refine ⟨_, rfl, ?_⟩; have n0_ := Aside0.mk (Kd.R_elder' (by (with_reducible repeat (first | apply rL | apply rN | apply rW)); exact HO182.out) (Kd.R_base ho0) hb); have n1_ := Aside0.mk (Kd.R_lower (Kd.R_new' ho0 (Kd.R_lt (by (with_reducible repeat (first | apply rL | apply rN | apply rW)); exact HO182.out))) (below_size (by repeat (first | (with_reducible first | exact HB.out | apply bA | apply bN | apply bD) | exact HB.out)))); have n2_ := Aside0.mk (below_step (by repeat (first | (with_reducible first | exact HB.out | apply bA | apply bN | apply bD) | exact HB.out)) hb); clear HO182; clear HB; have HO182 := n0_; have HO187 := n1_; have HB := n2_; clear n0_ n1_ n2_; (try clear hb); (try clear hb2); (try clear hk); (try clear hi); (try clear ho0); obtain ⟨Ao19, co19, eo19⟩ := Kd.R_slice HO187.out; subst eo19) | ((with_reducible refine gate_callee (f := 36) rfl ?_); refine goesL_ (some 34) rfl rfl Try.func36 (by kernel_rfl) rfl #[.slice Ao19 t185.length co19] rfl (by (try simp only [mT, mC, mN]); first | done | rfl | (simp only [List.length_drop, List.length_take]; rfl)) ?_; (with_reducible refine (word_FromLeast.calls kj6 _ _ t185 t188 t189 _ ?side1 ?side2 A14.out).mono ?_); (case side1 => repeat (first | exact (Kd.R_reads' HO187.out).2.2 | (with_reducible refine Kd.C_alloc ?_ _) | (with_reducible refine Kd.C_drewN ?_ _) | (with_reducible refine Kd.C_drew ?_))); (case side2 => exact (Kd.R_reads' HO187.out).2.1); rintro e w' ⟨rfl, ⟨nd, rfl⟩⟩; refine ⟨_, rfl, ?_⟩; (try (rw [drewN_self w18]; generalize hq_ : World.drewN w18 _ = w18; have n0_ : Aside0 (Kd.R (Kd.int .u8) 5 w18 w.heap.size (fun k_ => some k_ ≠ (.slice Ao19 t185.length co19 : Value).ownBlock) (.slice Ao17 t180.length co17) t180) := ⟨by rw [← hq_]; exact (by (with_reducible repeat (first | apply rL | apply rN | apply rW)); exact Kd.R_mono HO182.out (fun _ hk => hk.2))⟩; have n1_ : Aside0 (Kd.R (Kd.int .u8) 5 w18 w.heap.size (fun k_ => some k_ ≠ (.slice Ao17 t180.length co17 : Value).ownBlock) (.slice Ao19 t185.length co19) t185) := ⟨by rw [← hq_]; exact (by (with_reducible repeat (first | apply rL | apply rN | apply rW)); exact Kd.R_mono HO187.out (fun _ hk => hk.2))⟩; have n2_ : Aside0 (Below w.heap.size w w18) := ⟨by rw [← hq_]; exact (by repeat (first | (with_reducible first | exact HB.out | apply bA | apply bN | apply bD) | exact HB.out))⟩; clear HO182 HO187 HB hq_; have HO182 := n0_; have HO187 := n1_; have HB := n2_; clear n0_ n1_ n2_))))
      (try simp only [Act.put, sA, s0, sS])
      go_cut [74] (fun v74 wc => ∃ (kq : Nat) (x74_14 : Bool), v74 = .bool x74_14 ∧ Aside0 (wristbandlaw01_WordBack.j1 kq l0 a2 a3 x74_14 = some r) ∧ Aside0 (kq ≤ kj6) ∧ Aside0 (Below w.heap.size w wc))
      case first =>
       have H := HC15.out
       clear HC15; by_cases c20 : t184 = 0
       ·rw [if_pos c20] at H
        have c20b0 : (t184 == 0) = true := beq_iff_eq.mpr c20
        have c20b1 : (t184 != 0) = false := bne_eq_false_iff_eq.mpr c20
        clear c20; (first | rw [c20b0] | (simp only [i64_w, i32_w]; rw [c20b0]) | skip); by_cases c21 : t183 = a2
        ·rw [if_pos c21] at H
         have c21b0 : (t183 == a2) = true := beq_iff_eq.mpr c21
         have c21b1 : (t183 != a2) = false := bne_eq_false_iff_eq.mpr c21
         clear c21; by_cases c22 : t189 = 0
         ·rw [if_pos c22] at H
          have c22b0 : (t189 == 0) = true := beq_iff_eq.mpr c22
          have c22b1 : (t189 != 0) = false := bne_eq_false_iff_eq.mpr c22
          clear c22; by_cases c23 : t188 = a2
          ·rw [if_pos c23] at H
           have c23b0 : (t188 == a2) = true := beq_iff_eq.mpr c23
           have c23b1 : (t188 != a2) = false := bne_eq_false_iff_eq.mpr c23
           clear c23; replace H := Option.bind_eq_some_iff.mp H
           obtain ⟨t190, A240, H⟩ := H
           replace H : ((word_Words.f kj6 t190).bind fun t193 => ((wristbandref01_Same.f kj6 t193 l1).bind fun t196 => (if t196 = true then ((word_Words.f kj6 l0).bind fun t197 => ((word_Bytes.f kj6 t197).bind fun t200 => (if 0 ≤ (wrap64 ((wrap64 ((l0.length : Int) / 4)) * 4)) then (if (wrap64 ((wrap64 ((l0.length : Int) / 4)) * 4)) ≤ (l0.length : Int) then (wristbandlaw01_WordBack.j1 kj6 l0 a2 a3 ((strOfNums t200).toList != (strOfNums (l0.take ((wrap64 ((wrap64 ((l0.length : Int) / 4)) * 4)) : Int).toNat)).toList)) else (none)) else (none)))) else (wristbandlaw01_WordBack.j1 kj6 l0 a2 a3 true)))) = some r := H
           have A24 := Aside0.mk A240; clear A240; replace H := Option.bind_eq_some_iff.mp H
           obtain ⟨t193, A250, H⟩ := H
           replace H : ((wristbandref01_Same.f kj6 t193 l1).bind fun t196 => (if t196 = true then ((word_Words.f kj6 l0).bind fun t197 => ((word_Bytes.f kj6 t197).bind fun t200 => (if 0 ≤ (wrap64 ((wrap64 ((l0.length : Int) / 4)) * 4)) then (if (wrap64 ((wrap64 ((l0.length : Int) / 4)) * 4)) ≤ (l0.length : Int) then (wristbandlaw01_WordBack.j1 kj6 l0 a2 a3 ((strOfNums t200).toList != (strOfNums (l0.take ((wrap64 ((wrap64 ((l0.length : Int) / 4)) * 4)) : Int).toNat)).toList)) else (none)) else (none)))) else (wristbandlaw01_WordBack.j1 kj6 l0 a2 a3 true))) = some r := H
           have A25 := Aside0.mk A250; clear A250; replace H := Option.bind_eq_some_iff.mp H
           obtain ⟨t196, A260, H⟩ := H
           replace H : (if t196 = true then ((word_Words.f kj6 l0).bind fun t197 => ((word_Bytes.f kj6 t197).bind fun t200 => (if 0 ≤ (wrap64 ((wrap64 ((l0.length : Int) / 4)) * 4)) then (if (wrap64 ((wrap64 ((l0.length : Int) / 4)) * 4)) ≤ (l0.length : Int) then (wristbandlaw01_WordBack.j1 kj6 l0 a2 a3 ((strOfNums t200).toList != (strOfNums (l0.take ((wrap64 ((wrap64 ((l0.length : Int) / 4)) * 4)) : Int).toNat)).toList)) else (none)) else (none)))) else (wristbandlaw01_WordBack.j1 kj6 l0 a2 a3 true)) = some r := H
           have A26 := Aside0.mk A260; clear A260; by_cases c27 : t196 = true
           ·subst c27
            have H1 : ((word_Words.f kj6 l0).bind fun t197 => ((word_Bytes.f kj6 t197).bind fun t200 => (if 0 ≤ (wrap64 ((wrap64 ((l0.length : Int) / 4)) * 4)) then (if (wrap64 ((wrap64 ((l0.length : Int) / 4)) * 4)) ≤ (l0.length : Int) then (wristbandlaw01_WordBack.j1 kj6 l0 a2 a3 ((strOfNums t200).toList != (strOfNums (l0.take ((wrap64 ((wrap64 ((l0.length : Int) / 4)) * 4)) : Int).toNat)).toList)) else (none)) else (none)))) = some r := by rw [if_pos rfl] at H; exact H
            clear H; have H := H1; clear H1; replace H := Option.bind_eq_some_iff.mp H
            obtain ⟨t197, A280, H⟩ := H
            replace H : ((word_Bytes.f kj6 t197).bind fun t200 => (if 0 ≤ (wrap64 ((wrap64 ((l0.length : Int) / 4)) * 4)) then (if (wrap64 ((wrap64 ((l0.length : Int) / 4)) * 4)) ≤ (l0.length : Int) then (wristbandlaw01_WordBack.j1 kj6 l0 a2 a3 ((strOfNums t200).toList != (strOfNums (l0.take ((wrap64 ((wrap64 ((l0.length : Int) / 4)) * 4)) : Int).toNat)).toList)) else (none)) else (none))) = some r := H
            have A28 := Aside0.mk A280; clear A280; replace H := Option.bind_eq_some_iff.mp H
            obtain ⟨t200, A290, H⟩ := H
            replace H : (if 0 ≤ (wrap64 ((wrap64 ((l0.length : Int) / 4)) * 4)) then (if (wrap64 ((wrap64 ((l0.length : Int) / 4)) * 4)) ≤ (l0.length : Int) then (wristbandlaw01_WordBack.j1 kj6 l0 a2 a3 ((strOfNums t200).toList != (strOfNums (l0.take ((wrap64 ((wrap64 ((l0.length : Int) / 4)) * 4)) : Int).toNat)).toList)) else (none)) else (none)) = some r := H
            have A29 := Aside0.mk A290; clear A290; obtain ⟨ji30, hji30⟩ : ∃ j_ : Int, (wrap64 ((wrap64 ((l0.length : Int) / 4)) * 4)) = j_ := ⟨_, rfl⟩
            replace H : (if 0 ≤ (ji30) then (if (ji30) ≤ (l0.length : Int) then (wristbandlaw01_WordBack.j1 kj6 l0 a2 a3 ((strOfNums t200).toList != (strOfNums (l0.take ((ji30) : Int).toNat)).toList)) else (none)) else (none)) = some r := by first | (rw [hji30] at H; exact H) | (simp only [hji30] at H ⊢; exact H)
            (try rw [hji30] at A24)
            (try rw [hji30] at A25)
            (try rw [hji30] at A26)
            (try rw [hji30] at A28)
            (try rw [hji30] at A29)
            have hji30w : (IntKind.i64.wrap ((wrap64 ((l0.length : Int) / 4)) * 4)) = ji30 := (i64_w _).trans hji30
            by_cases c31 : 0 ≤ (ji30)
            ·rw [if_pos c31] at H
             have c31b0 := eq_true c31
             have c31b1 : decide (0 ≤ (ji30)) = true := decide_eq_true c31
             clear c31; by_cases c32 : (ji30) ≤ (l0.length : Int)
             ·rw [if_pos c32] at H
              have c32b0 := eq_true c32
              have c32b1 : decide ((ji30) ≤ (l0.length : Int)) = true := decide_eq_true c32
              clear c32; have H' := Aside0.mk H; clear H; obtain ⟨i033, hi033, _, hsz33, _⟩ := info_parts info5
              obtain ⟨hcut33, hA33, hC33⟩ := print_take_of (P := Try.prog) (Value.int .u8) 0 22 5 .i64 Try.underlying22 hi033 hsz33 A0 c0 l0 (ji30) (of_decide_eq_true (by first | (with_reducible assumption) | assumption)) (of_decide_eq_true (by first | (with_reducible assumption) | assumption)) HC0.out
              have HR203 := Aside0.mk (Kd.C_of_reads (h1 := fun _ => rfl) (hA33 _ (Kd.reads_of_C HR0.out))); have HC203 := Aside0.mk hC33; clear hA33 hC33 hi033 hsz33; try go_wp2
              have n0_ := Aside0.mk (Kd.R_drew HO182.out); have n1_ := Aside0.mk (Kd.R_drew HO187.out); have n2_ := Aside0.mk (below_drew1 HB.out); clear HO182; clear HO187; clear HB; have HO182 := n0_; have HO187 := n1_; have HB := n2_; clear n0_ n1_ n2_; refine start_ (n := 38) (S := fun w' => True) (ds := []) #[false, false, false, false, false, false, false, false, false, false, false, false, false, false, false, false, false, false, false, false, false, false, false, false, false, false, false, false, false, false, false, false, false, false, false, false, false, false] (by kernel_rfl) rfl rfl trivial (fun hHeld => ?_); refine with_tabW wristbandlaw01_WordBack.tab7 wristbandlaw01_WordBack.bits7 (fun HT_ HW_ => ?_)
              generalize w18.drew = w34 at HO182 HO187 HB hHeld ⊢
              refine pu_ 0 37 (rA [1,37]) HT_ (by kernel_rfl) rfl rfl (fun _ _ _ => id) (.inl ⟨by rfl, fun w' => by go_simp; with_reducible rfl⟩) (by simp only [Act.put, sA, s0, sS, i64_w, i32_w]; rfl) ?_
              refine inv_at [1, 2, 3, 4, 5, 6, 7, 8, 9, 10, 11, 12, 13, 14, 15, 16, 17, 18, 19, 20, 21, 22, 23, 24, 25, 26, 27, 28, 29, 30, 31, 32, 33, 34, 35, 36, 37] (fun a0_ b a w' => ∃ (v191 : Value) (v194 : Value) (v198 : Value) (v201 : Value), a = putSel a0_ b [(1, 38, .bool (t184 != 0)), (2, 39, .bool (t184 != 0)), (3, 40, .int .u64 t183), (4, 41, .int .u64 a2), (5, 42, .bool (t183 != a2)), (6, 43, .bool (t183 != a2)), (7, 44, .bool (t183 != a2)), (8, 45, .int .i64 t189), (9, 46, .bool (t189 != 0)), (10, 47, .bool (t189 != 0)), (11, 48, .bool (t189 != 0)), (12, 49, .int .u64 t188), (13, 50, .int .u64 a2), (14, 51, .bool (t188 != a2)), (15, 52, .bool (t188 != a2)), (16, 53, .bool (t188 != a2)), (17, 54, .slice A1 l1.length c1), (18, 55, v191), (19, 56, v194), (20, 57, .slice A1 l1.length c1), (21, 58, .bool true), (22, 59, .bool (!true)), (23, 60, .bool (!true)), (24, 61, .bool (!true)), (25, 62, .slice A0 l0.length c0), (26, 63, v198), (27, 64, v201), (28, 65, .string (strOfNums t200)), (29, 66, .slice A0 l0.length c0), (30, 67, .slice A0 l0.length c0), (31, 68, .int .i64 (l0.length : Int)), (32, 69, .int .i64 (wrap64 ((l0.length : Int) / 4))), (33, 70, .int .i64 ji30), (34, 71, .slice A0 (l0.take ((ji30) : Int).toNat).length c0), (35, 72, .string (strOfNums (l0.take ((ji30) : Int).toNat))), (36, 73, .bool ((strOfNums t200).toList != (strOfNums (l0.take ((ji30) : Int).toNat)).toList)), (37, 74, .bool ((strOfNums t200).toList != (strOfNums (l0.take ((ji30) : Int).toNat)).toList))] ∧ (Kd.R (Kd.int .u8) 5 w' w.heap.size (fun k_ => some k_ ≠ (.slice Ao19 t185.length co19 : Value).ownBlock) (.slice Ao17 t180.length co17) t180) ∧ (Kd.R (Kd.int .u8) 5 w' w.heap.size (fun k_ => some k_ ≠ (.slice Ao17 t180.length co17 : Value).ownBlock) (.slice Ao19 t185.length co19) t185) ∧ (Below w.heap.size w w') ∧ (b 18 = true → Kd.R (Kd.int .u8) 5 w' w.heap.size (fun k_ => some k_ ≠ (.slice Ao17 t180.length co17 : Value).ownBlock ∧ some k_ ≠ (.slice Ao19 t185.length co19 : Value).ownBlock) v191 t190) ∧ (b 19 = true → Kd.R (Kd.int .u32) 23 w' w.heap.size (fun _ => True) v194 t193) ∧ (b 26 = true → Kd.R (Kd.int .u32) 23 w' w.heap.size (fun _ => True) v198 t197) ∧ (b 27 = true → Kd.R (Kd.int .u8) 5 w' w.heap.size (fun k_ => some k_ ≠ (.slice Ao17 t180.length co17 : Value).ownBlock ∧ some k_ ≠ (.slice Ao19 t185.length co19 : Value).ownBlock) v201 t200)) HT_.out HW_.out (by kernel_rfl) (by kernel_rfl) ?_ ?_ ?_
              ·exact ⟨.bool false, .bool false, .bool false, .bool false, by simp only [putSel, Bool.false_eq_true, if_false], HO182.out, HO187.out, HB.out, fun h_ => absurd h_ (by decide), fun h_ => absurd h_ (by decide), fun h_ => absurd h_ (by decide), fun h_ => absurd h_ (by decide)⟩
              ·skip
               clear HB HO182 HO187; refine steps_cons ?_ ?_
               ·rintro b a w' ⟨v191, v194, v198, v201, ha, Q_HO182, Q_HO187, Q_HB, Q_HO192, Q_HO195, Q_HO199, Q_HO202⟩ hb_ hon hoff
                refine ⟨_, rfl, fun K hK => ?_⟩; have e37 : a.tmps[37]? = some (.int .i64 t184) := by rw [ha]; exact (putSel_off rfl).trans rfl
                replace ha := Aside0.mk ha; have HO182 := Aside0.mk Q_HO182; have HO187 := Aside0.mk Q_HO187; have HB := Aside0.mk Q_HB; refine value_ (w1 := w') (v := .bool (t184 != 0)) (by rfl) rfl ?_ ?_
                ·go_simp
                 (try simp only [i64_w])
                 try first | rfl | (simp [bne]; done)
                refine hK.out _ _ ⟨v191, v194, v198, v201, (by rw [ha.out]; exact putSel_upk 0 hb_ rfl rfl rfl), Q_HO182, Q_HO187, Q_HB, ofK (hoff 18 (by kernel_rfl)), ofK (hoff 19 (by kernel_rfl)), ofK (hoff 26 (by kernel_rfl)), ofK (hoff 27 (by kernel_rfl))⟩
               refine steps_cons ?_ ?_
               ·rintro b a w' ⟨v191, v194, v198, v201, ha, Q_HO182, Q_HO187, Q_HB, Q_HO192, Q_HO195, Q_HO199, Q_HO202⟩ hb_ hon hoff
                refine ⟨_, rfl, fun K hK => ?_⟩; have e38 : a.tmps[38]? = some (.bool (t184 != 0)) := by rw [ha]; exact putSel_on (e := (1, 38, .bool (t184 != 0))) 0 rfl rfl (hon 1 (by kernel_rfl)) rfl
                replace ha := Aside0.mk ha; have HO182 := Aside0.mk Q_HO182; have HO187 := Aside0.mk Q_HO187; have HB := Aside0.mk Q_HB; refine value_ (w1 := w') (v := .bool (t184 != 0)) (by rfl) rfl ?_ ?_
                ·go_simp
                 (try simp only [i64_w])
                 try first | rfl | (simp [bne]; done)
                refine hK.out _ _ ⟨v191, v194, v198, v201, (by rw [ha.out]; exact putSel_upk 1 hb_ rfl rfl rfl), Q_HO182, Q_HO187, Q_HB, ofK (hoff 18 (by kernel_rfl)), ofK (hoff 19 (by kernel_rfl)), ofK (hoff 26 (by kernel_rfl)), ofK (hoff 27 (by kernel_rfl))⟩
               refine steps_cons ?_ ?_
               ·rintro b a w' ⟨v191, v194, v198, v201, ha, Q_HO182, Q_HO187, Q_HB, Q_HO192, Q_HO195, Q_HO199, Q_HO202⟩ hb_ hon hoff
                refine ⟨_, rfl, fun K hK => ?_⟩; have e9 : a.tmps[9]? = some (.int .u64 t183) := by rw [ha]; exact (putSel_off rfl).trans rfl
                have e39 : a.tmps[39]? = some (.bool (t184 != 0)) := by rw [ha]; exact putSel_on (e := (2, 39, .bool (t184 != 0))) 1 rfl rfl (hon 2 (by kernel_rfl)) rfl
                replace ha := Aside0.mk ha; have HO182 := Aside0.mk Q_HO182; have HO187 := Aside0.mk Q_HO187; have HB := Aside0.mk Q_HB; refine value_ (w1 := w') (v := .int .u64 t183) (wanted_on rfl rfl rfl (e39.trans (by first | rfl | (simp [*]; done)))) rfl ?_ ?_
                ·go_simp
                 (try simp only [i64_w])
                 try first | rfl | (simp [bne]; done)
                refine hK.out _ _ ⟨v191, v194, v198, v201, (by rw [ha.out]; exact putSel_upk 2 hb_ rfl rfl rfl), Q_HO182, Q_HO187, Q_HB, ofK (hoff 18 (by kernel_rfl)), ofK (hoff 19 (by kernel_rfl)), ofK (hoff 26 (by kernel_rfl)), ofK (hoff 27 (by kernel_rfl))⟩
               refine steps_cons ?_ ?_
               ·rintro b a w' ⟨v191, v194, v198, v201, ha, Q_HO182, Q_HO187, Q_HB, Q_HO192, Q_HO195, Q_HO199, Q_HO202⟩ hb_ hon hoff
                refine ⟨_, rfl, fun K hK => ?_⟩; have e2 : a.tmps[2]? = some (.int .u64 a2) := by rw [ha]; exact (putSel_off rfl).trans rfl
                have e39 : a.tmps[39]? = some (.bool (t184 != 0)) := by rw [ha]; exact putSel_on (e := (2, 39, .bool (t184 != 0))) 1 rfl rfl (hon 2 (by kernel_rfl)) rfl
                replace ha := Aside0.mk ha; have HO182 := Aside0.mk Q_HO182; have HO187 := Aside0.mk Q_HO187; have HB := Aside0.mk Q_HB; refine value_ (w1 := w') (v := .int .u64 a2) (wanted_on rfl rfl rfl (e39.trans (by first | rfl | (simp [*]; done)))) rfl ?_ ?_
                ·go_simp
                 (try simp only [i64_w])
                 try first | rfl | (simp [bne]; done)
                refine hK.out _ _ ⟨v191, v194, v198, v201, (by rw [ha.out]; exact putSel_upk 3 hb_ rfl rfl rfl), Q_HO182, Q_HO187, Q_HB, ofK (hoff 18 (by kernel_rfl)), ofK (hoff 19 (by kernel_rfl)), ofK (hoff 26 (by kernel_rfl)), ofK (hoff 27 (by kernel_rfl))⟩
               refine steps_cons ?_ ?_
               ·rintro b a w' ⟨v191, v194, v198, v201, ha, Q_HO182, Q_HO187, Q_HB, Q_HO192, Q_HO195, Q_HO199, Q_HO202⟩ hb_ hon hoff
                refine ⟨_, rfl, fun K hK => ?_⟩; have e40 : a.tmps[40]? = some (.int .u64 t183) := by rw [ha]; exact putSel_on (e := (3, 40, .int .u64 t183)) 2 rfl rfl (hon 3 (by kernel_rfl)) rfl
                have e41 : a.tmps[41]? = some (.int .u64 a2) := by rw [ha]; exact putSel_on (e := (4, 41, .int .u64 a2)) 3 rfl rfl (hon 4 (by kernel_rfl)) rfl
                have e39 : a.tmps[39]? = some (.bool (t184 != 0)) := by rw [ha]; exact putSel_on (e := (2, 39, .bool (t184 != 0))) 1 rfl rfl (hon 2 (by kernel_rfl)) rfl
                replace ha := Aside0.mk ha; have HO182 := Aside0.mk Q_HO182; have HO187 := Aside0.mk Q_HO187; have HB := Aside0.mk Q_HB; refine value_ (w1 := w') (v := .bool (t183 != a2)) (wanted_on rfl rfl rfl (e39.trans (by first | rfl | (simp [*]; done)))) rfl ?_ ?_
                ·go_simp
                 (try simp only [i64_w])
                 try first | rfl | (simp [bne]; done)
                refine hK.out _ _ ⟨v191, v194, v198, v201, (by rw [ha.out]; exact putSel_upk 4 hb_ rfl rfl rfl), Q_HO182, Q_HO187, Q_HB, ofK (hoff 18 (by kernel_rfl)), ofK (hoff 19 (by kernel_rfl)), ofK (hoff 26 (by kernel_rfl)), ofK (hoff 27 (by kernel_rfl))⟩
               refine steps_cons ?_ ?_
               ·rintro b a w' ⟨v191, v194, v198, v201, ha, Q_HO182, Q_HO187, Q_HB, Q_HO192, Q_HO195, Q_HO199, Q_HO202⟩ hb_ hon hoff
                refine ⟨_, rfl, fun K hK => ?_⟩; have e39 : a.tmps[39]? = some (.bool (t184 != 0)) := by rw [ha]; exact putSel_on (e := (2, 39, .bool (t184 != 0))) 1 rfl rfl (hon 2 (by kernel_rfl)) rfl
                have e42 : a.tmps[42]? = some (.bool (t183 != a2)) := by rw [ha]; exact putSel_on (e := (5, 42, .bool (t183 != a2))) 4 rfl rfl (hon 5 (by kernel_rfl)) rfl
                replace ha := Aside0.mk ha; have HO182 := Aside0.mk Q_HO182; have HO187 := Aside0.mk Q_HO187; have HB := Aside0.mk Q_HB; refine value_ (w1 := w') (v := .bool (t183 != a2)) (by rfl) rfl ?_ ?_
                ·go_simp
                 (try simp only [i64_w])
                 try first | rfl | (simp [bne]; done)
                refine hK.out _ _ ⟨v191, v194, v198, v201, (by rw [ha.out]; exact putSel_upk 5 hb_ rfl rfl rfl), Q_HO182, Q_HO187, Q_HB, ofK (hoff 18 (by kernel_rfl)), ofK (hoff 19 (by kernel_rfl)), ofK (hoff 26 (by kernel_rfl)), ofK (hoff 27 (by kernel_rfl))⟩
               refine steps_cons ?_ ?_
               ·rintro b a w' ⟨v191, v194, v198, v201, ha, Q_HO182, Q_HO187, Q_HB, Q_HO192, Q_HO195, Q_HO199, Q_HO202⟩ hb_ hon hoff
                refine ⟨_, rfl, fun K hK => ?_⟩; have e43 : a.tmps[43]? = some (.bool (t183 != a2)) := by rw [ha]; exact putSel_on (e := (6, 43, .bool (t183 != a2))) 5 rfl rfl (hon 6 (by kernel_rfl)) rfl
                replace ha := Aside0.mk ha; have HO182 := Aside0.mk Q_HO182; have HO187 := Aside0.mk Q_HO187; have HB := Aside0.mk Q_HB; refine value_ (w1 := w') (v := .bool (t183 != a2)) (by rfl) rfl ?_ ?_
                ·go_simp
                 (try simp only [i64_w])
                 try first | rfl | (simp [bne]; done)
                refine hK.out _ _ ⟨v191, v194, v198, v201, (by rw [ha.out]; exact putSel_upk 6 hb_ rfl rfl rfl), Q_HO182, Q_HO187, Q_HB, ofK (hoff 18 (by kernel_rfl)), ofK (hoff 19 (by kernel_rfl)), ofK (hoff 26 (by kernel_rfl)), ofK (hoff 27 (by kernel_rfl))⟩
               refine steps_cons ?_ ?_
               ·rintro b a w' ⟨v191, v194, v198, v201, ha, Q_HO182, Q_HO187, Q_HB, Q_HO192, Q_HO195, Q_HO199, Q_HO202⟩ hb_ hon hoff
                refine ⟨_, rfl, fun K hK => ?_⟩; have e12 : a.tmps[12]? = some (.int .i64 t189) := by rw [ha]; exact (putSel_off rfl).trans rfl
                have e44 : a.tmps[44]? = some (.bool (t183 != a2)) := by rw [ha]; exact putSel_on (e := (7, 44, .bool (t183 != a2))) 6 rfl rfl (hon 7 (by kernel_rfl)) rfl
                replace ha := Aside0.mk ha; have HO182 := Aside0.mk Q_HO182; have HO187 := Aside0.mk Q_HO187; have HB := Aside0.mk Q_HB; refine value_ (w1 := w') (v := .int .i64 t189) (wanted_on rfl rfl rfl (e44.trans (by first | rfl | (simp [*]; done)))) rfl ?_ ?_
                ·go_simp
                 (try simp only [i64_w])
                 try first | rfl | (simp [bne]; done)
                refine hK.out _ _ ⟨v191, v194, v198, v201, (by rw [ha.out]; exact putSel_upk 7 hb_ rfl rfl rfl), Q_HO182, Q_HO187, Q_HB, ofK (hoff 18 (by kernel_rfl)), ofK (hoff 19 (by kernel_rfl)), ofK (hoff 26 (by kernel_rfl)), ofK (hoff 27 (by kernel_rfl))⟩
               refine steps_cons ?_ ?_
               ·rintro b a w' ⟨v191, v194, v198, v201, ha, Q_HO182, Q_HO187, Q_HB, Q_HO192, Q_HO195, Q_HO199, Q_HO202⟩ hb_ hon hoff
                refine ⟨_, rfl, fun K hK => ?_⟩; have e45 : a.tmps[45]? = some (.int .i64 t189) := by rw [ha]; exact putSel_on (e := (8, 45, .int .i64 t189)) 7 rfl rfl (hon 8 (by kernel_rfl)) rfl
                have e44 : a.tmps[44]? = some (.bool (t183 != a2)) := by rw [ha]; exact putSel_on (e := (7, 44, .bool (t183 != a2))) 6 rfl rfl (hon 7 (by kernel_rfl)) rfl
                replace ha := Aside0.mk ha; have HO182 := Aside0.mk Q_HO182; have HO187 := Aside0.mk Q_HO187; have HB := Aside0.mk Q_HB; refine value_ (w1 := w') (v := .bool (t189 != 0)) (wanted_on rfl rfl rfl (e44.trans (by first | rfl | (simp [*]; done)))) rfl ?_ ?_
                ·go_simp
                 (try simp only [i64_w])
                 try first | rfl | (simp [bne]; done)
                refine hK.out _ _ ⟨v191, v194, v198, v201, (by rw [ha.out]; exact putSel_upk 8 hb_ rfl rfl rfl), Q_HO182, Q_HO187, Q_HB, ofK (hoff 18 (by kernel_rfl)), ofK (hoff 19 (by kernel_rfl)), ofK (hoff 26 (by kernel_rfl)), ofK (hoff 27 (by kernel_rfl))⟩
               refine steps_cons ?_ ?_
               ·rintro b a w' ⟨v191, v194, v198, v201, ha, Q_HO182, Q_HO187, Q_HB, Q_HO192, Q_HO195, Q_HO199, Q_HO202⟩ hb_ hon hoff
                refine ⟨_, rfl, fun K hK => ?_⟩; have e44 : a.tmps[44]? = some (.bool (t183 != a2)) := by rw [ha]; exact putSel_on (e := (7, 44, .bool (t183 != a2))) 6 rfl rfl (hon 7 (by kernel_rfl)) rfl
                have e46 : a.tmps[46]? = some (.bool (t189 != 0)) := by rw [ha]; exact putSel_on (e := (9, 46, .bool (t189 != 0))) 8 rfl rfl (hon 9 (by kernel_rfl)) rfl
                replace ha := Aside0.mk ha; have HO182 := Aside0.mk Q_HO182; have HO187 := Aside0.mk Q_HO187; have HB := Aside0.mk Q_HB; refine value_ (w1 := w') (v := .bool (t189 != 0)) (by rfl) rfl ?_ ?_
                ·go_simp
                 (try simp only [i64_w])
                 try first | rfl | (simp [bne]; done)
                refine hK.out _ _ ⟨v191, v194, v198, v201, (by rw [ha.out]; exact putSel_upk 9 hb_ rfl rfl rfl), Q_HO182, Q_HO187, Q_HB, ofK (hoff 18 (by kernel_rfl)), ofK (hoff 19 (by kernel_rfl)), ofK (hoff 26 (by kernel_rfl)), ofK (hoff 27 (by kernel_rfl))⟩
               refine steps_cons ?_ ?_
               ·rintro b a w' ⟨v191, v194, v198, v201, ha, Q_HO182, Q_HO187, Q_HB, Q_HO192, Q_HO195, Q_HO199, Q_HO202⟩ hb_ hon hoff
                refine ⟨_, rfl, fun K hK => ?_⟩; have e47 : a.tmps[47]? = some (.bool (t189 != 0)) := by rw [ha]; exact putSel_on (e := (10, 47, .bool (t189 != 0))) 9 rfl rfl (hon 10 (by kernel_rfl)) rfl
                replace ha := Aside0.mk ha; have HO182 := Aside0.mk Q_HO182; have HO187 := Aside0.mk Q_HO187; have HB := Aside0.mk Q_HB; refine value_ (w1 := w') (v := .bool (t189 != 0)) (by rfl) rfl ?_ ?_
                ·go_simp
                 (try simp only [i64_w])
                 try first | rfl | (simp [bne]; done)
                refine hK.out _ _ ⟨v191, v194, v198, v201, (by rw [ha.out]; exact putSel_upk 10 hb_ rfl rfl rfl), Q_HO182, Q_HO187, Q_HB, ofK (hoff 18 (by kernel_rfl)), ofK (hoff 19 (by kernel_rfl)), ofK (hoff 26 (by kernel_rfl)), ofK (hoff 27 (by kernel_rfl))⟩
               refine steps_cons ?_ ?_
               ·rintro b a w' ⟨v191, v194, v198, v201, ha, Q_HO182, Q_HO187, Q_HB, Q_HO192, Q_HO195, Q_HO199, Q_HO202⟩ hb_ hon hoff
                refine ⟨_, rfl, fun K hK => ?_⟩; have e11 : a.tmps[11]? = some (.int .u64 t188) := by rw [ha]; exact (putSel_off rfl).trans rfl
                have e48 : a.tmps[48]? = some (.bool (t189 != 0)) := by rw [ha]; exact putSel_on (e := (11, 48, .bool (t189 != 0))) 10 rfl rfl (hon 11 (by kernel_rfl)) rfl
                replace ha := Aside0.mk ha; have HO182 := Aside0.mk Q_HO182; have HO187 := Aside0.mk Q_HO187; have HB := Aside0.mk Q_HB; refine value_ (w1 := w') (v := .int .u64 t188) (wanted_on rfl rfl rfl (e48.trans (by first | rfl | (simp [*]; done)))) rfl ?_ ?_
                ·go_simp
                 (try simp only [i64_w])
                 try first | rfl | (simp [bne]; done)
                refine hK.out _ _ ⟨v191, v194, v198, v201, (by rw [ha.out]; exact putSel_upk 11 hb_ rfl rfl rfl), Q_HO182, Q_HO187, Q_HB, ofK (hoff 18 (by kernel_rfl)), ofK (hoff 19 (by kernel_rfl)), ofK (hoff 26 (by kernel_rfl)), ofK (hoff 27 (by kernel_rfl))⟩
               refine steps_cons ?_ ?_
               ·rintro b a w' ⟨v191, v194, v198, v201, ha, Q_HO182, Q_HO187, Q_HB, Q_HO192, Q_HO195, Q_HO199, Q_HO202⟩ hb_ hon hoff
                refine ⟨_, rfl, fun K hK => ?_⟩; have e2 : a.tmps[2]? = some (.int .u64 a2) := by rw [ha]; exact (putSel_off rfl).trans rfl
                have e48 : a.tmps[48]? = some (.bool (t189 != 0)) := by rw [ha]; exact putSel_on (e := (11, 48, .bool (t189 != 0))) 10 rfl rfl (hon 11 (by kernel_rfl)) rfl
                replace ha := Aside0.mk ha; have HO182 := Aside0.mk Q_HO182; have HO187 := Aside0.mk Q_HO187; have HB := Aside0.mk Q_HB; refine value_ (w1 := w') (v := .int .u64 a2) (wanted_on rfl rfl rfl (e48.trans (by first | rfl | (simp [*]; done)))) rfl ?_ ?_
                ·go_simp
                 (try simp only [i64_w])
                 try first | rfl | (simp [bne]; done)
                refine hK.out _ _ ⟨v191, v194, v198, v201, (by rw [ha.out]; exact putSel_upk 12 hb_ rfl rfl rfl), Q_HO182, Q_HO187, Q_HB, ofK (hoff 18 (by kernel_rfl)), ofK (hoff 19 (by kernel_rfl)), ofK (hoff 26 (by kernel_rfl)), ofK (hoff 27 (by kernel_rfl))⟩
               refine steps_cons ?_ ?_
               ·rintro b a w' ⟨v191, v194, v198, v201, ha, Q_HO182, Q_HO187, Q_HB, Q_HO192, Q_HO195, Q_HO199, Q_HO202⟩ hb_ hon hoff
                refine ⟨_, rfl, fun K hK => ?_⟩; have e49 : a.tmps[49]? = some (.int .u64 t188) := by rw [ha]; exact putSel_on (e := (12, 49, .int .u64 t188)) 11 rfl rfl (hon 12 (by kernel_rfl)) rfl
                have e50 : a.tmps[50]? = some (.int .u64 a2) := by rw [ha]; exact putSel_on (e := (13, 50, .int .u64 a2)) 12 rfl rfl (hon 13 (by kernel_rfl)) rfl
                have e48 : a.tmps[48]? = some (.bool (t189 != 0)) := by rw [ha]; exact putSel_on (e := (11, 48, .bool (t189 != 0))) 10 rfl rfl (hon 11 (by kernel_rfl)) rfl
                replace ha := Aside0.mk ha; have HO182 := Aside0.mk Q_HO182; have HO187 := Aside0.mk Q_HO187; have HB := Aside0.mk Q_HB; refine value_ (w1 := w') (v := .bool (t188 != a2)) (wanted_on rfl rfl rfl (e48.trans (by first | rfl | (simp [*]; done)))) rfl ?_ ?_
                ·go_simp
                 (try simp only [i64_w])
                 try first | rfl | (simp [bne]; done)
                refine hK.out _ _ ⟨v191, v194, v198, v201, (by rw [ha.out]; exact putSel_upk 13 hb_ rfl rfl rfl), Q_HO182, Q_HO187, Q_HB, ofK (hoff 18 (by kernel_rfl)), ofK (hoff 19 (by kernel_rfl)), ofK (hoff 26 (by kernel_rfl)), ofK (hoff 27 (by kernel_rfl))⟩
               refine steps_cons ?_ ?_
               ·rintro b a w' ⟨v191, v194, v198, v201, ha, Q_HO182, Q_HO187, Q_HB, Q_HO192, Q_HO195, Q_HO199, Q_HO202⟩ hb_ hon hoff
                refine ⟨_, rfl, fun K hK => ?_⟩; have e48 : a.tmps[48]? = some (.bool (t189 != 0)) := by rw [ha]; exact putSel_on (e := (11, 48, .bool (t189 != 0))) 10 rfl rfl (hon 11 (by kernel_rfl)) rfl
                have e51 : a.tmps[51]? = some (.bool (t188 != a2)) := by rw [ha]; exact putSel_on (e := (14, 51, .bool (t188 != a2))) 13 rfl rfl (hon 14 (by kernel_rfl)) rfl
                replace ha := Aside0.mk ha; have HO182 := Aside0.mk Q_HO182; have HO187 := Aside0.mk Q_HO187; have HB := Aside0.mk Q_HB; refine value_ (w1 := w') (v := .bool (t188 != a2)) (by rfl) rfl ?_ ?_
                ·go_simp
                 (try simp only [i64_w])
                 try first | rfl | (simp [bne]; done)
                refine hK.out _ _ ⟨v191, v194, v198, v201, (by rw [ha.out]; exact putSel_upk 14 hb_ rfl rfl rfl), Q_HO182, Q_HO187, Q_HB, ofK (hoff 18 (by kernel_rfl)), ofK (hoff 19 (by kernel_rfl)), ofK (hoff 26 (by kernel_rfl)), ofK (hoff 27 (by kernel_rfl))⟩
               refine steps_cons ?_ ?_
               ·rintro b a w' ⟨v191, v194, v198, v201, ha, Q_HO182, Q_HO187, Q_HB, Q_HO192, Q_HO195, Q_HO199, Q_HO202⟩ hb_ hon hoff
                refine ⟨_, rfl, fun K hK => ?_⟩; have e52 : a.tmps[52]? = some (.bool (t188 != a2)) := by rw [ha]; exact putSel_on (e := (15, 52, .bool (t188 != a2))) 14 rfl rfl (hon 15 (by kernel_rfl)) rfl
                replace ha := Aside0.mk ha; have HO182 := Aside0.mk Q_HO182; have HO187 := Aside0.mk Q_HO187; have HB := Aside0.mk Q_HB; refine value_ (w1 := w') (v := .bool (t188 != a2)) (by rfl) rfl ?_ ?_
                ·go_simp
                 (try simp only [i64_w])
                 try first | rfl | (simp [bne]; done)
                refine hK.out _ _ ⟨v191, v194, v198, v201, (by rw [ha.out]; exact putSel_upk 15 hb_ rfl rfl rfl), Q_HO182, Q_HO187, Q_HB, ofK (hoff 18 (by kernel_rfl)), ofK (hoff 19 (by kernel_rfl)), ofK (hoff 26 (by kernel_rfl)), ofK (hoff 27 (by kernel_rfl))⟩
               refine steps_cons ?_ ?_
               ·rintro b a w' ⟨v191, v194, v198, v201, ha, Q_HO182, Q_HO187, Q_HB, Q_HO192, Q_HO195, Q_HO199, Q_HO202⟩ hb_ hon hoff
                refine ⟨_, rfl, fun K hK => ?_⟩; have e1 : a.tmps[1]? = some (.slice A1 l1.length c1) := by rw [ha]; exact (putSel_off rfl).trans rfl
                have e53 : a.tmps[53]? = some (.bool (t188 != a2)) := by rw [ha]; exact putSel_on (e := (16, 53, .bool (t188 != a2))) 15 rfl rfl (hon 16 (by kernel_rfl)) rfl
                replace ha := Aside0.mk ha; have HO182 := Aside0.mk Q_HO182; have HO187 := Aside0.mk Q_HO187; have HB := Aside0.mk Q_HB; refine value_ (w1 := w') (v := .slice A1 l1.length c1) (wanted_on rfl rfl rfl (e53.trans (by first | rfl | (simp [*]; done)))) rfl ?_ ?_
                ·go_simp
                 (try simp only [i64_w])
                 try first | rfl | (simp [bne]; done)
                refine hK.out _ _ ⟨v191, v194, v198, v201, (by rw [ha.out]; exact putSel_upk 16 hb_ rfl rfl rfl), Q_HO182, Q_HO187, Q_HB, ofK (hoff 18 (by kernel_rfl)), ofK (hoff 19 (by kernel_rfl)), ofK (hoff 26 (by kernel_rfl)), ofK (hoff 27 (by kernel_rfl))⟩
               refine steps_cons ?_ ?_
               ·rintro b a w' ⟨v191, v194, v198, v201, ha, Q_HO182, Q_HO187, Q_HB, Q_HO192, Q_HO195, Q_HO199, Q_HO202⟩ hb_ hon hoff
                refine ⟨_, rfl, fun K hK => ?_⟩; have e54 : a.tmps[54]? = some (.slice A1 l1.length c1) := by rw [ha]; exact putSel_on (e := (17, 54, .slice A1 l1.length c1)) 16 rfl rfl (hon 17 (by kernel_rfl)) rfl
                have e53 : a.tmps[53]? = some (.bool (t188 != a2)) := by rw [ha]; exact putSel_on (e := (16, 53, .bool (t188 != a2))) 15 rfl rfl (hon 16 (by kernel_rfl)) rfl
                replace ha := Aside0.mk ha; have HO182 := Aside0.mk Q_HO182; have HO187 := Aside0.mk Q_HO187; have HB := Aside0.mk Q_HB; refine goes_ Try.func32 (by kernel_rfl) rfl #[.slice A1 l1.length c1] (by first | rfl | (simp [Region.wanted, yielded, *]; done)) rfl rfl (by first | (simp only [mT, mC, mN, Act.eval, gD, oG, e54, e53]; done) | (simp only [mT, mC, mN, Act.eval, gD, oG, e54, e53]; rfl)) ?_
                with_reducible refine (word_Bytes.calls kj6 _ _ l1 t190 _ ?side1 ?side2 A24.out).mono ?_
                (case side1 => repeat (first | exact (Kd.C_below HR1.out HB.out) | (with_reducible refine Kd.C_alloc ?_ _) | (with_reducible refine Kd.C_drewN ?_ _) | (with_reducible refine Kd.C_drew ?_)))
                (case side2 => exact HC1.out)
                rintro e w34 ⟨v191, rfl, ho0, hb⟩
                refine ⟨_, rfl, ?_⟩; have n0_ := Aside0.mk (Kd.R_elder' (by (with_reducible repeat (first | apply rL | apply rN | apply rW)); exact HO182.out) (Kd.R_base ho0) hb); have n1_ := Aside0.mk (Kd.R_elder' (by (with_reducible repeat (first | apply rL | apply rN | apply rW)); exact HO187.out) (Kd.R_base ho0) hb); have n2_ := Aside0.mk (Kd.R_lower (Kd.R_new' (Kd.R_new' ho0 (Kd.R_lt (by (with_reducible repeat (first | apply rL | apply rN | apply rW)); exact HO182.out))) (Kd.R_lt (by (with_reducible repeat (first | apply rL | apply rN | apply rW)); exact HO187.out))) (below_size (by repeat (first | (with_reducible first | exact HB.out | apply bA | apply bN | apply bD) | exact HB.out)))); have n3_ := Aside0.mk (below_step (by repeat (first | (with_reducible first | exact HB.out | apply bA | apply bN | apply bD) | exact HB.out)) hb); clear HO182; clear HO187; clear HB; have HO182 := n0_; have HO187 := n1_; have HO192 := n2_; have HB := n3_; clear n0_ n1_ n2_ n3_; (try clear hb); (try clear hb2); (try clear hk); (try clear hi); (try clear ho0); refine hK.out _ _ ⟨v191, v194, v198, v201, (by rw [ha.out]; exact putSel_upk 17 hb_ rfl rfl rfl), (by (with_reducible repeat (first | apply rL | apply rN | apply rW)); first | exact Kd.R_mono HO182.out (fun _ hk => ⟨hk.1.2, hk.2⟩) | exact Kd.R_mono (HO182.out) (fun _ hk => by first | trivial | exact hk | exact hk.1 | ((repeat' apply And.intro) <;> first | exact hk.2 | exact hk.1.2 | exact hk.1.1.2))), (by (with_reducible repeat (first | apply rL | apply rN | apply rW)); first | exact Kd.R_mono HO187.out (fun _ hk => ⟨hk.1.2, hk.2⟩) | exact Kd.R_mono (HO187.out) (fun _ hk => by first | trivial | exact hk | exact hk.1 | ((repeat' apply And.intro) <;> first | exact hk.2 | exact hk.1.2 | exact hk.1.1.2))), (by repeat (first | (with_reducible first | exact HB.out | apply bA | apply bN | apply bD) | exact HB.out)), fun _ => (by (with_reducible repeat (first | apply rL | apply rN | apply rW)); exact Kd.R_mono HO192.out (fun _ hk => ⟨hk.1.2, hk.2⟩)), ofK (hoff 19 (by kernel_rfl)), ofK (hoff 26 (by kernel_rfl)), ofK (hoff 27 (by kernel_rfl))⟩
               refine steps_cons ?_ ?_
               ·rintro b a w' ⟨v191, v194, v198, v201, ha, Q_HO182, Q_HO187, Q_HB, Q_HO192, Q_HO195, Q_HO199, Q_HO202⟩ hb_ hon hoff
                refine ⟨_, rfl, fun K hK => ?_⟩; have e55 : a.tmps[55]? = some (v191) := by rw [ha]; exact putSel_on (e := (18, 55, v191)) 17 rfl rfl (hon 18 (by kernel_rfl)) rfl
                have e53 : a.tmps[53]? = some (.bool (t188 != a2)) := by rw [ha]; exact putSel_on (e := (16, 53, .bool (t188 != a2))) 15 rfl rfl (hon 16 (by kernel_rfl)) rfl
                replace ha := Aside0.mk ha; have HO182 := Aside0.mk Q_HO182; have HO187 := Aside0.mk Q_HO187; have HB := Aside0.mk Q_HB; have HO192 := Aside0.mk (Q_HO192 (hon 18 (by kernel_rfl))); obtain ⟨Ao36, co36, eo36⟩ := Kd.R_slice HO192.out
                (first | subst eo36 | (injection eo36 with f1_ f2_ f3_; have f4_ := f1_.symm; have f5_ := f3_.symm; clear f1_ f2_ f3_; subst f4_; subst f5_)); refine goes_ Try.func30 (by kernel_rfl) rfl #[.slice Ao36 t190.length co36] (by first | rfl | (simp [Region.wanted, yielded, *]; done)) rfl rfl (by first | (simp only [mT, mC, mN, Act.eval, gD, oG, e55, e53]; done) | (simp only [mT, mC, mN, Act.eval, gD, oG, e55, e53]; rfl)) ?_
                with_reducible refine (word_Words.calls kj6 (fun k_ => some k_ = (.slice Ao36 t190.length co36 : Value).ownBlock) _ _ t190 t193 _ ?side1 A25.out).mono ?_
                (case side1 => exact Kd.R_V (Kd.R_tight rfl (HO192.out)))
                rintro e w37 ⟨v194, rfl, ho0, hb⟩
                refine ⟨_, rfl, ?_⟩; have n0_ := Aside0.mk (Kd.R_below (by (with_reducible repeat (first | apply rL | apply rN | apply rW)); exact HO182.out) hb); have n1_ := Aside0.mk (Kd.R_below (by (with_reducible repeat (first | apply rL | apply rN | apply rW)); exact HO187.out) hb); have n2_ := Aside0.mk (Kd.R_below (by (with_reducible repeat (first | apply rL | apply rN | apply rW)); exact HO192.out) hb); have n3_ := Aside0.mk (Kd.R_lower (Kd.R_mono (ok' := fun k_ => True) ho0 (fun _ hk_ => trivial)) (below_size (by repeat (first | (with_reducible first | exact HB.out | apply bA | apply bN | apply bD) | exact HB.out)))); have n4_ := Aside0.mk (below_step (by repeat (first | (with_reducible first | exact HB.out | apply bA | apply bN | apply bD) | exact HB.out)) hb); clear HO182; clear HO187; clear HO192; clear HB; have HO182 := n0_; have HO187 := n1_; have HO192 := n2_; have HO195 := n3_; have HB := n4_; clear n0_ n1_ n2_ n3_ n4_; (try clear hb); (try clear hb2); (try clear hk); (try clear hi); (try clear ho0); refine hK.out _ _ ⟨.slice Ao36 t190.length co36, v194, v198, v201, (by rw [ha.out]; exact putSel_upk 18 hb_ rfl rfl rfl), (by (with_reducible repeat (first | apply rL | apply rN | apply rW)); first | exact HO182.out | exact Kd.R_mono (HO182.out) (fun _ hk => by first | trivial | exact hk | exact hk.1 | ((repeat' apply And.intro) <;> first | exact hk.2 | exact hk.1.2 | exact hk.1.1.2))), (by (with_reducible repeat (first | apply rL | apply rN | apply rW)); first | exact HO187.out | exact Kd.R_mono (HO187.out) (fun _ hk => by first | trivial | exact hk | exact hk.1 | ((repeat' apply And.intro) <;> first | exact hk.2 | exact hk.1.2 | exact hk.1.1.2))), (by repeat (first | (with_reducible first | exact HB.out | apply bA | apply bN | apply bD) | exact HB.out)), fun _ => (by (with_reducible repeat (first | apply rL | apply rN | apply rW)); exact HO192.out), fun _ => (by (with_reducible repeat (first | apply rL | apply rN | apply rW)); exact HO195.out), ofK (hoff 26 (by kernel_rfl)), ofK (hoff 27 (by kernel_rfl))⟩
               refine steps_cons ?_ ?_
               ·rintro b a w' ⟨v191, v194, v198, v201, ha, Q_HO182, Q_HO187, Q_HB, Q_HO192, Q_HO195, Q_HO199, Q_HO202⟩ hb_ hon hoff
                refine ⟨_, rfl, fun K hK => ?_⟩; have e1 : a.tmps[1]? = some (.slice A1 l1.length c1) := by rw [ha]; exact (putSel_off rfl).trans rfl
                have e53 : a.tmps[53]? = some (.bool (t188 != a2)) := by rw [ha]; exact putSel_on (e := (16, 53, .bool (t188 != a2))) 15 rfl rfl (hon 16 (by kernel_rfl)) rfl
                replace ha := Aside0.mk ha; have HO182 := Aside0.mk Q_HO182; have HO187 := Aside0.mk Q_HO187; have HB := Aside0.mk Q_HB; refine value_ (w1 := w') (v := .slice A1 l1.length c1) (wanted_on rfl rfl rfl (e53.trans (by first | rfl | (simp [*]; done)))) rfl ?_ ?_
                ·go_simp
                 (try simp only [i64_w])
                 try first | rfl | (simp [bne]; done)
                refine hK.out _ _ ⟨v191, v194, v198, v201, (by rw [ha.out]; exact putSel_upk 19 hb_ rfl rfl rfl), Q_HO182, Q_HO187, Q_HB, Q_HO192, Q_HO195, ofK (hoff 26 (by kernel_rfl)), ofK (hoff 27 (by kernel_rfl))⟩
               refine steps_cons ?_ ?_
               ·rintro b a w' ⟨v191, v194, v198, v201, ha, Q_HO182, Q_HO187, Q_HB, Q_HO192, Q_HO195, Q_HO199, Q_HO202⟩ hb_ hon hoff
                refine ⟨_, rfl, fun K hK => ?_⟩; have e56 : a.tmps[56]? = some (v194) := by rw [ha]; exact putSel_on (e := (19, 56, v194)) 18 rfl rfl (hon 19 (by kernel_rfl)) rfl
                have e57 : a.tmps[57]? = some (.slice A1 l1.length c1) := by rw [ha]; exact putSel_on (e := (20, 57, .slice A1 l1.length c1)) 19 rfl rfl (hon 20 (by kernel_rfl)) rfl
                have e53 : a.tmps[53]? = some (.bool (t188 != a2)) := by rw [ha]; exact putSel_on (e := (16, 53, .bool (t188 != a2))) 15 rfl rfl (hon 16 (by kernel_rfl)) rfl
                replace ha := Aside0.mk ha; have HO182 := Aside0.mk Q_HO182; have HO187 := Aside0.mk Q_HO187; have HB := Aside0.mk Q_HB; have HO192 := Aside0.mk (Q_HO192 (hon 18 (by kernel_rfl))); have HO195 := Aside0.mk (Q_HO195 (hon 19 (by kernel_rfl))); obtain ⟨Ao38, co38, eo38⟩ := Kd.R_slice HO195.out
                (first | subst eo38 | (injection eo38 with f1_ f2_ f3_; have f4_ := f1_.symm; have f5_ := f3_.symm; clear f1_ f2_ f3_; subst f4_; subst f5_)); refine goes_ Try.func29 (by kernel_rfl) rfl #[.slice Ao38 t193.length co38, .slice A1 l1.length c1] (by first | rfl | (simp [Region.wanted, yielded, *]; done)) rfl rfl (by first | (simp only [mT, mC, mN, Act.eval, gD, oG, e56, e57, e53]; done) | (simp only [mT, mC, mN, Act.eval, gD, oG, e56, e57, e53]; rfl)) ?_
                with_reducible refine (wristbandref01_Same.calls kj6 _ _ t193 _ _ l1 true _ ?side1 ?side2 ?side3 ?side4 A26.out).mono ?_
                (case side1 => repeat (first | exact (Kd.R_reads' HO195.out).2.2 | (with_reducible refine Kd.C_alloc ?_ _) | (with_reducible refine Kd.C_drewN ?_ _) | (with_reducible refine Kd.C_drew ?_)))
                (case side2 => exact (Kd.R_reads' HO195.out).2.1)
                (case side3 => repeat (first | exact (Kd.C_below HR1.out HB.out) | (with_reducible refine Kd.C_alloc ?_ _) | (with_reducible refine Kd.C_drewN ?_ _) | (with_reducible refine Kd.C_drew ?_)))
                (case side4 => exact HC1.out)
                rintro e w' ⟨rfl, ⟨nd, rfl⟩⟩
                refine ⟨_, rfl, ?_⟩; refine hK.out _ _ ⟨v191, .slice Ao38 t193.length co38, v198, v201, (by rw [ha.out]; exact putSel_upk 20 hb_ rfl rfl rfl), (by (with_reducible repeat (first | apply rL | apply rN | apply rW)); first | exact HO182.out | exact Kd.R_mono (HO182.out) (fun _ hk => by first | trivial | exact hk | exact hk.1 | ((repeat' apply And.intro) <;> first | exact hk.2 | exact hk.1.2 | exact hk.1.1.2))), (by (with_reducible repeat (first | apply rL | apply rN | apply rW)); first | exact HO187.out | exact Kd.R_mono (HO187.out) (fun _ hk => by first | trivial | exact hk | exact hk.1 | ((repeat' apply And.intro) <;> first | exact hk.2 | exact hk.1.2 | exact hk.1.1.2))), (by repeat (first | (with_reducible first | exact HB.out | apply bA | apply bN | apply bD) | exact HB.out)), fun _ => (by (with_reducible repeat (first | apply rL | apply rN | apply rW)); exact HO192.out), fun _ => (by (with_reducible repeat (first | apply rL | apply rN | apply rW)); exact HO195.out), ofK (hoff 26 (by kernel_rfl)), ofK (hoff 27 (by kernel_rfl))⟩
               refine steps_cons ?_ ?_
               ·rintro b a w' ⟨v191, v194, v198, v201, ha, Q_HO182, Q_HO187, Q_HB, Q_HO192, Q_HO195, Q_HO199, Q_HO202⟩ hb_ hon hoff
                refine ⟨_, rfl, fun K hK => ?_⟩; have e58 : a.tmps[58]? = some (.bool true) := by rw [ha]; exact putSel_on (e := (21, 58, .bool true)) 20 rfl rfl (hon 21 (by kernel_rfl)) rfl
                have e53 : a.tmps[53]? = some (.bool (t188 != a2)) := by rw [ha]; exact putSel_on (e := (16, 53, .bool (t188 != a2))) 15 rfl rfl (hon 16 (by kernel_rfl)) rfl
                replace ha := Aside0.mk ha; have HO182 := Aside0.mk Q_HO182; have HO187 := Aside0.mk Q_HO187; have HB := Aside0.mk Q_HB; have HO192 := Aside0.mk (Q_HO192 (hon 18 (by kernel_rfl))); have HO195 := Aside0.mk (Q_HO195 (hon 19 (by kernel_rfl))); refine value_ (w1 := w') (v := .bool (!true)) (wanted_on rfl rfl rfl (e53.trans (by first | rfl | (simp [*]; done)))) rfl ?_ ?_
                ·go_simp
                 (try simp only [i64_w])
                 try first | rfl | (simp [bne]; done)
                refine hK.out _ _ ⟨v191, v194, v198, v201, (by rw [ha.out]; exact putSel_upk 21 hb_ rfl rfl rfl), Q_HO182, Q_HO187, Q_HB, Q_HO192, Q_HO195, ofK (hoff 26 (by kernel_rfl)), ofK (hoff 27 (by kernel_rfl))⟩
               refine steps_cons ?_ ?_
               ·rintro b a w' ⟨v191, v194, v198, v201, ha, Q_HO182, Q_HO187, Q_HB, Q_HO192, Q_HO195, Q_HO199, Q_HO202⟩ hb_ hon hoff
                refine ⟨_, rfl, fun K hK => ?_⟩; have e53 : a.tmps[53]? = some (.bool (t188 != a2)) := by rw [ha]; exact putSel_on (e := (16, 53, .bool (t188 != a2))) 15 rfl rfl (hon 16 (by kernel_rfl)) rfl
                have e59 : a.tmps[59]? = some (.bool (!true)) := by rw [ha]; exact putSel_on (e := (22, 59, .bool (!true))) 21 rfl rfl (hon 22 (by kernel_rfl)) rfl
                replace ha := Aside0.mk ha; have HO182 := Aside0.mk Q_HO182; have HO187 := Aside0.mk Q_HO187; have HB := Aside0.mk Q_HB; have HO192 := Aside0.mk (Q_HO192 (hon 18 (by kernel_rfl))); have HO195 := Aside0.mk (Q_HO195 (hon 19 (by kernel_rfl))); refine value_ (w1 := w') (v := .bool (!true)) (by rfl) rfl ?_ ?_
                ·go_simp
                 (try simp only [i64_w])
                 try first | rfl | (simp [bne]; done)
                refine hK.out _ _ ⟨v191, v194, v198, v201, (by rw [ha.out]; exact putSel_upk 22 hb_ rfl rfl rfl), Q_HO182, Q_HO187, Q_HB, Q_HO192, Q_HO195, ofK (hoff 26 (by kernel_rfl)), ofK (hoff 27 (by kernel_rfl))⟩
               refine steps_cons ?_ ?_
               ·rintro b a w' ⟨v191, v194, v198, v201, ha, Q_HO182, Q_HO187, Q_HB, Q_HO192, Q_HO195, Q_HO199, Q_HO202⟩ hb_ hon hoff
                refine ⟨_, rfl, fun K hK => ?_⟩; have e60 : a.tmps[60]? = some (.bool (!true)) := by rw [ha]; exact putSel_on (e := (23, 60, .bool (!true))) 22 rfl rfl (hon 23 (by kernel_rfl)) rfl
                replace ha := Aside0.mk ha; have HO182 := Aside0.mk Q_HO182; have HO187 := Aside0.mk Q_HO187; have HB := Aside0.mk Q_HB; have HO192 := Aside0.mk (Q_HO192 (hon 18 (by kernel_rfl))); have HO195 := Aside0.mk (Q_HO195 (hon 19 (by kernel_rfl))); refine value_ (w1 := w') (v := .bool (!true)) (by rfl) rfl ?_ ?_
                ·go_simp
                 (try simp only [i64_w])
                 try first | rfl | (simp [bne]; done)
                refine hK.out _ _ ⟨v191, v194, v198, v201, (by rw [ha.out]; exact putSel_upk 23 hb_ rfl rfl rfl), Q_HO182, Q_HO187, Q_HB, Q_HO192, Q_HO195, ofK (hoff 26 (by kernel_rfl)), ofK (hoff 27 (by kernel_rfl))⟩
               refine steps_cons ?_ ?_
               ·rintro b a w' ⟨v191, v194, v198, v201, ha, Q_HO182, Q_HO187, Q_HB, Q_HO192, Q_HO195, Q_HO199, Q_HO202⟩ hb_ hon hoff
                refine ⟨_, rfl, fun K hK => ?_⟩; have e0 : a.tmps[0]? = some (.slice A0 l0.length c0) := by rw [ha]; exact (putSel_off rfl).trans rfl
                have e61 : a.tmps[61]? = some (.bool (!true)) := by rw [ha]; exact putSel_on (e := (24, 61, .bool (!true))) 23 rfl rfl (hon 24 (by kernel_rfl)) rfl
                replace ha := Aside0.mk ha; have HO182 := Aside0.mk Q_HO182; have HO187 := Aside0.mk Q_HO187; have HB := Aside0.mk Q_HB; have HO192 := Aside0.mk (Q_HO192 (hon 18 (by kernel_rfl))); have HO195 := Aside0.mk (Q_HO195 (hon 19 (by kernel_rfl))); refine value_ (w1 := w') (v := .slice A0 l0.length c0) (wanted_on rfl rfl rfl (e61.trans (by first | rfl | (simp [*]; done)))) rfl ?_ ?_
                ·go_simp
                 (try simp only [i64_w])
                 try first | rfl | (simp [bne]; done)
                refine hK.out _ _ ⟨v191, v194, v198, v201, (by rw [ha.out]; exact putSel_upk 24 hb_ rfl rfl rfl), Q_HO182, Q_HO187, Q_HB, Q_HO192, Q_HO195, ofK (hoff 26 (by kernel_rfl)), ofK (hoff 27 (by kernel_rfl))⟩
               refine steps_cons ?_ ?_
               ·rintro b a w' ⟨v191, v194, v198, v201, ha, Q_HO182, Q_HO187, Q_HB, Q_HO192, Q_HO195, Q_HO199, Q_HO202⟩ hb_ hon hoff
                refine ⟨_, rfl, fun K hK => ?_⟩; have e62 : a.tmps[62]? = some (.slice A0 l0.length c0) := by rw [ha]; exact putSel_on (e := (25, 62, .slice A0 l0.length c0)) 24 rfl rfl (hon 25 (by kernel_rfl)) rfl
                have e61 : a.tmps[61]? = some (.bool (!true)) := by rw [ha]; exact putSel_on (e := (24, 61, .bool (!true))) 23 rfl rfl (hon 24 (by kernel_rfl)) rfl
                replace ha := Aside0.mk ha; have HO182 := Aside0.mk Q_HO182; have HO187 := Aside0.mk Q_HO187; have HB := Aside0.mk Q_HB; have HO192 := Aside0.mk (Q_HO192 (hon 18 (by kernel_rfl))); have HO195 := Aside0.mk (Q_HO195 (hon 19 (by kernel_rfl))); refine goes_ Try.func30 (by kernel_rfl) rfl #[.slice A0 l0.length c0] (by first | rfl | (simp [Region.wanted, yielded, *]; done)) rfl rfl (by first | (simp only [mT, mC, mN, Act.eval, gD, oG, e62, e61]; done) | (simp only [mT, mC, mN, Act.eval, gD, oG, e62, e61]; rfl)) ?_
                with_reducible refine (word_Words.calls kj6 (fun k_ => k_ < w.heap.size) _ _ l0 t197 _ ?side1 A28.out).mono ?_
                (case side1 => exact Kd.V_mk HC0.out (Kd.F_below (Kd.C_F (Kd.heap_int .u8) HR0.out) (by repeat (first | (with_reducible first | exact HB.out | apply bA | apply bN | apply bD) | exact HB.out))))
                rintro e w39 ⟨v198, rfl, ho0, hb⟩
                refine ⟨_, rfl, ?_⟩; have n0_ := Aside0.mk (Kd.R_below (by (with_reducible repeat (first | apply rL | apply rN | apply rW)); exact HO182.out) hb); have n1_ := Aside0.mk (Kd.R_below (by (with_reducible repeat (first | apply rL | apply rN | apply rW)); exact HO187.out) hb); have n2_ := Aside0.mk (Kd.R_below (by (with_reducible repeat (first | apply rL | apply rN | apply rW)); exact HO192.out) hb); have n3_ := Aside0.mk (Kd.R_elder' (by (with_reducible repeat (first | apply rL | apply rN | apply rW)); exact HO195.out) (Kd.R_base ho0) hb); have n4_ := Aside0.mk (Kd.R_lower (Kd.R_new' (Kd.R_mono (ok' := fun k_ => True) ho0 (fun _ hk_ => trivial)) (Kd.R_lt (by (with_reducible repeat (first | apply rL | apply rN | apply rW)); exact HO195.out))) (below_size (by repeat (first | (with_reducible first | exact HB.out | apply bA | apply bN | apply bD) | exact HB.out)))); have n5_ := Aside0.mk (below_step (by repeat (first | (with_reducible first | exact HB.out | apply bA | apply bN | apply bD) | exact HB.out)) hb); clear HO182; clear HO187; clear HO192; clear HO195; clear HB; have HO182 := n0_; have HO187 := n1_; have HO192 := n2_; have HO195 := n3_; have HO199 := n4_; have HB := n5_; clear n0_ n1_ n2_ n3_ n4_ n5_; (try clear hb); (try clear hb2); (try clear hk); (try clear hi); (try clear ho0); refine hK.out _ _ ⟨v191, v194, v198, v201, (by rw [ha.out]; exact putSel_upk 25 hb_ rfl rfl rfl), (by (with_reducible repeat (first | apply rL | apply rN | apply rW)); first | exact HO182.out | exact Kd.R_mono (HO182.out) (fun _ hk => by first | trivial | exact hk | exact hk.1 | ((repeat' apply And.intro) <;> first | exact hk.2 | exact hk.1.2 | exact hk.1.1.2))), (by (with_reducible repeat (first | apply rL | apply rN | apply rW)); first | exact HO187.out | exact Kd.R_mono (HO187.out) (fun _ hk => by first | trivial | exact hk | exact hk.1 | ((repeat' apply And.intro) <;> first | exact hk.2 | exact hk.1.2 | exact hk.1.1.2))), (by repeat (first | (with_reducible first | exact HB.out | apply bA | apply bN | apply bD) | exact HB.out)), fun _ => (by (with_reducible repeat (first | apply rL | apply rN | apply rW)); exact HO192.out), fun _ => (by (with_reducible repeat (first | apply rL | apply rN | apply rW)); first | exact Kd.R_mono HO195.out (fun _ hk => hk.2) | exact Kd.R_mono (HO195.out) (fun _ hk => by first | trivial | exact hk | exact hk.1 | ((repeat' apply And.intro) <;> first | exact hk.2 | exact hk.1.2 | exact hk.1.1.2))), fun _ => (by (with_reducible repeat (first | apply rL | apply rN | apply rW)); first | exact Kd.R_mono HO199.out (fun _ hk => hk.2) | exact Kd.R_mono (HO199.out) (fun _ hk => by first | trivial | exact hk | exact hk.1 | ((repeat' apply And.intro) <;> first | exact hk.2 | exact hk.1.2 | exact hk.1.1.2))), ofK (hoff 27 (by kernel_rfl))⟩
               refine steps_cons ?_ ?_
               ·rintro b a w' ⟨v191, v194, v198, v201, ha, Q_HO182, Q_HO187, Q_HB, Q_HO192, Q_HO195, Q_HO199, Q_HO202⟩ hb_ hon hoff
                refine ⟨_, rfl, fun K hK => ?_⟩; have e63 : a.tmps[63]? = some (v198) := by rw [ha]; exact putSel_on (e := (26, 63, v198)) 25 rfl rfl (hon 26 (by kernel_rfl)) rfl
                have e61 : a.tmps[61]? = some (.bool (!true)) := by rw [ha]; exact putSel_on (e := (24, 61, .bool (!true))) 23 rfl rfl (hon 24 (by kernel_rfl)) rfl
                replace ha := Aside0.mk ha; have HO182 := Aside0.mk Q_HO182; have HO187 := Aside0.mk Q_HO187; have HB := Aside0.mk Q_HB; have HO192 := Aside0.mk (Q_HO192 (hon 18 (by kernel_rfl))); have HO195 := Aside0.mk (Q_HO195 (hon 19 (by kernel_rfl))); have HO199 := Aside0.mk (Q_HO199 (hon 26 (by kernel_rfl))); obtain ⟨Ao40, co40, eo40⟩ := Kd.R_slice HO199.out
                (first | subst eo40 | (injection eo40 with f1_ f2_ f3_; have f4_ := f1_.symm; have f5_ := f3_.symm; clear f1_ f2_ f3_; subst f4_; subst f5_)); refine goes_ Try.func32 (by kernel_rfl) rfl #[.slice Ao40 t197.length co40] (by first | rfl | (simp [Region.wanted, yielded, *]; done)) rfl rfl (by first | (simp only [mT, mC, mN, Act.eval, gD, oG, e63, e61]; done) | (simp only [mT, mC, mN, Act.eval, gD, oG, e63, e61]; rfl)) ?_
                with_reducible refine (word_Bytes.calls kj6 _ _ t197 t200 _ ?side1 ?side2 A29.out).mono ?_
                (case side1 => repeat (first | exact (Kd.R_reads' HO199.out).2.2 | (with_reducible refine Kd.C_alloc ?_ _) | (with_reducible refine Kd.C_drewN ?_ _) | (with_reducible refine Kd.C_drew ?_)))
                (case side2 => exact (Kd.R_reads' HO199.out).2.1)
                rintro e w41 ⟨v201, rfl, ho0, hb⟩
                refine ⟨_, rfl, ?_⟩; have n0_ := Aside0.mk (Kd.R_elder' (by (with_reducible repeat (first | apply rL | apply rN | apply rW)); exact HO182.out) (Kd.R_base ho0) hb); have n1_ := Aside0.mk (Kd.R_elder' (by (with_reducible repeat (first | apply rL | apply rN | apply rW)); exact HO187.out) (Kd.R_base ho0) hb); have n2_ := Aside0.mk (Kd.R_elder' (by (with_reducible repeat (first | apply rL | apply rN | apply rW)); exact HO192.out) (Kd.R_base ho0) hb); have n3_ := Aside0.mk (Kd.R_below (by (with_reducible repeat (first | apply rL | apply rN | apply rW)); exact HO195.out) hb); have n4_ := Aside0.mk (Kd.R_below (by (with_reducible repeat (first | apply rL | apply rN | apply rW)); exact HO199.out) hb); have n5_ := Aside0.mk (Kd.R_lower (Kd.R_new' (Kd.R_new' (Kd.R_new' ho0 (Kd.R_lt (by (with_reducible repeat (first | apply rL | apply rN | apply rW)); exact HO182.out))) (Kd.R_lt (by (with_reducible repeat (first | apply rL | apply rN | apply rW)); exact HO187.out))) (Kd.R_lt (by (with_reducible repeat (first | apply rL | apply rN | apply rW)); exact HO192.out))) (below_size (by repeat (first | (with_reducible first | exact HB.out | apply bA | apply bN | apply bD) | exact HB.out)))); have n6_ := Aside0.mk (below_step (by repeat (first | (with_reducible first | exact HB.out | apply bA | apply bN | apply bD) | exact HB.out)) hb); clear HO182; clear HO187; clear HO192; clear HO195; clear HO199; clear HB; have HO182 := n0_; have HO187 := n1_; have HO192 := n2_; have HO195 := n3_; have HO199 := n4_; have HO202 := n5_; have HB := n6_; clear n0_ n1_ n2_ n3_ n4_ n5_ n6_; (try clear hb); (try clear hb2); (try clear hk); (try clear hi); (try clear ho0); refine hK.out _ _ ⟨v191, v194, .slice Ao40 t197.length co40, v201, (by rw [ha.out]; exact putSel_upk 26 hb_ rfl rfl rfl), (by (with_reducible repeat (first | apply rL | apply rN | apply rW)); first | exact Kd.R_mono HO182.out (fun _ hk => ⟨hk.1.1, ⟨hk.1.2, hk.2⟩⟩) | exact Kd.R_mono (HO182.out) (fun _ hk => by first | trivial | exact hk | exact hk.1 | ((repeat' apply And.intro) <;> first | exact hk.2 | exact hk.1.2 | exact hk.1.1.2))), (by (with_reducible repeat (first | apply rL | apply rN | apply rW)); first | exact Kd.R_mono HO187.out (fun _ hk => ⟨hk.1.1, ⟨hk.1.2, hk.2⟩⟩) | exact Kd.R_mono (HO187.out) (fun _ hk => by first | trivial | exact hk | exact hk.1 | ((repeat' apply And.intro) <;> first | exact hk.2 | exact hk.1.2 | exact hk.1.1.2))), (by repeat (first | (with_reducible first | exact HB.out | apply bA | apply bN | apply bD) | exact HB.out)), fun _ => (by (with_reducible repeat (first | apply rL | apply rN | apply rW)); first | exact Kd.R_mono HO192.out (fun _ hk => ⟨hk.1.1, ⟨hk.1.2, hk.2⟩⟩) | exact Kd.R_mono (HO192.out) (fun _ hk => by first | trivial | exact hk | exact hk.1 | ((repeat' apply And.intro) <;> first | exact hk.2 | exact hk.1.2 | exact hk.1.1.2))), fun _ => (by (with_reducible repeat (first | apply rL | apply rN | apply rW)); first | exact HO195.out | exact Kd.R_mono (HO195.out) (fun _ hk => by first | trivial | exact hk | exact hk.1 | ((repeat' apply And.intro) <;> first | exact hk.2 | exact hk.1.2 | exact hk.1.1.2))), fun _ => (by (with_reducible repeat (first | apply rL | apply rN | apply rW)); first | exact HO199.out | exact Kd.R_mono (HO199.out) (fun _ hk => by first | trivial | exact hk | exact hk.1 | ((repeat' apply And.intro) <;> first | exact hk.2 | exact hk.1.2 | exact hk.1.1.2))), fun _ => (by (with_reducible repeat (first | apply rL | apply rN | apply rW)); first | exact Kd.R_mono HO202.out (fun _ hk => ⟨hk.1.1.2, ⟨hk.1.2, hk.2⟩⟩) | exact Kd.R_mono (HO202.out) (fun _ hk => by first | trivial | exact hk | exact hk.1 | ((repeat' apply And.intro) <;> first | exact hk.2 | exact hk.1.2 | exact hk.1.1.2)))⟩
               refine steps_cons ?_ ?_
               ·rintro b a w' ⟨v191, v194, v198, v201, ha, Q_HO182, Q_HO187, Q_HB, Q_HO192, Q_HO195, Q_HO199, Q_HO202⟩ hb_ hon hoff
                refine ⟨_, rfl, fun K hK => ?_⟩; have e64 : a.tmps[64]? = some (v201) := by rw [ha]; exact putSel_on (e := (27, 64, v201)) 26 rfl rfl (hon 27 (by kernel_rfl)) rfl
                have e61 : a.tmps[61]? = some (.bool (!true)) := by rw [ha]; exact putSel_on (e := (24, 61, .bool (!true))) 23 rfl rfl (hon 24 (by kernel_rfl)) rfl
                replace ha := Aside0.mk ha; have HO182 := Aside0.mk Q_HO182; have HO187 := Aside0.mk Q_HO187; have HB := Aside0.mk Q_HB; have HO192 := Aside0.mk (Q_HO192 (hon 18 (by kernel_rfl))); have HO195 := Aside0.mk (Q_HO195 (hon 19 (by kernel_rfl))); have HO199 := Aside0.mk (Q_HO199 (hon 26 (by kernel_rfl))); have HO202 := Aside0.mk (Q_HO202 (hon 27 (by kernel_rfl))); refine str_step (src := 22) (dst := 9) (x := .tmp 64) ?hw ?ho ?hx (v := v201) (s := strOfNums t200) (by obtain ⟨A_, c_, rfl⟩ := Kd.R_slice HO202.out; exact Kd.C_string (P := Try.prog) (A := A_) (c := c_) Try.underlying22 Try.underlying5 Try.underlying9 (Kd.R_reads' (by (with_reducible repeat (first | apply rL | apply rN | apply rW)); exact HO202.out)).2.2) ?_
                case ho => rfl
                case hw => first | rfl | (simp [Region.wanted, yielded, *]; done)
                case hx => first | rfl | (simp only [Act.eval, gD, oG, e64]; done)
                intro w42 hb; have n0_ := Aside0.mk (Kd.R_below (by (with_reducible repeat (first | apply rL | apply rN | apply rW)); exact HO182.out) hb)
                have n1_ := Aside0.mk (Kd.R_below (by (with_reducible repeat (first | apply rL | apply rN | apply rW)); exact HO187.out) hb); have n2_ := Aside0.mk (Kd.R_below (by (with_reducible repeat (first | apply rL | apply rN | apply rW)); exact HO192.out) hb); have n3_ := Aside0.mk (Kd.R_below (by (with_reducible repeat (first | apply rL | apply rN | apply rW)); exact HO195.out) hb); have n4_ := Aside0.mk (Kd.R_below (by (with_reducible repeat (first | apply rL | apply rN | apply rW)); exact HO199.out) hb); have n5_ := Aside0.mk (Kd.R_below (by (with_reducible repeat (first | apply rL | apply rN | apply rW)); exact HO202.out) hb); have n6_ := Aside0.mk (below_step (by repeat (first | (with_reducible first | exact HB.out | apply bA | apply bN | apply bD) | exact HB.out)) hb); clear HO182; clear HO187; clear HO192; clear HO195; clear HO199; clear HO202; clear HB; have HO182 := n0_; have HO187 := n1_; have HO192 := n2_; have HO195 := n3_; have HO199 := n4_; have HO202 := n5_; have HB := n6_; clear n0_ n1_ n2_ n3_ n4_ n5_ n6_; (try clear hb); refine hK.out _ _ ⟨v191, v194, v198, v201, (by rw [ha.out]; exact putSel_upk 27 hb_ rfl rfl rfl), (by (with_reducible repeat (first | apply rL | apply rN | apply rW)); first | exact HO182.out | exact Kd.R_mono (HO182.out) (fun _ hk => by first | trivial | exact hk | exact hk.1 | ((repeat' apply And.intro) <;> first | exact hk.2 | exact hk.1.2 | exact hk.1.1.2))), (by (with_reducible repeat (first | apply rL | apply rN | apply rW)); first | exact HO187.out | exact Kd.R_mono (HO187.out) (fun _ hk => by first | trivial | exact hk | exact hk.1 | ((repeat' apply And.intro) <;> first | exact hk.2 | exact hk.1.2 | exact hk.1.1.2))), (by repeat (first | (with_reducible first | exact HB.out | apply bA | apply bN | apply bD) | exact HB.out)), fun _ => (by (with_reducible repeat (first | apply rL | apply rN | apply rW)); first | exact HO192.out | exact Kd.R_mono (HO192.out) (fun _ hk => by first | trivial | exact hk | exact hk.1 | ((repeat' apply And.intro) <;> first | exact hk.2 | exact hk.1.2 | exact hk.1.1.2))), fun _ => (by (with_reducible repeat (first | apply rL | apply rN | apply rW)); first | exact HO195.out | exact Kd.R_mono (HO195.out) (fun _ hk => by first | trivial | exact hk | exact hk.1 | ((repeat' apply And.intro) <;> first | exact hk.2 | exact hk.1.2 | exact hk.1.1.2))), fun _ => (by (with_reducible repeat (first | apply rL | apply rN | apply rW)); first | exact HO199.out | exact Kd.R_mono (HO199.out) (fun _ hk => by first | trivial | exact hk | exact hk.1 | ((repeat' apply And.intro) <;> first | exact hk.2 | exact hk.1.2 | exact hk.1.1.2))), fun _ => (by (with_reducible repeat (first | apply rL | apply rN | apply rW)); first | exact HO202.out | exact Kd.R_mono (HO202.out) (fun _ hk => by first | trivial | exact hk | exact hk.1 | ((repeat' apply And.intro) <;> first | exact hk.2 | exact hk.1.2 | exact hk.1.1.2)))⟩
               refine steps_cons ?_ ?_
               ·rintro b a w' ⟨v191, v194, v198, v201, ha, Q_HO182, Q_HO187, Q_HB, Q_HO192, Q_HO195, Q_HO199, Q_HO202⟩ hb_ hon hoff
                refine ⟨_, rfl, fun K hK => ?_⟩; have e0 : a.tmps[0]? = some (.slice A0 l0.length c0) := by rw [ha]; exact (putSel_off rfl).trans rfl
                have e61 : a.tmps[61]? = some (.bool (!true)) := by rw [ha]; exact putSel_on (e := (24, 61, .bool (!true))) 23 rfl rfl (hon 24 (by kernel_rfl)) rfl
                replace ha := Aside0.mk ha; have HO182 := Aside0.mk Q_HO182; have HO187 := Aside0.mk Q_HO187; have HB := Aside0.mk Q_HB; have HO192 := Aside0.mk (Q_HO192 (hon 18 (by kernel_rfl))); have HO195 := Aside0.mk (Q_HO195 (hon 19 (by kernel_rfl))); refine value_ (w1 := w') (v := .slice A0 l0.length c0) (wanted_on rfl rfl rfl (e61.trans (by first | rfl | (simp [*]; done)))) rfl ?_ ?_
                ·go_simp
                 (try simp only [i64_w])
                 try first | rfl | (simp [bne]; done)
                refine hK.out _ _ ⟨v191, v194, v198, v201, (by rw [ha.out]; exact putSel_upk 28 hb_ rfl rfl rfl), Q_HO182, Q_HO187, Q_HB, Q_HO192, Q_HO195, Q_HO199, Q_HO202⟩
               refine steps_cons ?_ ?_
               ·rintro b a w' ⟨v191, v194, v198, v201, ha, Q_HO182, Q_HO187, Q_HB, Q_HO192, Q_HO195, Q_HO199, Q_HO202⟩ hb_ hon hoff
                refine ⟨_, rfl, fun K hK => ?_⟩; have e0 : a.tmps[0]? = some (.slice A0 l0.length c0) := by rw [ha]; exact (putSel_off rfl).trans rfl
                have e61 : a.tmps[61]? = some (.bool (!true)) := by rw [ha]; exact putSel_on (e := (24, 61, .bool (!true))) 23 rfl rfl (hon 24 (by kernel_rfl)) rfl
                replace ha := Aside0.mk ha; have HO182 := Aside0.mk Q_HO182; have HO187 := Aside0.mk Q_HO187; have HB := Aside0.mk Q_HB; have HO192 := Aside0.mk (Q_HO192 (hon 18 (by kernel_rfl))); have HO195 := Aside0.mk (Q_HO195 (hon 19 (by kernel_rfl))); refine value_ (w1 := w') (v := .slice A0 l0.length c0) (wanted_on rfl rfl rfl (e61.trans (by first | rfl | (simp [*]; done)))) rfl ?_ ?_
                ·go_simp
                 (try simp only [i64_w])
                 try first | rfl | (simp [bne]; done)
                refine hK.out _ _ ⟨v191, v194, v198, v201, (by rw [ha.out]; exact putSel_upk 29 hb_ rfl rfl rfl), Q_HO182, Q_HO187, Q_HB, Q_HO192, Q_HO195, Q_HO199, Q_HO202⟩
               refine steps_cons ?_ ?_
               ·rintro b a w' ⟨v191, v194, v198, v201, ha, Q_HO182, Q_HO187, Q_HB, Q_HO192, Q_HO195, Q_HO199, Q_HO202⟩ hb_ hon hoff
                refine ⟨_, rfl, fun K hK => ?_⟩; have e67 : a.tmps[67]? = some (.slice A0 l0.length c0) := by rw [ha]; exact putSel_on (e := (30, 67, .slice A0 l0.length c0)) 29 rfl rfl (hon 30 (by kernel_rfl)) rfl
                have e61 : a.tmps[61]? = some (.bool (!true)) := by rw [ha]; exact putSel_on (e := (24, 61, .bool (!true))) 23 rfl rfl (hon 24 (by kernel_rfl)) rfl
                replace ha := Aside0.mk ha; have HO182 := Aside0.mk Q_HO182; have HO187 := Aside0.mk Q_HO187; have HB := Aside0.mk Q_HB; have HO192 := Aside0.mk (Q_HO192 (hon 18 (by kernel_rfl))); have HO195 := Aside0.mk (Q_HO195 (hon 19 (by kernel_rfl))); refine value_ (w1 := w') (v := .int .i64 (l0.length : Int)) (wanted_on rfl rfl rfl (e61.trans (by first | rfl | (simp [*]; done)))) rfl ?_ ?_
                ·go_simp
                 (try simp only [i64_w])
                 try first | rfl | (simp [bne]; done)
                refine hK.out _ _ ⟨v191, v194, v198, v201, (by rw [ha.out]; exact putSel_upk 30 hb_ rfl rfl rfl), Q_HO182, Q_HO187, Q_HB, Q_HO192, Q_HO195, Q_HO199, Q_HO202⟩
               refine steps_cons ?_ ?_
               ·rintro b a w' ⟨v191, v194, v198, v201, ha, Q_HO182, Q_HO187, Q_HB, Q_HO192, Q_HO195, Q_HO199, Q_HO202⟩ hb_ hon hoff
                refine ⟨_, rfl, fun K hK => ?_⟩; have e68 : a.tmps[68]? = some (.int .i64 (l0.length : Int)) := by rw [ha]; exact putSel_on (e := (31, 68, .int .i64 (l0.length : Int))) 30 rfl rfl (hon 31 (by kernel_rfl)) rfl
                have e61 : a.tmps[61]? = some (.bool (!true)) := by rw [ha]; exact putSel_on (e := (24, 61, .bool (!true))) 23 rfl rfl (hon 24 (by kernel_rfl)) rfl
                replace ha := Aside0.mk ha; have HO182 := Aside0.mk Q_HO182; have HO187 := Aside0.mk Q_HO187; have HB := Aside0.mk Q_HB; have HO192 := Aside0.mk (Q_HO192 (hon 18 (by kernel_rfl))); have HO195 := Aside0.mk (Q_HO195 (hon 19 (by kernel_rfl))); refine value_ (w1 := w') (v := .int .i64 (wrap64 ((l0.length : Int) / 4))) (wanted_on rfl rfl rfl (e61.trans (by first | rfl | (simp [*]; done)))) rfl ?_ ?_
                ·go_simp
                 (try simp only [i64_w])
                 try first | rfl | (simp [bne]; done)
                refine hK.out _ _ ⟨v191, v194, v198, v201, (by rw [ha.out]; exact putSel_upk 31 hb_ rfl rfl rfl), Q_HO182, Q_HO187, Q_HB, Q_HO192, Q_HO195, Q_HO199, Q_HO202⟩
               refine steps_cons ?_ ?_
               ·rintro b a w' ⟨v191, v194, v198, v201, ha, Q_HO182, Q_HO187, Q_HB, Q_HO192, Q_HO195, Q_HO199, Q_HO202⟩ hb_ hon hoff
                refine ⟨_, rfl, fun K hK => ?_⟩; have e69 : a.tmps[69]? = some (.int .i64 (wrap64 ((l0.length : Int) / 4))) := by rw [ha]; exact putSel_on (e := (32, 69, .int .i64 (wrap64 ((l0.length : Int) / 4)))) 31 rfl rfl (hon 32 (by kernel_rfl)) rfl
                have e61 : a.tmps[61]? = some (.bool (!true)) := by rw [ha]; exact putSel_on (e := (24, 61, .bool (!true))) 23 rfl rfl (hon 24 (by kernel_rfl)) rfl
                replace ha := Aside0.mk ha; have HO182 := Aside0.mk Q_HO182; have HO187 := Aside0.mk Q_HO187; have HB := Aside0.mk Q_HB; have HO192 := Aside0.mk (Q_HO192 (hon 18 (by kernel_rfl))); have HO195 := Aside0.mk (Q_HO195 (hon 19 (by kernel_rfl))); refine value_ (w1 := w') (v := .int .i64 ji30) (wanted_on rfl rfl rfl (e61.trans (by first | rfl | (simp [*]; done)))) rfl ?_ ?_
                ·go_simp
                 (try simp only [i64_w])
                 try first | rfl | (simp [bne]; done)
                refine hK.out _ _ ⟨v191, v194, v198, v201, (by rw [ha.out]; exact putSel_upk 32 hb_ rfl rfl rfl), Q_HO182, Q_HO187, Q_HB, Q_HO192, Q_HO195, Q_HO199, Q_HO202⟩
               refine steps_cons ?_ ?_
               ·rintro b a w' ⟨v191, v194, v198, v201, ha, Q_HO182, Q_HO187, Q_HB, Q_HO192, Q_HO195, Q_HO199, Q_HO202⟩ hb_ hon hoff
                refine ⟨_, rfl, fun K hK => ?_⟩; have e66 : a.tmps[66]? = some (.slice A0 l0.length c0) := by rw [ha]; exact putSel_on (e := (29, 66, .slice A0 l0.length c0)) 28 rfl rfl (hon 29 (by kernel_rfl)) rfl
                have e70 : a.tmps[70]? = some (.int .i64 ji30) := by rw [ha]; exact putSel_on (e := (33, 70, .int .i64 ji30)) 32 rfl rfl (hon 33 (by kernel_rfl)) rfl
                have e61 : a.tmps[61]? = some (.bool (!true)) := by rw [ha]; exact putSel_on (e := (24, 61, .bool (!true))) 23 rfl rfl (hon 24 (by kernel_rfl)) rfl
                replace ha := Aside0.mk ha; have HO182 := Aside0.mk Q_HO182; have HO187 := Aside0.mk Q_HO187; have HB := Aside0.mk Q_HB; have HO192 := Aside0.mk (Q_HO192 (hon 18 (by kernel_rfl))); have HO195 := Aside0.mk (Q_HO195 (hon 19 (by kernel_rfl))); refine value_ (w1 := w') (v := .slice A0 (l0.take ((ji30) : Int).toNat).length c0) (wanted_on rfl rfl rfl (e61.trans (by first | rfl | (simp [*]; done)))) rfl ?_ ?_
                ·go_simp
                 (try simp only [i64_w])
                 try first | rfl | (simp [bne]; done)
                refine hK.out _ _ ⟨v191, v194, v198, v201, (by rw [ha.out]; exact putSel_upk 33 hb_ rfl rfl rfl), Q_HO182, Q_HO187, Q_HB, Q_HO192, Q_HO195, Q_HO199, Q_HO202⟩
               refine steps_cons ?_ ?_
               ·rintro b a w' ⟨v191, v194, v198, v201, ha, Q_HO182, Q_HO187, Q_HB, Q_HO192, Q_HO195, Q_HO199, Q_HO202⟩ hb_ hon hoff
                refine ⟨_, rfl, fun K hK => ?_⟩; have e71 : a.tmps[71]? = some (.slice A0 (l0.take ((ji30) : Int).toNat).length c0) := by rw [ha]; exact putSel_on (e := (34, 71, .slice A0 (l0.take ((ji30) : Int).toNat).length c0)) 33 rfl rfl (hon 34 (by kernel_rfl)) rfl
                have e61 : a.tmps[61]? = some (.bool (!true)) := by rw [ha]; exact putSel_on (e := (24, 61, .bool (!true))) 23 rfl rfl (hon 24 (by kernel_rfl)) rfl
                replace ha := Aside0.mk ha; have HO182 := Aside0.mk Q_HO182; have HO187 := Aside0.mk Q_HO187; have HB := Aside0.mk Q_HB; have HO192 := Aside0.mk (Q_HO192 (hon 18 (by kernel_rfl))); have HO195 := Aside0.mk (Q_HO195 (hon 19 (by kernel_rfl))); refine str_step (src := 22) (dst := 9) (x := .tmp 71) ?hw ?ho ?hx (Kd.C_string (P := Try.prog) (A := A0) (c := c0) Try.underlying22 Try.underlying5 Try.underlying9 (Kd.C_below HR203.out HB.out)) ?_
                case ho => rfl
                case hw => first | rfl | (simp [Region.wanted, yielded, *]; done)
                case hx => first | rfl | (simp only [Act.eval, gD, oG, e71]; done)
                intro w39 hb; have n0_ := Aside0.mk (Kd.R_below (by (with_reducible repeat (first | apply rL | apply rN | apply rW)); exact HO182.out) hb)
                have n1_ := Aside0.mk (Kd.R_below (by (with_reducible repeat (first | apply rL | apply rN | apply rW)); exact HO187.out) hb); have n2_ := Aside0.mk (Kd.R_below (by (with_reducible repeat (first | apply rL | apply rN | apply rW)); exact HO192.out) hb); have n3_ := Aside0.mk (Kd.R_below (by (with_reducible repeat (first | apply rL | apply rN | apply rW)); exact HO195.out) hb); have n4_ := Aside0.mk (below_step (by repeat (first | (with_reducible first | exact HB.out | apply bA | apply bN | apply bD) | exact HB.out)) hb); have z_HO199 := fun (h0_ : b 26 = true) => (show Kd.R (Kd.int .u32) 23 w39 w.heap.size (fun _ => True) v198 t197 from by first | exact (Kd.R_below (by (with_reducible repeat (first | apply rL | apply rN | apply rW)); exact (Q_HO199 h0_)) hb) | exact Kd.R_mono (Kd.R_below (by (with_reducible repeat (first | apply rL | apply rN | apply rW)); exact (Q_HO199 h0_)) hb) (fun _ h_ => by first | trivial | exact h_ | exact h_.1))
                have z_HO202 := fun (h0_ : b 27 = true) => (show Kd.R (Kd.int .u8) 5 w39 w.heap.size (fun k_ => some k_ ≠ (.slice Ao17 t180.length co17 : Value).ownBlock ∧ some k_ ≠ (.slice Ao19 t185.length co19 : Value).ownBlock) v201 t200 from by first | exact (Kd.R_below (by (with_reducible repeat (first | apply rL | apply rN | apply rW)); exact (Q_HO202 h0_)) hb) | exact Kd.R_mono (Kd.R_below (by (with_reducible repeat (first | apply rL | apply rN | apply rW)); exact (Q_HO202 h0_)) hb) (fun _ h_ => by first | trivial | exact h_ | exact h_.1))
                clear HO182; clear HO187; clear HO192; clear HO195; clear HB; have HO182 := n0_; have HO187 := n1_; have HO192 := n2_; have HO195 := n3_; have HB := n4_; clear n0_ n1_ n2_ n3_ n4_; (try clear hb); refine hK.out _ _ ⟨v191, v194, v198, v201, (by rw [ha.out]; exact putSel_upk 34 hb_ rfl rfl rfl), (by (with_reducible repeat (first | apply rL | apply rN | apply rW)); first | exact HO182.out | exact Kd.R_mono (HO182.out) (fun _ hk => by first | trivial | exact hk | exact hk.1 | ((repeat' apply And.intro) <;> first | exact hk.2 | exact hk.1.2 | exact hk.1.1.2))), (by (with_reducible repeat (first | apply rL | apply rN | apply rW)); first | exact HO187.out | exact Kd.R_mono (HO187.out) (fun _ hk => by first | trivial | exact hk | exact hk.1 | ((repeat' apply And.intro) <;> first | exact hk.2 | exact hk.1.2 | exact hk.1.1.2))), (by repeat (first | (with_reducible first | exact HB.out | apply bA | apply bN | apply bD) | exact HB.out)), fun _ => (by (with_reducible repeat (first | apply rL | apply rN | apply rW)); exact HO192.out), fun _ => (by (with_reducible repeat (first | apply rL | apply rN | apply rW)); exact HO195.out), z_HO199, z_HO202⟩
               refine steps_cons ?_ ?_
               ·rintro b a w' ⟨v191, v194, v198, v201, ha, Q_HO182, Q_HO187, Q_HB, Q_HO192, Q_HO195, Q_HO199, Q_HO202⟩ hb_ hon hoff
                refine ⟨_, rfl, fun K hK => ?_⟩; have e65 : a.tmps[65]? = some (.string (strOfNums t200)) := by rw [ha]; exact putSel_on (e := (28, 65, .string (strOfNums t200))) 27 rfl rfl (hon 28 (by kernel_rfl)) rfl
                have e72 : a.tmps[72]? = some (.string (strOfNums (l0.take ((ji30) : Int).toNat))) := by rw [ha]; exact putSel_on (e := (35, 72, .string (strOfNums (l0.take ((ji30) : Int).toNat)))) 34 rfl rfl (hon 35 (by kernel_rfl)) rfl
                have e61 : a.tmps[61]? = some (.bool (!true)) := by rw [ha]; exact putSel_on (e := (24, 61, .bool (!true))) 23 rfl rfl (hon 24 (by kernel_rfl)) rfl
                replace ha := Aside0.mk ha; have HO182 := Aside0.mk Q_HO182; have HO187 := Aside0.mk Q_HO187; have HB := Aside0.mk Q_HB; have HO192 := Aside0.mk (Q_HO192 (hon 18 (by kernel_rfl))); have HO195 := Aside0.mk (Q_HO195 (hon 19 (by kernel_rfl))); have HO199 := Aside0.mk (Q_HO199 (hon 26 (by kernel_rfl))); have HO202 := Aside0.mk (Q_HO202 (hon 27 (by kernel_rfl))); refine value_ (w1 := w') (v := .bool ((strOfNums t200).toList != (strOfNums (l0.take ((ji30) : Int).toNat)).toList)) (wanted_on rfl rfl rfl (e61.trans (by first | rfl | (simp [*]; done)))) rfl ?_ ?_
                ·go_simp
                 (try simp only [i64_w])
                 try first | rfl | (simp [bne]; done)
                refine hK.out _ _ ⟨v191, v194, v198, v201, (by rw [ha.out]; exact putSel_upk 35 hb_ rfl rfl rfl), Q_HO182, Q_HO187, Q_HB, Q_HO192, Q_HO195, Q_HO199, Q_HO202⟩
               refine steps_cons ?_ ?_
               ·rintro b a w' ⟨v191, v194, v198, v201, ha, Q_HO182, Q_HO187, Q_HB, Q_HO192, Q_HO195, Q_HO199, Q_HO202⟩ hb_ hon hoff
                refine ⟨_, rfl, fun K hK => ?_⟩; have e61 : a.tmps[61]? = some (.bool (!true)) := by rw [ha]; exact putSel_on (e := (24, 61, .bool (!true))) 23 rfl rfl (hon 24 (by kernel_rfl)) rfl
                have e73 : a.tmps[73]? = some (.bool ((strOfNums t200).toList != (strOfNums (l0.take ((ji30) : Int).toNat)).toList)) := by rw [ha]; exact putSel_on (e := (36, 73, .bool ((strOfNums t200).toList != (strOfNums (l0.take ((ji30) : Int).toNat)).toList))) 35 rfl rfl (hon 36 (by kernel_rfl)) rfl
                replace ha := Aside0.mk ha; have HO182 := Aside0.mk Q_HO182; have HO187 := Aside0.mk Q_HO187; have HB := Aside0.mk Q_HB; have HO192 := Aside0.mk (Q_HO192 (hon 18 (by kernel_rfl))); have HO195 := Aside0.mk (Q_HO195 (hon 19 (by kernel_rfl))); have HO199 := Aside0.mk (Q_HO199 (hon 26 (by kernel_rfl))); have HO202 := Aside0.mk (Q_HO202 (hon 27 (by kernel_rfl))); refine value_ (w1 := w') (v := .bool ((strOfNums t200).toList != (strOfNums (l0.take ((ji30) : Int).toNat)).toList)) (by rfl) rfl ?_ ?_
                ·go_simp
                 (try simp only [i64_w])
                 try first | rfl | (simp [bne]; done)
                refine hK.out _ _ ⟨v191, v194, v198, v201, (by rw [ha.out]; exact putSel_upk 36 hb_ rfl rfl rfl), Q_HO182, Q_HO187, Q_HB, Q_HO192, Q_HO195, Q_HO199, Q_HO202⟩
               exact steps_nil
              rintro b a w44 hall ⟨v191, v194, v198, v201, ha, Q_HO182, Q_HO187, Q_HB, Q_HO192, Q_HO195, Q_HO199, Q_HO202⟩
              clear HB HO182 HO187; have hb1_ := hall 1 (by kernel_rfl); have hb2_ := hall 2 (by kernel_rfl); have hb3_ := hall 3 (by kernel_rfl); have hb4_ := hall 4 (by kernel_rfl); have hb5_ := hall 5 (by kernel_rfl); have hb6_ := hall 6 (by kernel_rfl); have hb7_ := hall 7 (by kernel_rfl); have hb8_ := hall 8 (by kernel_rfl); have hb9_ := hall 9 (by kernel_rfl); have hb10_ := hall 10 (by kernel_rfl); have hb11_ := hall 11 (by kernel_rfl); have hb12_ := hall 12 (by kernel_rfl); have hb13_ := hall 13 (by kernel_rfl); have hb14_ := hall 14 (by kernel_rfl); have hb15_ := hall 15 (by kernel_rfl); have hb16_ := hall 16 (by kernel_rfl); have hb17_ := hall 17 (by kernel_rfl); have hb18_ := hall 18 (by kernel_rfl); have hb19_ := hall 19 (by kernel_rfl); have hb20_ := hall 20 (by kernel_rfl); have hb21_ := hall 21 (by kernel_rfl); have hb22_ := hall 22 (by kernel_rfl); have hb23_ := hall 23 (by kernel_rfl); have hb24_ := hall 24 (by kernel_rfl); have hb25_ := hall 25 (by kernel_rfl); have hb26_ := hall 26 (by kernel_rfl); have hb27_ := hall 27 (by kernel_rfl); have hb28_ := hall 28 (by kernel_rfl); have hb29_ := hall 29 (by kernel_rfl); have hb30_ := hall 30 (by kernel_rfl); have hb31_ := hall 31 (by kernel_rfl); have hb32_ := hall 32 (by kernel_rfl); have hb33_ := hall 33 (by kernel_rfl); have hb34_ := hall 34 (by kernel_rfl); have hb35_ := hall 35 (by kernel_rfl); have hb36_ := hall 36 (by kernel_rfl); have hb37_ := hall 37 (by kernel_rfl); subst ha; simp only [putSel, hb1_, hb2_, hb3_, hb4_, hb5_, hb6_, hb7_, hb8_, hb9_, hb10_, hb11_, hb12_, hb13_, hb14_, hb15_, hb16_, hb17_, hb18_, hb19_, hb20_, hb21_, hb22_, hb23_, hb24_, hb25_, hb26_, hb27_, hb28_, hb29_, hb30_, hb31_, hb32_, hb33_, hb34_, hb35_, hb36_, hb37_, if_true, Act.put, sA, s0, sS]
              have HO182 := Aside0.mk Q_HO182; clear Q_HO182; have HO187 := Aside0.mk Q_HO187; clear Q_HO187; have HB := Aside0.mk Q_HB; clear Q_HB; have HO192 := Aside0.mk (Q_HO192 hb18_); clear Q_HO192; have HO195 := Aside0.mk (Q_HO195 hb19_); clear Q_HO195; have HO199 := Aside0.mk (Q_HO199 hb26_); clear Q_HO199; have HO202 := Aside0.mk (Q_HO202 hb27_); clear Q_HO202; clear hall hb1_ hb2_ hb3_ hb4_ hb5_ hb6_ hb7_ hb8_ hb9_ hb10_ hb11_ hb12_ hb13_ hb14_ hb15_ hb16_ hb17_ hb18_ hb19_ hb20_ hb21_ hb22_ hb23_ hb24_ hb25_ hb26_ hb27_ hb28_ hb29_ hb30_ hb31_ hb32_ hb33_ hb34_ hb35_ hb36_ hb37_; try go_wp2
              go_meet
              case rel => exact ⟨_, (((strOfNums t200).toList != (strOfNums (l0.take ((ji30) : Int).toNat)).toList)), (by first | rfl | (simp; done) | (simp only [← hji30] <;> (first | rfl | simp)) | (simp [*]; done)), H', ⟨by have := HJ6.out; first | omega | exact Nat.le_refl _⟩, ⟨by repeat (first | (with_reducible first | exact HB.out | apply bA | apply bN | apply bD) | exact HB.out)⟩⟩
             ·rw [if_neg c32] at H
              exact absurd H (by simp)
            ·rw [if_neg c31] at H
             exact absurd H (by simp)
           ·replace c27 := Bool.eq_false_iff.mpr c27
            subst c27; have H1 : (wristbandlaw01_WordBack.j1 kj6 l0 a2 a3 true) = some r := by rw [if_neg (show ¬ (false = true) by decide)] at H; exact H
            clear H; have H := H1; clear H1; have H' := Aside0.mk H; clear H; try go_wp2
            have n0_ := Aside0.mk (Kd.R_drew HO182.out); have n1_ := Aside0.mk (Kd.R_drew HO187.out); have n2_ := Aside0.mk (below_drew1 HB.out); clear HO182; clear HO187; clear HB; have HO182 := n0_; have HO187 := n1_; have HB := n2_; clear n0_ n1_ n2_; refine start_ (n := 38) (S := fun w' => True) (ds := []) #[false, false, false, false, false, false, false, false, false, false, false, false, false, false, false, false, false, false, false, false, false, false, false, false, false, false, false, false, false, false, false, false, false, false, false, false, false, false] (by kernel_rfl) rfl rfl trivial (fun hHeld => ?_); refine with_tabW wristbandlaw01_WordBack.tab7 wristbandlaw01_WordBack.bits7 (fun HT_ HW_ => ?_)
            generalize w18.drew = w45 at HO182 HO187 HB hHeld ⊢
            refine pu_ 0 37 (rA [1,37]) HT_ (by kernel_rfl) rfl rfl (fun _ _ _ => id) (.inl ⟨by rfl, fun w' => by go_simp; with_reducible rfl⟩) (by simp only [Act.put, sA, s0, sS, i64_w, i32_w]; rfl) ?_
            refine pu_ 1 38 (rA [2,36]) HT_ (by kernel_rfl) rfl rfl (fun _ _ _ => id) (.inl ⟨by rfl, fun w' => by go_simp; with_reducible rfl⟩) (by simp only [Act.put, sA, s0, sS, i64_w, i32_w]; rfl) ?_
            refine pu_ 2 39 (rA [3,35]) HT_ (by kernel_rfl) rfl rfl (fun _ _ _ => id) (.inl ⟨by rfl, fun w' => by go_simp; with_reducible rfl⟩) (by simp only [Act.put, sA, s0, sS, i64_w, i32_w]; rfl) ?_
            refine pu_ 3 40 (rA [4,34]) HT_ (by kernel_rfl) rfl rfl (fun _ _ _ => id) (.inl ⟨by rfl, fun w' => by go_simp; with_reducible rfl⟩) (by simp only [Act.put, sA, s0, sS, i64_w, i32_w]; rfl) ?_
            refine pu_ 4 41 (rA [5,33]) HT_ (by kernel_rfl) rfl rfl (fun _ _ _ => id) (.inl ⟨by rfl, fun w' => by go_simp; with_reducible rfl⟩) (by simp only [Act.put, sA, s0, sS, i64_w, i32_w]; rfl) ?_
            refine pu_ 5 42 (rA [6,32]) HT_ (by kernel_rfl) rfl rfl (fun _ _ _ => id) (.inl ⟨by rfl, fun w' => by go_simp; with_reducible rfl⟩) (by simp only [Act.put, sA, s0, sS, i64_w, i32_w]; rfl) ?_
            refine pu_ 6 43 (rA [7,31]) HT_ (by kernel_rfl) rfl rfl (fun _ _ _ => id) (.inl ⟨by rfl, fun w' => by go_simp; with_reducible rfl⟩) (by simp only [Act.put, sA, s0, sS, i64_w, i32_w]; rfl) ?_
            refine pu_ 7 44 (rA [8,30]) HT_ (by kernel_rfl) rfl rfl (fun _ _ _ => id) (.inl ⟨by rfl, fun w' => by go_simp; with_reducible rfl⟩) (by simp only [Act.put, sA, s0, sS, i64_w, i32_w]; rfl) ?_
            refine pu_ 8 45 (rA [9,29]) HT_ (by kernel_rfl) rfl rfl (fun _ _ _ => id) (.inl ⟨by rfl, fun w' => by go_simp; with_reducible rfl⟩) (by simp only [Act.put, sA, s0, sS, i64_w, i32_w]; rfl) ?_
            refine pu_ 9 46 (rA [10,28]) HT_ (by kernel_rfl) rfl rfl (fun _ _ _ => id) (.inl ⟨by rfl, fun w' => by go_simp; with_reducible rfl⟩) (by simp only [Act.put, sA, s0, sS, i64_w, i32_w]; rfl) ?_
            refine pu_ 10 47 (rA [11,27]) HT_ (by kernel_rfl) rfl rfl (fun _ _ _ => id) (.inl ⟨by rfl, fun w' => by go_simp; with_reducible rfl⟩) (by simp only [Act.put, sA, s0, sS, i64_w, i32_w]; rfl) ?_
            refine pu_ 11 48 (rA [12,26]) HT_ (by kernel_rfl) rfl rfl (fun _ _ _ => id) (.inl ⟨by rfl, fun w' => by go_simp; with_reducible rfl⟩) (by simp only [Act.put, sA, s0, sS, i64_w, i32_w]; rfl) ?_
            refine pu_ 12 49 (rA [13,25]) HT_ (by kernel_rfl) rfl rfl (fun _ _ _ => id) (.inl ⟨by rfl, fun w' => by go_simp; with_reducible rfl⟩) (by simp only [Act.put, sA, s0, sS, i64_w, i32_w]; rfl) ?_
            refine pu_ 13 50 (rA [14,24]) HT_ (by kernel_rfl) rfl rfl (fun _ _ _ => id) (.inl ⟨by rfl, fun w' => by go_simp; with_reducible rfl⟩) (by simp only [Act.put, sA, s0, sS, i64_w, i32_w]; rfl) ?_
            refine pu_ 14 51 (rA [15,23]) HT_ (by kernel_rfl) rfl rfl (fun _ _ _ => id) (.inl ⟨by rfl, fun w' => by go_simp; with_reducible rfl⟩) (by simp only [Act.put, sA, s0, sS, i64_w, i32_w]; rfl) ?_
            refine pu_ 15 52 (rA [16,22]) HT_ (by kernel_rfl) rfl rfl (fun _ _ _ => id) (.inl ⟨by rfl, fun w' => by go_simp; with_reducible rfl⟩) (by simp only [Act.put, sA, s0, sS, i64_w, i32_w]; rfl) ?_
            refine pu_ 16 53 (rA [17,21]) HT_ (by kernel_rfl) rfl rfl (fun _ _ _ => id) (.inl ⟨by rfl, fun w' => by go_simp; with_reducible rfl⟩) (by simp only [Act.put, sA, s0, sS, i64_w, i32_w]; rfl) ?_
            refine pu_ 17 54 (rA [18,20]) HT_ (by kernel_rfl) rfl rfl (fun _ _ _ => id) (.inl ⟨by rfl, fun w' => by go_simp; with_reducible rfl⟩) (by simp only [Act.put, sA, s0, sS, i64_w, i32_w]; rfl) ?_
            refine pu_ 20 57 (rA [18,2,1,17]) HT_ (by kernel_rfl) rfl rfl (fun _ _ _ => id) (.inl ⟨by rfl, fun w' => by go_simp; with_reducible rfl⟩) (by simp only [Act.put, sA, s0, sS, i64_w, i32_w]; rfl) ?_
            refine one_ (i := 18) (N := some 55) (rA [19,1,1,17]) rfl rfl (one_of HT_.out (by kernel_rfl)) (by decide) (fun K hK => ?_)
            refine goes_ Try.func32 (by kernel_rfl) rfl #[.slice A1 l1.length c1] (by first | rfl | (simp [Region.wanted, yielded, *]; done)) rfl rfl (by (try simp only [mT, mC, mN]); first | done | rfl | (simp only [List.length_drop, List.length_take]; rfl)) ?_
            with_reducible refine (word_Bytes.calls kj6 _ _ l1 t190 _ ?side1 ?side2 A24.out).mono ?_
            (case side1 => repeat (first | exact (Kd.C_below HR1.out HB.out) | (with_reducible refine Kd.C_alloc ?_ _) | (with_reducible refine Kd.C_drewN ?_ _) | (with_reducible refine Kd.C_drew ?_)))
            (case side2 => exact HC1.out)
            rintro e w46 ⟨v191, rfl, ho0, hb⟩
            refine ⟨_, rfl, ?_⟩; have n0_ := Aside0.mk (Kd.R_elder' (by (with_reducible repeat (first | apply rL | apply rN | apply rW)); exact HO182.out) (Kd.R_base ho0) hb); have n1_ := Aside0.mk (Kd.R_elder' (by (with_reducible repeat (first | apply rL | apply rN | apply rW)); exact HO187.out) (Kd.R_base ho0) hb); have n2_ := Aside0.mk (Kd.R_lower (Kd.R_new' (Kd.R_new' ho0 (Kd.R_lt (by (with_reducible repeat (first | apply rL | apply rN | apply rW)); exact HO182.out))) (Kd.R_lt (by (with_reducible repeat (first | apply rL | apply rN | apply rW)); exact HO187.out))) (below_size (by repeat (first | (with_reducible first | exact HB.out | apply bA | apply bN | apply bD) | exact HB.out)))); have n3_ := Aside0.mk (below_step (by repeat (first | (with_reducible first | exact HB.out | apply bA | apply bN | apply bD) | exact HB.out)) hb); clear HO182; clear HO187; clear HB; have HO182 := n0_; have HO187 := n1_; have HO192 := n2_; have HB := n3_; clear n0_ n1_ n2_ n3_; (try clear hb); (try clear hb2); (try clear hk); (try clear hi); (try clear ho0); obtain ⟨Ao47, co47, eo47⟩ := Kd.R_slice HO192.out
            (first | subst eo47 | (injection eo47 with f1_ f2_ f3_; have f4_ := f1_.symm; have f5_ := f3_.symm; clear f1_ f2_ f3_; subst f4_; subst f5_)); refine hK.out _ _ trivial (fun hHeld => ?_)
            clear hK K; refine norm_ (a' := ?_) ?_ ?_
            rotate_left
            ·show Act.put _ (some 55) _ = _
             simp only [Act.put, sA, s0, sS, i64_w, i32_w]
             rfl
            refine one_ (i := 19) (N := some 56) (rA [21,17]) rfl rfl (one_of HT_.out (by kernel_rfl)) (by decide) (fun K hK => ?_)
            refine goes_ Try.func30 (by kernel_rfl) rfl #[.slice Ao47 t190.length co47] (by first | rfl | (simp [Region.wanted, yielded, *]; done)) rfl rfl (by (try simp only [mT, mC, mN]); first | done | rfl | (simp only [List.length_drop, List.length_take]; rfl)) ?_
            with_reducible refine (word_Words.calls kj6 (fun k_ => some k_ = (.slice Ao47 t190.length co47 : Value).ownBlock) _ _ t190 t193 _ ?side1 A25.out).mono ?_
            (case side1 => exact Kd.R_V (Kd.R_tight rfl (HO192.out)))
            rintro e w48 ⟨v194, rfl, ho0, hb⟩
            refine ⟨_, rfl, ?_⟩; have n0_ := Aside0.mk (Kd.R_below (by (with_reducible repeat (first | apply rL | apply rN | apply rW)); exact HO182.out) hb); have n1_ := Aside0.mk (Kd.R_below (by (with_reducible repeat (first | apply rL | apply rN | apply rW)); exact HO187.out) hb); have n2_ := Aside0.mk (Kd.R_below (by (with_reducible repeat (first | apply rL | apply rN | apply rW)); exact HO192.out) hb); have n3_ := Aside0.mk (Kd.R_lower (Kd.R_mono (ok' := fun k_ => True) ho0 (fun _ hk_ => trivial)) (below_size (by repeat (first | (with_reducible first | exact HB.out | apply bA | apply bN | apply bD) | exact HB.out)))); have n4_ := Aside0.mk (below_step (by repeat (first | (with_reducible first | exact HB.out | apply bA | apply bN | apply bD) | exact HB.out)) hb); clear HO182; clear HO187; clear HO192; clear HB; have HO182 := n0_; have HO187 := n1_; have HO192 := n2_; have HO195 := n3_; have HB := n4_; clear n0_ n1_ n2_ n3_ n4_; (try clear hb); (try clear hb2); (try clear hk); (try clear hi); (try clear ho0); obtain ⟨Ao49, co49, eo49⟩ := Kd.R_slice HO195.out
            (first | subst eo49 | (injection eo49 with f1_ f2_ f3_; have f4_ := f1_.symm; have f5_ := f3_.symm; clear f1_ f2_ f3_; subst f4_; subst f5_)); refine hK.out _ _ trivial (fun hHeld => ?_)
            clear hK K; refine norm_ (a' := ?_) ?_ ?_
            rotate_left
            ·show Act.put _ (some 56) _ = _
             simp only [Act.put, sA, s0, sS, i64_w, i32_w]
             rfl
            refine one_ (i := 21) (N := some 58) (rA [22,16]) rfl rfl (one_of HT_.out (by kernel_rfl)) (by decide) (fun K hK => ?_)
            refine goes_ Try.func29 (by kernel_rfl) rfl #[.slice Ao49 t193.length co49, .slice A1 l1.length c1] (by first | rfl | (simp [Region.wanted, yielded, *]; done)) rfl rfl (by (try simp only [mT, mC, mN]); first | done | rfl | (simp only [List.length_drop, List.length_take]; rfl)) ?_
            with_reducible refine (wristbandref01_Same.calls kj6 _ _ t193 _ _ l1 false _ ?side1 ?side2 ?side3 ?side4 A26.out).mono ?_
            (case side1 => repeat (first | exact (Kd.R_reads' HO195.out).2.2 | (with_reducible refine Kd.C_alloc ?_ _) | (with_reducible refine Kd.C_drewN ?_ _) | (with_reducible refine Kd.C_drew ?_)))
            (case side2 => exact (Kd.R_reads' HO195.out).2.1)
            (case side3 => repeat (first | exact (Kd.C_below HR1.out HB.out) | (with_reducible refine Kd.C_alloc ?_ _) | (with_reducible refine Kd.C_drewN ?_ _) | (with_reducible refine Kd.C_drew ?_)))
            (case side4 => exact HC1.out)
            rintro e w' ⟨rfl, ⟨nd, rfl⟩⟩
            refine ⟨_, rfl, ?_⟩; refine hK.out _ _ trivial (fun hHeld => ?_)
            clear hK K; refine norm_ (a' := ?_) ?_ ?_
            rotate_left
            ·show Act.put _ (some 58) _ = _
             simp only [Act.put, sA, s0, sS, i64_w, i32_w]
             rfl
            refine pu_ 22 59 (rA [23,15]) HT_ (by kernel_rfl) rfl rfl (fun _ _ _ => id) (.inl ⟨by rfl, fun w' => by go_simp; with_reducible rfl⟩) (by simp only [Act.put, sA, s0, sS, i64_w, i32_w]; rfl) ?_
            refine pu_ 23 60 (rA [24,14]) HT_ (by kernel_rfl) rfl rfl (fun _ _ _ => id) (.inl ⟨by rfl, fun w' => by go_simp; with_reducible rfl⟩) (by simp only [Act.put, sA, s0, sS, i64_w, i32_w]; rfl) ?_
            refine pu_ 24 61 (rA [25,13]) HT_ (by kernel_rfl) rfl rfl (fun _ _ _ => id) (.inl ⟨by rfl, fun w' => by go_simp; with_reducible rfl⟩) (by simp only [Act.put, sA, s0, sS, i64_w, i32_w]; rfl) ?_
            refine pu_ 25 62 (rA [26,12]) HT_ (by kernel_rfl) rfl rfl (fun _ _ _ => id) (.inr ⟨by rfl, rfl⟩) (by simp only [Act.put, sA, s0, sS, i64_w, i32_w]; rfl) ?_
            refine pu_ 26 63 (rA [27,11]) HT_ (by kernel_rfl) rfl rfl (fun _ _ _ => id) (.inr ⟨by rfl, rfl⟩) (by simp only [Act.put, sA, s0, sS, i64_w, i32_w]; rfl) ?_
            refine pu_ 27 64 (rA [28,10]) HT_ (by kernel_rfl) rfl rfl (fun _ _ _ => id) (.inr ⟨by rfl, rfl⟩) (by simp only [Act.put, sA, s0, sS, i64_w, i32_w]; rfl) ?_
            refine pu_ 28 65 (rA [29,9]) HT_ (by kernel_rfl) rfl rfl (fun _ _ _ => id) (.inr ⟨by rfl, rfl⟩) (by simp only [Act.put, sA, s0, sS, i64_w, i32_w]; rfl) ?_
            refine pu_ 29 66 (rA [30,8]) HT_ (by kernel_rfl) rfl rfl (fun _ _ _ => id) (.inr ⟨by rfl, rfl⟩) (by simp only [Act.put, sA, s0, sS, i64_w, i32_w]; rfl) ?_
            refine pu_ 30 67 (rA [31,7]) HT_ (by kernel_rfl) rfl rfl (fun _ _ _ => id) (.inr ⟨by rfl, rfl⟩) (by simp only [Act.put, sA, s0, sS, i64_w, i32_w]; rfl) ?_
            refine pu_ 31 68 (rA [32,6]) HT_ (by kernel_rfl) rfl rfl (fun _ _ _ => id) (.inr ⟨by rfl, rfl⟩) (by simp only [Act.put, sA, s0, sS, i64_w, i32_w]; rfl) ?_
            refine pu_ 32 69 (rA [33,5]) HT_ (by kernel_rfl) rfl rfl (fun _ _ _ => id) (.inr ⟨by rfl, rfl⟩) (by simp only [Act.put, sA, s0, sS, i64_w, i32_w]; rfl) ?_
            refine pu_ 33 70 (rA [34,4]) HT_ (by kernel_rfl) rfl rfl (fun _ _ _ => id) (.inr ⟨by rfl, rfl⟩) (by simp only [Act.put, sA, s0, sS, i64_w, i32_w]; rfl) ?_
            refine pu_ 34 71 (rA [35,3]) HT_ (by kernel_rfl) rfl rfl (fun _ _ _ => id) (.inr ⟨by rfl, rfl⟩) (by simp only [Act.put, sA, s0, sS, i64_w, i32_w]; rfl) ?_
            refine pu_ 35 72 (rA [36,2]) HT_ (by kernel_rfl) rfl rfl (fun _ _ _ => id) (.inr ⟨by rfl, rfl⟩) (by simp only [Act.put, sA, s0, sS, i64_w, i32_w]; rfl) ?_
            refine pu_ 36 73 (rA [37,1]) HT_ (by kernel_rfl) rfl rfl (fun _ _ _ => id) (.inr ⟨by rfl, rfl⟩) (by simp only [Act.put, sA, s0, sS, i64_w, i32_w]; rfl) ?_
            refine pu_ 37 74 (rA [38]) HT_ (by kernel_rfl) rfl rfl (fun _ _ _ => id) (.inl ⟨by rfl, fun w' => by go_simp; with_reducible rfl⟩) (by simp only [Act.put, sA, s0, sS, i64_w, i32_w]; rfl) ?_
            refine done_ (done_of HT_.out (by kernel_rfl)) ?_
            try go_wp2
            go_meet
            case rel => exact ⟨_, (true), (by first | rfl | (simp; done) | (simp [*]; done)), H', ⟨by have := HJ6.out; first | omega | exact Nat.le_refl _⟩, ⟨by repeat (first | (with_reducible first | exact HB.out | apply bA | apply bN | apply bD) | exact HB.out)⟩⟩
          ·rw [if_neg c23] at H
           have c23b0 : (t188 == a2) = false := beq_eq_false_iff_ne.mpr c23
           have c23b1 : (t188 != a2) = true := bne_iff_ne.mpr c23
           have H' := Aside0.mk H; clear H; try go_wp2
           have n0_ := Aside0.mk (Kd.R_drew HO182.out); have n1_ := Aside0.mk (Kd.R_drew HO187.out); have n2_ := Aside0.mk (below_drew1 HB.out); clear HO182; clear HO187; clear HB; have HO182 := n0_; have HO187 := n1_; have HB := n2_; clear n0_ n1_ n2_; refine start_ (n := 38) (S := fun w' => True) (ds := []) #[false, false, false, false, false, false, false, false, false, false, false, false, false, false, false, false, false, false, false, false, false, false, false, false, false, false, false, false, false, false, false, false, false, false, false, false, false, false] (by kernel_rfl) rfl rfl trivial (fun hHeld => ?_); refine with_tabW wristbandlaw01_WordBack.tab7 wristbandlaw01_WordBack.bits7 (fun HT_ HW_ => ?_)
           generalize w18.drew = w50 at HO182 HO187 HB hHeld ⊢
           refine pu_ 0 37 (rA [1,37]) HT_ (by kernel_rfl) rfl rfl (fun _ _ _ => id) (.inl ⟨by rfl, fun w' => by go_simp; with_reducible rfl⟩) (by simp only [Act.put, sA, s0, sS, i64_w, i32_w]; rfl) ?_
           refine pu_ 1 38 (rA [2,36]) HT_ (by kernel_rfl) rfl rfl (fun _ _ _ => id) (.inl ⟨by rfl, fun w' => by go_simp; with_reducible rfl⟩) (by simp only [Act.put, sA, s0, sS, i64_w, i32_w]; rfl) ?_
           refine pu_ 2 39 (rA [3,35]) HT_ (by kernel_rfl) rfl rfl (fun _ _ _ => id) (.inl ⟨by rfl, fun w' => by go_simp; with_reducible rfl⟩) (by simp only [Act.put, sA, s0, sS, i64_w, i32_w]; rfl) ?_
           refine pu_ 3 40 (rA [4,34]) HT_ (by kernel_rfl) rfl rfl (fun _ _ _ => id) (.inl ⟨by rfl, fun w' => by go_simp; with_reducible rfl⟩) (by simp only [Act.put, sA, s0, sS, i64_w, i32_w]; rfl) ?_
           refine pu_ 4 41 (rA [5,33]) HT_ (by kernel_rfl) rfl rfl (fun _ _ _ => id) (.inl ⟨by rfl, fun w' => by go_simp; with_reducible rfl⟩) (by simp only [Act.put, sA, s0, sS, i64_w, i32_w]; rfl) ?_
           refine pu_ 5 42 (rA [6,32]) HT_ (by kernel_rfl) rfl rfl (fun _ _ _ => id) (.inl ⟨by rfl, fun w' => by go_simp; with_reducible rfl⟩) (by simp only [Act.put, sA, s0, sS, i64_w, i32_w]; rfl) ?_
           refine pu_ 6 43 (rA [7,31]) HT_ (by kernel_rfl) rfl rfl (fun _ _ _ => id) (.inl ⟨by rfl, fun w' => by go_simp; with_reducible rfl⟩) (by simp only [Act.put, sA, s0, sS, i64_w, i32_w]; rfl) ?_
           refine pu_ 7 44 (rA [8,30]) HT_ (by kernel_rfl) rfl rfl (fun _ _ _ => id) (.inl ⟨by rfl, fun w' => by go_simp; with_reducible rfl⟩) (by simp only [Act.put, sA, s0, sS, i64_w, i32_w]; rfl) ?_
           refine pu_ 8 45 (rA [9,29]) HT_ (by kernel_rfl) rfl rfl (fun _ _ _ => id) (.inl ⟨by rfl, fun w' => by go_simp; with_reducible rfl⟩) (by simp only [Act.put, sA, s0, sS, i64_w, i32_w]; rfl) ?_
           refine pu_ 9 46 (rA [10,28]) HT_ (by kernel_rfl) rfl rfl (fun _ _ _ => id) (.inl ⟨by rfl, fun w' => by go_simp; with_reducible rfl⟩) (by simp only [Act.put, sA, s0, sS, i64_w, i32_w]; rfl) ?_
           refine pu_ 10 47 (rA [11,27]) HT_ (by kernel_rfl) rfl rfl (fun _ _ _ => id) (.inl ⟨by rfl, fun w' => by go_simp; with_reducible rfl⟩) (by simp only [Act.put, sA, s0, sS, i64_w, i32_w]; rfl) ?_
           refine pu_ 11 48 (rA [12,26]) HT_ (by kernel_rfl) rfl rfl (fun _ _ _ => id) (.inl ⟨by rfl, fun w' => by go_simp; with_reducible rfl⟩) (by simp only [Act.put, sA, s0, sS, i64_w, i32_w]; rfl) ?_
           refine pu_ 12 49 (rA [13,25]) HT_ (by kernel_rfl) rfl rfl (fun _ _ _ => id) (.inl ⟨by rfl, fun w' => by go_simp; with_reducible rfl⟩) (by simp only [Act.put, sA, s0, sS, i64_w, i32_w]; rfl) ?_
           refine pu_ 13 50 (rA [14,24]) HT_ (by kernel_rfl) rfl rfl (fun _ _ _ => id) (.inl ⟨by rfl, fun w' => by go_simp; with_reducible rfl⟩) (by simp only [Act.put, sA, s0, sS, i64_w, i32_w]; rfl) ?_
           refine pu_ 14 51 (rA [15,23]) HT_ (by kernel_rfl) rfl rfl (fun _ _ _ => id) (.inl ⟨by rfl, fun w' => by go_simp; with_reducible rfl⟩) (by simp only [Act.put, sA, s0, sS, i64_w, i32_w]; rfl) ?_
           refine pu_ 15 52 (rA [16,22]) HT_ (by kernel_rfl) rfl rfl (fun _ _ _ => id) (.inl ⟨by rfl, fun w' => by go_simp; with_reducible rfl⟩) (by simp only [Act.put, sA, s0, sS, i64_w, i32_w]; rfl) ?_
           refine pu_ 16 53 (rA [17,21]) HT_ (by kernel_rfl) rfl rfl (fun _ _ _ => id) (.inl ⟨by rfl, fun w' => by go_simp; with_reducible rfl⟩) (by simp only [Act.put, sA, s0, sS, i64_w, i32_w]; rfl) ?_
           refine pu_ 17 54 (rA [18,20]) HT_ (by kernel_rfl) rfl rfl (fun _ _ _ => id) (.inr ⟨by rfl, rfl⟩) (by simp only [Act.put, sA, s0, sS, i64_w, i32_w]; rfl) ?_
           refine pu_ 18 55 (rA [19,19]) HT_ (by kernel_rfl) rfl rfl (fun _ _ _ => id) (.inr ⟨by rfl, rfl⟩) (by simp only [Act.put, sA, s0, sS, i64_w, i32_w]; rfl) ?_
           refine pu_ 19 56 (rA [20,18]) HT_ (by kernel_rfl) rfl rfl (fun _ _ _ => id) (.inr ⟨by rfl, rfl⟩) (by simp only [Act.put, sA, s0, sS, i64_w, i32_w]; rfl) ?_
           refine pu_ 20 57 (rA [21,17]) HT_ (by kernel_rfl) rfl rfl (fun _ _ _ => id) (.inr ⟨by rfl, rfl⟩) (by simp only [Act.put, sA, s0, sS, i64_w, i32_w]; rfl) ?_
           refine pu_ 21 58 (rA [22,16]) HT_ (by kernel_rfl) rfl rfl (fun _ _ _ => id) (.inr ⟨by rfl, rfl⟩) (by simp only [Act.put, sA, s0, sS, i64_w, i32_w]; rfl) ?_
           refine pu_ 22 59 (rA [23,15]) HT_ (by kernel_rfl) rfl rfl (fun _ _ _ => id) (.inr ⟨by rfl, rfl⟩) (by simp only [Act.put, sA, s0, sS, i64_w, i32_w]; rfl) ?_
           refine pu_ 23 60 (rA [24,14]) HT_ (by kernel_rfl) rfl rfl (fun _ _ _ => id) (.inl ⟨by rfl, fun w' => by go_simp; with_reducible rfl⟩) (by simp only [Act.put, sA, s0, sS, i64_w, i32_w]; rfl) ?_
           refine pu_ 24 61 (rA [25,13]) HT_ (by kernel_rfl) rfl rfl (fun _ _ _ => id) (.inl ⟨by rfl, fun w' => by go_simp; with_reducible rfl⟩) (by simp only [Act.put, sA, s0, sS, i64_w, i32_w]; rfl) ?_
           refine pu_ 25 62 (rA [26,12]) HT_ (by kernel_rfl) rfl rfl (fun _ _ _ => id) (.inr ⟨by rfl, rfl⟩) (by simp only [Act.put, sA, s0, sS, i64_w, i32_w]; rfl) ?_
           refine pu_ 26 63 (rA [27,11]) HT_ (by kernel_rfl) rfl rfl (fun _ _ _ => id) (.inr ⟨by rfl, rfl⟩) (by simp only [Act.put, sA, s0, sS, i64_w, i32_w]; rfl) ?_
           refine pu_ 27 64 (rA [28,10]) HT_ (by kernel_rfl) rfl rfl (fun _ _ _ => id) (.inr ⟨by rfl, rfl⟩) (by simp only [Act.put, sA, s0, sS, i64_w, i32_w]; rfl) ?_
           refine pu_ 28 65 (rA [29,9]) HT_ (by kernel_rfl) rfl rfl (fun _ _ _ => id) (.inr ⟨by rfl, rfl⟩) (by simp only [Act.put, sA, s0, sS, i64_w, i32_w]; rfl) ?_
           refine pu_ 29 66 (rA [30,8]) HT_ (by kernel_rfl) rfl rfl (fun _ _ _ => id) (.inr ⟨by rfl, rfl⟩) (by simp only [Act.put, sA, s0, sS, i64_w, i32_w]; rfl) ?_
           refine pu_ 30 67 (rA [31,7]) HT_ (by kernel_rfl) rfl rfl (fun _ _ _ => id) (.inr ⟨by rfl, rfl⟩) (by simp only [Act.put, sA, s0, sS, i64_w, i32_w]; rfl) ?_
           refine pu_ 31 68 (rA [32,6]) HT_ (by kernel_rfl) rfl rfl (fun _ _ _ => id) (.inr ⟨by rfl, rfl⟩) (by simp only [Act.put, sA, s0, sS, i64_w, i32_w]; rfl) ?_
           refine pu_ 32 69 (rA [33,5]) HT_ (by kernel_rfl) rfl rfl (fun _ _ _ => id) (.inr ⟨by rfl, rfl⟩) (by simp only [Act.put, sA, s0, sS, i64_w, i32_w]; rfl) ?_
           refine pu_ 33 70 (rA [34,4]) HT_ (by kernel_rfl) rfl rfl (fun _ _ _ => id) (.inr ⟨by rfl, rfl⟩) (by simp only [Act.put, sA, s0, sS, i64_w, i32_w]; rfl) ?_
           refine pu_ 34 71 (rA [35,3]) HT_ (by kernel_rfl) rfl rfl (fun _ _ _ => id) (.inr ⟨by rfl, rfl⟩) (by simp only [Act.put, sA, s0, sS, i64_w, i32_w]; rfl) ?_
           refine pu_ 35 72 (rA [36,2]) HT_ (by kernel_rfl) rfl rfl (fun _ _ _ => id) (.inr ⟨by rfl, rfl⟩) (by simp only [Act.put, sA, s0, sS, i64_w, i32_w]; rfl) ?_
           refine pu_ 36 73 (rA [37,1]) HT_ (by kernel_rfl) rfl rfl (fun _ _ _ => id) (.inr ⟨by rfl, rfl⟩) (by simp only [Act.put, sA, s0, sS, i64_w, i32_w]; rfl) ?_
           refine pu_ 37 74 (rA [38]) HT_ (by kernel_rfl) rfl rfl (fun _ _ _ => id) (.inl ⟨by rfl, fun w' => by go_simp; with_reducible rfl⟩) (by simp only [Act.put, sA, s0, sS, i64_w, i32_w]; rfl) ?_
           refine done_ (done_of HT_.out (by kernel_rfl)) ?_
           try go_wp2
           go_meet
           case rel => exact ⟨_, (true), (by first | rfl | (simp; done) | (simp [*]; done)), H', ⟨by have := HJ6.out; first | omega | exact Nat.le_refl _⟩, ⟨by repeat (first | (with_reducible first | exact HB.out | apply bA | apply bN | apply bD) | exact HB.out)⟩⟩
         ·rw [if_neg c22] at H
          have c22b0 : (t189 == 0) = false := beq_eq_false_iff_ne.mpr c22
          have c22b1 : (t189 != 0) = true := bne_iff_ne.mpr c22
          have H' := Aside0.mk H; clear H; try go_wp2
          have n0_ := Aside0.mk (Kd.R_drew HO182.out); have n1_ := Aside0.mk (Kd.R_drew HO187.out); have n2_ := Aside0.mk (below_drew1 HB.out); clear HO182; clear HO187; clear HB; have HO182 := n0_; have HO187 := n1_; have HB := n2_; clear n0_ n1_ n2_; refine start_ (n := 38) (S := fun w' => True) (ds := []) #[false, false, false, false, false, false, false, false, false, false, false, false, false, false, false, false, false, false, false, false, false, false, false, false, false, false, false, false, false, false, false, false, false, false, false, false, false, false] (by kernel_rfl) rfl rfl trivial (fun hHeld => ?_); refine with_tabW wristbandlaw01_WordBack.tab7 wristbandlaw01_WordBack.bits7 (fun HT_ HW_ => ?_)
          generalize w18.drew = w51 at HO182 HO187 HB hHeld ⊢
          refine pu_ 0 37 (rA [1,37]) HT_ (by kernel_rfl) rfl rfl (fun _ _ _ => id) (.inl ⟨by rfl, fun w' => by go_simp; with_reducible rfl⟩) (by simp only [Act.put, sA, s0, sS, i64_w, i32_w]; rfl) ?_
          refine pu_ 1 38 (rA [2,36]) HT_ (by kernel_rfl) rfl rfl (fun _ _ _ => id) (.inl ⟨by rfl, fun w' => by go_simp; with_reducible rfl⟩) (by simp only [Act.put, sA, s0, sS, i64_w, i32_w]; rfl) ?_
          refine pu_ 2 39 (rA [3,35]) HT_ (by kernel_rfl) rfl rfl (fun _ _ _ => id) (.inl ⟨by rfl, fun w' => by go_simp; with_reducible rfl⟩) (by simp only [Act.put, sA, s0, sS, i64_w, i32_w]; rfl) ?_
          refine pu_ 3 40 (rA [4,34]) HT_ (by kernel_rfl) rfl rfl (fun _ _ _ => id) (.inl ⟨by rfl, fun w' => by go_simp; with_reducible rfl⟩) (by simp only [Act.put, sA, s0, sS, i64_w, i32_w]; rfl) ?_
          refine pu_ 4 41 (rA [5,33]) HT_ (by kernel_rfl) rfl rfl (fun _ _ _ => id) (.inl ⟨by rfl, fun w' => by go_simp; with_reducible rfl⟩) (by simp only [Act.put, sA, s0, sS, i64_w, i32_w]; rfl) ?_
          refine pu_ 5 42 (rA [6,32]) HT_ (by kernel_rfl) rfl rfl (fun _ _ _ => id) (.inl ⟨by rfl, fun w' => by go_simp; with_reducible rfl⟩) (by simp only [Act.put, sA, s0, sS, i64_w, i32_w]; rfl) ?_
          refine pu_ 6 43 (rA [7,31]) HT_ (by kernel_rfl) rfl rfl (fun _ _ _ => id) (.inl ⟨by rfl, fun w' => by go_simp; with_reducible rfl⟩) (by simp only [Act.put, sA, s0, sS, i64_w, i32_w]; rfl) ?_
          refine pu_ 7 44 (rA [8,30]) HT_ (by kernel_rfl) rfl rfl (fun _ _ _ => id) (.inl ⟨by rfl, fun w' => by go_simp; with_reducible rfl⟩) (by simp only [Act.put, sA, s0, sS, i64_w, i32_w]; rfl) ?_
          refine pu_ 8 45 (rA [9,29]) HT_ (by kernel_rfl) rfl rfl (fun _ _ _ => id) (.inl ⟨by rfl, fun w' => by go_simp; with_reducible rfl⟩) (by simp only [Act.put, sA, s0, sS, i64_w, i32_w]; rfl) ?_
          refine pu_ 9 46 (rA [10,28]) HT_ (by kernel_rfl) rfl rfl (fun _ _ _ => id) (.inl ⟨by rfl, fun w' => by go_simp; with_reducible rfl⟩) (by simp only [Act.put, sA, s0, sS, i64_w, i32_w]; rfl) ?_
          refine pu_ 10 47 (rA [11,27]) HT_ (by kernel_rfl) rfl rfl (fun _ _ _ => id) (.inl ⟨by rfl, fun w' => by go_simp; with_reducible rfl⟩) (by simp only [Act.put, sA, s0, sS, i64_w, i32_w]; rfl) ?_
          refine pu_ 11 48 (rA [12,26]) HT_ (by kernel_rfl) rfl rfl (fun _ _ _ => id) (.inl ⟨by rfl, fun w' => by go_simp; with_reducible rfl⟩) (by simp only [Act.put, sA, s0, sS, i64_w, i32_w]; rfl) ?_
          refine pu_ 12 49 (rA [13,25]) HT_ (by kernel_rfl) rfl rfl (fun _ _ _ => id) (.inr ⟨by rfl, rfl⟩) (by simp only [Act.put, sA, s0, sS, i64_w, i32_w]; rfl) ?_
          refine pu_ 13 50 (rA [14,24]) HT_ (by kernel_rfl) rfl rfl (fun _ _ _ => id) (.inr ⟨by rfl, rfl⟩) (by simp only [Act.put, sA, s0, sS, i64_w, i32_w]; rfl) ?_
          refine pu_ 14 51 (rA [15,23]) HT_ (by kernel_rfl) rfl rfl (fun _ _ _ => id) (.inr ⟨by rfl, rfl⟩) (by simp only [Act.put, sA, s0, sS, i64_w, i32_w]; rfl) ?_
          refine pu_ 15 52 (rA [16,22]) HT_ (by kernel_rfl) rfl rfl (fun _ _ _ => id) (.inl ⟨by rfl, fun w' => by go_simp; with_reducible rfl⟩) (by simp only [Act.put, sA, s0, sS, i64_w, i32_w]; rfl) ?_
          refine pu_ 16 53 (rA [17,21]) HT_ (by kernel_rfl) rfl rfl (fun _ _ _ => id) (.inl ⟨by rfl, fun w' => by go_simp; with_reducible rfl⟩) (by simp only [Act.put, sA, s0, sS, i64_w, i32_w]; rfl) ?_
          refine pu_ 17 54 (rA [18,20]) HT_ (by kernel_rfl) rfl rfl (fun _ _ _ => id) (.inr ⟨by rfl, rfl⟩) (by simp only [Act.put, sA, s0, sS, i64_w, i32_w]; rfl) ?_
          refine pu_ 18 55 (rA [19,19]) HT_ (by kernel_rfl) rfl rfl (fun _ _ _ => id) (.inr ⟨by rfl, rfl⟩) (by simp only [Act.put, sA, s0, sS, i64_w, i32_w]; rfl) ?_
          refine pu_ 19 56 (rA [20,18]) HT_ (by kernel_rfl) rfl rfl (fun _ _ _ => id) (.inr ⟨by rfl, rfl⟩) (by simp only [Act.put, sA, s0, sS, i64_w, i32_w]; rfl) ?_
          refine pu_ 20 57 (rA [21,17]) HT_ (by kernel_rfl) rfl rfl (fun _ _ _ => id) (.inr ⟨by rfl, rfl⟩) (by simp only [Act.put, sA, s0, sS, i64_w, i32_w]; rfl) ?_
          refine pu_ 21 58 (rA [22,16]) HT_ (by kernel_rfl) rfl rfl (fun _ _ _ => id) (.inr ⟨by rfl, rfl⟩) (by simp only [Act.put, sA, s0, sS, i64_w, i32_w]; rfl) ?_
          refine pu_ 22 59 (rA [23,15]) HT_ (by kernel_rfl) rfl rfl (fun _ _ _ => id) (.inr ⟨by rfl, rfl⟩) (by simp only [Act.put, sA, s0, sS, i64_w, i32_w]; rfl) ?_
          refine pu_ 23 60 (rA [24,14]) HT_ (by kernel_rfl) rfl rfl (fun _ _ _ => id) (.inl ⟨by rfl, fun w' => by go_simp; with_reducible rfl⟩) (by simp only [Act.put, sA, s0, sS, i64_w, i32_w]; rfl) ?_
          refine pu_ 24 61 (rA [25,13]) HT_ (by kernel_rfl) rfl rfl (fun _ _ _ => id) (.inl ⟨by rfl, fun w' => by go_simp; with_reducible rfl⟩) (by simp only [Act.put, sA, s0, sS, i64_w, i32_w]; rfl) ?_
          refine pu_ 25 62 (rA [26,12]) HT_ (by kernel_rfl) rfl rfl (fun _ _ _ => id) (.inr ⟨by rfl, rfl⟩) (by simp only [Act.put, sA, s0, sS, i64_w, i32_w]; rfl) ?_
          refine pu_ 26 63 (rA [27,11]) HT_ (by kernel_rfl) rfl rfl (fun _ _ _ => id) (.inr ⟨by rfl, rfl⟩) (by simp only [Act.put, sA, s0, sS, i64_w, i32_w]; rfl) ?_
          refine pu_ 27 64 (rA [28,10]) HT_ (by kernel_rfl) rfl rfl (fun _ _ _ => id) (.inr ⟨by rfl, rfl⟩) (by simp only [Act.put, sA, s0, sS, i64_w, i32_w]; rfl) ?_
          refine pu_ 28 65 (rA [29,9]) HT_ (by kernel_rfl) rfl rfl (fun _ _ _ => id) (.inr ⟨by rfl, rfl⟩) (by simp only [Act.put, sA, s0, sS, i64_w, i32_w]; rfl) ?_
          refine pu_ 29 66 (rA [30,8]) HT_ (by kernel_rfl) rfl rfl (fun _ _ _ => id) (.inr ⟨by rfl, rfl⟩) (by simp only [Act.put, sA, s0, sS, i64_w, i32_w]; rfl) ?_
          refine pu_ 30 67 (rA [31,7]) HT_ (by kernel_rfl) rfl rfl (fun _ _ _ => id) (.inr ⟨by rfl, rfl⟩) (by simp only [Act.put, sA, s0, sS, i64_w, i32_w]; rfl) ?_
          refine pu_ 31 68 (rA [32,6]) HT_ (by kernel_rfl) rfl rfl (fun _ _ _ => id) (.inr ⟨by rfl, rfl⟩) (by simp only [Act.put, sA, s0, sS, i64_w, i32_w]; rfl) ?_
          refine pu_ 32 69 (rA [33,5]) HT_ (by kernel_rfl) rfl rfl (fun _ _ _ => id) (.inr ⟨by rfl, rfl⟩) (by simp only [Act.put, sA, s0, sS, i64_w, i32_w]; rfl) ?_
          refine pu_ 33 70 (rA [34,4]) HT_ (by kernel_rfl) rfl rfl (fun _ _ _ => id) (.inr ⟨by rfl, rfl⟩) (by simp only [Act.put, sA, s0, sS, i64_w, i32_w]; rfl) ?_
          refine pu_ 34 71 (rA [35,3]) HT_ (by kernel_rfl) rfl rfl (fun _ _ _ => id) (.inr ⟨by rfl, rfl⟩) (by simp only [Act.put, sA, s0, sS, i64_w, i32_w]; rfl) ?_
          refine pu_ 35 72 (rA [36,2]) HT_ (by kernel_rfl) rfl rfl (fun _ _ _ => id) (.inr ⟨by rfl, rfl⟩) (by simp only [Act.put, sA, s0, sS, i64_w, i32_w]; rfl) ?_
          refine pu_ 36 73 (rA [37,1]) HT_ (by kernel_rfl) rfl rfl (fun _ _ _ => id) (.inr ⟨by rfl, rfl⟩) (by simp only [Act.put, sA, s0, sS, i64_w, i32_w]; rfl) ?_
          refine pu_ 37 74 (rA [38]) HT_ (by kernel_rfl) rfl rfl (fun _ _ _ => id) (.inl ⟨by rfl, fun w' => by go_simp; with_reducible rfl⟩) (by simp only [Act.put, sA, s0, sS, i64_w, i32_w]; rfl) ?_
          refine done_ (done_of HT_.out (by kernel_rfl)) ?_
          try go_wp2
          go_meet
          case rel => exact ⟨_, (true), (by first | rfl | (simp; done) | (simp [*]; done)), H', ⟨by have := HJ6.out; first | omega | exact Nat.le_refl _⟩, ⟨by repeat (first | (with_reducible first | exact HB.out | apply bA | apply bN | apply bD) | exact HB.out)⟩⟩
        ·rw [if_neg c21] at H
         have c21b0 : (t183 == a2) = false := beq_eq_false_iff_ne.mpr c21
         have c21b1 : (t183 != a2) = true := bne_iff_ne.mpr c21
         have H' := Aside0.mk H; clear H; try go_wp2
         have n0_ := Aside0.mk (Kd.R_drew HO182.out); have n1_ := Aside0.mk (Kd.R_drew HO187.out); have n2_ := Aside0.mk (below_drew1 HB.out); clear HO182; clear HO187; clear HB; have HO182 := n0_; have HO187 := n1_; have HB := n2_; clear n0_ n1_ n2_; refine start_ (n := 38) (S := fun w' => True) (ds := []) #[false, false, false, false, false, false, false, false, false, false, false, false, false, false, false, false, false, false, false, false, false, false, false, false, false, false, false, false, false, false, false, false, false, false, false, false, false, false] (by kernel_rfl) rfl rfl trivial (fun hHeld => ?_); refine with_tabW wristbandlaw01_WordBack.tab7 wristbandlaw01_WordBack.bits7 (fun HT_ HW_ => ?_)
         generalize w18.drew = w52 at HO182 HO187 HB hHeld ⊢
         refine pu_ 0 37 (rA [1,37]) HT_ (by kernel_rfl) rfl rfl (fun _ _ _ => id) (.inl ⟨by rfl, fun w' => by go_simp; with_reducible rfl⟩) (by simp only [Act.put, sA, s0, sS, i64_w, i32_w]; rfl) ?_
         refine pu_ 1 38 (rA [2,36]) HT_ (by kernel_rfl) rfl rfl (fun _ _ _ => id) (.inl ⟨by rfl, fun w' => by go_simp; with_reducible rfl⟩) (by simp only [Act.put, sA, s0, sS, i64_w, i32_w]; rfl) ?_
         refine pu_ 2 39 (rA [3,35]) HT_ (by kernel_rfl) rfl rfl (fun _ _ _ => id) (.inl ⟨by rfl, fun w' => by go_simp; with_reducible rfl⟩) (by simp only [Act.put, sA, s0, sS, i64_w, i32_w]; rfl) ?_
         refine pu_ 3 40 (rA [4,34]) HT_ (by kernel_rfl) rfl rfl (fun _ _ _ => id) (.inl ⟨by rfl, fun w' => by go_simp; with_reducible rfl⟩) (by simp only [Act.put, sA, s0, sS, i64_w, i32_w]; rfl) ?_
         refine pu_ 4 41 (rA [5,33]) HT_ (by kernel_rfl) rfl rfl (fun _ _ _ => id) (.inl ⟨by rfl, fun w' => by go_simp; with_reducible rfl⟩) (by simp only [Act.put, sA, s0, sS, i64_w, i32_w]; rfl) ?_
         refine pu_ 5 42 (rA [6,32]) HT_ (by kernel_rfl) rfl rfl (fun _ _ _ => id) (.inl ⟨by rfl, fun w' => by go_simp; with_reducible rfl⟩) (by simp only [Act.put, sA, s0, sS, i64_w, i32_w]; rfl) ?_
         refine pu_ 6 43 (rA [7,31]) HT_ (by kernel_rfl) rfl rfl (fun _ _ _ => id) (.inl ⟨by rfl, fun w' => by go_simp; with_reducible rfl⟩) (by simp only [Act.put, sA, s0, sS, i64_w, i32_w]; rfl) ?_
         refine pu_ 7 44 (rA [8,30]) HT_ (by kernel_rfl) rfl rfl (fun _ _ _ => id) (.inl ⟨by rfl, fun w' => by go_simp; with_reducible rfl⟩) (by simp only [Act.put, sA, s0, sS, i64_w, i32_w]; rfl) ?_
         refine pu_ 8 45 (rA [9,29]) HT_ (by kernel_rfl) rfl rfl (fun _ _ _ => id) (.inr ⟨by rfl, rfl⟩) (by simp only [Act.put, sA, s0, sS, i64_w, i32_w]; rfl) ?_
         refine pu_ 9 46 (rA [10,28]) HT_ (by kernel_rfl) rfl rfl (fun _ _ _ => id) (.inr ⟨by rfl, rfl⟩) (by simp only [Act.put, sA, s0, sS, i64_w, i32_w]; rfl) ?_
         refine pu_ 10 47 (rA [11,27]) HT_ (by kernel_rfl) rfl rfl (fun _ _ _ => id) (.inl ⟨by rfl, fun w' => by go_simp; with_reducible rfl⟩) (by simp only [Act.put, sA, s0, sS, i64_w, i32_w]; rfl) ?_
         refine pu_ 11 48 (rA [12,26]) HT_ (by kernel_rfl) rfl rfl (fun _ _ _ => id) (.inl ⟨by rfl, fun w' => by go_simp; with_reducible rfl⟩) (by simp only [Act.put, sA, s0, sS, i64_w, i32_w]; rfl) ?_
         refine pu_ 12 49 (rA [13,25]) HT_ (by kernel_rfl) rfl rfl (fun _ _ _ => id) (.inr ⟨by rfl, rfl⟩) (by simp only [Act.put, sA, s0, sS, i64_w, i32_w]; rfl) ?_
         refine pu_ 13 50 (rA [14,24]) HT_ (by kernel_rfl) rfl rfl (fun _ _ _ => id) (.inr ⟨by rfl, rfl⟩) (by simp only [Act.put, sA, s0, sS, i64_w, i32_w]; rfl) ?_
         refine pu_ 14 51 (rA [15,23]) HT_ (by kernel_rfl) rfl rfl (fun _ _ _ => id) (.inr ⟨by rfl, rfl⟩) (by simp only [Act.put, sA, s0, sS, i64_w, i32_w]; rfl) ?_
         refine pu_ 15 52 (rA [16,22]) HT_ (by kernel_rfl) rfl rfl (fun _ _ _ => id) (.inl ⟨by rfl, fun w' => by go_simp; with_reducible rfl⟩) (by simp only [Act.put, sA, s0, sS, i64_w, i32_w]; rfl) ?_
         refine pu_ 16 53 (rA [17,21]) HT_ (by kernel_rfl) rfl rfl (fun _ _ _ => id) (.inl ⟨by rfl, fun w' => by go_simp; with_reducible rfl⟩) (by simp only [Act.put, sA, s0, sS, i64_w, i32_w]; rfl) ?_
         refine pu_ 17 54 (rA [18,20]) HT_ (by kernel_rfl) rfl rfl (fun _ _ _ => id) (.inr ⟨by rfl, rfl⟩) (by simp only [Act.put, sA, s0, sS, i64_w, i32_w]; rfl) ?_
         refine pu_ 18 55 (rA [19,19]) HT_ (by kernel_rfl) rfl rfl (fun _ _ _ => id) (.inr ⟨by rfl, rfl⟩) (by simp only [Act.put, sA, s0, sS, i64_w, i32_w]; rfl) ?_
         refine pu_ 19 56 (rA [20,18]) HT_ (by kernel_rfl) rfl rfl (fun _ _ _ => id) (.inr ⟨by rfl, rfl⟩) (by simp only [Act.put, sA, s0, sS, i64_w, i32_w]; rfl) ?_
         refine pu_ 20 57 (rA [21,17]) HT_ (by kernel_rfl) rfl rfl (fun _ _ _ => id) (.inr ⟨by rfl, rfl⟩) (by simp only [Act.put, sA, s0, sS, i64_w, i32_w]; rfl) ?_
         refine pu_ 21 58 (rA [22,16]) HT_ (by kernel_rfl) rfl rfl (fun _ _ _ => id) (.inr ⟨by rfl, rfl⟩) (by simp only [Act.put, sA, s0, sS, i64_w, i32_w]; rfl) ?_
         refine pu_ 22 59 (rA [23,15]) HT_ (by kernel_rfl) rfl rfl (fun _ _ _ => id) (.inr ⟨by rfl, rfl⟩) (by simp only [Act.put, sA, s0, sS, i64_w, i32_w]; rfl) ?_
         refine pu_ 23 60 (rA [24,14]) HT_ (by kernel_rfl) rfl rfl (fun _ _ _ => id) (.inl ⟨by rfl, fun w' => by go_simp; with_reducible rfl⟩) (by simp only [Act.put, sA, s0, sS, i64_w, i32_w]; rfl) ?_
         refine pu_ 24 61 (rA [25,13]) HT_ (by kernel_rfl) rfl rfl (fun _ _ _ => id) (.inl ⟨by rfl, fun w' => by go_simp; with_reducible rfl⟩) (by simp only [Act.put, sA, s0, sS, i64_w, i32_w]; rfl) ?_
         refine pu_ 25 62 (rA [26,12]) HT_ (by kernel_rfl) rfl rfl (fun _ _ _ => id) (.inr ⟨by rfl, rfl⟩) (by simp only [Act.put, sA, s0, sS, i64_w, i32_w]; rfl) ?_
         refine pu_ 26 63 (rA [27,11]) HT_ (by kernel_rfl) rfl rfl (fun _ _ _ => id) (.inr ⟨by rfl, rfl⟩) (by simp only [Act.put, sA, s0, sS, i64_w, i32_w]; rfl) ?_
         refine pu_ 27 64 (rA [28,10]) HT_ (by kernel_rfl) rfl rfl (fun _ _ _ => id) (.inr ⟨by rfl, rfl⟩) (by simp only [Act.put, sA, s0, sS, i64_w, i32_w]; rfl) ?_
         refine pu_ 28 65 (rA [29,9]) HT_ (by kernel_rfl) rfl rfl (fun _ _ _ => id) (.inr ⟨by rfl, rfl⟩) (by simp only [Act.put, sA, s0, sS, i64_w, i32_w]; rfl) ?_
         refine pu_ 29 66 (rA [30,8]) HT_ (by kernel_rfl) rfl rfl (fun _ _ _ => id) (.inr ⟨by rfl, rfl⟩) (by simp only [Act.put, sA, s0, sS, i64_w, i32_w]; rfl) ?_
         refine pu_ 30 67 (rA [31,7]) HT_ (by kernel_rfl) rfl rfl (fun _ _ _ => id) (.inr ⟨by rfl, rfl⟩) (by simp only [Act.put, sA, s0, sS, i64_w, i32_w]; rfl) ?_
         refine pu_ 31 68 (rA [32,6]) HT_ (by kernel_rfl) rfl rfl (fun _ _ _ => id) (.inr ⟨by rfl, rfl⟩) (by simp only [Act.put, sA, s0, sS, i64_w, i32_w]; rfl) ?_
         refine pu_ 32 69 (rA [33,5]) HT_ (by kernel_rfl) rfl rfl (fun _ _ _ => id) (.inr ⟨by rfl, rfl⟩) (by simp only [Act.put, sA, s0, sS, i64_w, i32_w]; rfl) ?_
         refine pu_ 33 70 (rA [34,4]) HT_ (by kernel_rfl) rfl rfl (fun _ _ _ => id) (.inr ⟨by rfl, rfl⟩) (by simp only [Act.put, sA, s0, sS, i64_w, i32_w]; rfl) ?_
         refine pu_ 34 71 (rA [35,3]) HT_ (by kernel_rfl) rfl rfl (fun _ _ _ => id) (.inr ⟨by rfl, rfl⟩) (by simp only [Act.put, sA, s0, sS, i64_w, i32_w]; rfl) ?_
         refine pu_ 35 72 (rA [36,2]) HT_ (by kernel_rfl) rfl rfl (fun _ _ _ => id) (.inr ⟨by rfl, rfl⟩) (by simp only [Act.put, sA, s0, sS, i64_w, i32_w]; rfl) ?_
         refine pu_ 36 73 (rA [37,1]) HT_ (by kernel_rfl) rfl rfl (fun _ _ _ => id) (.inr ⟨by rfl, rfl⟩) (by simp only [Act.put, sA, s0, sS, i64_w, i32_w]; rfl) ?_
         refine pu_ 37 74 (rA [38]) HT_ (by kernel_rfl) rfl rfl (fun _ _ _ => id) (.inl ⟨by rfl, fun w' => by go_simp; with_reducible rfl⟩) (by simp only [Act.put, sA, s0, sS, i64_w, i32_w]; rfl) ?_
         refine done_ (done_of HT_.out (by kernel_rfl)) ?_
         try go_wp2
         go_meet
         case rel => exact ⟨_, (true), (by first | rfl | (simp; done) | (simp [*]; done)), H', ⟨by have := HJ6.out; first | omega | exact Nat.le_refl _⟩, ⟨by repeat (first | (with_reducible first | exact HB.out | apply bA | apply bN | apply bD) | exact HB.out)⟩⟩
       ·rw [if_neg c20] at H
        have c20b0 : (t184 == 0) = false := beq_eq_false_iff_ne.mpr c20
        have c20b1 : (t184 != 0) = true := bne_iff_ne.mpr c20
        (first | rw [c20b0] | (simp only [i64_w, i32_w]; rw [c20b0]) | skip); have H' := Aside0.mk H
        clear H; try go_wp2
        have n0_ := Aside0.mk (Kd.R_drew HO182.out); have n1_ := Aside0.mk (Kd.R_drew HO187.out); have n2_ := Aside0.mk (below_drew1 HB.out); clear HO182; clear HO187; clear HB; have HO182 := n0_; have HO187 := n1_; have HB := n2_; clear n0_ n1_ n2_; refine start_ (n := 38) (S := fun w' => True) (ds := []) #[false, false, false, false, false, false, false, false, false, false, false, false, false, false, false, false, false, false, false, false, false, false, false, false, false, false, false, false, false, false, false, false, false, false, false, false, false, false] (by kernel_rfl) rfl rfl trivial (fun hHeld => ?_); refine with_tabW wristbandlaw01_WordBack.tab7 wristbandlaw01_WordBack.bits7 (fun HT_ HW_ => ?_)
        generalize w18.drew = w53 at HO182 HO187 HB hHeld ⊢
        refine pu_ 0 37 (rA [1,37]) HT_ (by kernel_rfl) rfl rfl (fun _ _ _ => id) (.inl ⟨by rfl, fun w' => by go_simp; with_reducible rfl⟩) (by simp only [Act.put, sA, s0, sS, i64_w, i32_w]; rfl) ?_
        refine pu_ 1 38 (rA [2,36]) HT_ (by kernel_rfl) rfl rfl (fun _ _ _ => id) (.inl ⟨by rfl, fun w' => by go_simp; with_reducible rfl⟩) (by simp only [Act.put, sA, s0, sS, i64_w, i32_w]; rfl) ?_
        refine pu_ 2 39 (rA [3,35]) HT_ (by kernel_rfl) rfl rfl (fun _ _ _ => id) (.inl ⟨by rfl, fun w' => by go_simp; with_reducible rfl⟩) (by simp only [Act.put, sA, s0, sS, i64_w, i32_w]; rfl) ?_
        refine pu_ 3 40 (rA [4,34]) HT_ (by kernel_rfl) rfl rfl (fun _ _ _ => id) (.inr ⟨by rfl, rfl⟩) (by simp only [Act.put, sA, s0, sS, i64_w, i32_w]; rfl) ?_
        refine pu_ 4 41 (rA [5,33]) HT_ (by kernel_rfl) rfl rfl (fun _ _ _ => id) (.inr ⟨by rfl, rfl⟩) (by simp only [Act.put, sA, s0, sS, i64_w, i32_w]; rfl) ?_
        refine pu_ 5 42 (rA [6,32]) HT_ (by kernel_rfl) rfl rfl (fun _ _ _ => id) (.inr ⟨by rfl, rfl⟩) (by simp only [Act.put, sA, s0, sS, i64_w, i32_w]; rfl) ?_
        refine pu_ 6 43 (rA [7,31]) HT_ (by kernel_rfl) rfl rfl (fun _ _ _ => id) (.inl ⟨by rfl, fun w' => by go_simp; with_reducible rfl⟩) (by simp only [Act.put, sA, s0, sS, i64_w, i32_w]; rfl) ?_
        refine pu_ 7 44 (rA [8,30]) HT_ (by kernel_rfl) rfl rfl (fun _ _ _ => id) (.inl ⟨by rfl, fun w' => by go_simp; with_reducible rfl⟩) (by simp only [Act.put, sA, s0, sS, i64_w, i32_w]; rfl) ?_
        refine pu_ 8 45 (rA [9,29]) HT_ (by kernel_rfl) rfl rfl (fun _ _ _ => id) (.inr ⟨by rfl, rfl⟩) (by simp only [Act.put, sA, s0, sS, i64_w, i32_w]; rfl) ?_
        refine pu_ 9 46 (rA [10,28]) HT_ (by kernel_rfl) rfl rfl (fun _ _ _ => id) (.inr ⟨by rfl, rfl⟩) (by simp only [Act.put, sA, s0, sS, i64_w, i32_w]; rfl) ?_
        refine pu_ 10 47 (rA [11,27]) HT_ (by kernel_rfl) rfl rfl (fun _ _ _ => id) (.inl ⟨by rfl, fun w' => by go_simp; with_reducible rfl⟩) (by simp only [Act.put, sA, s0, sS, i64_w, i32_w]; rfl) ?_
        refine pu_ 11 48 (rA [12,26]) HT_ (by kernel_rfl) rfl rfl (fun _ _ _ => id) (.inl ⟨by rfl, fun w' => by go_simp; with_reducible rfl⟩) (by simp only [Act.put, sA, s0, sS, i64_w, i32_w]; rfl) ?_
        refine pu_ 12 49 (rA [13,25]) HT_ (by kernel_rfl) rfl rfl (fun _ _ _ => id) (.inr ⟨by rfl, rfl⟩) (by simp only [Act.put, sA, s0, sS, i64_w, i32_w]; rfl) ?_
        refine pu_ 13 50 (rA [14,24]) HT_ (by kernel_rfl) rfl rfl (fun _ _ _ => id) (.inr ⟨by rfl, rfl⟩) (by simp only [Act.put, sA, s0, sS, i64_w, i32_w]; rfl) ?_
        refine pu_ 14 51 (rA [15,23]) HT_ (by kernel_rfl) rfl rfl (fun _ _ _ => id) (.inr ⟨by rfl, rfl⟩) (by simp only [Act.put, sA, s0, sS, i64_w, i32_w]; rfl) ?_
        refine pu_ 15 52 (rA [16,22]) HT_ (by kernel_rfl) rfl rfl (fun _ _ _ => id) (.inl ⟨by rfl, fun w' => by go_simp; with_reducible rfl⟩) (by simp only [Act.put, sA, s0, sS, i64_w, i32_w]; rfl) ?_
        refine pu_ 16 53 (rA [17,21]) HT_ (by kernel_rfl) rfl rfl (fun _ _ _ => id) (.inl ⟨by rfl, fun w' => by go_simp; with_reducible rfl⟩) (by simp only [Act.put, sA, s0, sS, i64_w, i32_w]; rfl) ?_
        refine pu_ 17 54 (rA [18,20]) HT_ (by kernel_rfl) rfl rfl (fun _ _ _ => id) (.inr ⟨by rfl, rfl⟩) (by simp only [Act.put, sA, s0, sS, i64_w, i32_w]; rfl) ?_
        refine pu_ 18 55 (rA [19,19]) HT_ (by kernel_rfl) rfl rfl (fun _ _ _ => id) (.inr ⟨by rfl, rfl⟩) (by simp only [Act.put, sA, s0, sS, i64_w, i32_w]; rfl) ?_
        refine pu_ 19 56 (rA [20,18]) HT_ (by kernel_rfl) rfl rfl (fun _ _ _ => id) (.inr ⟨by rfl, rfl⟩) (by simp only [Act.put, sA, s0, sS, i64_w, i32_w]; rfl) ?_
        refine pu_ 20 57 (rA [21,17]) HT_ (by kernel_rfl) rfl rfl (fun _ _ _ => id) (.inr ⟨by rfl, rfl⟩) (by simp only [Act.put, sA, s0, sS, i64_w, i32_w]; rfl) ?_
        refine pu_ 21 58 (rA [22,16]) HT_ (by kernel_rfl) rfl rfl (fun _ _ _ => id) (.inr ⟨by rfl, rfl⟩) (by simp only [Act.put, sA, s0, sS, i64_w, i32_w]; rfl) ?_
        refine pu_ 22 59 (rA [23,15]) HT_ (by kernel_rfl) rfl rfl (fun _ _ _ => id) (.inr ⟨by rfl, rfl⟩) (by simp only [Act.put, sA, s0, sS, i64_w, i32_w]; rfl) ?_
        refine pu_ 23 60 (rA [24,14]) HT_ (by kernel_rfl) rfl rfl (fun _ _ _ => id) (.inl ⟨by rfl, fun w' => by go_simp; with_reducible rfl⟩) (by simp only [Act.put, sA, s0, sS, i64_w, i32_w]; rfl) ?_
        refine pu_ 24 61 (rA [25,13]) HT_ (by kernel_rfl) rfl rfl (fun _ _ _ => id) (.inl ⟨by rfl, fun w' => by go_simp; with_reducible rfl⟩) (by simp only [Act.put, sA, s0, sS, i64_w, i32_w]; rfl) ?_
        refine pu_ 25 62 (rA [26,12]) HT_ (by kernel_rfl) rfl rfl (fun _ _ _ => id) (.inr ⟨by rfl, rfl⟩) (by simp only [Act.put, sA, s0, sS, i64_w, i32_w]; rfl) ?_
        refine pu_ 26 63 (rA [27,11]) HT_ (by kernel_rfl) rfl rfl (fun _ _ _ => id) (.inr ⟨by rfl, rfl⟩) (by simp only [Act.put, sA, s0, sS, i64_w, i32_w]; rfl) ?_
        refine pu_ 27 64 (rA [28,10]) HT_ (by kernel_rfl) rfl rfl (fun _ _ _ => id) (.inr ⟨by rfl, rfl⟩) (by simp only [Act.put, sA, s0, sS, i64_w, i32_w]; rfl) ?_
        refine pu_ 28 65 (rA [29,9]) HT_ (by kernel_rfl) rfl rfl (fun _ _ _ => id) (.inr ⟨by rfl, rfl⟩) (by simp only [Act.put, sA, s0, sS, i64_w, i32_w]; rfl) ?_
        refine pu_ 29 66 (rA [30,8]) HT_ (by kernel_rfl) rfl rfl (fun _ _ _ => id) (.inr ⟨by rfl, rfl⟩) (by simp only [Act.put, sA, s0, sS, i64_w, i32_w]; rfl) ?_
        refine pu_ 30 67 (rA [31,7]) HT_ (by kernel_rfl) rfl rfl (fun _ _ _ => id) (.inr ⟨by rfl, rfl⟩) (by simp only [Act.put, sA, s0, sS, i64_w, i32_w]; rfl) ?_
        refine pu_ 31 68 (rA [32,6]) HT_ (by kernel_rfl) rfl rfl (fun _ _ _ => id) (.inr ⟨by rfl, rfl⟩) (by simp only [Act.put, sA, s0, sS, i64_w, i32_w]; rfl) ?_
        refine pu_ 32 69 (rA [33,5]) HT_ (by kernel_rfl) rfl rfl (fun _ _ _ => id) (.inr ⟨by rfl, rfl⟩) (by simp only [Act.put, sA, s0, sS, i64_w, i32_w]; rfl) ?_
        refine pu_ 33 70 (rA [34,4]) HT_ (by kernel_rfl) rfl rfl (fun _ _ _ => id) (.inr ⟨by rfl, rfl⟩) (by simp only [Act.put, sA, s0, sS, i64_w, i32_w]; rfl) ?_
        refine pu_ 34 71 (rA [35,3]) HT_ (by kernel_rfl) rfl rfl (fun _ _ _ => id) (.inr ⟨by rfl, rfl⟩) (by simp only [Act.put, sA, s0, sS, i64_w, i32_w]; rfl) ?_
        refine pu_ 35 72 (rA [36,2]) HT_ (by kernel_rfl) rfl rfl (fun _ _ _ => id) (.inr ⟨by rfl, rfl⟩) (by simp only [Act.put, sA, s0, sS, i64_w, i32_w]; rfl) ?_
        refine pu_ 36 73 (rA [37,1]) HT_ (by kernel_rfl) rfl rfl (fun _ _ _ => id) (.inr ⟨by rfl, rfl⟩) (by simp only [Act.put, sA, s0, sS, i64_w, i32_w]; rfl) ?_
        refine pu_ 37 74 (rA [38]) HT_ (by kernel_rfl) rfl rfl (fun _ _ _ => id) (.inl ⟨by rfl, fun w' => by go_simp; with_reducible rfl⟩) (by simp only [Act.put, sA, s0, sS, i64_w, i32_w]; rfl) ?_
        refine done_ (done_of HT_.out (by kernel_rfl)) ?_
        try go_wp2
        go_meet
        case rel => exact ⟨_, (true), (by first | rfl | (simp; done) | (simp [*]; done)), H', ⟨by have := HJ6.out; first | omega | exact Nat.le_refl _⟩, ⟨by repeat (first | (with_reducible first | exact HB.out | apply bA | apply bN | apply bD) | exact HB.out)⟩⟩
      case rest =>
       clear HC15; try clear c2
       try clear p2
       try clear c20
       try clear c20b0
       try clear c20b1
       try clear c21
       try clear c21b0
       try clear c21b1
       obtain ⟨kq, x74_14, rfl, HA, HJ14, HB⟩ := hcut
       cases kq with
       | zero => exact absurd HA.out (by simp [wristbandlaw01_WordBack.j1])
       | succ kj14 =>
        have H := HA.out
        clear HA; simp only [wristbandlaw01_WordBack.j1] at H
        by_cases c54 : x74_14 = true
        ·subst c54
         have H1 : (some false) = some r := by rw [if_pos rfl] at H; exact H
         clear H; have H := H1; clear H1; obtain rfl := Option.some.inj H
         go_wp2
         go_ret
         exact ⟨by first | rfl | (simp [errW_none, errW_some] <;> rfl) | (simp [*, errW_none, errW_some] <;> rfl), by repeat (first | (with_reducible first | exact HB.out | apply bA | apply bN | apply bD) | exact HB.out)⟩
        ·replace c54 := Bool.eq_false_iff.mpr c54
         subst c54; have H1 : ((word_Least.f kj14 a2).bind fun t204 => ((word_Least.f kj14 a3).bind fun t207 => (if (((strOfNums t204).toList == (strOfNums t207).toList) != (a2 == a3)) = true then (wristbandlaw01_WordBack.j2 kj14 l0 true) else (if a2 ≤ a3 then ((word_Least.f kj14 a2).bind fun t210 => ((word_Least.f kj14 a3).bind fun t213 => (wristbandlaw01_WordBack.j2 kj14 l0 (decide ((t210.length : Int) > (t213.length : Int)))))) else (wristbandlaw01_WordBack.j2 kj14 l0 false))))) = some r := by rw [if_neg (show ¬ (false = true) by decide)] at H; exact H
         clear H; have H := H1; clear H1; have HC55 := Aside0.mk H; clear H; go_upto_region 9 with (fail)
         go_cut [99] (fun v99 wc => ∃ (kq : Nat) (x99_54 : Bool), v99 = .bool x99_54 ∧ Aside0 (wristbandlaw01_WordBack.j2 kq l0 x99_54 = some r) ∧ Aside0 (kq ≤ kj14) ∧ Aside0 (Below w.heap.size w wc))
         case first =>
          have H := HC55.out
          clear HC55; replace H := Option.bind_eq_some_iff.mp H
          obtain ⟨t204, A560, H⟩ := H
          replace H : ((word_Least.f kj14 a3).bind fun t207 => (if (((strOfNums t204).toList == (strOfNums t207).toList) != (a2 == a3)) = true then (wristbandlaw01_WordBack.j2 kj14 l0 true) else (if a2 ≤ a3 then ((word_Least.f kj14 a2).bind fun t210 => ((word_Least.f kj14 a3).bind fun t213 => (wristbandlaw01_WordBack.j2 kj14 l0 (decide ((t210.length : Int) > (t213.length : Int)))))) else (wristbandlaw01_WordBack.j2 kj14 l0 false)))) = some r := H
          have A56 := Aside0.mk A560; clear A560; replace H := Option.bind_eq_some_iff.mp H
          obtain ⟨t207, A570, H⟩ := H
          replace H : (if (((strOfNums t204).toList == (strOfNums t207).toList) != (a2 == a3)) = true then (wristbandlaw01_WordBack.j2 kj14 l0 true) else (if a2 ≤ a3 then ((word_Least.f kj14 a2).bind fun t210 => ((word_Least.f kj14 a3).bind fun t213 => (wristbandlaw01_WordBack.j2 kj14 l0 (decide ((t210.length : Int) > (t213.length : Int)))))) else (wristbandlaw01_WordBack.j2 kj14 l0 false))) = some r := H
          have A57 := Aside0.mk A570; clear A570; by_cases c58 : (((strOfNums t204).toList == (strOfNums t207).toList) != (a2 == a3)) = true
          ·rw [if_pos c58] at H
           have c58b0 : (((strOfNums t204).toList == (strOfNums t207).toList) != (a2 == a3)) = true := c58
           (try (have c58b1 : decide (((strOfNums t204).toList == (strOfNums t207).toList) = (a2 == a3)) = false := by simpa using c58))
           (try (have c58b2 : (((strOfNums t204).toList == (strOfNums t207).toList) == (a2 == a3)) = false := by simpa using c58))
           (try (have c58b3 : ¬ (((strOfNums t204).toList == (strOfNums t207).toList) = (a2 == a3)) := by simpa using c58))
           clear c58; (first | rw [c58b0] | (simp only [i64_w, i32_w]; rw [c58b0]) | skip); have H' := Aside0.mk H; clear H; try go_wp2
           have n0_ := Aside0.mk (below_drew1 HB.out); clear HB; have HB := n0_; clear n0_; refine start_ (n := 25) (S := fun w' => True) (ds := []) #[false, false, false, false, false, false, false, false, false, false, false, false, false, false, false, false, false, false, false, false, false, false, false, false, false] (by kernel_rfl) rfl rfl trivial (fun hHeld => ?_); refine with_tabW wristbandlaw01_WordBack.tab9 wristbandlaw01_WordBack.bits9 (fun HT_ HW_ => ?_)
           generalize wc.drew = w59 at HB hHeld ⊢
           refine pu_ 0 75 (rA [1,24]) HT_ (by kernel_rfl) rfl rfl (fun _ _ _ => id) (.inl ⟨by rfl, fun w' => by go_simp; with_reducible rfl⟩) (by simp only [Act.put, sA, s0, sS, i64_w, i32_w]; rfl) ?_
           refine pu_ 3 78 (rA [1,2,1,21]) HT_ (by kernel_rfl) rfl rfl (fun _ _ _ => id) (.inl ⟨by rfl, fun w' => by go_simp; with_reducible rfl⟩) (by simp only [Act.put, sA, s0, sS, i64_w, i32_w]; rfl) ?_
           refine pu_ 7 82 (rA [1,2,1,3,1,17]) HT_ (by kernel_rfl) rfl rfl (fun _ _ _ => id) (.inl ⟨by rfl, fun w' => by go_simp; with_reducible rfl⟩) (by simp only [Act.put, sA, s0, sS, i64_w, i32_w]; rfl) ?_
           refine pu_ 8 83 (rA [1,2,1,3,2,16]) HT_ (by kernel_rfl) rfl rfl (fun _ _ _ => id) (.inl ⟨by rfl, fun w' => by go_simp; with_reducible rfl⟩) (by simp only [Act.put, sA, s0, sS, i64_w, i32_w]; rfl) ?_
           refine inv_at [1, 2, 4, 5, 6, 9, 10, 11, 12, 13, 14, 15, 16, 17, 18, 19, 20, 21, 22, 23, 24] (fun a0_ b a w' => ∃ (v205 : Value) (v208 : Value), a = putSel a0_ b [(1, 76, v205), (2, 77, .string (strOfNums t204)), (4, 79, v208), (5, 80, .string (strOfNums t207)), (6, 81, .bool ((strOfNums t204).toList == (strOfNums t207).toList)), (9, 84, .bool (a2 == a3)), (10, 85, .bool (((strOfNums t204).toList == (strOfNums t207).toList) != (a2 == a3))), (11, 86, .bool (((strOfNums t204).toList == (strOfNums t207).toList) != (a2 == a3))), (12, 87, undef), (13, 88, undef), (14, 89, undef), (15, 90, undef), (16, 91, undef), (17, 92, undef), (18, 93, undef), (19, 94, undef), (20, 95, undef), (21, 96, undef), (22, 97, undef), (23, 98, undef), (24, 99, .bool true)] ∧ (Below w.heap.size w w') ∧ (b 1 = true → Kd.R (Kd.int .u8) 5 w' w.heap.size (fun _ => True) v205 t204) ∧ (b 4 = true → Kd.R (Kd.int .u8) 5 w' w.heap.size (fun _ => True) v208 t207)) HT_.out HW_.out (by kernel_rfl) (by kernel_rfl) ?_ ?_ ?_
           ·exact ⟨.bool false, .bool false, by simp only [putSel, Bool.false_eq_true, if_false], HB.out, fun h_ => absurd h_ (by decide), fun h_ => absurd h_ (by decide)⟩
           ·skip
            clear HB; refine steps_cons ?_ ?_
            ·rintro b a w' ⟨v205, v208, ha, Q_HB, Q_HO206, Q_HO209⟩ hb_ hon hoff
             refine ⟨_, rfl, fun K hK => ?_⟩; have e75 : a.tmps[75]? = some (.int .u64 a2) := by rw [ha]; exact (putSel_off rfl).trans rfl
             replace ha := Aside0.mk ha; have HB := Aside0.mk Q_HB; refine goes_ Try.func40 (by kernel_rfl) rfl #[.int .u64 a2] (by first | rfl | (simp [Region.wanted, yielded, *]; done)) rfl rfl (by first | (simp only [mT, mC, mN, Act.eval, gD, oG, e75]; done) | (simp only [mT, mC, mN, Act.eval, gD, oG, e75]; rfl)) ?_
             with_reducible refine (word_Least.calls kj14 a2 t204 _ A56.out).mono ?_
             rintro e w60 ⟨v205, rfl, ho0, hb⟩
             refine ⟨_, rfl, ?_⟩; have n0_ := Aside0.mk (Kd.R_lower ho0 (below_size (by repeat (first | (with_reducible first | exact HB.out | apply bA | apply bN | apply bD) | exact HB.out)))); have n1_ := Aside0.mk (below_step (by repeat (first | (with_reducible first | exact HB.out | apply bA | apply bN | apply bD) | exact HB.out)) hb); clear HB; have HO206 := n0_; have HB := n1_; clear n0_ n1_; (try clear hb); (try clear hb2); (try clear hk); (try clear hi); (try clear ho0); refine hK.out _ _ ⟨v205, v208, (by rw [ha.out]; exact putSel_upk 0 hb_ rfl rfl rfl), (by repeat (first | (with_reducible first | exact HB.out | apply bA | apply bN | apply bD) | exact HB.out)), fun _ => (by (with_reducible repeat (first | apply rL | apply rN | apply rW)); exact HO206.out), ofK (hoff 4 (by kernel_rfl))⟩
            refine steps_cons ?_ ?_
            ·rintro b a w' ⟨v205, v208, ha, Q_HB, Q_HO206, Q_HO209⟩ hb_ hon hoff
             refine ⟨_, rfl, fun K hK => ?_⟩; have e76 : a.tmps[76]? = some (v205) := by rw [ha]; exact putSel_on (e := (1, 76, v205)) 0 rfl rfl (hon 1 (by kernel_rfl)) rfl
             replace ha := Aside0.mk ha; have HB := Aside0.mk Q_HB; have HO206 := Aside0.mk (Q_HO206 (hon 1 (by kernel_rfl))); refine str_step (src := 22) (dst := 9) (x := .tmp 76) ?hw ?ho ?hx (v := v205) (s := strOfNums t204) (by obtain ⟨A_, c_, rfl⟩ := Kd.R_slice HO206.out; exact Kd.C_string (P := Try.prog) (A := A_) (c := c_) Try.underlying22 Try.underlying5 Try.underlying9 (Kd.R_reads' (by (with_reducible repeat (first | apply rL | apply rN | apply rW)); exact HO206.out)).2.2) ?_
             case ho => rfl
             case hw => first | rfl | (simp [Region.wanted, yielded, *]; done)
             case hx => first | rfl | (simp only [Act.eval, gD, oG, e76]; done)
             intro w62 hb; have n0_ := Aside0.mk (Kd.R_below (by (with_reducible repeat (first | apply rL | apply rN | apply rW)); exact HO206.out) hb)
             have n1_ := Aside0.mk (below_step (by repeat (first | (with_reducible first | exact HB.out | apply bA | apply bN | apply bD) | exact HB.out)) hb); have z_HO209 := fun (h0_ : b 4 = true) => (show Kd.R (Kd.int .u8) 5 w62 w.heap.size (fun _ => True) v208 t207 from by first | exact (Kd.R_below (by (with_reducible repeat (first | apply rL | apply rN | apply rW)); exact (Q_HO209 h0_)) hb) | exact Kd.R_mono (Kd.R_below (by (with_reducible repeat (first | apply rL | apply rN | apply rW)); exact (Q_HO209 h0_)) hb) (fun _ h_ => by first | trivial | exact h_ | exact h_.1))
             clear HO206; clear HB; have HO206 := n0_; have HB := n1_; clear n0_ n1_; (try clear hb); refine hK.out _ _ ⟨v205, v208, (by rw [ha.out]; exact putSel_upk 1 hb_ rfl rfl rfl), (by repeat (first | (with_reducible first | exact HB.out | apply bA | apply bN | apply bD) | exact HB.out)), fun _ => (by (with_reducible repeat (first | apply rL | apply rN | apply rW)); exact HO206.out), z_HO209⟩
            refine steps_cons ?_ ?_
            ·rintro b a w' ⟨v205, v208, ha, Q_HB, Q_HO206, Q_HO209⟩ hb_ hon hoff
             refine ⟨_, rfl, fun K hK => ?_⟩; have e78 : a.tmps[78]? = some (.int .u64 a3) := by rw [ha]; exact (putSel_off rfl).trans rfl
             replace ha := Aside0.mk ha; have HB := Aside0.mk Q_HB; have HO206 := Aside0.mk (Q_HO206 (hon 1 (by kernel_rfl))); refine goes_ Try.func40 (by kernel_rfl) rfl #[.int .u64 a3] (by first | rfl | (simp [Region.wanted, yielded, *]; done)) rfl rfl (by first | (simp only [mT, mC, mN, Act.eval, gD, oG, e78]; done) | (simp only [mT, mC, mN, Act.eval, gD, oG, e78]; rfl)) ?_
             with_reducible refine (word_Least.calls kj14 a3 t207 _ A57.out).mono ?_
             rintro e w62 ⟨v208, rfl, ho0, hb⟩
             refine ⟨_, rfl, ?_⟩; have n0_ := Aside0.mk (Kd.R_elder' (by (with_reducible repeat (first | apply rL | apply rN | apply rW)); exact HO206.out) (Kd.R_base ho0) hb); have n1_ := Aside0.mk (Kd.R_lower (Kd.R_new' ho0 (Kd.R_lt (by (with_reducible repeat (first | apply rL | apply rN | apply rW)); exact HO206.out))) (below_size (by repeat (first | (with_reducible first | exact HB.out | apply bA | apply bN | apply bD) | exact HB.out)))); have n2_ := Aside0.mk (below_step (by repeat (first | (with_reducible first | exact HB.out | apply bA | apply bN | apply bD) | exact HB.out)) hb); clear HO206; clear HB; have HO206 := n0_; have HO209 := n1_; have HB := n2_; clear n0_ n1_ n2_; (try clear hb); (try clear hb2); (try clear hk); (try clear hi); (try clear ho0); refine hK.out _ _ ⟨v205, v208, (by rw [ha.out]; exact putSel_upk 2 hb_ rfl rfl rfl), (by repeat (first | (with_reducible first | exact HB.out | apply bA | apply bN | apply bD) | exact HB.out)), fun _ => (by (with_reducible repeat (first | apply rL | apply rN | apply rW)); first | exact Kd.R_mono HO206.out (fun _ hk => hk.2) | exact Kd.R_mono (HO206.out) (fun _ hk => by first | trivial | exact hk | exact hk.1 | ((repeat' apply And.intro) <;> first | exact hk.2 | exact hk.1.2 | exact hk.1.1.2))), fun _ => (by (with_reducible repeat (first | apply rL | apply rN | apply rW)); first | exact Kd.R_mono HO209.out (fun _ hk => hk.2) | exact Kd.R_mono (HO209.out) (fun _ hk => by first | trivial | exact hk | exact hk.1 | ((repeat' apply And.intro) <;> first | exact hk.2 | exact hk.1.2 | exact hk.1.1.2)))⟩
            refine steps_cons ?_ ?_
            ·rintro b a w' ⟨v205, v208, ha, Q_HB, Q_HO206, Q_HO209⟩ hb_ hon hoff
             refine ⟨_, rfl, fun K hK => ?_⟩; have e79 : a.tmps[79]? = some (v208) := by rw [ha]; exact putSel_on (e := (4, 79, v208)) 2 rfl rfl (hon 4 (by kernel_rfl)) rfl
             replace ha := Aside0.mk ha; have HB := Aside0.mk Q_HB; have HO206 := Aside0.mk (Q_HO206 (hon 1 (by kernel_rfl))); have HO209 := Aside0.mk (Q_HO209 (hon 4 (by kernel_rfl))); refine str_step (src := 22) (dst := 9) (x := .tmp 79) ?hw ?ho ?hx (v := v208) (s := strOfNums t207) (by obtain ⟨A_, c_, rfl⟩ := Kd.R_slice HO209.out; exact Kd.C_string (P := Try.prog) (A := A_) (c := c_) Try.underlying22 Try.underlying5 Try.underlying9 (Kd.R_reads' (by (with_reducible repeat (first | apply rL | apply rN | apply rW)); exact HO209.out)).2.2) ?_
             case ho => rfl
             case hw => first | rfl | (simp [Region.wanted, yielded, *]; done)
             case hx => first | rfl | (simp only [Act.eval, gD, oG, e79]; done)
             intro w63 hb; have n0_ := Aside0.mk (Kd.R_below (by (with_reducible repeat (first | apply rL | apply rN | apply rW)); exact HO206.out) hb)
             have n1_ := Aside0.mk (Kd.R_below (by (with_reducible repeat (first | apply rL | apply rN | apply rW)); exact HO209.out) hb); have n2_ := Aside0.mk (below_step (by repeat (first | (with_reducible first | exact HB.out | apply bA | apply bN | apply bD) | exact HB.out)) hb); clear HO206; clear HO209; clear HB; have HO206 := n0_; have HO209 := n1_; have HB := n2_; clear n0_ n1_ n2_; (try clear hb); refine hK.out _ _ ⟨v205, v208, (by rw [ha.out]; exact putSel_upk 3 hb_ rfl rfl rfl), (by repeat (first | (with_reducible first | exact HB.out | apply bA | apply bN | apply bD) | exact HB.out)), fun _ => (by (with_reducible repeat (first | apply rL | apply rN | apply rW)); first | exact HO206.out | exact Kd.R_mono (HO206.out) (fun _ hk => by first | trivial | exact hk | exact hk.1 | ((repeat' apply And.intro) <;> first | exact hk.2 | exact hk.1.2 | exact hk.1.1.2))), fun _ => (by (with_reducible repeat (first | apply rL | apply rN | apply rW)); first | exact HO209.out | exact Kd.R_mono (HO209.out) (fun _ hk => by first | trivial | exact hk | exact hk.1 | ((repeat' apply And.intro) <;> first | exact hk.2 | exact hk.1.2 | exact hk.1.1.2)))⟩
            refine steps_cons ?_ ?_
            ·rintro b a w' ⟨v205, v208, ha, Q_HB, Q_HO206, Q_HO209⟩ hb_ hon hoff
             refine ⟨_, rfl, fun K hK => ?_⟩; have e77 : a.tmps[77]? = some (.string (strOfNums t204)) := by rw [ha]; exact putSel_on (e := (2, 77, .string (strOfNums t204))) 1 rfl rfl (hon 2 (by kernel_rfl)) rfl
             have e80 : a.tmps[80]? = some (.string (strOfNums t207)) := by rw [ha]; exact putSel_on (e := (5, 80, .string (strOfNums t207))) 3 rfl rfl (hon 5 (by kernel_rfl)) rfl
             replace ha := Aside0.mk ha; have HB := Aside0.mk Q_HB; have HO206 := Aside0.mk (Q_HO206 (hon 1 (by kernel_rfl))); have HO209 := Aside0.mk (Q_HO209 (hon 4 (by kernel_rfl))); refine value_ (w1 := w') (v := .bool ((strOfNums t204).toList == (strOfNums t207).toList)) (by rfl) rfl ?_ ?_
             ·go_simp
              (try simp only [i64_w])
              try first | rfl | (simp [bne]; done)
             refine hK.out _ _ ⟨v205, v208, (by rw [ha.out]; exact putSel_upk 4 hb_ rfl rfl rfl), Q_HB, Q_HO206, Q_HO209⟩
            refine steps_cons ?_ ?_
            ·rintro b a w' ⟨v205, v208, ha, Q_HB, Q_HO206, Q_HO209⟩ hb_ hon hoff
             refine ⟨_, rfl, fun K hK => ?_⟩; have e82 : a.tmps[82]? = some (.int .u64 a2) := by rw [ha]; exact (putSel_off rfl).trans rfl
             have e83 : a.tmps[83]? = some (.int .u64 a3) := by rw [ha]; exact (putSel_off rfl).trans rfl
             replace ha := Aside0.mk ha; have HB := Aside0.mk Q_HB; refine value_ (w1 := w') (v := .bool (a2 == a3)) (by rfl) rfl ?_ ?_
             ·go_simp
              (try simp only [i64_w])
              try first | rfl | (simp [bne]; done)
             refine hK.out _ _ ⟨v205, v208, (by rw [ha.out]; exact putSel_upk 5 hb_ rfl rfl rfl), Q_HB, Q_HO206, Q_HO209⟩
            refine steps_cons ?_ ?_
            ·rintro b a w' ⟨v205, v208, ha, Q_HB, Q_HO206, Q_HO209⟩ hb_ hon hoff
             refine ⟨_, rfl, fun K hK => ?_⟩; have e81 : a.tmps[81]? = some (.bool ((strOfNums t204).toList == (strOfNums t207).toList)) := by rw [ha]; exact putSel_on (e := (6, 81, .bool ((strOfNums t204).toList == (strOfNums t207).toList))) 4 rfl rfl (hon 6 (by kernel_rfl)) rfl
             have e84 : a.tmps[84]? = some (.bool (a2 == a3)) := by rw [ha]; exact putSel_on (e := (9, 84, .bool (a2 == a3))) 5 rfl rfl (hon 9 (by kernel_rfl)) rfl
             replace ha := Aside0.mk ha; have HB := Aside0.mk Q_HB; have HO206 := Aside0.mk (Q_HO206 (hon 1 (by kernel_rfl))); have HO209 := Aside0.mk (Q_HO209 (hon 4 (by kernel_rfl))); refine value_ (w1 := w') (v := .bool (((strOfNums t204).toList == (strOfNums t207).toList) != (a2 == a3))) (by rfl) rfl ?_ ?_
             ·go_simp
              (try simp only [i64_w])
              try first | rfl | (simp [bne]; done)
             refine hK.out _ _ ⟨v205, v208, (by rw [ha.out]; exact putSel_upk 6 hb_ rfl rfl rfl), Q_HB, Q_HO206, Q_HO209⟩
            refine steps_cons ?_ ?_
            ·rintro b a w' ⟨v205, v208, ha, Q_HB, Q_HO206, Q_HO209⟩ hb_ hon hoff
             refine ⟨_, rfl, fun K hK => ?_⟩; have e85 : a.tmps[85]? = some (.bool (((strOfNums t204).toList == (strOfNums t207).toList) != (a2 == a3))) := by rw [ha]; exact putSel_on (e := (10, 85, .bool (((strOfNums t204).toList == (strOfNums t207).toList) != (a2 == a3)))) 6 rfl rfl (hon 10 (by kernel_rfl)) rfl
             replace ha := Aside0.mk ha; have HB := Aside0.mk Q_HB; have HO206 := Aside0.mk (Q_HO206 (hon 1 (by kernel_rfl))); have HO209 := Aside0.mk (Q_HO209 (hon 4 (by kernel_rfl))); refine value_ (w1 := w') (v := .bool (((strOfNums t204).toList == (strOfNums t207).toList) != (a2 == a3))) (by rfl) rfl ?_ ?_
             ·go_simp
              (try simp only [i64_w])
              try first | rfl | (simp [bne]; done)
             refine hK.out _ _ ⟨v205, v208, (by rw [ha.out]; exact putSel_upk 7 hb_ rfl rfl rfl), Q_HB, Q_HO206, Q_HO209⟩
            refine steps_cons ?_ ?_
            ·rintro b a w' ⟨v205, v208, ha, Q_HB, Q_HO206, Q_HO209⟩ hb_ hon hoff
             refine ⟨_, rfl, fun K hK => ?_⟩; have e86 : a.tmps[86]? = some (.bool (((strOfNums t204).toList == (strOfNums t207).toList) != (a2 == a3))) := by rw [ha]; exact putSel_on (e := (11, 86, .bool (((strOfNums t204).toList == (strOfNums t207).toList) != (a2 == a3)))) 7 rfl rfl (hon 11 (by kernel_rfl)) rfl
             replace ha := Aside0.mk ha; have HB := Aside0.mk Q_HB; have HO206 := Aside0.mk (Q_HO206 (hon 1 (by kernel_rfl))); have HO209 := Aside0.mk (Q_HO209 (hon 4 (by kernel_rfl))); refine off_ (wanted_off rfl rfl rfl (e86.trans (by first | rfl | (simp [*]; done)))) ?_
             refine hK.out _ _ ⟨v205, v208, (by rw [ha.out]; exact putSel_upk 8 hb_ rfl rfl rfl), Q_HB, Q_HO206, Q_HO209⟩
            refine steps_cons ?_ ?_
            ·rintro b a w' ⟨v205, v208, ha, Q_HB, Q_HO206, Q_HO209⟩ hb_ hon hoff
             refine ⟨_, rfl, fun K hK => ?_⟩; have e86 : a.tmps[86]? = some (.bool (((strOfNums t204).toList == (strOfNums t207).toList) != (a2 == a3))) := by rw [ha]; exact putSel_on (e := (11, 86, .bool (((strOfNums t204).toList == (strOfNums t207).toList) != (a2 == a3)))) 7 rfl rfl (hon 11 (by kernel_rfl)) rfl
             replace ha := Aside0.mk ha; have HB := Aside0.mk Q_HB; have HO206 := Aside0.mk (Q_HO206 (hon 1 (by kernel_rfl))); have HO209 := Aside0.mk (Q_HO209 (hon 4 (by kernel_rfl))); refine off_ (wanted_off rfl rfl rfl (e86.trans (by first | rfl | (simp [*]; done)))) ?_
             refine hK.out _ _ ⟨v205, v208, (by rw [ha.out]; exact putSel_upk 9 hb_ rfl rfl rfl), Q_HB, Q_HO206, Q_HO209⟩
            refine steps_cons ?_ ?_
            ·rintro b a w' ⟨v205, v208, ha, Q_HB, Q_HO206, Q_HO209⟩ hb_ hon hoff
             refine ⟨_, rfl, fun K hK => ?_⟩; have e86 : a.tmps[86]? = some (.bool (((strOfNums t204).toList == (strOfNums t207).toList) != (a2 == a3))) := by rw [ha]; exact putSel_on (e := (11, 86, .bool (((strOfNums t204).toList == (strOfNums t207).toList) != (a2 == a3)))) 7 rfl rfl (hon 11 (by kernel_rfl)) rfl
             replace ha := Aside0.mk ha; have HB := Aside0.mk Q_HB; have HO206 := Aside0.mk (Q_HO206 (hon 1 (by kernel_rfl))); have HO209 := Aside0.mk (Q_HO209 (hon 4 (by kernel_rfl))); refine off_ (wanted_off rfl rfl rfl (e86.trans (by first | rfl | (simp [*]; done)))) ?_
             refine hK.out _ _ ⟨v205, v208, (by rw [ha.out]; exact putSel_upk 10 hb_ rfl rfl rfl), Q_HB, Q_HO206, Q_HO209⟩
            refine steps_cons ?_ ?_
            ·rintro b a w' ⟨v205, v208, ha, Q_HB, Q_HO206, Q_HO209⟩ hb_ hon hoff
             refine ⟨_, rfl, fun K hK => ?_⟩; have e86 : a.tmps[86]? = some (.bool (((strOfNums t204).toList == (strOfNums t207).toList) != (a2 == a3))) := by rw [ha]; exact putSel_on (e := (11, 86, .bool (((strOfNums t204).toList == (strOfNums t207).toList) != (a2 == a3)))) 7 rfl rfl (hon 11 (by kernel_rfl)) rfl
             replace ha := Aside0.mk ha; have HB := Aside0.mk Q_HB; have HO206 := Aside0.mk (Q_HO206 (hon 1 (by kernel_rfl))); have HO209 := Aside0.mk (Q_HO209 (hon 4 (by kernel_rfl))); refine off_ (wanted_off rfl rfl rfl (e86.trans (by first | rfl | (simp [*]; done)))) ?_
             refine hK.out _ _ ⟨v205, v208, (by rw [ha.out]; exact putSel_upk 11 hb_ rfl rfl rfl), Q_HB, Q_HO206, Q_HO209⟩
            refine steps_cons ?_ ?_
            ·rintro b a w' ⟨v205, v208, ha, Q_HB, Q_HO206, Q_HO209⟩ hb_ hon hoff
             refine ⟨_, rfl, fun K hK => ?_⟩; have e90 : a.tmps[90]? = some (undef) := by rw [ha]; exact putSel_on (e := (15, 90, undef)) 11 rfl rfl (hon 15 (by kernel_rfl)) rfl
             replace ha := Aside0.mk ha; have HB := Aside0.mk Q_HB; have HO206 := Aside0.mk (Q_HO206 (hon 1 (by kernel_rfl))); have HO209 := Aside0.mk (Q_HO209 (hon 4 (by kernel_rfl))); refine off_ (wanted_undef rfl rfl rfl e90) ?_
             refine hK.out _ _ ⟨v205, v208, (by rw [ha.out]; exact putSel_upk 12 hb_ rfl rfl rfl), Q_HB, Q_HO206, Q_HO209⟩
            refine steps_cons ?_ ?_
            ·rintro b a w' ⟨v205, v208, ha, Q_HB, Q_HO206, Q_HO209⟩ hb_ hon hoff
             refine ⟨_, rfl, fun K hK => ?_⟩; have e90 : a.tmps[90]? = some (undef) := by rw [ha]; exact putSel_on (e := (15, 90, undef)) 11 rfl rfl (hon 15 (by kernel_rfl)) rfl
             replace ha := Aside0.mk ha; have HB := Aside0.mk Q_HB; have HO206 := Aside0.mk (Q_HO206 (hon 1 (by kernel_rfl))); have HO209 := Aside0.mk (Q_HO209 (hon 4 (by kernel_rfl))); refine off_ (wanted_undef rfl rfl rfl e90) ?_
             refine hK.out _ _ ⟨v205, v208, (by rw [ha.out]; exact putSel_upk 13 hb_ rfl rfl rfl), Q_HB, Q_HO206, Q_HO209⟩
            refine steps_cons ?_ ?_
            ·rintro b a w' ⟨v205, v208, ha, Q_HB, Q_HO206, Q_HO209⟩ hb_ hon hoff
             refine ⟨_, rfl, fun K hK => ?_⟩; have e90 : a.tmps[90]? = some (undef) := by rw [ha]; exact putSel_on (e := (15, 90, undef)) 11 rfl rfl (hon 15 (by kernel_rfl)) rfl
             replace ha := Aside0.mk ha; have HB := Aside0.mk Q_HB; have HO206 := Aside0.mk (Q_HO206 (hon 1 (by kernel_rfl))); have HO209 := Aside0.mk (Q_HO209 (hon 4 (by kernel_rfl))); refine off_ (wanted_undef rfl rfl rfl e90) ?_
             refine hK.out _ _ ⟨v205, v208, (by rw [ha.out]; exact putSel_upk 14 hb_ rfl rfl rfl), Q_HB, Q_HO206, Q_HO209⟩
            refine steps_cons ?_ ?_
            ·rintro b a w' ⟨v205, v208, ha, Q_HB, Q_HO206, Q_HO209⟩ hb_ hon hoff
             refine ⟨_, rfl, fun K hK => ?_⟩; have e90 : a.tmps[90]? = some (undef) := by rw [ha]; exact putSel_on (e := (15, 90, undef)) 11 rfl rfl (hon 15 (by kernel_rfl)) rfl
             replace ha := Aside0.mk ha; have HB := Aside0.mk Q_HB; have HO206 := Aside0.mk (Q_HO206 (hon 1 (by kernel_rfl))); have HO209 := Aside0.mk (Q_HO209 (hon 4 (by kernel_rfl))); refine off_ (wanted_undef rfl rfl rfl e90) ?_
             refine hK.out _ _ ⟨v205, v208, (by rw [ha.out]; exact putSel_upk 15 hb_ rfl rfl rfl), Q_HB, Q_HO206, Q_HO209⟩
            refine steps_cons ?_ ?_
            ·rintro b a w' ⟨v205, v208, ha, Q_HB, Q_HO206, Q_HO209⟩ hb_ hon hoff
             refine ⟨_, rfl, fun K hK => ?_⟩; have e90 : a.tmps[90]? = some (undef) := by rw [ha]; exact putSel_on (e := (15, 90, undef)) 11 rfl rfl (hon 15 (by kernel_rfl)) rfl
             replace ha := Aside0.mk ha; have HB := Aside0.mk Q_HB; have HO206 := Aside0.mk (Q_HO206 (hon 1 (by kernel_rfl))); have HO209 := Aside0.mk (Q_HO209 (hon 4 (by kernel_rfl))); refine off_ (wanted_undef rfl rfl rfl e90) ?_
             refine hK.out _ _ ⟨v205, v208, (by rw [ha.out]; exact putSel_upk 16 hb_ rfl rfl rfl), Q_HB, Q_HO206, Q_HO209⟩
            refine steps_cons ?_ ?_
            ·rintro b a w' ⟨v205, v208, ha, Q_HB, Q_HO206, Q_HO209⟩ hb_ hon hoff
             refine ⟨_, rfl, fun K hK => ?_⟩; have e90 : a.tmps[90]? = some (undef) := by rw [ha]; exact putSel_on (e := (15, 90, undef)) 11 rfl rfl (hon 15 (by kernel_rfl)) rfl
             replace ha := Aside0.mk ha; have HB := Aside0.mk Q_HB; have HO206 := Aside0.mk (Q_HO206 (hon 1 (by kernel_rfl))); have HO209 := Aside0.mk (Q_HO209 (hon 4 (by kernel_rfl))); refine off_ (wanted_undef rfl rfl rfl e90) ?_
             refine hK.out _ _ ⟨v205, v208, (by rw [ha.out]; exact putSel_upk 17 hb_ rfl rfl rfl), Q_HB, Q_HO206, Q_HO209⟩
            refine steps_cons ?_ ?_
            ·rintro b a w' ⟨v205, v208, ha, Q_HB, Q_HO206, Q_HO209⟩ hb_ hon hoff
             refine ⟨_, rfl, fun K hK => ?_⟩; have e90 : a.tmps[90]? = some (undef) := by rw [ha]; exact putSel_on (e := (15, 90, undef)) 11 rfl rfl (hon 15 (by kernel_rfl)) rfl
             replace ha := Aside0.mk ha; have HB := Aside0.mk Q_HB; have HO206 := Aside0.mk (Q_HO206 (hon 1 (by kernel_rfl))); have HO209 := Aside0.mk (Q_HO209 (hon 4 (by kernel_rfl))); refine off_ (wanted_undef rfl rfl rfl e90) ?_
             refine hK.out _ _ ⟨v205, v208, (by rw [ha.out]; exact putSel_upk 18 hb_ rfl rfl rfl), Q_HB, Q_HO206, Q_HO209⟩
            refine steps_cons ?_ ?_
            ·rintro b a w' ⟨v205, v208, ha, Q_HB, Q_HO206, Q_HO209⟩ hb_ hon hoff
             refine ⟨_, rfl, fun K hK => ?_⟩; have e86 : a.tmps[86]? = some (.bool (((strOfNums t204).toList == (strOfNums t207).toList) != (a2 == a3))) := by rw [ha]; exact putSel_on (e := (11, 86, .bool (((strOfNums t204).toList == (strOfNums t207).toList) != (a2 == a3)))) 7 rfl rfl (hon 11 (by kernel_rfl)) rfl
             replace ha := Aside0.mk ha; have HB := Aside0.mk Q_HB; have HO206 := Aside0.mk (Q_HO206 (hon 1 (by kernel_rfl))); have HO209 := Aside0.mk (Q_HO209 (hon 4 (by kernel_rfl))); refine off_ (wanted_off rfl rfl rfl (e86.trans (by first | rfl | (simp [*]; done)))) ?_
             refine hK.out _ _ ⟨v205, v208, (by rw [ha.out]; exact putSel_upk 19 hb_ rfl rfl rfl), Q_HB, Q_HO206, Q_HO209⟩
            refine steps_cons ?_ ?_
            ·rintro b a w' ⟨v205, v208, ha, Q_HB, Q_HO206, Q_HO209⟩ hb_ hon hoff
             refine ⟨_, rfl, fun K hK => ?_⟩; have e86 : a.tmps[86]? = some (.bool (((strOfNums t204).toList == (strOfNums t207).toList) != (a2 == a3))) := by rw [ha]; exact putSel_on (e := (11, 86, .bool (((strOfNums t204).toList == (strOfNums t207).toList) != (a2 == a3)))) 7 rfl rfl (hon 11 (by kernel_rfl)) rfl
             have e98 : a.tmps[98]? = some (undef) := by rw [ha]; exact putSel_on (e := (23, 98, undef)) 19 rfl rfl (hon 23 (by kernel_rfl)) rfl
             replace ha := Aside0.mk ha; have HB := Aside0.mk Q_HB; have HO206 := Aside0.mk (Q_HO206 (hon 1 (by kernel_rfl))); have HO209 := Aside0.mk (Q_HO209 (hon 4 (by kernel_rfl))); refine value_ (w1 := w') (v := .bool true) (by rfl) rfl ?_ ?_
             ·go_simp
              (try simp only [i64_w])
              try first | rfl | (simp [bne]; done)
             refine hK.out _ _ ⟨v205, v208, (by rw [ha.out]; exact putSel_upk 20 hb_ rfl rfl rfl), Q_HB, Q_HO206, Q_HO209⟩
            exact steps_nil
           rintro b a w64 hall ⟨v205, v208, ha, Q_HB, Q_HO206, Q_HO209⟩
           clear HB; have hb1_ := hall 1 (by kernel_rfl); have hb2_ := hall 2 (by kernel_rfl); have hb4_ := hall 4 (by kernel_rfl); have hb5_ := hall 5 (by kernel_rfl); have hb6_ := hall 6 (by kernel_rfl); have hb9_ := hall 9 (by kernel_rfl); have hb10_ := hall 10 (by kernel_rfl); have hb11_ := hall 11 (by kernel_rfl); have hb12_ := hall 12 (by kernel_rfl); have hb13_ := hall 13 (by kernel_rfl); have hb14_ := hall 14 (by kernel_rfl); have hb15_ := hall 15 (by kernel_rfl); have hb16_ := hall 16 (by kernel_rfl); have hb17_ := hall 17 (by kernel_rfl); have hb18_ := hall 18 (by kernel_rfl); have hb19_ := hall 19 (by kernel_rfl); have hb20_ := hall 20 (by kernel_rfl); have hb21_ := hall 21 (by kernel_rfl); have hb22_ := hall 22 (by kernel_rfl); have hb23_ := hall 23 (by kernel_rfl); have hb24_ := hall 24 (by kernel_rfl); subst ha; simp only [putSel, hb1_, hb2_, hb4_, hb5_, hb6_, hb9_, hb10_, hb11_, hb12_, hb13_, hb14_, hb15_, hb16_, hb17_, hb18_, hb19_, hb20_, hb21_, hb22_, hb23_, hb24_, if_true, Act.put, sA, s0, sS]
           have HB := Aside0.mk Q_HB; clear Q_HB; have HO206 := Aside0.mk (Q_HO206 hb1_); clear Q_HO206; have HO209 := Aside0.mk (Q_HO209 hb4_); clear Q_HO209; clear hall hb1_ hb2_ hb4_ hb5_ hb6_ hb9_ hb10_ hb11_ hb12_ hb13_ hb14_ hb15_ hb16_ hb17_ hb18_ hb19_ hb20_ hb21_ hb22_ hb23_ hb24_; try go_wp2
           go_meet
           case rel => exact ⟨_, (true), (by first | rfl | (simp; done) | (simp [*]; done)), H', ⟨by have := HJ6.out; have := HJ14.out; first | omega | exact Nat.le_refl _⟩, ⟨by repeat (first | (with_reducible first | exact HB.out | apply bA | apply bN | apply bD) | exact HB.out)⟩⟩
          ·rw [if_neg c58] at H
           have c58b0 : (((strOfNums t204).toList == (strOfNums t207).toList) != (a2 == a3)) = false := by simpa using c58
           (try (have c58b1 : decide (((strOfNums t204).toList == (strOfNums t207).toList) = (a2 == a3)) = true := by simpa using c58))
           (try (have c58b2 : (((strOfNums t204).toList == (strOfNums t207).toList) == (a2 == a3)) = true := by simpa using c58))
           clear c58; (first | rw [c58b0] | (simp only [i64_w, i32_w]; rw [c58b0]) | skip); by_cases c65 : a2 ≤ a3
           ·rw [if_pos c65] at H
            have c65b0 : decide (a2 ≤ a3) = true := decide_eq_true c65
            clear c65; replace H := Option.bind_eq_some_iff.mp H
            obtain ⟨t210, A660, H⟩ := H
            replace H : ((word_Least.f kj14 a3).bind fun t213 => (wristbandlaw01_WordBack.j2 kj14 l0 (decide ((t210.length : Int) > (t213.length : Int))))) = some r := H
            have A66 := Aside0.mk A660; clear A660; replace H := Option.bind_eq_some_iff.mp H
            obtain ⟨t213, A670, H⟩ := H
            replace H : (wristbandlaw01_WordBack.j2 kj14 l0 (decide ((t210.length : Int) > (t213.length : Int)))) = some r := H
            have A67 := Aside0.mk A670; clear A670; have H' := Aside0.mk H; clear H; try go_wp2
            have n0_ := Aside0.mk (below_drew1 HB.out); clear HB; have HB := n0_; clear n0_; refine start_ (n := 25) (S := fun w' => True) (ds := []) #[false, false, false, false, false, false, false, false, false, false, false, false, false, false, false, false, false, false, false, false, false, false, false, false, false] (by kernel_rfl) rfl rfl trivial (fun hHeld => ?_); refine with_tabW wristbandlaw01_WordBack.tab9 wristbandlaw01_WordBack.bits9 (fun HT_ HW_ => ?_)
            generalize wc.drew = w68 at HB hHeld ⊢
            refine pu_ 0 75 (rA [1,24]) HT_ (by kernel_rfl) rfl rfl (fun _ _ _ => id) (.inl ⟨by rfl, fun w' => by go_simp; with_reducible rfl⟩) (by simp only [Act.put, sA, s0, sS, i64_w, i32_w]; rfl) ?_
            refine pu_ 3 78 (rA [1,2,1,21]) HT_ (by kernel_rfl) rfl rfl (fun _ _ _ => id) (.inl ⟨by rfl, fun w' => by go_simp; with_reducible rfl⟩) (by simp only [Act.put, sA, s0, sS, i64_w, i32_w]; rfl) ?_
            refine pu_ 7 82 (rA [1,2,1,3,1,17]) HT_ (by kernel_rfl) rfl rfl (fun _ _ _ => id) (.inl ⟨by rfl, fun w' => by go_simp; with_reducible rfl⟩) (by simp only [Act.put, sA, s0, sS, i64_w, i32_w]; rfl) ?_
            refine pu_ 8 83 (rA [1,2,1,3,2,16]) HT_ (by kernel_rfl) rfl rfl (fun _ _ _ => id) (.inl ⟨by rfl, fun w' => by go_simp; with_reducible rfl⟩) (by simp only [Act.put, sA, s0, sS, i64_w, i32_w]; rfl) ?_
            refine inv_at [1, 2, 4, 5, 6, 9, 10, 11, 12, 13, 14, 15, 16, 17, 18, 19, 20, 21, 22, 23, 24] (fun a0_ b a w' => ∃ (v205 : Value) (v208 : Value) (v211 : Value) (v214 : Value), a = putSel a0_ b [(1, 76, v205), (2, 77, .string (strOfNums t204)), (4, 79, v208), (5, 80, .string (strOfNums t207)), (6, 81, .bool ((strOfNums t204).toList == (strOfNums t207).toList)), (9, 84, .bool (a2 == a3)), (10, 85, .bool (((strOfNums t204).toList == (strOfNums t207).toList) != (a2 == a3))), (11, 86, .bool (((strOfNums t204).toList == (strOfNums t207).toList) != (a2 == a3))), (12, 87, .int .u64 a2), (13, 88, .int .u64 a3), (14, 89, .bool (decide (a2 ≤ a3))), (15, 90, .bool (decide (a2 ≤ a3))), (16, 91, .int .u64 a2), (17, 92, v211), (18, 93, .int .i64 (t210.length : Int)), (19, 94, .int .u64 a3), (20, 95, v214), (21, 96, .int .i64 (t213.length : Int)), (22, 97, .bool (decide ((t210.length : Int) > (t213.length : Int)))), (23, 98, .bool (decide ((t210.length : Int) > (t213.length : Int)))), (24, 99, .bool (decide ((t210.length : Int) > (t213.length : Int))))] ∧ (Below w.heap.size w w') ∧ (b 1 = true → Kd.R (Kd.int .u8) 5 w' w.heap.size (fun _ => True) v205 t204) ∧ (b 4 = true → Kd.R (Kd.int .u8) 5 w' w.heap.size (fun _ => True) v208 t207) ∧ (b 17 = true → Kd.R (Kd.int .u8) 5 w' w.heap.size (fun _ => True) v211 t210) ∧ (b 20 = true → Kd.R (Kd.int .u8) 5 w' w.heap.size (fun _ => True) v214 t213)) HT_.out HW_.out (by kernel_rfl) (by kernel_rfl) ?_ ?_ ?_
            ·exact ⟨.bool false, .bool false, .bool false, .bool false, by simp only [putSel, Bool.false_eq_true, if_false], HB.out, fun h_ => absurd h_ (by decide), fun h_ => absurd h_ (by decide), fun h_ => absurd h_ (by decide), fun h_ => absurd h_ (by decide)⟩
            ·skip
             clear HB; refine steps_cons ?_ ?_
             ·rintro b a w' ⟨v205, v208, v211, v214, ha, Q_HB, Q_HO206, Q_HO209, Q_HO212, Q_HO215⟩ hb_ hon hoff
              refine ⟨_, rfl, fun K hK => ?_⟩; have e75 : a.tmps[75]? = some (.int .u64 a2) := by rw [ha]; exact (putSel_off rfl).trans rfl
              replace ha := Aside0.mk ha; have HB := Aside0.mk Q_HB; refine goes_ Try.func40 (by kernel_rfl) rfl #[.int .u64 a2] (by first | rfl | (simp [Region.wanted, yielded, *]; done)) rfl rfl (by first | (simp only [mT, mC, mN, Act.eval, gD, oG, e75]; done) | (simp only [mT, mC, mN, Act.eval, gD, oG, e75]; rfl)) ?_
              with_reducible refine (word_Least.calls kj14 a2 t204 _ A56.out).mono ?_
              rintro e w69 ⟨v205, rfl, ho0, hb⟩
              refine ⟨_, rfl, ?_⟩; have n0_ := Aside0.mk (Kd.R_lower ho0 (below_size (by repeat (first | (with_reducible first | exact HB.out | apply bA | apply bN | apply bD) | exact HB.out)))); have n1_ := Aside0.mk (below_step (by repeat (first | (with_reducible first | exact HB.out | apply bA | apply bN | apply bD) | exact HB.out)) hb); clear HB; have HO206 := n0_; have HB := n1_; clear n0_ n1_; (try clear hb); (try clear hb2); (try clear hk); (try clear hi); (try clear ho0); refine hK.out _ _ ⟨v205, v208, v211, v214, (by rw [ha.out]; exact putSel_upk 0 hb_ rfl rfl rfl), (by repeat (first | (with_reducible first | exact HB.out | apply bA | apply bN | apply bD) | exact HB.out)), fun _ => (by (with_reducible repeat (first | apply rL | apply rN | apply rW)); exact HO206.out), ofK (hoff 4 (by kernel_rfl)), ofK (hoff 17 (by kernel_rfl)), ofK (hoff 20 (by kernel_rfl))⟩
             refine steps_cons ?_ ?_
             ·rintro b a w' ⟨v205, v208, v211, v214, ha, Q_HB, Q_HO206, Q_HO209, Q_HO212, Q_HO215⟩ hb_ hon hoff
              refine ⟨_, rfl, fun K hK => ?_⟩; have e76 : a.tmps[76]? = some (v205) := by rw [ha]; exact putSel_on (e := (1, 76, v205)) 0 rfl rfl (hon 1 (by kernel_rfl)) rfl
              replace ha := Aside0.mk ha; have HB := Aside0.mk Q_HB; have HO206 := Aside0.mk (Q_HO206 (hon 1 (by kernel_rfl))); refine str_step (src := 22) (dst := 9) (x := .tmp 76) ?hw ?ho ?hx (v := v205) (s := strOfNums t204) (by obtain ⟨A_, c_, rfl⟩ := Kd.R_slice HO206.out; exact Kd.C_string (P := Try.prog) (A := A_) (c := c_) Try.underlying22 Try.underlying5 Try.underlying9 (Kd.R_reads' (by (with_reducible repeat (first | apply rL | apply rN | apply rW)); exact HO206.out)).2.2) ?_
              case ho => rfl
              case hw => first | rfl | (simp [Region.wanted, yielded, *]; done)
              case hx => first | rfl | (simp only [Act.eval, gD, oG, e76]; done)
              intro w71 hb; have n0_ := Aside0.mk (Kd.R_below (by (with_reducible repeat (first | apply rL | apply rN | apply rW)); exact HO206.out) hb)
              have n1_ := Aside0.mk (below_step (by repeat (first | (with_reducible first | exact HB.out | apply bA | apply bN | apply bD) | exact HB.out)) hb); have z_HO209 := fun (h0_ : b 4 = true) => (show Kd.R (Kd.int .u8) 5 w71 w.heap.size (fun _ => True) v208 t207 from by first | exact (Kd.R_below (by (with_reducible repeat (first | apply rL | apply rN | apply rW)); exact (Q_HO209 h0_)) hb) | exact Kd.R_mono (Kd.R_below (by (with_reducible repeat (first | apply rL | apply rN | apply rW)); exact (Q_HO209 h0_)) hb) (fun _ h_ => by first | trivial | exact h_ | exact h_.1))
              clear HO206; clear HB; have HO206 := n0_; have HB := n1_; clear n0_ n1_; (try clear hb); refine hK.out _ _ ⟨v205, v208, v211, v214, (by rw [ha.out]; exact putSel_upk 1 hb_ rfl rfl rfl), (by repeat (first | (with_reducible first | exact HB.out | apply bA | apply bN | apply bD) | exact HB.out)), fun _ => (by (with_reducible repeat (first | apply rL | apply rN | apply rW)); exact HO206.out), z_HO209, ofK (hoff 17 (by kernel_rfl)), ofK (hoff 20 (by kernel_rfl))⟩
             refine steps_cons ?_ ?_
             ·rintro b a w' ⟨v205, v208, v211, v214, ha, Q_HB, Q_HO206, Q_HO209, Q_HO212, Q_HO215⟩ hb_ hon hoff
              refine ⟨_, rfl, fun K hK => ?_⟩; have e78 : a.tmps[78]? = some (.int .u64 a3) := by rw [ha]; exact (putSel_off rfl).trans rfl
              replace ha := Aside0.mk ha; have HB := Aside0.mk Q_HB; have HO206 := Aside0.mk (Q_HO206 (hon 1 (by kernel_rfl))); refine goes_ Try.func40 (by kernel_rfl) rfl #[.int .u64 a3] (by first | rfl | (simp [Region.wanted, yielded, *]; done)) rfl rfl (by first | (simp only [mT, mC, mN, Act.eval, gD, oG, e78]; done) | (simp only [mT, mC, mN, Act.eval, gD, oG, e78]; rfl)) ?_
              with_reducible refine (word_Least.calls kj14 a3 t207 _ A57.out).mono ?_
              rintro e w71 ⟨v208, rfl, ho0, hb⟩
              refine ⟨_, rfl, ?_⟩; have n0_ := Aside0.mk (Kd.R_elder' (by (with_reducible repeat (first | apply rL | apply rN | apply rW)); exact HO206.out) (Kd.R_base ho0) hb); have n1_ := Aside0.mk (Kd.R_lower (Kd.R_new' ho0 (Kd.R_lt (by (with_reducible repeat (first | apply rL | apply rN | apply rW)); exact HO206.out))) (below_size (by repeat (first | (with_reducible first | exact HB.out | apply bA | apply bN | apply bD) | exact HB.out)))); have n2_ := Aside0.mk (below_step (by repeat (first | (with_reducible first | exact HB.out | apply bA | apply bN | apply bD) | exact HB.out)) hb); clear HO206; clear HB; have HO206 := n0_; have HO209 := n1_; have HB := n2_; clear n0_ n1_ n2_; (try clear hb); (try clear hb2); (try clear hk); (try clear hi); (try clear ho0); refine hK.out _ _ ⟨v205, v208, v211, v214, (by rw [ha.out]; exact putSel_upk 2 hb_ rfl rfl rfl), (by repeat (first | (with_reducible first | exact HB.out | apply bA | apply bN | apply bD) | exact HB.out)), fun _ => (by (with_reducible repeat (first | apply rL | apply rN | apply rW)); first | exact Kd.R_mono HO206.out (fun _ hk => hk.2) | exact Kd.R_mono (HO206.out) (fun _ hk => by first | trivial | exact hk | exact hk.1 | ((repeat' apply And.intro) <;> first | exact hk.2 | exact hk.1.2 | exact hk.1.1.2))), fun _ => (by (with_reducible repeat (first | apply rL | apply rN | apply rW)); first | exact Kd.R_mono HO209.out (fun _ hk => hk.2) | exact Kd.R_mono (HO209.out) (fun _ hk => by first | trivial | exact hk | exact hk.1 | ((repeat' apply And.intro) <;> first | exact hk.2 | exact hk.1.2 | exact hk.1.1.2))), ofK (hoff 17 (by kernel_rfl)), ofK (hoff 20 (by kernel_rfl))⟩
             refine steps_cons ?_ ?_
             ·rintro b a w' ⟨v205, v208, v211, v214, ha, Q_HB, Q_HO206, Q_HO209, Q_HO212, Q_HO215⟩ hb_ hon hoff
              refine ⟨_, rfl, fun K hK => ?_⟩; have e79 : a.tmps[79]? = some (v208) := by rw [ha]; exact putSel_on (e := (4, 79, v208)) 2 rfl rfl (hon 4 (by kernel_rfl)) rfl
              replace ha := Aside0.mk ha; have HB := Aside0.mk Q_HB; have HO206 := Aside0.mk (Q_HO206 (hon 1 (by kernel_rfl))); have HO209 := Aside0.mk (Q_HO209 (hon 4 (by kernel_rfl))); refine str_step (src := 22) (dst := 9) (x := .tmp 79) ?hw ?ho ?hx (v := v208) (s := strOfNums t207) (by obtain ⟨A_, c_, rfl⟩ := Kd.R_slice HO209.out; exact Kd.C_string (P := Try.prog) (A := A_) (c := c_) Try.underlying22 Try.underlying5 Try.underlying9 (Kd.R_reads' (by (with_reducible repeat (first | apply rL | apply rN | apply rW)); exact HO209.out)).2.2) ?_
              case ho => rfl
              case hw => first | rfl | (simp [Region.wanted, yielded, *]; done)
              case hx => first | rfl | (simp only [Act.eval, gD, oG, e79]; done)
              intro w72 hb; have n0_ := Aside0.mk (Kd.R_below (by (with_reducible repeat (first | apply rL | apply rN | apply rW)); exact HO206.out) hb)
              have n1_ := Aside0.mk (Kd.R_below (by (with_reducible repeat (first | apply rL | apply rN | apply rW)); exact HO209.out) hb); have n2_ := Aside0.mk (below_step (by repeat (first | (with_reducible first | exact HB.out | apply bA | apply bN | apply bD) | exact HB.out)) hb); clear HO206; clear HO209; clear HB; have HO206 := n0_; have HO209 := n1_; have HB := n2_; clear n0_ n1_ n2_; (try clear hb); refine hK.out _ _ ⟨v205, v208, v211, v214, (by rw [ha.out]; exact putSel_upk 3 hb_ rfl rfl rfl), (by repeat (first | (with_reducible first | exact HB.out | apply bA | apply bN | apply bD) | exact HB.out)), fun _ => (by (with_reducible repeat (first | apply rL | apply rN | apply rW)); first | exact HO206.out | exact Kd.R_mono (HO206.out) (fun _ hk => by first | trivial | exact hk | exact hk.1 | ((repeat' apply And.intro) <;> first | exact hk.2 | exact hk.1.2 | exact hk.1.1.2))), fun _ => (by (with_reducible repeat (first | apply rL | apply rN | apply rW)); first | exact HO209.out | exact Kd.R_mono (HO209.out) (fun _ hk => by first | trivial | exact hk | exact hk.1 | ((repeat' apply And.intro) <;> first | exact hk.2 | exact hk.1.2 | exact hk.1.1.2))), ofK (hoff 17 (by kernel_rfl)), ofK (hoff 20 (by kernel_rfl))⟩
             refine steps_cons ?_ ?_
             ·rintro b a w' ⟨v205, v208, v211, v214, ha, Q_HB, Q_HO206, Q_HO209, Q_HO212, Q_HO215⟩ hb_ hon hoff
              refine ⟨_, rfl, fun K hK => ?_⟩; have e77 : a.tmps[77]? = some (.string (strOfNums t204)) := by rw [ha]; exact putSel_on (e := (2, 77, .string (strOfNums t204))) 1 rfl rfl (hon 2 (by kernel_rfl)) rfl
              have e80 : a.tmps[80]? = some (.string (strOfNums t207)) := by rw [ha]; exact putSel_on (e := (5, 80, .string (strOfNums t207))) 3 rfl rfl (hon 5 (by kernel_rfl)) rfl
              replace ha := Aside0.mk ha; have HB := Aside0.mk Q_HB; have HO206 := Aside0.mk (Q_HO206 (hon 1 (by kernel_rfl))); have HO209 := Aside0.mk (Q_HO209 (hon 4 (by kernel_rfl))); refine value_ (w1 := w') (v := .bool ((strOfNums t204).toList == (strOfNums t207).toList)) (by rfl) rfl ?_ ?_
              ·go_simp
               (try simp only [i64_w])
               try first | rfl | (simp [bne]; done)
              refine hK.out _ _ ⟨v205, v208, v211, v214, (by rw [ha.out]; exact putSel_upk 4 hb_ rfl rfl rfl), Q_HB, Q_HO206, Q_HO209, ofK (hoff 17 (by kernel_rfl)), ofK (hoff 20 (by kernel_rfl))⟩
             refine steps_cons ?_ ?_
             ·rintro b a w' ⟨v205, v208, v211, v214, ha, Q_HB, Q_HO206, Q_HO209, Q_HO212, Q_HO215⟩ hb_ hon hoff
              refine ⟨_, rfl, fun K hK => ?_⟩; have e82 : a.tmps[82]? = some (.int .u64 a2) := by rw [ha]; exact (putSel_off rfl).trans rfl
              have e83 : a.tmps[83]? = some (.int .u64 a3) := by rw [ha]; exact (putSel_off rfl).trans rfl
              replace ha := Aside0.mk ha; have HB := Aside0.mk Q_HB; refine value_ (w1 := w') (v := .bool (a2 == a3)) (by rfl) rfl ?_ ?_
              ·go_simp
               (try simp only [i64_w])
               try first | rfl | (simp [bne]; done)
              refine hK.out _ _ ⟨v205, v208, v211, v214, (by rw [ha.out]; exact putSel_upk 5 hb_ rfl rfl rfl), Q_HB, Q_HO206, Q_HO209, ofK (hoff 17 (by kernel_rfl)), ofK (hoff 20 (by kernel_rfl))⟩
             refine steps_cons ?_ ?_
             ·rintro b a w' ⟨v205, v208, v211, v214, ha, Q_HB, Q_HO206, Q_HO209, Q_HO212, Q_HO215⟩ hb_ hon hoff
              refine ⟨_, rfl, fun K hK => ?_⟩; have e81 : a.tmps[81]? = some (.bool ((strOfNums t204).toList == (strOfNums t207).toList)) := by rw [ha]; exact putSel_on (e := (6, 81, .bool ((strOfNums t204).toList == (strOfNums t207).toList))) 4 rfl rfl (hon 6 (by kernel_rfl)) rfl
              have e84 : a.tmps[84]? = some (.bool (a2 == a3)) := by rw [ha]; exact putSel_on (e := (9, 84, .bool (a2 == a3))) 5 rfl rfl (hon 9 (by kernel_rfl)) rfl
              replace ha := Aside0.mk ha; have HB := Aside0.mk Q_HB; have HO206 := Aside0.mk (Q_HO206 (hon 1 (by kernel_rfl))); have HO209 := Aside0.mk (Q_HO209 (hon 4 (by kernel_rfl))); refine value_ (w1 := w') (v := .bool (((strOfNums t204).toList == (strOfNums t207).toList) != (a2 == a3))) (by rfl) rfl ?_ ?_
              ·go_simp
               (try simp only [i64_w])
               try first | rfl | (simp [bne]; done)
              refine hK.out _ _ ⟨v205, v208, v211, v214, (by rw [ha.out]; exact putSel_upk 6 hb_ rfl rfl rfl), Q_HB, Q_HO206, Q_HO209, ofK (hoff 17 (by kernel_rfl)), ofK (hoff 20 (by kernel_rfl))⟩
             refine steps_cons ?_ ?_
             ·rintro b a w' ⟨v205, v208, v211, v214, ha, Q_HB, Q_HO206, Q_HO209, Q_HO212, Q_HO215⟩ hb_ hon hoff
              refine ⟨_, rfl, fun K hK => ?_⟩; have e85 : a.tmps[85]? = some (.bool (((strOfNums t204).toList == (strOfNums t207).toList) != (a2 == a3))) := by rw [ha]; exact putSel_on (e := (10, 85, .bool (((strOfNums t204).toList == (strOfNums t207).toList) != (a2 == a3)))) 6 rfl rfl (hon 10 (by kernel_rfl)) rfl
              replace ha := Aside0.mk ha; have HB := Aside0.mk Q_HB; have HO206 := Aside0.mk (Q_HO206 (hon 1 (by kernel_rfl))); have HO209 := Aside0.mk (Q_HO209 (hon 4 (by kernel_rfl))); refine value_ (w1 := w') (v := .bool (((strOfNums t204).toList == (strOfNums t207).toList) != (a2 == a3))) (by rfl) rfl ?_ ?_
              ·go_simp
               (try simp only [i64_w])
               try first | rfl | (simp [bne]; done)
              refine hK.out _ _ ⟨v205, v208, v211, v214, (by rw [ha.out]; exact putSel_upk 7 hb_ rfl rfl rfl), Q_HB, Q_HO206, Q_HO209, ofK (hoff 17 (by kernel_rfl)), ofK (hoff 20 (by kernel_rfl))⟩
             refine steps_cons ?_ ?_
             ·rintro b a w' ⟨v205, v208, v211, v214, ha, Q_HB, Q_HO206, Q_HO209, Q_HO212, Q_HO215⟩ hb_ hon hoff
              refine ⟨_, rfl, fun K hK => ?_⟩; have e2 : a.tmps[2]? = some (.int .u64 a2) := by rw [ha]; exact (putSel_off rfl).trans rfl
              have e86 : a.tmps[86]? = some (.bool (((strOfNums t204).toList == (strOfNums t207).toList) != (a2 == a3))) := by rw [ha]; exact putSel_on (e := (11, 86, .bool (((strOfNums t204).toList == (strOfNums t207).toList) != (a2 == a3)))) 7 rfl rfl (hon 11 (by kernel_rfl)) rfl
              replace ha := Aside0.mk ha; have HB := Aside0.mk Q_HB; have HO206 := Aside0.mk (Q_HO206 (hon 1 (by kernel_rfl))); have HO209 := Aside0.mk (Q_HO209 (hon 4 (by kernel_rfl))); refine value_ (w1 := w') (v := .int .u64 a2) (wanted_on rfl rfl rfl (e86.trans (by first | rfl | (simp [*]; done)))) rfl ?_ ?_
              ·go_simp
               (try simp only [i64_w])
               try first | rfl | (simp [bne]; done)
              refine hK.out _ _ ⟨v205, v208, v211, v214, (by rw [ha.out]; exact putSel_upk 8 hb_ rfl rfl rfl), Q_HB, Q_HO206, Q_HO209, ofK (hoff 17 (by kernel_rfl)), ofK (hoff 20 (by kernel_rfl))⟩
             refine steps_cons ?_ ?_
             ·rintro b a w' ⟨v205, v208, v211, v214, ha, Q_HB, Q_HO206, Q_HO209, Q_HO212, Q_HO215⟩ hb_ hon hoff
              refine ⟨_, rfl, fun K hK => ?_⟩; have e3 : a.tmps[3]? = some (.int .u64 a3) := by rw [ha]; exact (putSel_off rfl).trans rfl
              have e86 : a.tmps[86]? = some (.bool (((strOfNums t204).toList == (strOfNums t207).toList) != (a2 == a3))) := by rw [ha]; exact putSel_on (e := (11, 86, .bool (((strOfNums t204).toList == (strOfNums t207).toList) != (a2 == a3)))) 7 rfl rfl (hon 11 (by kernel_rfl)) rfl
              replace ha := Aside0.mk ha; have HB := Aside0.mk Q_HB; have HO206 := Aside0.mk (Q_HO206 (hon 1 (by kernel_rfl))); have HO209 := Aside0.mk (Q_HO209 (hon 4 (by kernel_rfl))); refine value_ (w1 := w') (v := .int .u64 a3) (wanted_on rfl rfl rfl (e86.trans (by first | rfl | (simp [*]; done)))) rfl ?_ ?_
              ·go_simp
               (try simp only [i64_w])
               try first | rfl | (simp [bne]; done)
              refine hK.out _ _ ⟨v205, v208, v211, v214, (by rw [ha.out]; exact putSel_upk 9 hb_ rfl rfl rfl), Q_HB, Q_HO206, Q_HO209, ofK (hoff 17 (by kernel_rfl)), ofK (hoff 20 (by kernel_rfl))⟩
             refine steps_cons ?_ ?_
             ·rintro b a w' ⟨v205, v208, v211, v214, ha, Q_HB, Q_HO206, Q_HO209, Q_HO212, Q_HO215⟩ hb_ hon hoff
              refine ⟨_, rfl, fun K hK => ?_⟩; have e87 : a.tmps[87]? = some (.int .u64 a2) := by rw [ha]; exact putSel_on (e := (12, 87, .int .u64 a2)) 8 rfl rfl (hon 12 (by kernel_rfl)) rfl
              have e88 : a.tmps[88]? = some (.int .u64 a3) := by rw [ha]; exact putSel_on (e := (13, 88, .int .u64 a3)) 9 rfl rfl (hon 13 (by kernel_rfl)) rfl
              have e86 : a.tmps[86]? = some (.bool (((strOfNums t204).toList == (strOfNums t207).toList) != (a2 == a3))) := by rw [ha]; exact putSel_on (e := (11, 86, .bool (((strOfNums t204).toList == (strOfNums t207).toList) != (a2 == a3)))) 7 rfl rfl (hon 11 (by kernel_rfl)) rfl
              replace ha := Aside0.mk ha; have HB := Aside0.mk Q_HB; have HO206 := Aside0.mk (Q_HO206 (hon 1 (by kernel_rfl))); have HO209 := Aside0.mk (Q_HO209 (hon 4 (by kernel_rfl))); refine value_ (w1 := w') (v := .bool (decide (a2 ≤ a3))) (wanted_on rfl rfl rfl (e86.trans (by first | rfl | (simp [*]; done)))) rfl ?_ ?_
              ·go_simp
               (try simp only [i64_w])
               try first | rfl | (simp [bne]; done)
              refine hK.out _ _ ⟨v205, v208, v211, v214, (by rw [ha.out]; exact putSel_upk 10 hb_ rfl rfl rfl), Q_HB, Q_HO206, Q_HO209, ofK (hoff 17 (by kernel_rfl)), ofK (hoff 20 (by kernel_rfl))⟩
             refine steps_cons ?_ ?_
             ·rintro b a w' ⟨v205, v208, v211, v214, ha, Q_HB, Q_HO206, Q_HO209, Q_HO212, Q_HO215⟩ hb_ hon hoff
              refine ⟨_, rfl, fun K hK => ?_⟩; have e89 : a.tmps[89]? = some (.bool (decide (a2 ≤ a3))) := by rw [ha]; exact putSel_on (e := (14, 89, .bool (decide (a2 ≤ a3)))) 10 rfl rfl (hon 14 (by kernel_rfl)) rfl
              have e86 : a.tmps[86]? = some (.bool (((strOfNums t204).toList == (strOfNums t207).toList) != (a2 == a3))) := by rw [ha]; exact putSel_on (e := (11, 86, .bool (((strOfNums t204).toList == (strOfNums t207).toList) != (a2 == a3)))) 7 rfl rfl (hon 11 (by kernel_rfl)) rfl
              replace ha := Aside0.mk ha; have HB := Aside0.mk Q_HB; have HO206 := Aside0.mk (Q_HO206 (hon 1 (by kernel_rfl))); have HO209 := Aside0.mk (Q_HO209 (hon 4 (by kernel_rfl))); refine value_ (w1 := w') (v := .bool (decide (a2 ≤ a3))) (wanted_on rfl rfl rfl (e86.trans (by first | rfl | (simp [*]; done)))) rfl ?_ ?_
              ·go_simp
               (try simp only [i64_w])
               try first | rfl | (simp [bne]; done)
              refine hK.out _ _ ⟨v205, v208, v211, v214, (by rw [ha.out]; exact putSel_upk 11 hb_ rfl rfl rfl), Q_HB, Q_HO206, Q_HO209, ofK (hoff 17 (by kernel_rfl)), ofK (hoff 20 (by kernel_rfl))⟩
             refine steps_cons ?_ ?_
             ·rintro b a w' ⟨v205, v208, v211, v214, ha, Q_HB, Q_HO206, Q_HO209, Q_HO212, Q_HO215⟩ hb_ hon hoff
              refine ⟨_, rfl, fun K hK => ?_⟩; have e2 : a.tmps[2]? = some (.int .u64 a2) := by rw [ha]; exact (putSel_off rfl).trans rfl
              have e90 : a.tmps[90]? = some (.bool (decide (a2 ≤ a3))) := by rw [ha]; exact putSel_on (e := (15, 90, .bool (decide (a2 ≤ a3)))) 11 rfl rfl (hon 15 (by kernel_rfl)) rfl
              replace ha := Aside0.mk ha; have HB := Aside0.mk Q_HB; have HO206 := Aside0.mk (Q_HO206 (hon 1 (by kernel_rfl))); have HO209 := Aside0.mk (Q_HO209 (hon 4 (by kernel_rfl))); refine value_ (w1 := w') (v := .int .u64 a2) (wanted_on rfl rfl rfl (e90.trans (by first | rfl | (simp [*]; done)))) rfl ?_ ?_
              ·go_simp
               (try simp only [i64_w])
               try first | rfl | (simp [bne]; done)
              refine hK.out _ _ ⟨v205, v208, v211, v214, (by rw [ha.out]; exact putSel_upk 12 hb_ rfl rfl rfl), Q_HB, Q_HO206, Q_HO209, ofK (hoff 17 (by kernel_rfl)), ofK (hoff 20 (by kernel_rfl))⟩
             refine steps_cons ?_ ?_
             ·rintro b a w' ⟨v205, v208, v211, v214, ha, Q_HB, Q_HO206, Q_HO209, Q_HO212, Q_HO215⟩ hb_ hon hoff
              refine ⟨_, rfl, fun K hK => ?_⟩; have e91 : a.tmps[91]? = some (.int .u64 a2) := by rw [ha]; exact putSel_on (e := (16, 91, .int .u64 a2)) 12 rfl rfl (hon 16 (by kernel_rfl)) rfl
              have e90 : a.tmps[90]? = some (.bool (decide (a2 ≤ a3))) := by rw [ha]; exact putSel_on (e := (15, 90, .bool (decide (a2 ≤ a3)))) 11 rfl rfl (hon 15 (by kernel_rfl)) rfl
              replace ha := Aside0.mk ha; have HB := Aside0.mk Q_HB; have HO206 := Aside0.mk (Q_HO206 (hon 1 (by kernel_rfl))); have HO209 := Aside0.mk (Q_HO209 (hon 4 (by kernel_rfl))); refine goes_ Try.func40 (by kernel_rfl) rfl #[.int .u64 a2] (by first | rfl | (simp [Region.wanted, yielded, *]; done)) rfl rfl (by first | (simp only [mT, mC, mN, Act.eval, gD, oG, e91, e90]; done) | (simp only [mT, mC, mN, Act.eval, gD, oG, e91, e90]; rfl)) ?_
              with_reducible refine (word_Least.calls kj14 a2 t210 _ A66.out).mono ?_
              rintro e w74 ⟨v211, rfl, ho0, hb⟩
              refine ⟨_, rfl, ?_⟩; have n0_ := Aside0.mk (Kd.R_elder' (by (with_reducible repeat (first | apply rL | apply rN | apply rW)); exact HO206.out) (Kd.R_base ho0) hb); have n1_ := Aside0.mk (Kd.R_elder' (by (with_reducible repeat (first | apply rL | apply rN | apply rW)); exact HO209.out) (Kd.R_base ho0) hb); have n2_ := Aside0.mk (Kd.R_lower (Kd.R_new' (Kd.R_new' ho0 (Kd.R_lt (by (with_reducible repeat (first | apply rL | apply rN | apply rW)); exact HO206.out))) (Kd.R_lt (by (with_reducible repeat (first | apply rL | apply rN | apply rW)); exact HO209.out))) (below_size (by repeat (first | (with_reducible first | exact HB.out | apply bA | apply bN | apply bD) | exact HB.out)))); have n3_ := Aside0.mk (below_step (by repeat (first | (with_reducible first | exact HB.out | apply bA | apply bN | apply bD) | exact HB.out)) hb); clear HO206; clear HO209; clear HB; have HO206 := n0_; have HO209 := n1_; have HO212 := n2_; have HB := n3_; clear n0_ n1_ n2_ n3_; (try clear hb); (try clear hb2); (try clear hk); (try clear hi); (try clear ho0); obtain ⟨Ao75, co75, eo75⟩ := Kd.R_slice HO212.out
              (first | subst eo75 | (injection eo75 with f1_ f2_ f3_; have f4_ := f1_.symm; have f5_ := f3_.symm; clear f1_ f2_ f3_; subst f4_; subst f5_)); refine hK.out _ _ ⟨v205, v208, .slice Ao75 t210.length co75, v214, (by rw [ha.out]; exact putSel_upk 13 hb_ rfl rfl rfl), (by repeat (first | (with_reducible first | exact HB.out | apply bA | apply bN | apply bD) | exact HB.out)), fun _ => (by (with_reducible repeat (first | apply rL | apply rN | apply rW)); first | exact HO206.out | exact Kd.R_mono (HO206.out) (fun _ hk => by first | trivial | exact hk | exact hk.1 | ((repeat' apply And.intro) <;> first | exact hk.2 | exact hk.1.2 | exact hk.1.1.2))), fun _ => (by (with_reducible repeat (first | apply rL | apply rN | apply rW)); first | exact HO209.out | exact Kd.R_mono (HO209.out) (fun _ hk => by first | trivial | exact hk | exact hk.1 | ((repeat' apply And.intro) <;> first | exact hk.2 | exact hk.1.2 | exact hk.1.1.2))), fun _ => (by (with_reducible repeat (first | apply rL | apply rN | apply rW)); first | exact Kd.R_mono HO212.out (fun _ hk => ⟨hk.1.2, hk.2⟩) | exact Kd.R_mono (HO212.out) (fun _ hk => by first | trivial | exact hk | exact hk.1 | ((repeat' apply And.intro) <;> first | exact hk.2 | exact hk.1.2 | exact hk.1.1.2))), ofK (hoff 20 (by kernel_rfl))⟩
             refine steps_cons ?_ ?_
             ·rintro b a w' ⟨v205, v208, v211, v214, ha, Q_HB, Q_HO206, Q_HO209, Q_HO212, Q_HO215⟩ hb_ hon hoff
              refine ⟨_, rfl, fun K hK => ?_⟩; have e92 : a.tmps[92]? = some (v211) := by rw [ha]; exact putSel_on (e := (17, 92, v211)) 13 rfl rfl (hon 17 (by kernel_rfl)) rfl
              have e90 : a.tmps[90]? = some (.bool (decide (a2 ≤ a3))) := by rw [ha]; exact putSel_on (e := (15, 90, .bool (decide (a2 ≤ a3)))) 11 rfl rfl (hon 15 (by kernel_rfl)) rfl
              replace ha := Aside0.mk ha; have HB := Aside0.mk Q_HB; have HO206 := Aside0.mk (Q_HO206 (hon 1 (by kernel_rfl))); have HO209 := Aside0.mk (Q_HO209 (hon 4 (by kernel_rfl))); have HO212 := Aside0.mk (Q_HO212 (hon 17 (by kernel_rfl))); obtain ⟨Ao18_0, co18_0, eo_⟩ := Kd.R_slice HO212.out
              subst eo_; refine value_ (w1 := w') (v := .int .i64 (t210.length : Int)) (wanted_on rfl rfl rfl (e90.trans (by first | rfl | (simp [*]; done)))) rfl ?_ ?_
              ·go_simp
               (try simp only [i64_w])
               try first | rfl | (simp [bne]; done)
              refine hK.out _ _ ⟨v205, v208, .slice Ao18_0 t210.length co18_0, v214, (by rw [ha.out]; exact putSel_upk 14 hb_ rfl rfl rfl), Q_HB, Q_HO206, Q_HO209, Q_HO212, Q_HO215⟩
             refine steps_cons ?_ ?_
             ·rintro b a w' ⟨v205, v208, v211, v214, ha, Q_HB, Q_HO206, Q_HO209, Q_HO212, Q_HO215⟩ hb_ hon hoff
              refine ⟨_, rfl, fun K hK => ?_⟩; have e3 : a.tmps[3]? = some (.int .u64 a3) := by rw [ha]; exact (putSel_off rfl).trans rfl
              have e90 : a.tmps[90]? = some (.bool (decide (a2 ≤ a3))) := by rw [ha]; exact putSel_on (e := (15, 90, .bool (decide (a2 ≤ a3)))) 11 rfl rfl (hon 15 (by kernel_rfl)) rfl
              replace ha := Aside0.mk ha; have HB := Aside0.mk Q_HB; have HO206 := Aside0.mk (Q_HO206 (hon 1 (by kernel_rfl))); have HO209 := Aside0.mk (Q_HO209 (hon 4 (by kernel_rfl))); refine value_ (w1 := w') (v := .int .u64 a3) (wanted_on rfl rfl rfl (e90.trans (by first | rfl | (simp [*]; done)))) rfl ?_ ?_
              ·go_simp
               (try simp only [i64_w])
               try first | rfl | (simp [bne]; done)
              refine hK.out _ _ ⟨v205, v208, v211, v214, (by rw [ha.out]; exact putSel_upk 15 hb_ rfl rfl rfl), Q_HB, Q_HO206, Q_HO209, Q_HO212, ofK (hoff 20 (by kernel_rfl))⟩
             refine steps_cons ?_ ?_
             ·rintro b a w' ⟨v205, v208, v211, v214, ha, Q_HB, Q_HO206, Q_HO209, Q_HO212, Q_HO215⟩ hb_ hon hoff
              refine ⟨_, rfl, fun K hK => ?_⟩; have e94 : a.tmps[94]? = some (.int .u64 a3) := by rw [ha]; exact putSel_on (e := (19, 94, .int .u64 a3)) 15 rfl rfl (hon 19 (by kernel_rfl)) rfl
              have e90 : a.tmps[90]? = some (.bool (decide (a2 ≤ a3))) := by rw [ha]; exact putSel_on (e := (15, 90, .bool (decide (a2 ≤ a3)))) 11 rfl rfl (hon 15 (by kernel_rfl)) rfl
              replace ha := Aside0.mk ha; have HB := Aside0.mk Q_HB; have HO206 := Aside0.mk (Q_HO206 (hon 1 (by kernel_rfl))); have HO209 := Aside0.mk (Q_HO209 (hon 4 (by kernel_rfl))); have HO212 := Aside0.mk (Q_HO212 (hon 17 (by kernel_rfl))); obtain ⟨Ao76, co76, eo76⟩ := Kd.R_slice HO212.out
              (first | subst eo76 | (injection eo76 with f1_ f2_ f3_; have f4_ := f1_.symm; have f5_ := f3_.symm; clear f1_ f2_ f3_; subst f4_; subst f5_)); refine goes_ Try.func40 (by kernel_rfl) rfl #[.int .u64 a3] (by first | rfl | (simp [Region.wanted, yielded, *]; done)) rfl rfl (by first | (simp only [mT, mC, mN, Act.eval, gD, oG, e94, e90]; done) | (simp only [mT, mC, mN, Act.eval, gD, oG, e94, e90]; rfl)) ?_
              with_reducible refine (word_Least.calls kj14 a3 t213 _ A67.out).mono ?_
              rintro e w77 ⟨v214, rfl, ho0, hb⟩
              refine ⟨_, rfl, ?_⟩; have n0_ := Aside0.mk (Kd.R_elder' (by (with_reducible repeat (first | apply rL | apply rN | apply rW)); exact HO206.out) (Kd.R_base ho0) hb); have n1_ := Aside0.mk (Kd.R_elder' (by (with_reducible repeat (first | apply rL | apply rN | apply rW)); exact HO209.out) (Kd.R_base ho0) hb); have n2_ := Aside0.mk (Kd.R_elder' (by (with_reducible repeat (first | apply rL | apply rN | apply rW)); exact HO212.out) (Kd.R_base ho0) hb); have n3_ := Aside0.mk (Kd.R_lower (Kd.R_new' (Kd.R_new' (Kd.R_new' ho0 (Kd.R_lt (by (with_reducible repeat (first | apply rL | apply rN | apply rW)); exact HO206.out))) (Kd.R_lt (by (with_reducible repeat (first | apply rL | apply rN | apply rW)); exact HO209.out))) (Kd.R_lt (by (with_reducible repeat (first | apply rL | apply rN | apply rW)); exact HO212.out))) (below_size (by repeat (first | (with_reducible first | exact HB.out | apply bA | apply bN | apply bD) | exact HB.out)))); have n4_ := Aside0.mk (below_step (by repeat (first | (with_reducible first | exact HB.out | apply bA | apply bN | apply bD) | exact HB.out)) hb); clear HO206; clear HO209; clear HO212; clear HB; have HO206 := n0_; have HO209 := n1_; have HO212 := n2_; have HO215 := n3_; have HB := n4_; clear n0_ n1_ n2_ n3_ n4_; (try clear hb); (try clear hb2); (try clear hk); (try clear hi); (try clear ho0); obtain ⟨Ao78, co78, eo78⟩ := Kd.R_slice HO215.out
              (first | subst eo78 | (injection eo78 with f1_ f2_ f3_; have f4_ := f1_.symm; have f5_ := f3_.symm; clear f1_ f2_ f3_; subst f4_; subst f5_)); refine hK.out _ _ ⟨v205, v208, .slice Ao76 t210.length co76, .slice Ao78 t213.length co78, (by rw [ha.out]; exact putSel_upk 16 hb_ rfl rfl rfl), (by repeat (first | (with_reducible first | exact HB.out | apply bA | apply bN | apply bD) | exact HB.out)), fun _ => (by (with_reducible repeat (first | apply rL | apply rN | apply rW)); first | exact Kd.R_mono HO206.out (fun _ hk => ⟨hk.1.1, ⟨hk.1.2, hk.2⟩⟩) | exact Kd.R_mono (HO206.out) (fun _ hk => by first | trivial | exact hk | exact hk.1 | ((repeat' apply And.intro) <;> first | exact hk.2 | exact hk.1.2 | exact hk.1.1.2))), fun _ => (by (with_reducible repeat (first | apply rL | apply rN | apply rW)); first | exact Kd.R_mono HO209.out (fun _ hk => ⟨hk.1.1, ⟨hk.1.2, hk.2⟩⟩) | exact Kd.R_mono (HO209.out) (fun _ hk => by first | trivial | exact hk | exact hk.1 | ((repeat' apply And.intro) <;> first | exact hk.2 | exact hk.1.2 | exact hk.1.1.2))), fun _ => (by (with_reducible repeat (first | apply rL | apply rN | apply rW)); first | exact Kd.R_mono HO212.out (fun _ hk => ⟨hk.1.1, ⟨hk.1.2, hk.2⟩⟩) | exact Kd.R_mono (HO212.out) (fun _ hk => by first | trivial | exact hk | exact hk.1 | ((repeat' apply And.intro) <;> first | exact hk.2 | exact hk.1.2 | exact hk.1.1.2))), fun _ => (by (with_reducible repeat (first | apply rL | apply rN | apply rW)); first | exact Kd.R_mono HO215.out (fun _ hk => ⟨hk.1.1.2, ⟨hk.1.2, hk.2⟩⟩) | exact Kd.R_mono (HO215.out) (fun _ hk => by first | trivial | exact hk | exact hk.1 | ((repeat' apply And.intro) <;> first | exact hk.2 | exact hk.1.2 | exact hk.1.1.2)))⟩
             refine steps_cons ?_ ?_
             ·rintro b a w' ⟨v205, v208, v211, v214, ha, Q_HB, Q_HO206, Q_HO209, Q_HO212, Q_HO215⟩ hb_ hon hoff
              refine ⟨_, rfl, fun K hK => ?_⟩; have e95 : a.tmps[95]? = some (v214) := by rw [ha]; exact putSel_on (e := (20, 95, v214)) 16 rfl rfl (hon 20 (by kernel_rfl)) rfl
              have e90 : a.tmps[90]? = some (.bool (decide (a2 ≤ a3))) := by rw [ha]; exact putSel_on (e := (15, 90, .bool (decide (a2 ≤ a3)))) 11 rfl rfl (hon 15 (by kernel_rfl)) rfl
              replace ha := Aside0.mk ha; have HB := Aside0.mk Q_HB; have HO206 := Aside0.mk (Q_HO206 (hon 1 (by kernel_rfl))); have HO209 := Aside0.mk (Q_HO209 (hon 4 (by kernel_rfl))); have HO212 := Aside0.mk (Q_HO212 (hon 17 (by kernel_rfl))); have HO215 := Aside0.mk (Q_HO215 (hon 20 (by kernel_rfl))); obtain ⟨Ao21_0, co21_0, eo_⟩ := Kd.R_slice HO215.out
              subst eo_; refine value_ (w1 := w') (v := .int .i64 (t213.length : Int)) (wanted_on rfl rfl rfl (e90.trans (by first | rfl | (simp [*]; done)))) rfl ?_ ?_
              ·go_simp
               (try simp only [i64_w])
               try first | rfl | (simp [bne]; done)
              refine hK.out _ _ ⟨v205, v208, v211, .slice Ao21_0 t213.length co21_0, (by rw [ha.out]; exact putSel_upk 17 hb_ rfl rfl rfl), Q_HB, Q_HO206, Q_HO209, Q_HO212, Q_HO215⟩
             refine steps_cons ?_ ?_
             ·rintro b a w' ⟨v205, v208, v211, v214, ha, Q_HB, Q_HO206, Q_HO209, Q_HO212, Q_HO215⟩ hb_ hon hoff
              refine ⟨_, rfl, fun K hK => ?_⟩; have e93 : a.tmps[93]? = some (.int .i64 (t210.length : Int)) := by rw [ha]; exact putSel_on (e := (18, 93, .int .i64 (t210.length : Int))) 14 rfl rfl (hon 18 (by kernel_rfl)) rfl
              have e96 : a.tmps[96]? = some (.int .i64 (t213.length : Int)) := by rw [ha]; exact putSel_on (e := (21, 96, .int .i64 (t213.length : Int))) 17 rfl rfl (hon 21 (by kernel_rfl)) rfl
              have e90 : a.tmps[90]? = some (.bool (decide (a2 ≤ a3))) := by rw [ha]; exact putSel_on (e := (15, 90, .bool (decide (a2 ≤ a3)))) 11 rfl rfl (hon 15 (by kernel_rfl)) rfl
              replace ha := Aside0.mk ha; have HB := Aside0.mk Q_HB; have HO206 := Aside0.mk (Q_HO206 (hon 1 (by kernel_rfl))); have HO209 := Aside0.mk (Q_HO209 (hon 4 (by kernel_rfl))); have HO212 := Aside0.mk (Q_HO212 (hon 17 (by kernel_rfl))); have HO215 := Aside0.mk (Q_HO215 (hon 20 (by kernel_rfl))); refine value_ (w1 := w') (v := .bool (decide ((t210.length : Int) > (t213.length : Int)))) (wanted_on rfl rfl rfl (e90.trans (by first | rfl | (simp [*]; done)))) rfl ?_ ?_
              ·go_simp
               (try simp only [i64_w])
               try first | rfl | (simp [bne]; done)
              refine hK.out _ _ ⟨v205, v208, v211, v214, (by rw [ha.out]; exact putSel_upk 18 hb_ rfl rfl rfl), Q_HB, Q_HO206, Q_HO209, Q_HO212, Q_HO215⟩
             refine steps_cons ?_ ?_
             ·rintro b a w' ⟨v205, v208, v211, v214, ha, Q_HB, Q_HO206, Q_HO209, Q_HO212, Q_HO215⟩ hb_ hon hoff
              refine ⟨_, rfl, fun K hK => ?_⟩; have e90 : a.tmps[90]? = some (.bool (decide (a2 ≤ a3))) := by rw [ha]; exact putSel_on (e := (15, 90, .bool (decide (a2 ≤ a3)))) 11 rfl rfl (hon 15 (by kernel_rfl)) rfl
              have e97 : a.tmps[97]? = some (.bool (decide ((t210.length : Int) > (t213.length : Int)))) := by rw [ha]; exact putSel_on (e := (22, 97, .bool (decide ((t210.length : Int) > (t213.length : Int))))) 18 rfl rfl (hon 22 (by kernel_rfl)) rfl
              have e86 : a.tmps[86]? = some (.bool (((strOfNums t204).toList == (strOfNums t207).toList) != (a2 == a3))) := by rw [ha]; exact putSel_on (e := (11, 86, .bool (((strOfNums t204).toList == (strOfNums t207).toList) != (a2 == a3)))) 7 rfl rfl (hon 11 (by kernel_rfl)) rfl
              replace ha := Aside0.mk ha; have HB := Aside0.mk Q_HB; have HO206 := Aside0.mk (Q_HO206 (hon 1 (by kernel_rfl))); have HO209 := Aside0.mk (Q_HO209 (hon 4 (by kernel_rfl))); have HO212 := Aside0.mk (Q_HO212 (hon 17 (by kernel_rfl))); have HO215 := Aside0.mk (Q_HO215 (hon 20 (by kernel_rfl))); refine value_ (w1 := w') (v := .bool (decide ((t210.length : Int) > (t213.length : Int)))) (wanted_on rfl rfl rfl (e86.trans (by first | rfl | (simp [*]; done)))) rfl ?_ ?_
              ·go_simp
               (try simp only [i64_w])
               try first | rfl | (simp [bne]; done)
              refine hK.out _ _ ⟨v205, v208, v211, v214, (by rw [ha.out]; exact putSel_upk 19 hb_ rfl rfl rfl), Q_HB, Q_HO206, Q_HO209, Q_HO212, Q_HO215⟩
             refine steps_cons ?_ ?_
             ·rintro b a w' ⟨v205, v208, v211, v214, ha, Q_HB, Q_HO206, Q_HO209, Q_HO212, Q_HO215⟩ hb_ hon hoff
              refine ⟨_, rfl, fun K hK => ?_⟩; have e86 : a.tmps[86]? = some (.bool (((strOfNums t204).toList == (strOfNums t207).toList) != (a2 == a3))) := by rw [ha]; exact putSel_on (e := (11, 86, .bool (((strOfNums t204).toList == (strOfNums t207).toList) != (a2 == a3)))) 7 rfl rfl (hon 11 (by kernel_rfl)) rfl
              have e98 : a.tmps[98]? = some (.bool (decide ((t210.length : Int) > (t213.length : Int)))) := by rw [ha]; exact putSel_on (e := (23, 98, .bool (decide ((t210.length : Int) > (t213.length : Int))))) 19 rfl rfl (hon 23 (by kernel_rfl)) rfl
              replace ha := Aside0.mk ha; have HB := Aside0.mk Q_HB; have HO206 := Aside0.mk (Q_HO206 (hon 1 (by kernel_rfl))); have HO209 := Aside0.mk (Q_HO209 (hon 4 (by kernel_rfl))); have HO212 := Aside0.mk (Q_HO212 (hon 17 (by kernel_rfl))); have HO215 := Aside0.mk (Q_HO215 (hon 20 (by kernel_rfl))); refine value_ (w1 := w') (v := .bool (decide ((t210.length : Int) > (t213.length : Int)))) (by rfl) rfl ?_ ?_
              ·go_simp
               (try simp only [i64_w])
               try first | rfl | (simp [bne]; done)
              refine hK.out _ _ ⟨v205, v208, v211, v214, (by rw [ha.out]; exact putSel_upk 20 hb_ rfl rfl rfl), Q_HB, Q_HO206, Q_HO209, Q_HO212, Q_HO215⟩
             exact steps_nil
            rintro b a w77 hall ⟨v205, v208, v211, v214, ha, Q_HB, Q_HO206, Q_HO209, Q_HO212, Q_HO215⟩
            clear HB; have hb1_ := hall 1 (by kernel_rfl); have hb2_ := hall 2 (by kernel_rfl); have hb4_ := hall 4 (by kernel_rfl); have hb5_ := hall 5 (by kernel_rfl); have hb6_ := hall 6 (by kernel_rfl); have hb9_ := hall 9 (by kernel_rfl); have hb10_ := hall 10 (by kernel_rfl); have hb11_ := hall 11 (by kernel_rfl); have hb12_ := hall 12 (by kernel_rfl); have hb13_ := hall 13 (by kernel_rfl); have hb14_ := hall 14 (by kernel_rfl); have hb15_ := hall 15 (by kernel_rfl); have hb16_ := hall 16 (by kernel_rfl); have hb17_ := hall 17 (by kernel_rfl); have hb18_ := hall 18 (by kernel_rfl); have hb19_ := hall 19 (by kernel_rfl); have hb20_ := hall 20 (by kernel_rfl); have hb21_ := hall 21 (by kernel_rfl); have hb22_ := hall 22 (by kernel_rfl); have hb23_ := hall 23 (by kernel_rfl); have hb24_ := hall 24 (by kernel_rfl); subst ha; simp only [putSel, hb1_, hb2_, hb4_, hb5_, hb6_, hb9_, hb10_, hb11_, hb12_, hb13_, hb14_, hb15_, hb16_, hb17_, hb18_, hb19_, hb20_, hb21_, hb22_, hb23_, hb24_, if_true, Act.put, sA, s0, sS]
            have HB := Aside0.mk Q_HB; clear Q_HB; have HO206 := Aside0.mk (Q_HO206 hb1_); clear Q_HO206; have HO209 := Aside0.mk (Q_HO209 hb4_); clear Q_HO209; have HO212 := Aside0.mk (Q_HO212 hb17_); clear Q_HO212; have HO215 := Aside0.mk (Q_HO215 hb20_); clear Q_HO215; clear hall hb1_ hb2_ hb4_ hb5_ hb6_ hb9_ hb10_ hb11_ hb12_ hb13_ hb14_ hb15_ hb16_ hb17_ hb18_ hb19_ hb20_ hb21_ hb22_ hb23_ hb24_; obtain ⟨Ao78, co78, eo78⟩ := Kd.R_slice HO212.out
            (first | subst eo78 | (injection eo78 with f1_ f2_ f3_; have f4_ := f1_.symm; have f5_ := f3_.symm; clear f1_ f2_ f3_; subst f4_; subst f5_)); obtain ⟨Ao79, co79, eo79⟩ := Kd.R_slice HO215.out
            (first | subst eo79 | (injection eo79 with f1_ f2_ f3_; have f4_ := f1_.symm; have f5_ := f3_.symm; clear f1_ f2_ f3_; subst f4_; subst f5_)); try go_wp2
            go_meet
            case rel => exact ⟨_, (decide ((t210.length : Int) > (t213.length : Int))), (by first | rfl | (simp; done) | (simp [*]; done)), H', ⟨by have := HJ6.out; have := HJ14.out; first | omega | exact Nat.le_refl _⟩, ⟨by repeat (first | (with_reducible first | exact HB.out | apply bA | apply bN | apply bD) | exact HB.out)⟩⟩
           ·rw [if_neg c65] at H
            have c65b0 : decide (a2 ≤ a3) = false := decide_eq_false c65
            clear c65; have H' := Aside0.mk H; clear H; try go_wp2
            have n0_ := Aside0.mk (below_drew1 HB.out); clear HB; have HB := n0_; clear n0_; refine start_ (n := 25) (S := fun w' => True) (ds := []) #[false, false, false, false, false, false, false, false, false, false, false, false, false, false, false, false, false, false, false, false, false, false, false, false, false] (by kernel_rfl) rfl rfl trivial (fun hHeld => ?_); refine with_tabW wristbandlaw01_WordBack.tab9 wristbandlaw01_WordBack.bits9 (fun HT_ HW_ => ?_)
            generalize wc.drew = w80 at HB hHeld ⊢
            refine pu_ 0 75 (rA [1,24]) HT_ (by kernel_rfl) rfl rfl (fun _ _ _ => id) (.inl ⟨by rfl, fun w' => by go_simp; with_reducible rfl⟩) (by simp only [Act.put, sA, s0, sS, i64_w, i32_w]; rfl) ?_
            refine pu_ 3 78 (rA [1,2,1,21]) HT_ (by kernel_rfl) rfl rfl (fun _ _ _ => id) (.inl ⟨by rfl, fun w' => by go_simp; with_reducible rfl⟩) (by simp only [Act.put, sA, s0, sS, i64_w, i32_w]; rfl) ?_
            refine pu_ 7 82 (rA [1,2,1,3,1,17]) HT_ (by kernel_rfl) rfl rfl (fun _ _ _ => id) (.inl ⟨by rfl, fun w' => by go_simp; with_reducible rfl⟩) (by simp only [Act.put, sA, s0, sS, i64_w, i32_w]; rfl) ?_
            refine pu_ 8 83 (rA [1,2,1,3,2,16]) HT_ (by kernel_rfl) rfl rfl (fun _ _ _ => id) (.inl ⟨by rfl, fun w' => by go_simp; with_reducible rfl⟩) (by simp only [Act.put, sA, s0, sS, i64_w, i32_w]; rfl) ?_
            refine inv_at [1, 2, 4, 5, 6, 9, 10, 11, 12, 13, 14, 15, 16, 17, 18, 19, 20, 21, 22, 23, 24] (fun a0_ b a w' => ∃ (v205 : Value) (v208 : Value), a = putSel a0_ b [(1, 76, v205), (2, 77, .string (strOfNums t204)), (4, 79, v208), (5, 80, .string (strOfNums t207)), (6, 81, .bool ((strOfNums t204).toList == (strOfNums t207).toList)), (9, 84, .bool (a2 == a3)), (10, 85, .bool (((strOfNums t204).toList == (strOfNums t207).toList) != (a2 == a3))), (11, 86, .bool (((strOfNums t204).toList == (strOfNums t207).toList) != (a2 == a3))), (12, 87, .int .u64 a2), (13, 88, .int .u64 a3), (14, 89, .bool (decide (a2 ≤ a3))), (15, 90, .bool (decide (a2 ≤ a3))), (16, 91, undef), (17, 92, undef), (18, 93, undef), (19, 94, undef), (20, 95, undef), (21, 96, undef), (22, 97, undef), (23, 98, .bool false), (24, 99, .bool false)] ∧ (Below w.heap.size w w') ∧ (b 1 = true → Kd.R (Kd.int .u8) 5 w' w.heap.size (fun _ => True) v205 t204) ∧ (b 4 = true → Kd.R (Kd.int .u8) 5 w' w.heap.size (fun _ => True) v208 t207)) HT_.out HW_.out (by kernel_rfl) (by kernel_rfl) ?_ ?_ ?_
            ·exact ⟨.bool false, .bool false, by simp only [putSel, Bool.false_eq_true, if_false], HB.out, fun h_ => absurd h_ (by decide), fun h_ => absurd h_ (by decide)⟩
            ·skip
             clear HB; refine steps_cons ?_ ?_
             ·rintro b a w' ⟨v205, v208, ha, Q_HB, Q_HO206, Q_HO209⟩ hb_ hon hoff
              refine ⟨_, rfl, fun K hK => ?_⟩; have e75 : a.tmps[75]? = some (.int .u64 a2) := by rw [ha]; exact (putSel_off rfl).trans rfl
              replace ha := Aside0.mk ha; have HB := Aside0.mk Q_HB; refine goes_ Try.func40 (by kernel_rfl) rfl #[.int .u64 a2] (by first | rfl | (simp [Region.wanted, yielded, *]; done)) rfl rfl (by first | (simp only [mT, mC, mN, Act.eval, gD, oG, e75]; done) | (simp only [mT, mC, mN, Act.eval, gD, oG, e75]; rfl)) ?_
              with_reducible refine (word_Least.calls kj14 a2 t204 _ A56.out).mono ?_
              rintro e w81 ⟨v205, rfl, ho0, hb⟩
              refine ⟨_, rfl, ?_⟩; have n0_ := Aside0.mk (Kd.R_lower ho0 (below_size (by repeat (first | (with_reducible first | exact HB.out | apply bA | apply bN | apply bD) | exact HB.out)))); have n1_ := Aside0.mk (below_step (by repeat (first | (with_reducible first | exact HB.out | apply bA | apply bN | apply bD) | exact HB.out)) hb); clear HB; have HO206 := n0_; have HB := n1_; clear n0_ n1_; (try clear hb); (try clear hb2); (try clear hk); (try clear hi); (try clear ho0); refine hK.out _ _ ⟨v205, v208, (by rw [ha.out]; exact putSel_upk 0 hb_ rfl rfl rfl), (by repeat (first | (with_reducible first | exact HB.out | apply bA | apply bN | apply bD) | exact HB.out)), fun _ => (by (with_reducible repeat (first | apply rL | apply rN | apply rW)); exact HO206.out), ofK (hoff 4 (by kernel_rfl))⟩
             refine steps_cons ?_ ?_
             ·rintro b a w' ⟨v205, v208, ha, Q_HB, Q_HO206, Q_HO209⟩ hb_ hon hoff
              refine ⟨_, rfl, fun K hK => ?_⟩; have e76 : a.tmps[76]? = some (v205) := by rw [ha]; exact putSel_on (e := (1, 76, v205)) 0 rfl rfl (hon 1 (by kernel_rfl)) rfl
              replace ha := Aside0.mk ha; have HB := Aside0.mk Q_HB; have HO206 := Aside0.mk (Q_HO206 (hon 1 (by kernel_rfl))); refine str_step (src := 22) (dst := 9) (x := .tmp 76) ?hw ?ho ?hx (v := v205) (s := strOfNums t204) (by obtain ⟨A_, c_, rfl⟩ := Kd.R_slice HO206.out; exact Kd.C_string (P := Try.prog) (A := A_) (c := c_) Try.underlying22 Try.underlying5 Try.underlying9 (Kd.R_reads' (by (with_reducible repeat (first | apply rL | apply rN | apply rW)); exact HO206.out)).2.2) ?_
              case ho => rfl
              case hw => first | rfl | (simp [Region.wanted, yielded, *]; done)
              case hx => first | rfl | (simp only [Act.eval, gD, oG, e76]; done)
              intro w83 hb; have n0_ := Aside0.mk (Kd.R_below (by (with_reducible repeat (first | apply rL | apply rN | apply rW)); exact HO206.out) hb)
              have n1_ := Aside0.mk (below_step (by repeat (first | (with_reducible first | exact HB.out | apply bA | apply bN | apply bD) | exact HB.out)) hb); have z_HO209 := fun (h0_ : b 4 = true) => (show Kd.R (Kd.int .u8) 5 w83 w.heap.size (fun _ => True) v208 t207 from by first | exact (Kd.R_below (by (with_reducible repeat (first | apply rL | apply rN | apply rW)); exact (Q_HO209 h0_)) hb) | exact Kd.R_mono (Kd.R_below (by (with_reducible repeat (first | apply rL | apply rN | apply rW)); exact (Q_HO209 h0_)) hb) (fun _ h_ => by first | trivial | exact h_ | exact h_.1))
              clear HO206; clear HB; have HO206 := n0_; have HB := n1_; clear n0_ n1_; (try clear hb); refine hK.out _ _ ⟨v205, v208, (by rw [ha.out]; exact putSel_upk 1 hb_ rfl rfl rfl), (by repeat (first | (with_reducible first | exact HB.out | apply bA | apply bN | apply bD) | exact HB.out)), fun _ => (by (with_reducible repeat (first | apply rL | apply rN | apply rW)); exact HO206.out), z_HO209⟩
             refine steps_cons ?_ ?_
             ·rintro b a w' ⟨v205, v208, ha, Q_HB, Q_HO206, Q_HO209⟩ hb_ hon hoff
              refine ⟨_, rfl, fun K hK => ?_⟩; have e78 : a.tmps[78]? = some (.int .u64 a3) := by rw [ha]; exact (putSel_off rfl).trans rfl
              replace ha := Aside0.mk ha; have HB := Aside0.mk Q_HB; have HO206 := Aside0.mk (Q_HO206 (hon 1 (by kernel_rfl))); refine goes_ Try.func40 (by kernel_rfl) rfl #[.int .u64 a3] (by first | rfl | (simp [Region.wanted, yielded, *]; done)) rfl rfl (by first | (simp only [mT, mC, mN, Act.eval, gD, oG, e78]; done) | (simp only [mT, mC, mN, Act.eval, gD, oG, e78]; rfl)) ?_
              with_reducible refine (word_Least.calls kj14 a3 t207 _ A57.out).mono ?_
              rintro e w83 ⟨v208, rfl, ho0, hb⟩
              refine ⟨_, rfl, ?_⟩; have n0_ := Aside0.mk (Kd.R_elder' (by (with_reducible repeat (first | apply rL | apply rN | apply rW)); exact HO206.out) (Kd.R_base ho0) hb); have n1_ := Aside0.mk (Kd.R_lower (Kd.R_new' ho0 (Kd.R_lt (by (with_reducible repeat (first | apply rL | apply rN | apply rW)); exact HO206.out))) (below_size (by repeat (first | (with_reducible first | exact HB.out | apply bA | apply bN | apply bD) | exact HB.out)))); have n2_ := Aside0.mk (below_step (by repeat (first | (with_reducible first | exact HB.out | apply bA | apply bN | apply bD) | exact HB.out)) hb); clear HO206; clear HB; have HO206 := n0_; have HO209 := n1_; have HB := n2_; clear n0_ n1_ n2_; (try clear hb); (try clear hb2); (try clear hk); (try clear hi); (try clear ho0); refine hK.out _ _ ⟨v205, v208, (by rw [ha.out]; exact putSel_upk 2 hb_ rfl rfl rfl), (by repeat (first | (with_reducible first | exact HB.out | apply bA | apply bN | apply bD) | exact HB.out)), fun _ => (by (with_reducible repeat (first | apply rL | apply rN | apply rW)); first | exact Kd.R_mono HO206.out (fun _ hk => hk.2) | exact Kd.R_mono (HO206.out) (fun _ hk => by first | trivial | exact hk | exact hk.1 | ((repeat' apply And.intro) <;> first | exact hk.2 | exact hk.1.2 | exact hk.1.1.2))), fun _ => (by (with_reducible repeat (first | apply rL | apply rN | apply rW)); first | exact Kd.R_mono HO209.out (fun _ hk => hk.2) | exact Kd.R_mono (HO209.out) (fun _ hk => by first | trivial | exact hk | exact hk.1 | ((repeat' apply And.intro) <;> first | exact hk.2 | exact hk.1.2 | exact hk.1.1.2)))⟩
             refine steps_cons ?_ ?_
             ·rintro b a w' ⟨v205, v208, ha, Q_HB, Q_HO206, Q_HO209⟩ hb_ hon hoff
              refine ⟨_, rfl, fun K hK => ?_⟩; have e79 : a.tmps[79]? = some (v208) := by rw [ha]; exact putSel_on (e := (4, 79, v208)) 2 rfl rfl (hon 4 (by kernel_rfl)) rfl
              replace ha := Aside0.mk ha; have HB := Aside0.mk Q_HB; have HO206 := Aside0.mk (Q_HO206 (hon 1 (by kernel_rfl))); have HO209 := Aside0.mk (Q_HO209 (hon 4 (by kernel_rfl))); refine str_step (src := 22) (dst := 9) (x := .tmp 79) ?hw ?ho ?hx (v := v208) (s := strOfNums t207) (by obtain ⟨A_, c_, rfl⟩ := Kd.R_slice HO209.out; exact Kd.C_string (P := Try.prog) (A := A_) (c := c_) Try.underlying22 Try.underlying5 Try.underlying9 (Kd.R_reads' (by (with_reducible repeat (first | apply rL | apply rN | apply rW)); exact HO209.out)).2.2) ?_
              case ho => rfl
              case hw => first | rfl | (simp [Region.wanted, yielded, *]; done)
              case hx => first | rfl | (simp only [Act.eval, gD, oG, e79]; done)
              intro w84 hb; have n0_ := Aside0.mk (Kd.R_below (by (with_reducible repeat (first | apply rL | apply rN | apply rW)); exact HO206.out) hb)
              have n1_ := Aside0.mk (Kd.R_below (by (with_reducible repeat (first | apply rL | apply rN | apply rW)); exact HO209.out) hb); have n2_ := Aside0.mk (below_step (by repeat (first | (with_reducible first | exact HB.out | apply bA | apply bN | apply bD) | exact HB.out)) hb); clear HO206; clear HO209; clear HB; have HO206 := n0_; have HO209 := n1_; have HB := n2_; clear n0_ n1_ n2_; (try clear hb); refine hK.out _ _ ⟨v205, v208, (by rw [ha.out]; exact putSel_upk 3 hb_ rfl rfl rfl), (by repeat (first | (with_reducible first | exact HB.out | apply bA | apply bN | apply bD) | exact HB.out)), fun _ => (by (with_reducible repeat (first | apply rL | apply rN | apply rW)); first | exact HO206.out | exact Kd.R_mono (HO206.out) (fun _ hk => by first | trivial | exact hk | exact hk.1 | ((repeat' apply And.intro) <;> first | exact hk.2 | exact hk.1.2 | exact hk.1.1.2))), fun _ => (by (with_reducible repeat (first | apply rL | apply rN | apply rW)); first | exact HO209.out | exact Kd.R_mono (HO209.out) (fun _ hk => by first | trivial | exact hk | exact hk.1 | ((repeat' apply And.intro) <;> first | exact hk.2 | exact hk.1.2 | exact hk.1.1.2)))⟩
             refine steps_cons ?_ ?_
             ·rintro b a w' ⟨v205, v208, ha, Q_HB, Q_HO206, Q_HO209⟩ hb_ hon hoff
              refine ⟨_, rfl, fun K hK => ?_⟩; have e77 : a.tmps[77]? = some (.string (strOfNums t204)) := by rw [ha]; exact putSel_on (e := (2, 77, .string (strOfNums t204))) 1 rfl rfl (hon 2 (by kernel_rfl)) rfl
              have e80 : a.tmps[80]? = some (.string (strOfNums t207)) := by rw [ha]; exact putSel_on (e := (5, 80, .string (strOfNums t207))) 3 rfl rfl (hon 5 (by kernel_rfl)) rfl
              replace ha := Aside0.mk ha; have HB := Aside0.mk Q_HB; have HO206 := Aside0.mk (Q_HO206 (hon 1 (by kernel_rfl))); have HO209 := Aside0.mk (Q_HO209 (hon 4 (by kernel_rfl))); refine value_ (w1 := w') (v := .bool ((strOfNums t204).toList == (strOfNums t207).toList)) (by rfl) rfl ?_ ?_
              ·go_simp
               (try simp only [i64_w])
               try first | rfl | (simp [bne]; done)
              refine hK.out _ _ ⟨v205, v208, (by rw [ha.out]; exact putSel_upk 4 hb_ rfl rfl rfl), Q_HB, Q_HO206, Q_HO209⟩
             refine steps_cons ?_ ?_
             ·rintro b a w' ⟨v205, v208, ha, Q_HB, Q_HO206, Q_HO209⟩ hb_ hon hoff
              refine ⟨_, rfl, fun K hK => ?_⟩; have e82 : a.tmps[82]? = some (.int .u64 a2) := by rw [ha]; exact (putSel_off rfl).trans rfl
              have e83 : a.tmps[83]? = some (.int .u64 a3) := by rw [ha]; exact (putSel_off rfl).trans rfl
              replace ha := Aside0.mk ha; have HB := Aside0.mk Q_HB; refine value_ (w1 := w') (v := .bool (a2 == a3)) (by rfl) rfl ?_ ?_
              ·go_simp
               (try simp only [i64_w])
               try first | rfl | (simp [bne]; done)
              refine hK.out _ _ ⟨v205, v208, (by rw [ha.out]; exact putSel_upk 5 hb_ rfl rfl rfl), Q_HB, Q_HO206, Q_HO209⟩
             refine steps_cons ?_ ?_
             ·rintro b a w' ⟨v205, v208, ha, Q_HB, Q_HO206, Q_HO209⟩ hb_ hon hoff
              refine ⟨_, rfl, fun K hK => ?_⟩; have e81 : a.tmps[81]? = some (.bool ((strOfNums t204).toList == (strOfNums t207).toList)) := by rw [ha]; exact putSel_on (e := (6, 81, .bool ((strOfNums t204).toList == (strOfNums t207).toList))) 4 rfl rfl (hon 6 (by kernel_rfl)) rfl
              have e84 : a.tmps[84]? = some (.bool (a2 == a3)) := by rw [ha]; exact putSel_on (e := (9, 84, .bool (a2 == a3))) 5 rfl rfl (hon 9 (by kernel_rfl)) rfl
              replace ha := Aside0.mk ha; have HB := Aside0.mk Q_HB; have HO206 := Aside0.mk (Q_HO206 (hon 1 (by kernel_rfl))); have HO209 := Aside0.mk (Q_HO209 (hon 4 (by kernel_rfl))); refine value_ (w1 := w') (v := .bool (((strOfNums t204).toList == (strOfNums t207).toList) != (a2 == a3))) (by rfl) rfl ?_ ?_
              ·go_simp
               (try simp only [i64_w])
               try first | rfl | (simp [bne]; done)
              refine hK.out _ _ ⟨v205, v208, (by rw [ha.out]; exact putSel_upk 6 hb_ rfl rfl rfl), Q_HB, Q_HO206, Q_HO209⟩
             refine steps_cons ?_ ?_
             ·rintro b a w' ⟨v205, v208, ha, Q_HB, Q_HO206, Q_HO209⟩ hb_ hon hoff
              refine ⟨_, rfl, fun K hK => ?_⟩; have e85 : a.tmps[85]? = some (.bool (((strOfNums t204).toList == (strOfNums t207).toList) != (a2 == a3))) := by rw [ha]; exact putSel_on (e := (10, 85, .bool (((strOfNums t204).toList == (strOfNums t207).toList) != (a2 == a3)))) 6 rfl rfl (hon 10 (by kernel_rfl)) rfl
              replace ha := Aside0.mk ha; have HB := Aside0.mk Q_HB; have HO206 := Aside0.mk (Q_HO206 (hon 1 (by kernel_rfl))); have HO209 := Aside0.mk (Q_HO209 (hon 4 (by kernel_rfl))); refine value_ (w1 := w') (v := .bool (((strOfNums t204).toList == (strOfNums t207).toList) != (a2 == a3))) (by rfl) rfl ?_ ?_
              ·go_simp
               (try simp only [i64_w])
               try first | rfl | (simp [bne]; done)
              refine hK.out _ _ ⟨v205, v208, (by rw [ha.out]; exact putSel_upk 7 hb_ rfl rfl rfl), Q_HB, Q_HO206, Q_HO209⟩
             refine steps_cons ?_ ?_
             ·rintro b a w' ⟨v205, v208, ha, Q_HB, Q_HO206, Q_HO209⟩ hb_ hon hoff
              refine ⟨_, rfl, fun K hK => ?_⟩; have e2 : a.tmps[2]? = some (.int .u64 a2) := by rw [ha]; exact (putSel_off rfl).trans rfl
              have e86 : a.tmps[86]? = some (.bool (((strOfNums t204).toList == (strOfNums t207).toList) != (a2 == a3))) := by rw [ha]; exact putSel_on (e := (11, 86, .bool (((strOfNums t204).toList == (strOfNums t207).toList) != (a2 == a3)))) 7 rfl rfl (hon 11 (by kernel_rfl)) rfl
              replace ha := Aside0.mk ha; have HB := Aside0.mk Q_HB; have HO206 := Aside0.mk (Q_HO206 (hon 1 (by kernel_rfl))); have HO209 := Aside0.mk (Q_HO209 (hon 4 (by kernel_rfl))); refine value_ (w1 := w') (v := .int .u64 a2) (wanted_on rfl rfl rfl (e86.trans (by first | rfl | (simp [*]; done)))) rfl ?_ ?_
              ·go_simp
               (try simp only [i64_w])
               try first | rfl | (simp [bne]; done)
              refine hK.out _ _ ⟨v205, v208, (by rw [ha.out]; exact putSel_upk 8 hb_ rfl rfl rfl), Q_HB, Q_HO206, Q_HO209⟩
             refine steps_cons ?_ ?_
             ·rintro b a w' ⟨v205, v208, ha, Q_HB, Q_HO206, Q_HO209⟩ hb_ hon hoff
              refine ⟨_, rfl, fun K hK => ?_⟩; have e3 : a.tmps[3]? = some (.int .u64 a3) := by rw [ha]; exact (putSel_off rfl).trans rfl
              have e86 : a.tmps[86]? = some (.bool (((strOfNums t204).toList == (strOfNums t207).toList) != (a2 == a3))) := by rw [ha]; exact putSel_on (e := (11, 86, .bool (((strOfNums t204).toList == (strOfNums t207).toList) != (a2 == a3)))) 7 rfl rfl (hon 11 (by kernel_rfl)) rfl
              replace ha := Aside0.mk ha; have HB := Aside0.mk Q_HB; have HO206 := Aside0.mk (Q_HO206 (hon 1 (by kernel_rfl))); have HO209 := Aside0.mk (Q_HO209 (hon 4 (by kernel_rfl))); refine value_ (w1 := w') (v := .int .u64 a3) (wanted_on rfl rfl rfl (e86.trans (by first | rfl | (simp [*]; done)))) rfl ?_ ?_
              ·go_simp
               (try simp only [i64_w])
               try first | rfl | (simp [bne]; done)
              refine hK.out _ _ ⟨v205, v208, (by rw [ha.out]; exact putSel_upk 9 hb_ rfl rfl rfl), Q_HB, Q_HO206, Q_HO209⟩
             refine steps_cons ?_ ?_
             ·rintro b a w' ⟨v205, v208, ha, Q_HB, Q_HO206, Q_HO209⟩ hb_ hon hoff
              refine ⟨_, rfl, fun K hK => ?_⟩; have e87 : a.tmps[87]? = some (.int .u64 a2) := by rw [ha]; exact putSel_on (e := (12, 87, .int .u64 a2)) 8 rfl rfl (hon 12 (by kernel_rfl)) rfl
              have e88 : a.tmps[88]? = some (.int .u64 a3) := by rw [ha]; exact putSel_on (e := (13, 88, .int .u64 a3)) 9 rfl rfl (hon 13 (by kernel_rfl)) rfl
              have e86 : a.tmps[86]? = some (.bool (((strOfNums t204).toList == (strOfNums t207).toList) != (a2 == a3))) := by rw [ha]; exact putSel_on (e := (11, 86, .bool (((strOfNums t204).toList == (strOfNums t207).toList) != (a2 == a3)))) 7 rfl rfl (hon 11 (by kernel_rfl)) rfl
              replace ha := Aside0.mk ha; have HB := Aside0.mk Q_HB; have HO206 := Aside0.mk (Q_HO206 (hon 1 (by kernel_rfl))); have HO209 := Aside0.mk (Q_HO209 (hon 4 (by kernel_rfl))); refine value_ (w1 := w') (v := .bool (decide (a2 ≤ a3))) (wanted_on rfl rfl rfl (e86.trans (by first | rfl | (simp [*]; done)))) rfl ?_ ?_
              ·go_simp
               (try simp only [i64_w])
               try first | rfl | (simp [bne]; done)
              refine hK.out _ _ ⟨v205, v208, (by rw [ha.out]; exact putSel_upk 10 hb_ rfl rfl rfl), Q_HB, Q_HO206, Q_HO209⟩
             refine steps_cons ?_ ?_
             ·rintro b a w' ⟨v205, v208, ha, Q_HB, Q_HO206, Q_HO209⟩ hb_ hon hoff
              refine ⟨_, rfl, fun K hK => ?_⟩; have e89 : a.tmps[89]? = some (.bool (decide (a2 ≤ a3))) := by rw [ha]; exact putSel_on (e := (14, 89, .bool (decide (a2 ≤ a3)))) 10 rfl rfl (hon 14 (by kernel_rfl)) rfl
              have e86 : a.tmps[86]? = some (.bool (((strOfNums t204).toList == (strOfNums t207).toList) != (a2 == a3))) := by rw [ha]; exact putSel_on (e := (11, 86, .bool (((strOfNums t204).toList == (strOfNums t207).toList) != (a2 == a3)))) 7 rfl rfl (hon 11 (by kernel_rfl)) rfl
              replace ha := Aside0.mk ha; have HB := Aside0.mk Q_HB; have HO206 := Aside0.mk (Q_HO206 (hon 1 (by kernel_rfl))); have HO209 := Aside0.mk (Q_HO209 (hon 4 (by kernel_rfl))); refine value_ (w1 := w') (v := .bool (decide (a2 ≤ a3))) (wanted_on rfl rfl rfl (e86.trans (by first | rfl | (simp [*]; done)))) rfl ?_ ?_
              ·go_simp
               (try simp only [i64_w])
               try first | rfl | (simp [bne]; done)
              refine hK.out _ _ ⟨v205, v208, (by rw [ha.out]; exact putSel_upk 11 hb_ rfl rfl rfl), Q_HB, Q_HO206, Q_HO209⟩
             refine steps_cons ?_ ?_
             ·rintro b a w' ⟨v205, v208, ha, Q_HB, Q_HO206, Q_HO209⟩ hb_ hon hoff
              refine ⟨_, rfl, fun K hK => ?_⟩; have e90 : a.tmps[90]? = some (.bool (decide (a2 ≤ a3))) := by rw [ha]; exact putSel_on (e := (15, 90, .bool (decide (a2 ≤ a3)))) 11 rfl rfl (hon 15 (by kernel_rfl)) rfl
              replace ha := Aside0.mk ha; have HB := Aside0.mk Q_HB; have HO206 := Aside0.mk (Q_HO206 (hon 1 (by kernel_rfl))); have HO209 := Aside0.mk (Q_HO209 (hon 4 (by kernel_rfl))); refine off_ (wanted_off rfl rfl rfl (e90.trans (by first | rfl | (simp [*]; done)))) ?_
              refine hK.out _ _ ⟨v205, v208, (by rw [ha.out]; exact putSel_upk 12 hb_ rfl rfl rfl), Q_HB, Q_HO206, Q_HO209⟩
             refine steps_cons ?_ ?_
             ·rintro b a w' ⟨v205, v208, ha, Q_HB, Q_HO206, Q_HO209⟩ hb_ hon hoff
              refine ⟨_, rfl, fun K hK => ?_⟩; have e90 : a.tmps[90]? = some (.bool (decide (a2 ≤ a3))) := by rw [ha]; exact putSel_on (e := (15, 90, .bool (decide (a2 ≤ a3)))) 11 rfl rfl (hon 15 (by kernel_rfl)) rfl
              replace ha := Aside0.mk ha; have HB := Aside0.mk Q_HB; have HO206 := Aside0.mk (Q_HO206 (hon 1 (by kernel_rfl))); have HO209 := Aside0.mk (Q_HO209 (hon 4 (by kernel_rfl))); refine off_ (wanted_off rfl rfl rfl (e90.trans (by first | rfl | (simp [*]; done)))) ?_
              refine hK.out _ _ ⟨v205, v208, (by rw [ha.out]; exact putSel_upk 13 hb_ rfl rfl rfl), Q_HB, Q_HO206, Q_HO209⟩
             refine steps_cons ?_ ?_
             ·rintro b a w' ⟨v205, v208, ha, Q_HB, Q_HO206, Q_HO209⟩ hb_ hon hoff
              refine ⟨_, rfl, fun K hK => ?_⟩; have e90 : a.tmps[90]? = some (.bool (decide (a2 ≤ a3))) := by rw [ha]; exact putSel_on (e := (15, 90, .bool (decide (a2 ≤ a3)))) 11 rfl rfl (hon 15 (by kernel_rfl)) rfl
              replace ha := Aside0.mk ha; have HB := Aside0.mk Q_HB; have HO206 := Aside0.mk (Q_HO206 (hon 1 (by kernel_rfl))); have HO209 := Aside0.mk (Q_HO209 (hon 4 (by kernel_rfl))); refine off_ (wanted_off rfl rfl rfl (e90.trans (by first | rfl | (simp [*]; done)))) ?_
              refine hK.out _ _ ⟨v205, v208, (by rw [ha.out]; exact putSel_upk 14 hb_ rfl rfl rfl), Q_HB, Q_HO206, Q_HO209⟩
             refine steps_cons ?_ ?_
             ·rintro b a w' ⟨v205, v208, ha, Q_HB, Q_HO206, Q_HO209⟩ hb_ hon hoff
              refine ⟨_, rfl, fun K hK => ?_⟩; have e90 : a.tmps[90]? = some (.bool (decide (a2 ≤ a3))) := by rw [ha]; exact putSel_on (e := (15, 90, .bool (decide (a2 ≤ a3)))) 11 rfl rfl (hon 15 (by kernel_rfl)) rfl
              replace ha := Aside0.mk ha; have HB := Aside0.mk Q_HB; have HO206 := Aside0.mk (Q_HO206 (hon 1 (by kernel_rfl))); have HO209 := Aside0.mk (Q_HO209 (hon 4 (by kernel_rfl))); refine off_ (wanted_off rfl rfl rfl (e90.trans (by first | rfl | (simp [*]; done)))) ?_
              refine hK.out _ _ ⟨v205, v208, (by rw [ha.out]; exact putSel_upk 15 hb_ rfl rfl rfl), Q_HB, Q_HO206, Q_HO209⟩
             refine steps_cons ?_ ?_
             ·rintro b a w' ⟨v205, v208, ha, Q_HB, Q_HO206, Q_HO209⟩ hb_ hon hoff
              refine ⟨_, rfl, fun K hK => ?_⟩; have e90 : a.tmps[90]? = some (.bool (decide (a2 ≤ a3))) := by rw [ha]; exact putSel_on (e := (15, 90, .bool (decide (a2 ≤ a3)))) 11 rfl rfl (hon 15 (by kernel_rfl)) rfl
              replace ha := Aside0.mk ha; have HB := Aside0.mk Q_HB; have HO206 := Aside0.mk (Q_HO206 (hon 1 (by kernel_rfl))); have HO209 := Aside0.mk (Q_HO209 (hon 4 (by kernel_rfl))); refine off_ (wanted_off rfl rfl rfl (e90.trans (by first | rfl | (simp [*]; done)))) ?_
              refine hK.out _ _ ⟨v205, v208, (by rw [ha.out]; exact putSel_upk 16 hb_ rfl rfl rfl), Q_HB, Q_HO206, Q_HO209⟩
             refine steps_cons ?_ ?_
             ·rintro b a w' ⟨v205, v208, ha, Q_HB, Q_HO206, Q_HO209⟩ hb_ hon hoff
              refine ⟨_, rfl, fun K hK => ?_⟩; have e90 : a.tmps[90]? = some (.bool (decide (a2 ≤ a3))) := by rw [ha]; exact putSel_on (e := (15, 90, .bool (decide (a2 ≤ a3)))) 11 rfl rfl (hon 15 (by kernel_rfl)) rfl
              replace ha := Aside0.mk ha; have HB := Aside0.mk Q_HB; have HO206 := Aside0.mk (Q_HO206 (hon 1 (by kernel_rfl))); have HO209 := Aside0.mk (Q_HO209 (hon 4 (by kernel_rfl))); refine off_ (wanted_off rfl rfl rfl (e90.trans (by first | rfl | (simp [*]; done)))) ?_
              refine hK.out _ _ ⟨v205, v208, (by rw [ha.out]; exact putSel_upk 17 hb_ rfl rfl rfl), Q_HB, Q_HO206, Q_HO209⟩
             refine steps_cons ?_ ?_
             ·rintro b a w' ⟨v205, v208, ha, Q_HB, Q_HO206, Q_HO209⟩ hb_ hon hoff
              refine ⟨_, rfl, fun K hK => ?_⟩; have e90 : a.tmps[90]? = some (.bool (decide (a2 ≤ a3))) := by rw [ha]; exact putSel_on (e := (15, 90, .bool (decide (a2 ≤ a3)))) 11 rfl rfl (hon 15 (by kernel_rfl)) rfl
              replace ha := Aside0.mk ha; have HB := Aside0.mk Q_HB; have HO206 := Aside0.mk (Q_HO206 (hon 1 (by kernel_rfl))); have HO209 := Aside0.mk (Q_HO209 (hon 4 (by kernel_rfl))); refine off_ (wanted_off rfl rfl rfl (e90.trans (by first | rfl | (simp [*]; done)))) ?_
              refine hK.out _ _ ⟨v205, v208, (by rw [ha.out]; exact putSel_upk 18 hb_ rfl rfl rfl), Q_HB, Q_HO206, Q_HO209⟩
             refine steps_cons ?_ ?_
             ·rintro b a w' ⟨v205, v208, ha, Q_HB, Q_HO206, Q_HO209⟩ hb_ hon hoff
              refine ⟨_, rfl, fun K hK => ?_⟩; have e90 : a.tmps[90]? = some (.bool (decide (a2 ≤ a3))) := by rw [ha]; exact putSel_on (e := (15, 90, .bool (decide (a2 ≤ a3)))) 11 rfl rfl (hon 15 (by kernel_rfl)) rfl
              have e97 : a.tmps[97]? = some (undef) := by rw [ha]; exact putSel_on (e := (22, 97, undef)) 18 rfl rfl (hon 22 (by kernel_rfl)) rfl
              have e86 : a.tmps[86]? = some (.bool (((strOfNums t204).toList == (strOfNums t207).toList) != (a2 == a3))) := by rw [ha]; exact putSel_on (e := (11, 86, .bool (((strOfNums t204).toList == (strOfNums t207).toList) != (a2 == a3)))) 7 rfl rfl (hon 11 (by kernel_rfl)) rfl
              replace ha := Aside0.mk ha; have HB := Aside0.mk Q_HB; have HO206 := Aside0.mk (Q_HO206 (hon 1 (by kernel_rfl))); have HO209 := Aside0.mk (Q_HO209 (hon 4 (by kernel_rfl))); refine value_ (w1 := w') (v := .bool false) (wanted_on rfl rfl rfl (e86.trans (by first | rfl | (simp [*]; done)))) rfl ?_ ?_
              ·go_simp
               (try simp only [i64_w])
               try first | rfl | (simp [bne]; done)
              refine hK.out _ _ ⟨v205, v208, (by rw [ha.out]; exact putSel_upk 19 hb_ rfl rfl rfl), Q_HB, Q_HO206, Q_HO209⟩
             refine steps_cons ?_ ?_
             ·rintro b a w' ⟨v205, v208, ha, Q_HB, Q_HO206, Q_HO209⟩ hb_ hon hoff
              refine ⟨_, rfl, fun K hK => ?_⟩; have e86 : a.tmps[86]? = some (.bool (((strOfNums t204).toList == (strOfNums t207).toList) != (a2 == a3))) := by rw [ha]; exact putSel_on (e := (11, 86, .bool (((strOfNums t204).toList == (strOfNums t207).toList) != (a2 == a3)))) 7 rfl rfl (hon 11 (by kernel_rfl)) rfl
              have e98 : a.tmps[98]? = some (.bool false) := by rw [ha]; exact putSel_on (e := (23, 98, .bool false)) 19 rfl rfl (hon 23 (by kernel_rfl)) rfl
              replace ha := Aside0.mk ha; have HB := Aside0.mk Q_HB; have HO206 := Aside0.mk (Q_HO206 (hon 1 (by kernel_rfl))); have HO209 := Aside0.mk (Q_HO209 (hon 4 (by kernel_rfl))); refine value_ (w1 := w') (v := .bool false) (by rfl) rfl ?_ ?_
              ·go_simp
               (try simp only [i64_w])
               try first | rfl | (simp [bne]; done)
              refine hK.out _ _ ⟨v205, v208, (by rw [ha.out]; exact putSel_upk 20 hb_ rfl rfl rfl), Q_HB, Q_HO206, Q_HO209⟩
             exact steps_nil
            rintro b a w85 hall ⟨v205, v208, ha, Q_HB, Q_HO206, Q_HO209⟩
            clear HB; have hb1_ := hall 1 (by kernel_rfl); have hb2_ := hall 2 (by kernel_rfl); have hb4_ := hall 4 (by kernel_rfl); have hb5_ := hall 5 (by kernel_rfl); have hb6_ := hall 6 (by kernel_rfl); have hb9_ := hall 9 (by kernel_rfl); have hb10_ := hall 10 (by kernel_rfl); have hb11_ := hall 11 (by kernel_rfl); have hb12_ := hall 12 (by kernel_rfl); have hb13_ := hall 13 (by kernel_rfl); have hb14_ := hall 14 (by kernel_rfl); have hb15_ := hall 15 (by kernel_rfl); have hb16_ := hall 16 (by kernel_rfl); have hb17_ := hall 17 (by kernel_rfl); have hb18_ := hall 18 (by kernel_rfl); have hb19_ := hall 19 (by kernel_rfl); have hb20_ := hall 20 (by kernel_rfl); have hb21_ := hall 21 (by kernel_rfl); have hb22_ := hall 22 (by kernel_rfl); have hb23_ := hall 23 (by kernel_rfl); have hb24_ := hall 24 (by kernel_rfl); subst ha; simp only [putSel, hb1_, hb2_, hb4_, hb5_, hb6_, hb9_, hb10_, hb11_, hb12_, hb13_, hb14_, hb15_, hb16_, hb17_, hb18_, hb19_, hb20_, hb21_, hb22_, hb23_, hb24_, if_true, Act.put, sA, s0, sS]
            have HB := Aside0.mk Q_HB; clear Q_HB; have HO206 := Aside0.mk (Q_HO206 hb1_); clear Q_HO206; have HO209 := Aside0.mk (Q_HO209 hb4_); clear Q_HO209; clear hall hb1_ hb2_ hb4_ hb5_ hb6_ hb9_ hb10_ hb11_ hb12_ hb13_ hb14_ hb15_ hb16_ hb17_ hb18_ hb19_ hb20_ hb21_ hb22_ hb23_ hb24_; try go_wp2
            go_meet
            case rel => exact ⟨_, (false), (by first | rfl | (simp; done) | (simp [*]; done)), H', ⟨by have := HJ6.out; have := HJ14.out; first | omega | exact Nat.le_refl _⟩, ⟨by repeat (first | (with_reducible first | exact HB.out | apply bA | apply bN | apply bD) | exact HB.out)⟩⟩
         case rest =>
          clear HC55; try clear p2
          try clear c4
          try clear c6
          try clear c40
          try clear c65
          try clear c65b0
          obtain ⟨kq, x99_54, rfl, HA, HJ54, HB⟩ := hcut
          cases kq with
          | zero => exact absurd HA.out (by simp [wristbandlaw01_WordBack.j2])
          | succ kj54 =>
           have H := HA.out
           clear HA; simp only [wristbandlaw01_WordBack.j2] at H
           by_cases c86 : x99_54 = true
           ·subst c86
            have H1 : (some false) = some r := by rw [if_pos rfl] at H; exact H
            clear H; have H := H1; clear H1; obtain rfl := Option.some.inj H
            go_wp2
            go_ret
            exact ⟨by first | rfl | (simp [errW_none, errW_some] <;> rfl) | (simp [*, errW_none, errW_some] <;> rfl), by repeat (first | (with_reducible first | exact HB.out | apply bA | apply bN | apply bD) | exact HB.out)⟩
           ·replace c86 := Bool.eq_false_iff.mpr c86
            subst c86; have H1 : ((word_FromLeast.f kj54 l0).bind fun bt216 => (if bt216.2 = 0 then ((word_Least.f kj54 bt216.1).bind fun t218 => (some ((strOfNums t218).toList == (strOfNums l0).toList))) else (if bt216.1 = 0 then (some true) else (some false)))) = some r := by rw [if_neg (show ¬ (false = true) by decide)] at H; exact H
            clear H; have H := H1; clear H1; replace H := Option.bind_eq_some_iff.mp H
            obtain ⟨⟨t216, t217⟩, A870, H⟩ := H
            replace H : (if t217 = 0 then ((word_Least.f kj54 t216).bind fun t218 => (some ((strOfNums t218).toList == (strOfNums l0).toList))) else (if t216 = 0 then (some true) else (some false))) = some r := H
            have A87 := Aside0.mk A870; clear A870; by_cases c88 : t217 = 0
            ·rw [if_pos c88] at H
             have c88b0 : (t217 == 0) = true := beq_iff_eq.mpr c88
             have c88b1 : (t217 != 0) = false := bne_eq_false_iff_eq.mpr c88
             clear c88; replace H := Option.bind_eq_some_iff.mp H
             obtain ⟨t218, A890, H⟩ := H
             replace H : (some ((strOfNums t218).toList == (strOfNums l0).toList)) = some r := H
             have A89 := Aside0.mk A890; clear A890; obtain rfl := Option.some.inj H
             try go_wp2_with (first | ((with_reducible refine gate_callee (f := 36) rfl ?_); refine goesL_ (some 102) rfl rfl Try.func36 (by kernel_rfl) rfl #[.slice A0 l0.length c0] rfl (by (try simp only [mT, mC, mN]); first | done | rfl | (simp only [List.length_drop, List.length_take]; rfl)) ?_; (with_reducible refine (word_FromLeast.calls kj54 _ _ l0 t216 t217 _ ?side1 ?side2 A87.out).mono ?_); (case side1 => repeat (first | exact (Kd.C_below HR0.out HB.out) | (with_reducible refine Kd.C_alloc ?_ _) | (with_reducible refine Kd.C_drewN ?_ _) | (with_reducible refine Kd.C_drew ?_))); (case side2 => exact HC0.out); rintro e w' ⟨rfl, ⟨nd, rfl⟩⟩; refine ⟨_, rfl, ?_⟩))
             (try (rw [drewN_self wc]; generalize hq_ : World.drewN wc _ = wc; have n0_ : Aside0 (Below w.heap.size w wc) := ⟨by rw [← hq_]; exact (by repeat (first | (with_reducible first | exact HB.out | apply bA | apply bN | apply bD) | exact HB.out))⟩; clear HB hq_; have HB := n0_; clear n0_))
             have n0_ := Aside0.mk (below_drew1 HB.out); clear HB; have HB := n0_; clear n0_; refine start_ (n := 19) (S := fun w' => True) (ds := []) #[false, false, false, false, false, false, false, false, false, false, false, false, false, false, false, false, false, false, false] (by kernel_rfl) rfl rfl trivial (fun hHeld => ?_); refine with_tabW wristbandlaw01_WordBack.tab12 wristbandlaw01_WordBack.bits12 (fun HT_ HW_ => ?_)
             generalize wc.drew = w90 at HB hHeld ⊢
             refine pu_ 0 105 (rA [1,18]) HT_ (by kernel_rfl) rfl rfl (fun _ _ _ => id) (.inl ⟨by rfl, fun w' => by go_simp; with_reducible rfl⟩) (by simp only [Act.put, sA, s0, sS, i64_w, i32_w]; rfl) ?_
             refine inv_at [1, 2, 3, 4, 5, 6, 7, 8, 9, 10, 11, 12, 13, 14, 15, 16, 17, 18] (fun a0_ b a w' => ∃ (v219 : Value), a = putSel a0_ b [(1, 106, .bool (t217 != 0)), (2, 107, .bool (t217 != 0)), (3, 108, undef), (4, 109, undef), (5, 110, .bool false), (6, 111, .bool false), (7, 112, .int .i64 t217), (8, 113, .bool (t217 == 0)), (9, 114, .bool (t217 == 0)), (10, 115, .int .u64 t216), (11, 116, v219), (12, 117, .string (strOfNums t218)), (13, 118, .slice A0 l0.length c0), (14, 119, .string (strOfNums l0)), (15, 120, .bool ((strOfNums t218).toList == (strOfNums l0).toList)), (16, 121, .bool ((strOfNums t218).toList == (strOfNums l0).toList)), (17, 122, .bool ((strOfNums t218).toList == (strOfNums l0).toList)), (18, 8, .bool ((strOfNums t218).toList == (strOfNums l0).toList))] ∧ (Below w.heap.size w w') ∧ (b 11 = true → Kd.R (Kd.int .u8) 5 w' w.heap.size (fun _ => True) v219 t218)) HT_.out HW_.out (by kernel_rfl) (by kernel_rfl) ?_ ?_ ?_
             ·exact ⟨.bool false, by simp only [putSel, Bool.false_eq_true, if_false], HB.out, fun h_ => absurd h_ (by decide)⟩
             ·skip
              clear HB; refine steps_cons ?_ ?_
              ·rintro b a w' ⟨v219, ha, Q_HB, Q_HO220⟩ hb_ hon hoff
               refine ⟨_, rfl, fun K hK => ?_⟩; have e105 : a.tmps[105]? = some (.int .i64 t217) := by rw [ha]; exact (putSel_off rfl).trans rfl
               replace ha := Aside0.mk ha; have HB := Aside0.mk Q_HB; refine value_ (w1 := w') (v := .bool (t217 != 0)) (by rfl) rfl ?_ ?_
               ·go_simp
                (try simp only [i64_w])
                try first | rfl | (simp [bne]; done)
               refine hK.out _ _ ⟨v219, (by rw [ha.out]; exact putSel_upk 0 hb_ rfl rfl rfl), Q_HB, ofK (hoff 11 (by kernel_rfl))⟩
              refine steps_cons ?_ ?_
              ·rintro b a w' ⟨v219, ha, Q_HB, Q_HO220⟩ hb_ hon hoff
               refine ⟨_, rfl, fun K hK => ?_⟩; have e106 : a.tmps[106]? = some (.bool (t217 != 0)) := by rw [ha]; exact putSel_on (e := (1, 106, .bool (t217 != 0))) 0 rfl rfl (hon 1 (by kernel_rfl)) rfl
               replace ha := Aside0.mk ha; have HB := Aside0.mk Q_HB; refine value_ (w1 := w') (v := .bool (t217 != 0)) (by rfl) rfl ?_ ?_
               ·go_simp
                (try simp only [i64_w])
                try first | rfl | (simp [bne]; done)
               refine hK.out _ _ ⟨v219, (by rw [ha.out]; exact putSel_upk 1 hb_ rfl rfl rfl), Q_HB, ofK (hoff 11 (by kernel_rfl))⟩
              refine steps_cons ?_ ?_
              ·rintro b a w' ⟨v219, ha, Q_HB, Q_HO220⟩ hb_ hon hoff
               refine ⟨_, rfl, fun K hK => ?_⟩; have e107 : a.tmps[107]? = some (.bool (t217 != 0)) := by rw [ha]; exact putSel_on (e := (2, 107, .bool (t217 != 0))) 1 rfl rfl (hon 2 (by kernel_rfl)) rfl
               replace ha := Aside0.mk ha; have HB := Aside0.mk Q_HB; refine off_ (wanted_off rfl rfl rfl (e107.trans (by first | rfl | (simp [*]; done)))) ?_
               refine hK.out _ _ ⟨v219, (by rw [ha.out]; exact putSel_upk 2 hb_ rfl rfl rfl), Q_HB, ofK (hoff 11 (by kernel_rfl))⟩
              refine steps_cons ?_ ?_
              ·rintro b a w' ⟨v219, ha, Q_HB, Q_HO220⟩ hb_ hon hoff
               refine ⟨_, rfl, fun K hK => ?_⟩; have e107 : a.tmps[107]? = some (.bool (t217 != 0)) := by rw [ha]; exact putSel_on (e := (2, 107, .bool (t217 != 0))) 1 rfl rfl (hon 2 (by kernel_rfl)) rfl
               replace ha := Aside0.mk ha; have HB := Aside0.mk Q_HB; refine off_ (wanted_off rfl rfl rfl (e107.trans (by first | rfl | (simp [*]; done)))) ?_
               refine hK.out _ _ ⟨v219, (by rw [ha.out]; exact putSel_upk 3 hb_ rfl rfl rfl), Q_HB, ofK (hoff 11 (by kernel_rfl))⟩
              refine steps_cons ?_ ?_
              ·rintro b a w' ⟨v219, ha, Q_HB, Q_HO220⟩ hb_ hon hoff
               refine ⟨_, rfl, fun K hK => ?_⟩; have e107 : a.tmps[107]? = some (.bool (t217 != 0)) := by rw [ha]; exact putSel_on (e := (2, 107, .bool (t217 != 0))) 1 rfl rfl (hon 2 (by kernel_rfl)) rfl
               have e109 : a.tmps[109]? = some (undef) := by rw [ha]; exact putSel_on (e := (4, 109, undef)) 3 rfl rfl (hon 4 (by kernel_rfl)) rfl
               replace ha := Aside0.mk ha; have HB := Aside0.mk Q_HB; refine value_ (w1 := w') (v := .bool false) (by rfl) rfl ?_ ?_
               ·go_simp
                (try simp only [i64_w])
                try first | rfl | (simp [bne]; done)
               refine hK.out _ _ ⟨v219, (by rw [ha.out]; exact putSel_upk 4 hb_ rfl rfl rfl), Q_HB, ofK (hoff 11 (by kernel_rfl))⟩
              refine steps_cons ?_ ?_
              ·rintro b a w' ⟨v219, ha, Q_HB, Q_HO220⟩ hb_ hon hoff
               refine ⟨_, rfl, fun K hK => ?_⟩; have e110 : a.tmps[110]? = some (.bool false) := by rw [ha]; exact putSel_on (e := (5, 110, .bool false)) 4 rfl rfl (hon 5 (by kernel_rfl)) rfl
               replace ha := Aside0.mk ha; have HB := Aside0.mk Q_HB; refine value_ (w1 := w') (v := .bool false) (by rfl) rfl ?_ ?_
               ·go_simp
                (try simp only [i64_w])
                try first | rfl | (simp [bne]; done)
               refine hK.out _ _ ⟨v219, (by rw [ha.out]; exact putSel_upk 5 hb_ rfl rfl rfl), Q_HB, ofK (hoff 11 (by kernel_rfl))⟩
              refine steps_cons ?_ ?_
              ·rintro b a w' ⟨v219, ha, Q_HB, Q_HO220⟩ hb_ hon hoff
               refine ⟨_, rfl, fun K hK => ?_⟩; have e14 : a.tmps[14]? = some (.int .i64 t217) := by rw [ha]; exact (putSel_off rfl).trans rfl
               have e111 : a.tmps[111]? = some (.bool false) := by rw [ha]; exact putSel_on (e := (6, 111, .bool false)) 5 rfl rfl (hon 6 (by kernel_rfl)) rfl
               replace ha := Aside0.mk ha; have HB := Aside0.mk Q_HB; refine value_ (w1 := w') (v := .int .i64 t217) (wanted_on rfl rfl rfl (e111.trans (by first | rfl | (simp [*]; done)))) rfl ?_ ?_
               ·go_simp
                (try simp only [i64_w])
                try first | rfl | (simp [bne]; done)
               refine hK.out _ _ ⟨v219, (by rw [ha.out]; exact putSel_upk 6 hb_ rfl rfl rfl), Q_HB, ofK (hoff 11 (by kernel_rfl))⟩
              refine steps_cons ?_ ?_
              ·rintro b a w' ⟨v219, ha, Q_HB, Q_HO220⟩ hb_ hon hoff
               refine ⟨_, rfl, fun K hK => ?_⟩; have e112 : a.tmps[112]? = some (.int .i64 t217) := by rw [ha]; exact putSel_on (e := (7, 112, .int .i64 t217)) 6 rfl rfl (hon 7 (by kernel_rfl)) rfl
               have e111 : a.tmps[111]? = some (.bool false) := by rw [ha]; exact putSel_on (e := (6, 111, .bool false)) 5 rfl rfl (hon 6 (by kernel_rfl)) rfl
               replace ha := Aside0.mk ha; have HB := Aside0.mk Q_HB; refine value_ (w1 := w') (v := .bool (t217 == 0)) (wanted_on rfl rfl rfl (e111.trans (by first | rfl | (simp [*]; done)))) rfl ?_ ?_
               ·go_simp
                (try simp only [i64_w])
                try first | rfl | (simp [bne]; done)
               refine hK.out _ _ ⟨v219, (by rw [ha.out]; exact putSel_upk 7 hb_ rfl rfl rfl), Q_HB, ofK (hoff 11 (by kernel_rfl))⟩
              refine steps_cons ?_ ?_
              ·rintro b a w' ⟨v219, ha, Q_HB, Q_HO220⟩ hb_ hon hoff
               refine ⟨_, rfl, fun K hK => ?_⟩; have e113 : a.tmps[113]? = some (.bool (t217 == 0)) := by rw [ha]; exact putSel_on (e := (8, 113, .bool (t217 == 0))) 7 rfl rfl (hon 8 (by kernel_rfl)) rfl
               have e111 : a.tmps[111]? = some (.bool false) := by rw [ha]; exact putSel_on (e := (6, 111, .bool false)) 5 rfl rfl (hon 6 (by kernel_rfl)) rfl
               replace ha := Aside0.mk ha; have HB := Aside0.mk Q_HB; refine value_ (w1 := w') (v := .bool (t217 == 0)) (wanted_on rfl rfl rfl (e111.trans (by first | rfl | (simp [*]; done)))) rfl ?_ ?_
               ·go_simp
                (try simp only [i64_w])
                try first | rfl | (simp [bne]; done)
               refine hK.out _ _ ⟨v219, (by rw [ha.out]; exact putSel_upk 8 hb_ rfl rfl rfl), Q_HB, ofK (hoff 11 (by kernel_rfl))⟩
              refine steps_cons ?_ ?_
              ·rintro b a w' ⟨v219, ha, Q_HB, Q_HO220⟩ hb_ hon hoff
               refine ⟨_, rfl, fun K hK => ?_⟩; have e13 : a.tmps[13]? = some (.int .u64 t216) := by rw [ha]; exact (putSel_off rfl).trans rfl
               have e114 : a.tmps[114]? = some (.bool (t217 == 0)) := by rw [ha]; exact putSel_on (e := (9, 114, .bool (t217 == 0))) 8 rfl rfl (hon 9 (by kernel_rfl)) rfl
               replace ha := Aside0.mk ha; have HB := Aside0.mk Q_HB; refine value_ (w1 := w') (v := .int .u64 t216) (wanted_on rfl rfl rfl (e114.trans (by first | rfl | (simp [*]; done)))) rfl ?_ ?_
               ·go_simp
                (try simp only [i64_w])
                try first | rfl | (simp [bne]; done)
               refine hK.out _ _ ⟨v219, (by rw [ha.out]; exact putSel_upk 9 hb_ rfl rfl rfl), Q_HB, ofK (hoff 11 (by kernel_rfl))⟩
              refine steps_cons ?_ ?_
              ·rintro b a w' ⟨v219, ha, Q_HB, Q_HO220⟩ hb_ hon hoff
               refine ⟨_, rfl, fun K hK => ?_⟩; have e115 : a.tmps[115]? = some (.int .u64 t216) := by rw [ha]; exact putSel_on (e := (10, 115, .int .u64 t216)) 9 rfl rfl (hon 10 (by kernel_rfl)) rfl
               have e114 : a.tmps[114]? = some (.bool (t217 == 0)) := by rw [ha]; exact putSel_on (e := (9, 114, .bool (t217 == 0))) 8 rfl rfl (hon 9 (by kernel_rfl)) rfl
               replace ha := Aside0.mk ha; have HB := Aside0.mk Q_HB; refine goes_ Try.func40 (by kernel_rfl) rfl #[.int .u64 t216] (by first | rfl | (simp [Region.wanted, yielded, *]; done)) rfl rfl (by first | (simp only [mT, mC, mN, Act.eval, gD, oG, e115, e114]; done) | (simp only [mT, mC, mN, Act.eval, gD, oG, e115, e114]; rfl)) ?_
               with_reducible refine (word_Least.calls kj54 t216 t218 _ A89.out).mono ?_
               rintro e w91 ⟨v219, rfl, ho0, hb⟩
               refine ⟨_, rfl, ?_⟩; have n0_ := Aside0.mk (Kd.R_lower ho0 (below_size (by repeat (first | (with_reducible first | exact HB.out | apply bA | apply bN | apply bD) | exact HB.out)))); have n1_ := Aside0.mk (below_step (by repeat (first | (with_reducible first | exact HB.out | apply bA | apply bN | apply bD) | exact HB.out)) hb); clear HB; have HO220 := n0_; have HB := n1_; clear n0_ n1_; (try clear hb); (try clear hb2); (try clear hk); (try clear hi); (try clear ho0); refine hK.out _ _ ⟨v219, (by rw [ha.out]; exact putSel_upk 10 hb_ rfl rfl rfl), (by repeat (first | (with_reducible first | exact HB.out | apply bA | apply bN | apply bD) | exact HB.out)), fun _ => (by (with_reducible repeat (first | apply rL | apply rN | apply rW)); exact HO220.out)⟩
              refine steps_cons ?_ ?_
              ·rintro b a w' ⟨v219, ha, Q_HB, Q_HO220⟩ hb_ hon hoff
               refine ⟨_, rfl, fun K hK => ?_⟩; have e116 : a.tmps[116]? = some (v219) := by rw [ha]; exact putSel_on (e := (11, 116, v219)) 10 rfl rfl (hon 11 (by kernel_rfl)) rfl
               have e114 : a.tmps[114]? = some (.bool (t217 == 0)) := by rw [ha]; exact putSel_on (e := (9, 114, .bool (t217 == 0))) 8 rfl rfl (hon 9 (by kernel_rfl)) rfl
               replace ha := Aside0.mk ha; have HB := Aside0.mk Q_HB; have HO220 := Aside0.mk (Q_HO220 (hon 11 (by kernel_rfl))); refine str_step (src := 22) (dst := 9) (x := .tmp 116) ?hw ?ho ?hx (v := v219) (s := strOfNums t218) (by obtain ⟨A_, c_, rfl⟩ := Kd.R_slice HO220.out; exact Kd.C_string (P := Try.prog) (A := A_) (c := c_) Try.underlying22 Try.underlying5 Try.underlying9 (Kd.R_reads' (by (with_reducible repeat (first | apply rL | apply rN | apply rW)); exact HO220.out)).2.2) ?_
               case ho => rfl
               case hw => first | rfl | (simp [Region.wanted, yielded, *]; done)
               case hx => first | rfl | (simp only [Act.eval, gD, oG, e116]; done)
               intro w93 hb; have n0_ := Aside0.mk (Kd.R_below (by (with_reducible repeat (first | apply rL | apply rN | apply rW)); exact HO220.out) hb)
               have n1_ := Aside0.mk (below_step (by repeat (first | (with_reducible first | exact HB.out | apply bA | apply bN | apply bD) | exact HB.out)) hb); clear HO220; clear HB; have HO220 := n0_; have HB := n1_; clear n0_ n1_; (try clear hb); refine hK.out _ _ ⟨v219, (by rw [ha.out]; exact putSel_upk 11 hb_ rfl rfl rfl), (by repeat (first | (with_reducible first | exact HB.out | apply bA | apply bN | apply bD) | exact HB.out)), fun _ => (by (with_reducible repeat (first | apply rL | apply rN | apply rW)); exact HO220.out)⟩
              refine steps_cons ?_ ?_
              ·rintro b a w' ⟨v219, ha, Q_HB, Q_HO220⟩ hb_ hon hoff
               refine ⟨_, rfl, fun K hK => ?_⟩; have e0 : a.tmps[0]? = some (.slice A0 l0.length c0) := by rw [ha]; exact (putSel_off rfl).trans rfl
               have e114 : a.tmps[114]? = some (.bool (t217 == 0)) := by rw [ha]; exact putSel_on (e := (9, 114, .bool (t217 == 0))) 8 rfl rfl (hon 9 (by kernel_rfl)) rfl
               replace ha := Aside0.mk ha; have HB := Aside0.mk Q_HB; refine value_ (w1 := w') (v := .slice A0 l0.length c0) (wanted_on rfl rfl rfl (e114.trans (by first | rfl | (simp [*]; done)))) rfl ?_ ?_
               ·go_simp
                (try simp only [i64_w])
                try first | rfl | (simp [bne]; done)
               refine hK.out _ _ ⟨v219, (by rw [ha.out]; exact putSel_upk 12 hb_ rfl rfl rfl), Q_HB, Q_HO220⟩
              refine steps_cons ?_ ?_
              ·rintro b a w' ⟨v219, ha, Q_HB, Q_HO220⟩ hb_ hon hoff
               refine ⟨_, rfl, fun K hK => ?_⟩; have e118 : a.tmps[118]? = some (.slice A0 l0.length c0) := by rw [ha]; exact putSel_on (e := (13, 118, .slice A0 l0.length c0)) 12 rfl rfl (hon 13 (by kernel_rfl)) rfl
               have e114 : a.tmps[114]? = some (.bool (t217 == 0)) := by rw [ha]; exact putSel_on (e := (9, 114, .bool (t217 == 0))) 8 rfl rfl (hon 9 (by kernel_rfl)) rfl
               replace ha := Aside0.mk ha; have HB := Aside0.mk Q_HB; refine str_step (src := 22) (dst := 9) (x := .tmp 118) ?hw ?ho ?hx (Kd.C_string (P := Try.prog) (A := A0) (c := c0) Try.underlying22 Try.underlying5 Try.underlying9 (Kd.C_below HR0.out HB.out)) ?_
               case ho => rfl
               case hw => first | rfl | (simp [Region.wanted, yielded, *]; done)
               case hx => first | rfl | (simp only [Act.eval, gD, oG, e118]; done)
               intro w91 hb; have n0_ := Aside0.mk (below_step (by repeat (first | (with_reducible first | exact HB.out | apply bA | apply bN | apply bD) | exact HB.out)) hb)
               have z_HO220 := fun (h0_ : b 11 = true) => (show Kd.R (Kd.int .u8) 5 w91 w.heap.size (fun _ => True) v219 t218 from by first | exact (Kd.R_below (by (with_reducible repeat (first | apply rL | apply rN | apply rW)); exact (Q_HO220 h0_)) hb) | exact Kd.R_mono (Kd.R_below (by (with_reducible repeat (first | apply rL | apply rN | apply rW)); exact (Q_HO220 h0_)) hb) (fun _ h_ => by first | trivial | exact h_ | exact h_.1))
               clear HB; have HB := n0_; clear n0_; (try clear hb); refine hK.out _ _ ⟨v219, (by rw [ha.out]; exact putSel_upk 13 hb_ rfl rfl rfl), (by repeat (first | (with_reducible first | exact HB.out | apply bA | apply bN | apply bD) | exact HB.out)), z_HO220⟩
              refine steps_cons ?_ ?_
              ·rintro b a w' ⟨v219, ha, Q_HB, Q_HO220⟩ hb_ hon hoff
               refine ⟨_, rfl, fun K hK => ?_⟩; have e117 : a.tmps[117]? = some (.string (strOfNums t218)) := by rw [ha]; exact putSel_on (e := (12, 117, .string (strOfNums t218))) 11 rfl rfl (hon 12 (by kernel_rfl)) rfl
               have e119 : a.tmps[119]? = some (.string (strOfNums l0)) := by rw [ha]; exact putSel_on (e := (14, 119, .string (strOfNums l0))) 13 rfl rfl (hon 14 (by kernel_rfl)) rfl
               have e114 : a.tmps[114]? = some (.bool (t217 == 0)) := by rw [ha]; exact putSel_on (e := (9, 114, .bool (t217 == 0))) 8 rfl rfl (hon 9 (by kernel_rfl)) rfl
               replace ha := Aside0.mk ha; have HB := Aside0.mk Q_HB; have HO220 := Aside0.mk (Q_HO220 (hon 11 (by kernel_rfl))); refine value_ (w1 := w') (v := .bool ((strOfNums t218).toList == (strOfNums l0).toList)) (wanted_on rfl rfl rfl (e114.trans (by first | rfl | (simp [*]; done)))) rfl ?_ ?_
               ·go_simp
                (try simp only [i64_w])
                try first | rfl | (simp [bne]; done)
               refine hK.out _ _ ⟨v219, (by rw [ha.out]; exact putSel_upk 14 hb_ rfl rfl rfl), Q_HB, Q_HO220⟩
              refine steps_cons ?_ ?_
              ·rintro b a w' ⟨v219, ha, Q_HB, Q_HO220⟩ hb_ hon hoff
               refine ⟨_, rfl, fun K hK => ?_⟩; have e114 : a.tmps[114]? = some (.bool (t217 == 0)) := by rw [ha]; exact putSel_on (e := (9, 114, .bool (t217 == 0))) 8 rfl rfl (hon 9 (by kernel_rfl)) rfl
               have e120 : a.tmps[120]? = some (.bool ((strOfNums t218).toList == (strOfNums l0).toList)) := by rw [ha]; exact putSel_on (e := (15, 120, .bool ((strOfNums t218).toList == (strOfNums l0).toList))) 14 rfl rfl (hon 15 (by kernel_rfl)) rfl
               have e111 : a.tmps[111]? = some (.bool false) := by rw [ha]; exact putSel_on (e := (6, 111, .bool false)) 5 rfl rfl (hon 6 (by kernel_rfl)) rfl
               replace ha := Aside0.mk ha; have HB := Aside0.mk Q_HB; have HO220 := Aside0.mk (Q_HO220 (hon 11 (by kernel_rfl))); refine value_ (w1 := w') (v := .bool ((strOfNums t218).toList == (strOfNums l0).toList)) (wanted_on rfl rfl rfl (e111.trans (by first | rfl | (simp [*]; done)))) rfl ?_ ?_
               ·go_simp
                (try simp only [i64_w])
                try first | rfl | (simp [bne]; done)
               refine hK.out _ _ ⟨v219, (by rw [ha.out]; exact putSel_upk 15 hb_ rfl rfl rfl), Q_HB, Q_HO220⟩
              refine steps_cons ?_ ?_
              ·rintro b a w' ⟨v219, ha, Q_HB, Q_HO220⟩ hb_ hon hoff
               refine ⟨_, rfl, fun K hK => ?_⟩; have e111 : a.tmps[111]? = some (.bool false) := by rw [ha]; exact putSel_on (e := (6, 111, .bool false)) 5 rfl rfl (hon 6 (by kernel_rfl)) rfl
               have e121 : a.tmps[121]? = some (.bool ((strOfNums t218).toList == (strOfNums l0).toList)) := by rw [ha]; exact putSel_on (e := (16, 121, .bool ((strOfNums t218).toList == (strOfNums l0).toList))) 15 rfl rfl (hon 16 (by kernel_rfl)) rfl
               replace ha := Aside0.mk ha; have HB := Aside0.mk Q_HB; have HO220 := Aside0.mk (Q_HO220 (hon 11 (by kernel_rfl))); refine value_ (w1 := w') (v := .bool ((strOfNums t218).toList == (strOfNums l0).toList)) (by rfl) rfl ?_ ?_
               ·go_simp
                (try simp only [i64_w])
                try first | rfl | (simp [bne]; done)
               refine hK.out _ _ ⟨v219, (by rw [ha.out]; exact putSel_upk 16 hb_ rfl rfl rfl), Q_HB, Q_HO220⟩
              refine steps_cons ?_ ?_
              ·rintro b a w' ⟨v219, ha, Q_HB, Q_HO220⟩ hb_ hon hoff
               refine ⟨_, rfl, fun K hK => ?_⟩; have e122 : a.tmps[122]? = some (.bool ((strOfNums t218).toList == (strOfNums l0).toList)) := by rw [ha]; exact putSel_on (e := (17, 122, .bool ((strOfNums t218).toList == (strOfNums l0).toList))) 16 rfl rfl (hon 17 (by kernel_rfl)) rfl
               replace ha := Aside0.mk ha; have HB := Aside0.mk Q_HB; have HO220 := Aside0.mk (Q_HO220 (hon 11 (by kernel_rfl))); refine value_ (w1 := w') (v := .bool ((strOfNums t218).toList == (strOfNums l0).toList)) (by rfl) rfl ?_ ?_
               ·go_simp
                (try simp only [i64_w])
                try first | rfl | (simp [bne]; done)
               refine hK.out _ _ ⟨v219, (by rw [ha.out]; exact putSel_upk 17 hb_ rfl rfl rfl), Q_HB, Q_HO220⟩
              exact steps_nil
             rintro b a w94 hall ⟨v219, ha, Q_HB, Q_HO220⟩
             clear HB; have hb1_ := hall 1 (by kernel_rfl); have hb2_ := hall 2 (by kernel_rfl); have hb3_ := hall 3 (by kernel_rfl); have hb4_ := hall 4 (by kernel_rfl); have hb5_ := hall 5 (by kernel_rfl); have hb6_ := hall 6 (by kernel_rfl); have hb7_ := hall 7 (by kernel_rfl); have hb8_ := hall 8 (by kernel_rfl); have hb9_ := hall 9 (by kernel_rfl); have hb10_ := hall 10 (by kernel_rfl); have hb11_ := hall 11 (by kernel_rfl); have hb12_ := hall 12 (by kernel_rfl); have hb13_ := hall 13 (by kernel_rfl); have hb14_ := hall 14 (by kernel_rfl); have hb15_ := hall 15 (by kernel_rfl); have hb16_ := hall 16 (by kernel_rfl); have hb17_ := hall 17 (by kernel_rfl); have hb18_ := hall 18 (by kernel_rfl); subst ha; simp only [putSel, hb1_, hb2_, hb3_, hb4_, hb5_, hb6_, hb7_, hb8_, hb9_, hb10_, hb11_, hb12_, hb13_, hb14_, hb15_, hb16_, hb17_, hb18_, if_true, Act.put, sA, s0, sS]
             have HB := Aside0.mk Q_HB; clear Q_HB; have HO220 := Aside0.mk (Q_HO220 hb11_); clear Q_HO220; clear hall hb1_ hb2_ hb3_ hb4_ hb5_ hb6_ hb7_ hb8_ hb9_ hb10_ hb11_ hb12_ hb13_ hb14_ hb15_ hb16_ hb17_ hb18_; try go_wp2
             go_ret
             exact ⟨by first | rfl | (simp [errW_none, errW_some] <;> rfl) | (simp [*, errW_none, errW_some] <;> rfl), by repeat (first | (with_reducible first | exact HB.out | apply bA | apply bN | apply bD) | exact HB.out)⟩
            ·rw [if_neg c88] at H
             have c88b0 : (t217 == 0) = false := beq_eq_false_iff_ne.mpr c88
             have c88b1 : (t217 != 0) = true := bne_iff_ne.mpr c88
             by_cases c95 : t216 = 0
             ·rw [if_pos c95] at H
              have c95b0 : (t216 == 0) = true := beq_iff_eq.mpr c95
              have c95b1 : (t216 != 0) = false := bne_eq_false_iff_eq.mpr c95
              clear c95; obtain rfl := Option.some.inj H
              try go_wp2_with (first | ((with_reducible refine gate_callee (f := 36) rfl ?_); refine goesL_ (some 102) rfl rfl Try.func36 (by kernel_rfl) rfl #[.slice A0 l0.length c0] rfl (by (try simp only [mT, mC, mN]); first | done | rfl | (simp only [List.length_drop, List.length_take]; rfl)) ?_; (with_reducible refine (word_FromLeast.calls kj54 _ _ l0 t216 t217 _ ?side1 ?side2 A87.out).mono ?_); (case side1 => repeat (first | exact (Kd.C_below HR0.out HB.out) | (with_reducible refine Kd.C_alloc ?_ _) | (with_reducible refine Kd.C_drewN ?_ _) | (with_reducible refine Kd.C_drew ?_))); (case side2 => exact HC0.out); rintro e w' ⟨rfl, ⟨nd, rfl⟩⟩; refine ⟨_, rfl, ?_⟩; (try (rw [drewN_self wc]; generalize hq_ : World.drewN wc _ = wc; have n0_ : Aside0 (Below w.heap.size w wc) := ⟨by rw [← hq_]; exact (by repeat (first | (with_reducible first | exact HB.out | apply bA | apply bN | apply bD) | exact HB.out))⟩; clear HB hq_; have HB := n0_; clear n0_))))
              have n0_ := Aside0.mk (below_drew1 HB.out); clear HB; have HB := n0_; clear n0_; refine start_ (n := 19) (S := fun w' => True) (ds := []) #[false, false, false, false, false, false, false, false, false, false, false, false, false, false, false, false, false, false, false] (by kernel_rfl) rfl rfl trivial (fun hHeld => ?_); refine with_tabW wristbandlaw01_WordBack.tab12 wristbandlaw01_WordBack.bits12 (fun HT_ HW_ => ?_)
              generalize wc.drew = w96 at HB hHeld ⊢
              refine pu_ 0 105 (rA [1,18]) HT_ (by kernel_rfl) rfl rfl (fun _ _ _ => id) (.inl ⟨by rfl, fun w' => by go_simp; with_reducible rfl⟩) (by simp only [Act.put, sA, s0, sS, i64_w, i32_w]; rfl) ?_
              refine pu_ 1 106 (rA [2,17]) HT_ (by kernel_rfl) rfl rfl (fun _ _ _ => id) (.inl ⟨by rfl, fun w' => by go_simp; with_reducible rfl⟩) (by simp only [Act.put, sA, s0, sS, i64_w, i32_w]; rfl) ?_
              refine pu_ 2 107 (rA [3,16]) HT_ (by kernel_rfl) rfl rfl (fun _ _ _ => id) (.inl ⟨by rfl, fun w' => by go_simp; with_reducible rfl⟩) (by simp only [Act.put, sA, s0, sS, i64_w, i32_w]; rfl) ?_
              refine pu_ 3 108 (rA [4,15]) HT_ (by kernel_rfl) rfl rfl (fun _ _ _ => id) (.inl ⟨by rfl, fun w' => by go_simp; with_reducible rfl⟩) (by simp only [Act.put, sA, s0, sS, i64_w, i32_w]; rfl) ?_
              refine pu_ 4 109 (rA [5,14]) HT_ (by kernel_rfl) rfl rfl (fun _ _ _ => id) (.inl ⟨by rfl, fun w' => by go_simp; with_reducible rfl⟩) (by simp only [Act.put, sA, s0, sS, i64_w, i32_w]; rfl) ?_
              refine pu_ 5 110 (rA [6,13]) HT_ (by kernel_rfl) rfl rfl (fun _ _ _ => id) (.inl ⟨by rfl, fun w' => by go_simp; with_reducible rfl⟩) (by simp only [Act.put, sA, s0, sS, i64_w, i32_w]; rfl) ?_
              refine pu_ 6 111 (rA [7,12]) HT_ (by kernel_rfl) rfl rfl (fun _ _ _ => id) (.inl ⟨by rfl, fun w' => by go_simp; with_reducible rfl⟩) (by simp only [Act.put, sA, s0, sS, i64_w, i32_w]; rfl) ?_
              refine pu_ 7 112 (rA [8,11]) HT_ (by kernel_rfl) rfl rfl (fun _ _ _ => id) (.inr ⟨by rfl, rfl⟩) (by simp only [Act.put, sA, s0, sS, i64_w, i32_w]; rfl) ?_
              refine pu_ 8 113 (rA [9,10]) HT_ (by kernel_rfl) rfl rfl (fun _ _ _ => id) (.inr ⟨by rfl, rfl⟩) (by simp only [Act.put, sA, s0, sS, i64_w, i32_w]; rfl) ?_
              refine pu_ 9 114 (rA [10,9]) HT_ (by kernel_rfl) rfl rfl (fun _ _ _ => id) (.inr ⟨by rfl, rfl⟩) (by simp only [Act.put, sA, s0, sS, i64_w, i32_w]; rfl) ?_
              refine pu_ 10 115 (rA [11,8]) HT_ (by kernel_rfl) rfl rfl (fun _ _ _ => id) (.inr ⟨by rfl, rfl⟩) (by simp only [Act.put, sA, s0, sS, i64_w, i32_w]; rfl) ?_
              refine pu_ 11 116 (rA [12,7]) HT_ (by kernel_rfl) rfl rfl (fun _ _ _ => id) (.inr ⟨by rfl, rfl⟩) (by simp only [Act.put, sA, s0, sS, i64_w, i32_w]; rfl) ?_
              refine pu_ 12 117 (rA [13,6]) HT_ (by kernel_rfl) rfl rfl (fun _ _ _ => id) (.inr ⟨by rfl, rfl⟩) (by simp only [Act.put, sA, s0, sS, i64_w, i32_w]; rfl) ?_
              refine pu_ 13 118 (rA [14,5]) HT_ (by kernel_rfl) rfl rfl (fun _ _ _ => id) (.inr ⟨by rfl, rfl⟩) (by simp only [Act.put, sA, s0, sS, i64_w, i32_w]; rfl) ?_
              refine pu_ 14 119 (rA [15,4]) HT_ (by kernel_rfl) rfl rfl (fun _ _ _ => id) (.inr ⟨by rfl, rfl⟩) (by simp only [Act.put, sA, s0, sS, i64_w, i32_w]; rfl) ?_
              refine pu_ 15 120 (rA [16,3]) HT_ (by kernel_rfl) rfl rfl (fun _ _ _ => id) (.inr ⟨by rfl, rfl⟩) (by simp only [Act.put, sA, s0, sS, i64_w, i32_w]; rfl) ?_
              refine pu_ 16 121 (rA [17,2]) HT_ (by kernel_rfl) rfl rfl (fun _ _ _ => id) (.inr ⟨by rfl, rfl⟩) (by simp only [Act.put, sA, s0, sS, i64_w, i32_w]; rfl) ?_
              refine pu_ 17 122 (rA [18,1]) HT_ (by kernel_rfl) rfl rfl (fun _ _ _ => id) (.inl ⟨by rfl, fun w' => by go_simp; with_reducible rfl⟩) (by simp only [Act.put, sA, s0, sS, i64_w, i32_w]; rfl) ?_
              refine pu_ 18 8 (rA [19]) HT_ (by kernel_rfl) rfl rfl (fun _ _ _ => id) (.inl ⟨by rfl, fun w' => by go_simp; with_reducible rfl⟩) (by simp only [Act.put, sA, s0, sS, i64_w, i32_w]; rfl) ?_
              refine done_ (done_of HT_.out (by kernel_rfl)) ?_
              try go_wp2
              go_ret
              exact ⟨by first | rfl | (simp [errW_none, errW_some] <;> rfl) | (simp [*, errW_none, errW_some] <;> rfl), by repeat (first | (with_reducible first | exact HB.out | apply bA | apply bN | apply bD) | exact HB.out)⟩
             ·rw [if_neg c95] at H
              have c95b0 : (t216 == 0) = false := beq_eq_false_iff_ne.mpr c95
              have c95b1 : (t216 != 0) = true := bne_iff_ne.mpr c95
              obtain rfl := Option.some.inj H
              try go_wp2_with (first | ((with_reducible refine gate_callee (f := 36) rfl ?_); refine goesL_ (some 102) rfl rfl Try.func36 (by kernel_rfl) rfl #[.slice A0 l0.length c0] rfl (by (try simp only [mT, mC, mN]); first | done | rfl | (simp only [List.length_drop, List.length_take]; rfl)) ?_; (with_reducible refine (word_FromLeast.calls kj54 _ _ l0 t216 t217 _ ?side1 ?side2 A87.out).mono ?_); (case side1 => repeat (first | exact (Kd.C_below HR0.out HB.out) | (with_reducible refine Kd.C_alloc ?_ _) | (with_reducible refine Kd.C_drewN ?_ _) | (with_reducible refine Kd.C_drew ?_))); (case side2 => exact HC0.out); rintro e w' ⟨rfl, ⟨nd, rfl⟩⟩; refine ⟨_, rfl, ?_⟩; (try (rw [drewN_self wc]; generalize hq_ : World.drewN wc _ = wc; have n0_ : Aside0 (Below w.heap.size w wc) := ⟨by rw [← hq_]; exact (by repeat (first | (with_reducible first | exact HB.out | apply bA | apply bN | apply bD) | exact HB.out))⟩; clear HB hq_; have HB := n0_; clear n0_))))
              have n0_ := Aside0.mk (below_drew1 HB.out); clear HB; have HB := n0_; clear n0_; refine start_ (n := 19) (S := fun w' => True) (ds := []) #[false, false, false, false, false, false, false, false, false, false, false, false, false, false, false, false, false, false, false] (by kernel_rfl) rfl rfl trivial (fun hHeld => ?_); refine with_tabW wristbandlaw01_WordBack.tab12 wristbandlaw01_WordBack.bits12 (fun HT_ HW_ => ?_)
              generalize wc.drew = w97 at HB hHeld ⊢
              refine pu_ 0 105 (rA [1,18]) HT_ (by kernel_rfl) rfl rfl (fun _ _ _ => id) (.inl ⟨by rfl, fun w' => by go_simp; with_reducible rfl⟩) (by simp only [Act.put, sA, s0, sS, i64_w, i32_w]; rfl) ?_
              refine pu_ 1 106 (rA [2,17]) HT_ (by kernel_rfl) rfl rfl (fun _ _ _ => id) (.inl ⟨by rfl, fun w' => by go_simp; with_reducible rfl⟩) (by simp only [Act.put, sA, s0, sS, i64_w, i32_w]; rfl) ?_
              refine pu_ 2 107 (rA [3,16]) HT_ (by kernel_rfl) rfl rfl (fun _ _ _ => id) (.inl ⟨by rfl, fun w' => by go_simp; with_reducible rfl⟩) (by simp only [Act.put, sA, s0, sS, i64_w, i32_w]; rfl) ?_
              refine pu_ 3 108 (rA [4,15]) HT_ (by kernel_rfl) rfl rfl (fun _ _ _ => id) (.inl ⟨by rfl, fun w' => by go_simp; with_reducible rfl⟩) (by simp only [Act.put, sA, s0, sS, i64_w, i32_w]; rfl) ?_
              refine pu_ 4 109 (rA [5,14]) HT_ (by kernel_rfl) rfl rfl (fun _ _ _ => id) (.inl ⟨by rfl, fun w' => by go_simp; with_reducible rfl⟩) (by simp only [Act.put, sA, s0, sS, i64_w, i32_w]; rfl) ?_
              refine pu_ 5 110 (rA [6,13]) HT_ (by kernel_rfl) rfl rfl (fun _ _ _ => id) (.inl ⟨by rfl, fun w' => by go_simp; with_reducible rfl⟩) (by simp only [Act.put, sA, s0, sS, i64_w, i32_w]; rfl) ?_
              refine pu_ 6 111 (rA [7,12]) HT_ (by kernel_rfl) rfl rfl (fun _ _ _ => id) (.inl ⟨by rfl, fun w' => by go_simp; with_reducible rfl⟩) (by simp only [Act.put, sA, s0, sS, i64_w, i32_w]; rfl) ?_
              refine pu_ 7 112 (rA [8,11]) HT_ (by kernel_rfl) rfl rfl (fun _ _ _ => id) (.inl ⟨by rfl, fun w' => by go_simp; with_reducible rfl⟩) (by simp only [Act.put, sA, s0, sS, i64_w, i32_w]; rfl) ?_
              refine pu_ 8 113 (rA [9,10]) HT_ (by kernel_rfl) rfl rfl (fun _ _ _ => id) (.inl ⟨by rfl, fun w' => by go_simp; with_reducible rfl⟩) (by simp only [Act.put, sA, s0, sS, i64_w, i32_w]; rfl) ?_
              refine pu_ 9 114 (rA [10,9]) HT_ (by kernel_rfl) rfl rfl (fun _ _ _ => id) (.inl ⟨by rfl, fun w' => by go_simp; with_reducible rfl⟩) (by simp only [Act.put, sA, s0, sS, i64_w, i32_w]; rfl) ?_
              refine pu_ 10 115 (rA [11,8]) HT_ (by kernel_rfl) rfl rfl (fun _ _ _ => id) (.inr ⟨by rfl, rfl⟩) (by simp only [Act.put, sA, s0, sS, i64_w, i32_w]; rfl) ?_
              refine pu_ 11 116 (rA [12,7]) HT_ (by kernel_rfl) rfl rfl (fun _ _ _ => id) (.inr ⟨by rfl, rfl⟩) (by simp only [Act.put, sA, s0, sS, i64_w, i32_w]; rfl) ?_
              refine pu_ 12 117 (rA [13,6]) HT_ (by kernel_rfl) rfl rfl (fun _ _ _ => id) (.inr ⟨by rfl, rfl⟩) (by simp only [Act.put, sA, s0, sS, i64_w, i32_w]; rfl) ?_
              refine pu_ 13 118 (rA [14,5]) HT_ (by kernel_rfl) rfl rfl (fun _ _ _ => id) (.inr ⟨by rfl, rfl⟩) (by simp only [Act.put, sA, s0, sS, i64_w, i32_w]; rfl) ?_
              refine pu_ 14 119 (rA [15,4]) HT_ (by kernel_rfl) rfl rfl (fun _ _ _ => id) (.inr ⟨by rfl, rfl⟩) (by simp only [Act.put, sA, s0, sS, i64_w, i32_w]; rfl) ?_
              refine pu_ 15 120 (rA [16,3]) HT_ (by kernel_rfl) rfl rfl (fun _ _ _ => id) (.inr ⟨by rfl, rfl⟩) (by simp only [Act.put, sA, s0, sS, i64_w, i32_w]; rfl) ?_
              refine pu_ 16 121 (rA [17,2]) HT_ (by kernel_rfl) rfl rfl (fun _ _ _ => id) (.inl ⟨by rfl, fun w' => by go_simp; with_reducible rfl⟩) (by simp only [Act.put, sA, s0, sS, i64_w, i32_w]; rfl) ?_
              refine pu_ 17 122 (rA [18,1]) HT_ (by kernel_rfl) rfl rfl (fun _ _ _ => id) (.inl ⟨by rfl, fun w' => by go_simp; with_reducible rfl⟩) (by simp only [Act.put, sA, s0, sS, i64_w, i32_w]; rfl) ?_
              refine pu_ 18 8 (rA [19]) HT_ (by kernel_rfl) rfl rfl (fun _ _ _ => id) (.inl ⟨by rfl, fun w' => by go_simp; with_reducible rfl⟩) (by simp only [Act.put, sA, s0, sS, i64_w, i32_w]; rfl) ?_
              refine done_ (done_of HT_.out (by kernel_rfl)) ?_
              try go_wp2
              go_ret
              exact ⟨by first | rfl | (simp [errW_none, errW_some] <;> rfl) | (simp [*, errW_none, errW_some] <;> rfl), by repeat (first | (with_reducible first | exact HB.out | apply bA | apply bN | apply bD) | exact HB.out)⟩
  ·replace c6 := Bool.eq_false_iff.mpr c6
   subst c6; have H1 : (some false) = some r := by rw [if_neg (show ¬ (false = true) by decide)] at H; exact H
   clear H; have H := H1; clear H1; obtain rfl := Option.some.inj H
   go_enter Try.func7, Try.ntmps7
   go_wp2_with (first | ((with_reducible refine gate_callee (f := 26) rfl ?_); refine goesL_ (some 15) rfl rfl Try.func26 (by kernel_rfl) rfl #[] rfl (by (try simp only [mT, mC, mN]); first | done | rfl | (simp only [List.length_drop, List.length_take]; rfl)) ?_; (with_reducible refine (wristbandlaw01_awake.calls k  false _ A5.out).mono ?_); rintro e w98 ⟨rfl, hb⟩; refine ⟨_, rfl, ?_⟩; have n0_ := Aside0.mk (below_step (by repeat (first | (with_reducible first | exact HB.out | apply bA | apply bN | apply bD) | exact HB.out)) hb); clear HB; have HB := n0_; clear n0_; (try clear hb); (try clear hb2); (try clear hk); (try clear hi)))
   go_ret
   exact ⟨by first | rfl | (simp [errW_none, errW_some] <;> rfl) | (simp [*, errW_none, errW_some] <;> rfl), by repeat (first | (with_reducible first | exact HB.out | apply bA | apply bN | apply bD) | exact HB.out)⟩

/-- THE ONE PURE STATEMENT of wristbandlaw01_WordBack: yours. -/
def wristbandlaw01_WordBack.Pure : Prop := ∀ (l0 : List Int) (l1 : List Int) (a2 : Int) (a3 : Int), l0.length ≤ maxLen → l0.length * 1 ≤ 140737488351232 → (∀ x ∈ l0, (Lit.int .u8 x).wf = true) → l1.length ≤ maxLen → l1.length * 4 ≤ 140737488351232 → (∀ x ∈ l1, (Lit.int .u32 x).wf = true) → (Lit.int .u64 a2).wf = true → (Lit.int .u64 a3).wf = true → ∃ k, wristbandlaw01_WordBack.f k l0 l1 a2 a3 = some true
theorem wristbandlaw01_WordBack.walk (P : wristbandlaw01_WordBack.Pure) (a0 : Option Addr) (len0 cap0 : Nat) (z0 : List Int) (a1 : Option Addr) (len1 cap1 : Nat) (z1 : List Int) (a2 : Int) (a3 : Int) (w : World) (w0 : (a0 = none ∧ len0 = 0 ∧ cap0 = 0 ∧ z0 = []) ∨ ∃ x, a0 = some x ∧ len0 ≤ cap0 ∧ cap0 ≤ maxLen ∧ z0.length = cap0 ∧ (∀ i, i < z0.length → w.cell? (x.add i) = some (.int .u8 (z0.getD i 0))) ∧ ∀ n ∈ z0, (Lit.int .u8 n).wf = true) (y0 : len0 * 1 ≤ 140737488351232) (w1 : (a1 = none ∧ len1 = 0 ∧ cap1 = 0 ∧ z1 = []) ∨ ∃ x, a1 = some x ∧ len1 ≤ cap1 ∧ cap1 ≤ maxLen ∧ z1.length = cap1 ∧ (∀ i, i < z1.length → w.cell? (x.add i) = some (.int .u32 (z1.getD i 0))) ∧ ∀ n ∈ z1, (Lit.int .u32 n).wf = true) (y1 : len1 * 4 ≤ 140737488351232) (w2 : (Lit.int .u64 a2).wf = true) (w3 : (Lit.int .u64 a3).wf = true) :
   Calls Try.prog 7 #[.slice a0 len0 cap0, .slice a1 len1 cap1, .int .u64 a2, .int .u64 a3] w fun e w' => e = .returned (.bool true) ∧ Below w.heap.size w w' := by
  obtain ⟨l0, rfl, hr0, hm0, hw0, hc0⟩ := ReadsInt.ofRowC w0
  obtain ⟨l1, rfl, hr1, hm1, hw1, hc1⟩ := ReadsInt.ofRowC w1
  obtain ⟨k, h⟩ := P l0 l1 a2 a3 hm0 y0 hw0 hm1 y1 hw1 w2 w3
  refine (wristbandlaw01_WordBack.calls k _ _ l0 _ _ l1 a2 a3 true w (Kd.C_of_reads (d := (0 : Int)) (h1 := fun _ => rfl) hr0) hc0 (Kd.C_of_reads (d := (0 : Int)) (h1 := fun _ => rfl) hr1) hc1 h).mono ?_
  rintro e w' ⟨rfl, hd⟩
  exact ⟨rfl, hd⟩

end Go.Proofs.Ytnpkhkhlofkbhaa.PWordBack
