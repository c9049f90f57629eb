-- made by a program of this session (its printer) out of what Lean prints of the given program
import Derived.Test.YtnpkhkhlofkbhaaDoorPSlipRightx0
import Derived.Test.YtnpkhkhlofkbhaaDoorPSlipRightx2
import Derived.Test.YtnpkhkhlofkbhaaDoorPSlipRightx3
import Derived.Test.YtnpkhkhlofkbhaaDoorPSlipRightx4
import Derived.Test.YtnpkhkhlofkbhaaDoorPSlipRightx6
namespace Go.Proofs.YtnpkhkhlofkbhaaDoor.PSlipRight
open Go.RowKit Go.Proofs.YtnpkhkhlofkbhaaDoorW.PrintWords Go.Proofs.YtnpkhkhlofkbhaaDoorW.PrintLast Go.Proofs.YtnpkhkhlofkbhaaDoorW.PrintMore
attribute [local go_sem] max2_int min2_int max_two min_two max_three min_three max_four min_four   -- for this text's walks alone
set_option linter.unusedVariables false
set_option linter.unusedSimpArgs false

/-! ### wristbandref18_Same: function 37 -/
def wristbandref18_Same.l0 : Nat → List (List Int) → List (List Int) → Int → Option (Bool)
  | 0, _, _, _ => none
  | k + 1, x0, x1, x5 => if x5 < (x0.length : Int) then (if 0 ≤ x5 then (if x5 < (x1.length : Int) then (if (strOfNums (rd_L2 x0 x5)).toList = (strOfNums (rd_L2 x1 x5)).toList then (wristbandref18_Same.l0 k x0 x1 (wrap64 (x5 + 1))) else (some false)) else (none)) else (none)) else (some true)
def wristbandref18_Same.f (k : Nat) (l0 : List (List Int)) (l1 : List (List Int)) : Option (Bool) := if (l0.length : Int) = (l1.length : Int) then (wristbandref18_Same.l0 k l0 l1 0) else (some false)
theorem wristbandref18_Same.mono_l : ∀ k, (∀ y0 y1 y2, LeO (wristbandref18_Same.l0 k y0 y1 y2) (wristbandref18_Same.l0 (k + 1) y0 y1 y2))
  | 0 => fun _ _ _ r h => by simp [wristbandref18_Same.l0] at h
  | k + 1 => by
   have ih0 := wristbandref18_Same.mono_l k
   ·intro y0 y1 y2
    unfold wristbandref18_Same.l0
    repeat' first
    | (with_reducible exact ih0 _ _ _)
    | (with_reducible exact LeO.refl _)
    | (with_reducible exact LeO.none _)
    | (with_reducible refine LeO.ite ?_ ?_)
    | (with_reducible refine LeO.bind ?_ (fun _ => ?_))
    | exact ih0 _ _ _
    | exact LeO.none _
    | refine LeO.ite ?_ ?_
    | refine LeO.bind ?_ (fun _ => ?_)
theorem wristbandref18_Same.mono : ∀ a0 a1 k, LeO (wristbandref18_Same.f k a0 a1) (wristbandref18_Same.f (k + 1) a0 a1) := by
  intro a0 a1 k; have ih0 := wristbandref18_Same.mono_l k
  unfold wristbandref18_Same.f
  repeat' first
    | (with_reducible exact ih0 _ _ _)
    | (with_reducible exact LeO.refl _)
    | (with_reducible exact LeO.none _)
    | (with_reducible refine LeO.ite ?_ ?_)
    | (with_reducible refine LeO.bind ?_ (fun _ => ?_))
    | exact ih0 _ _ _
    | exact LeO.none _
    | refine LeO.ite ?_ ?_
    | refine LeO.bind ?_ (fun _ => ?_)
set_option maxHeartbeats 8000000 in
set_option maxRecDepth 100000 in
theorem wristbandref18_Same.calls (k : Nat) (A0 : Option Addr) (c0 : Nat) (l0 : List (List Int)) (A1 : Option Addr) (c1 : Nat) (l1 : List (List Int)) (r : Bool) (w : World) (hr0 : Kd.C (Kd.slice 5 (Kd.int .u8)) w A0 l0.length l0) (hc0 : l0.length ≤ c0) (hr1 : Kd.C (Kd.slice 5 (Kd.int .u8)) w A1 l1.length l1) (hc1 : l1.length ≤ c1) (h : wristbandref18_Same.f k l0 l1 = some r) :
   Calls Tryd.prog 37 #[.slice A0 l0.length c0, .slice A1 l1.length c1] w fun e w' => e = .returned (.bool r) ∧ Drawn0 w w' := by
  have HR0 := Aside0.mk hr0; have HC0 := Aside0.mk hc0; clear hr0 hc0; have HR1 := Aside0.mk hr1; have HC1 := Aside0.mk hc1; clear hr1 hc1; have H : (if (l0.length : Int) = (l1.length : Int) then (wristbandref18_Same.l0 k l0 l1 0) else (some false)) = some r := h
  clear h; by_cases c3 : (l0.length : Int) = (l1.length : Int)
  ·rw [if_pos c3] at H
   have c3b0 : ((l0.length : Int) == (l1.length : Int)) = true := beq_iff_eq.mpr c3
   have c3b1 : ((l0.length : Int) != (l1.length : Int)) = false := bne_eq_false_iff_eq.mpr c3
   have c3b2 : (l0.length == l1.length) = true := by first | simpa using c3 | (simp at c3 ⊢; omega)
   clear c3; have H' := Aside0.mk H; clear H; go_enter Tryd.func37, Tryd.ntmps37
   go_wp2
   repeat (go_quiet (fail); try go_wp2)
   go_loopg [5] k (fun kq v5 w' => ∃ (x5_1 : Int), v5 = .int .i64 x5_1 ∧ Aside0 (wristbandref18_Same.l0 kq l0 l1 x5_1 = some r) ∧ Aside0 (kq ≤ k) ∧ Drawn0 w w')
   case atStart => exact ⟨(0), (by first | rfl | (simp; done) | (simp [*]; done)), H', ⟨Nat.le_refl _⟩, by repeat (first | exact Drawn0.refl _ | apply Drawn0.step)⟩
   case round =>
    clear H'; try clear c1
    try clear p2
    try clear c3
    try clear c3b0
    try clear c3b1
    try clear c3b2
    obtain ⟨x5_1, rfl, HA, HK1, ⟨m1, rfl⟩⟩ := hrel
    cases gk with
    | zero => exact absurd HA.out (by simp [wristbandref18_Same.l0])
    | succ k1 =>
     have H := HA.out
     clear HA; simp only [wristbandref18_Same.l0] at H
     by_cases c4 : x5_1 < (l0.length : Int)
     ·rw [if_pos c4] at H
      have c4b0 : decide (x5_1 < (l0.length : Int)) = true := decide_eq_true c4
      clear c4; by_cases c5 : 0 ≤ x5_1
      ·rw [if_pos c5] at H
       have c5b0 : decide (0 ≤ x5_1) = true := decide_eq_true c5
       clear c5; by_cases c6 : x5_1 < (l1.length : Int)
       ·rw [if_pos c6] at H
        have c6b0 : decide (x5_1 < (l1.length : Int)) = true := decide_eq_true c6
        clear c6; by_cases c7 : (strOfNums (rd_L2 l0 x5_1)).toList = (strOfNums (rd_L2 l1 x5_1)).toList
        ·rw [if_pos c7] at H
         have c7b0 : ((strOfNums (rd_L2 l0 x5_1)).toList == (strOfNums (rd_L2 l1 x5_1)).toList) = true := beq_iff_eq.mpr c7
         have c7b1 : ((strOfNums (rd_L2 l0 x5_1)).toList != (strOfNums (rd_L2 l1 x5_1)).toList) = false := bne_eq_false_iff_eq.mpr c7
         clear c7; have H' := Aside0.mk H; clear H; have p380 : 0 ≤ (x5_1 : Int) := of_decide_eq_true (by first | (with_reducible assumption) | assumption)
         have q380 : x5_1 < (l0.length : Int) := of_decide_eq_true (by first | (with_reducible assumption) | assumption)
         obtain ⟨ad380, A380_0, c380_0, e380, hx380_0, hl380_0, hi380_0⟩ := at_L2 HR0.out x5_1 p380 q380
         cases e380
         have HR380_0 := Aside0.mk hi380_0; have HC380_0 := Aside0.mk hl380_0; clear hi380_0 hl380_0; replace p380 := eq_true p380
         replace q380 := eq_true q380
         have hcv8 := Kd.C_string (P := Tryd.prog) (A := A380_0) (c := c380_0) Tryd.underlying24 Tryd.underlying5 Tryd.underlying9 HR380_0.out
         have hcv8q := fun n_ : Nat => Kd.C_string (P := Tryd.prog) (A := A380_0) (c := c380_0) Tryd.underlying24 Tryd.underlying5 Tryd.underlying9 (Kd.C_drewN HR380_0.out n_)
         have p381 : 0 ≤ (x5_1 : Int) := of_decide_eq_true (by first | (with_reducible assumption) | assumption)
         have q381 : x5_1 < (l1.length : Int) := of_decide_eq_true (by first | (with_reducible assumption) | assumption)
         obtain ⟨ad381, A381_0, c381_0, e381, hx381_0, hl381_0, hi381_0⟩ := at_L2 HR1.out x5_1 p381 q381
         cases e381
         have HR381_0 := Aside0.mk hi381_0; have HC381_0 := Aside0.mk hl381_0; clear hi381_0 hl381_0; replace p381 := eq_true p381
         replace q381 := eq_true q381
         have hcv9 := Kd.C_string (P := Tryd.prog) (A := A381_0) (c := c381_0) Tryd.underlying24 Tryd.underlying5 Tryd.underlying9 HR381_0.out
         have hcv9q := fun n_ : Nat => Kd.C_string (P := Tryd.prog) (A := A381_0) (c := c381_0) Tryd.underlying24 Tryd.underlying5 Tryd.underlying9 (Kd.C_drewN HR381_0.out n_)
         go_wp2
         repeat (go_quiet (fail); try go_wp2)
         go_roundg k1
         case measure => have := HK1.out; omega
         case rel => exact ⟨(wrap64 (x5_1 + 1)), (by first | rfl | (simp; done) | (simp [*]; done)), H', ⟨by have := HK1.out; omega⟩, by repeat (first | exact Drawn0.refl _ | apply Drawn0.step)⟩
        ·rw [if_neg c7] at H
         have c7b0 : ((strOfNums (rd_L2 l0 x5_1)).toList == (strOfNums (rd_L2 l1 x5_1)).toList) = false := beq_eq_false_iff_ne.mpr c7
         have c7b1 : ((strOfNums (rd_L2 l0 x5_1)).toList != (strOfNums (rd_L2 l1 x5_1)).toList) = true := bne_iff_ne.mpr c7
         obtain rfl := Option.some.inj H
         have p380 : 0 ≤ (x5_1 : Int) := of_decide_eq_true (by first | (with_reducible assumption) | assumption)
         have q380 : x5_1 < (l0.length : Int) := of_decide_eq_true (by first | (with_reducible assumption) | assumption)
         obtain ⟨ad380, A380_0, c380_0, e380, hx380_0, hl380_0, hi380_0⟩ := at_L2 HR0.out x5_1 p380 q380
         cases e380
         have HR380_0 := Aside0.mk hi380_0; have HC380_0 := Aside0.mk hl380_0; clear hi380_0 hl380_0; replace p380 := eq_true p380
         replace q380 := eq_true q380
         have hcv10 := Kd.C_string (P := Tryd.prog) (A := A380_0) (c := c380_0) Tryd.underlying24 Tryd.underlying5 Tryd.underlying9 HR380_0.out
         have hcv10q := fun n_ : Nat => Kd.C_string (P := Tryd.prog) (A := A380_0) (c := c380_0) Tryd.underlying24 Tryd.underlying5 Tryd.underlying9 (Kd.C_drewN HR380_0.out n_)
         have p381 : 0 ≤ (x5_1 : Int) := of_decide_eq_true (by first | (with_reducible assumption) | assumption)
         have q381 : x5_1 < (l1.length : Int) := of_decide_eq_true (by first | (with_reducible assumption) | assumption)
         obtain ⟨ad381, A381_0, c381_0, e381, hx381_0, hl381_0, hi381_0⟩ := at_L2 HR1.out x5_1 p381 q381
         cases e381
         have HR381_0 := Aside0.mk hi381_0; have HC381_0 := Aside0.mk hl381_0; clear hi381_0 hl381_0; replace p381 := eq_true p381
         replace q381 := eq_true q381
         have hcv11 := Kd.C_string (P := Tryd.prog) (A := A381_0) (c := c381_0) Tryd.underlying24 Tryd.underlying5 Tryd.underlying9 HR381_0.out
         have hcv11q := fun n_ : Nat => Kd.C_string (P := Tryd.prog) (A := A381_0) (c := c381_0) Tryd.underlying24 Tryd.underlying5 Tryd.underlying9 (Kd.C_drewN HR381_0.out n_)
         go_wp2
         repeat (go_quiet (fail); try go_wp2)
         go_ret
         exact ⟨by first | rfl | (simp; done) | (simp [*]; done), by repeat (first | exact Drawn0.refl _ | apply Drawn0.step)⟩
       ·rw [if_neg c6] at H
        exact absurd H (by simp)
      ·rw [if_neg c5] at H
       exact absurd H (by simp)
     ·rw [if_neg c4] at H
      have c4b0 : decide (x5_1 < (l0.length : Int)) = false := decide_eq_false c4
      clear c4; obtain rfl := Option.some.inj H
      go_wp2
      repeat (go_quiet (fail); try go_wp2)
      go_ret
      exact ⟨by first | rfl | (simp; done) | (simp [*]; done), by repeat (first | exact Drawn0.refl _ | apply Drawn0.step)⟩
  ·rw [if_neg c3] at H
   have c3b0 : ((l0.length : Int) == (l1.length : Int)) = false := beq_eq_false_iff_ne.mpr c3
   have c3b1 : ((l0.length : Int) != (l1.length : Int)) = true := bne_iff_ne.mpr c3
   have c3b2 : (l0.length == l1.length) = false := by first | simpa using c3 | (simp at c3 ⊢; omega)
   obtain rfl := Option.some.inj H
   go_enter Tryd.func37, Tryd.ntmps37
   go_wp2
   repeat (go_quiet (fail); try go_wp2)
   go_ret
   exact ⟨by first | rfl | (simp; done) | (simp [*]; done), by repeat (first | exact Drawn0.refl _ | apply Drawn0.step)⟩

/-! ### wristbandlaw18_SlipRight: function 8 -/
def wristbandlaw18_SlipRight.j0 : Nat → List Int → List Int → Bool → Option (Bool)
  | 0, _, _, _ => none
  | k + 1, x0, x1, x20 => if x20 = true then (some true) else ((slip_Put.f k x0).bind fun bt383 => ((slip_Row.f k x1).bind fun bt387 => ((wristbandref18_Row.f k x1).bind fun bt391 => (if bt383.2 = 0 then ((wristbandref18_Put.f k x0).bind fun t395 => (if (strOfNums bt383.1).toList = (strOfNums t395).toList then ((wristbandref18_Same.f k bt387.1 bt391.1).bind fun t398 => (if t398 = true then (if bt387.2 = bt391.2 then ((slip_Whole.f k x1).bind fun t399 => (some (t399 == (bt391.2 == (x1.length : Int))))) else (some false)) else (some false))) else (some false))) else (some false)))))
def wristbandlaw18_SlipRight.f (k : Nat) (l0 : List Int) (l1 : List Int) : Option (Bool) := (wristbandlaw18_awake.f k).bind fun t382 => (if t382 = true then (if (l0.length : Int) > 3000 then (wristbandlaw18_SlipRight.j0 k l0 l1 true) else (wristbandlaw18_SlipRight.j0 k l0 l1 (decide ((l1.length : Int) > 3000)))) else (some false))
theorem wristbandlaw18_SlipRight.mono_l : ∀ k, (∀ y0 y1 y2, LeO (wristbandlaw18_SlipRight.j0 k y0 y1 y2) (wristbandlaw18_SlipRight.j0 (k + 1) y0 y1 y2))
  | 0 => fun _ _ _ r h => by simp [wristbandlaw18_SlipRight.j0] at h
  | k + 1 => by
   have ih0 := wristbandlaw18_SlipRight.mono_l k
   ·intro y0 y1 y2
    unfold wristbandlaw18_SlipRight.j0
    repeat' first
    | (with_reducible exact ih0 _ _ _)
    | (with_reducible exact slip_Put.mono _ _)
    | (with_reducible exact slip_Row.mono _ _)
    | (with_reducible exact slip_Whole.mono _ _)
    | (with_reducible exact wristbandlaw18_awake.mono _)
    | (with_reducible exact wristbandref18_Put.mono _ _)
    | (with_reducible exact wristbandref18_Row.mono _ _)
    | (with_reducible exact wristbandref18_Same.mono _ _ _)
    | (with_reducible exact LeO.refl _)
    | (with_reducible exact LeO.none _)
    | (with_reducible refine LeO.ite ?_ ?_)
    | (with_reducible refine LeO.bind ?_ (fun _ => ?_))
    | exact ih0 _ _ _
    | exact slip_Put.mono _ _
    | exact slip_Row.mono _ _
    | exact slip_Whole.mono _ _
    | exact wristbandlaw18_awake.mono _
    | exact wristbandref18_Put.mono _ _
    | exact wristbandref18_Row.mono _ _
    | exact wristbandref18_Same.mono _ _ _
    | exact LeO.none _
    | refine LeO.ite ?_ ?_
    | refine LeO.bind ?_ (fun _ => ?_)
theorem wristbandlaw18_SlipRight.mono : ∀ a0 a1 k, LeO (wristbandlaw18_SlipRight.f k a0 a1) (wristbandlaw18_SlipRight.f (k + 1) a0 a1) := by
  intro a0 a1 k; have ih0 := wristbandlaw18_SlipRight.mono_l k
  unfold wristbandlaw18_SlipRight.f
  repeat' first
    | (with_reducible exact ih0 _ _ _)
    | (with_reducible exact slip_Put.mono _ _)
    | (with_reducible exact slip_Row.mono _ _)
    | (with_reducible exact slip_Whole.mono _ _)
    | (with_reducible exact wristbandlaw18_awake.mono _)
    | (with_reducible exact wristbandref18_Put.mono _ _)
    | (with_reducible exact wristbandref18_Row.mono _ _)
    | (with_reducible exact wristbandref18_Same.mono _ _ _)
    | (with_reducible exact LeO.refl _)
    | (with_reducible exact LeO.none _)
    | (with_reducible refine LeO.ite ?_ ?_)
    | (with_reducible refine LeO.bind ?_ (fun _ => ?_))
    | exact ih0 _ _ _
    | exact slip_Put.mono _ _
    | exact slip_Row.mono _ _
    | exact slip_Whole.mono _ _
    | exact wristbandlaw18_awake.mono _
    | exact wristbandref18_Put.mono _ _
    | exact wristbandref18_Row.mono _ _
    | exact wristbandref18_Same.mono _ _ _
    | exact LeO.none _
    | refine LeO.ite ?_ ?_
    | refine LeO.bind ?_ (fun _ => ?_)
def wristbandlaw18_SlipRight.T8 : Bool × List (List Nat × List Nat) := (true, [([], []), ([0], [0]), ([1], [1]), ([2], [2]), ([3, 2], [2, 3]), ([2], [2]), ([5, 2, 2], [2, 5]), ([6, 2], [2, 6]), ([4, 7, 2], [2, 4, 7]), ([2, 8], [2, 8]), ([9, 6], [9]), ([10], [10]), ([10], [10]), ([11, 12, 10, 10], [10, 11, 12]), ([10, 13], [10, 13]), ([14, 13], [14]), ([15], [15]), ([15], [15]), ([16, 17, 15], [15, 16, 17]), ([15, 18], [15, 18]), ([19, 15], [19]), ([20], [20]), ([21, 20, 20], [20, 21]), ([20], [20]), ([20], [20]), ([24, 20], [20, 24]), ([23, 25, 20], [20, 23, 25]), ([22, 26, 20], [20, 22, 26]), ([20, 27], [20, 27]), ([28, 22, 0, 1, 2, 3, 4, 5, 6, 7, 8, 9, 10, 11, 12, 13, 14, 15, 16, 17, 18, 19, 20, 21, 22, 23, 24, 25, 26, 27, 28], [28])])
def wristbandlaw18_SlipRight.B8 : List Nat := [0, 1, 3, 7, 15, 7, 39, 103, 255, 511, 1023, 2047, 2047, 8191, 16383, 32767, 65535, 65535, 262143, 524287, 1048575, 2097151, 4194303, 2097151, 2097151, 18874367, 60817407, 134217727, 268435455, 536870911]
theorem wristbandlaw18_SlipRight.tab8 : rtab .any (opsOf Tryd.f8 8) = wristbandlaw18_SlipRight.T8 := by kernel_rfl
theorem wristbandlaw18_SlipRight.bits8 : waitsOk wristbandlaw18_SlipRight.T8.2 wristbandlaw18_SlipRight.B8 = true := by kernel_rfl
set_option maxHeartbeats 8000000 in
set_option maxRecDepth 100000 in
theorem wristbandlaw18_SlipRight.calls (k : Nat) (A0 : Option Addr) (c0 : Nat) (l0 : List Int) (A1 : Option Addr) (c1 : Nat) (l1 : List Int) (r : Bool) (w : World) (hr0 : Kd.C (Kd.int .u8) w A0 l0.length l0) (hc0 : l0.length ≤ c0) (hr1 : Kd.C (Kd.int .u8) w A1 l1.length l1) (hc1 : l1.length ≤ c1) (hL0_ : Kd.C (Kd.int .u32) w (some ⟨0, 0, none⟩) 64 shaK) (hL1_ : Kd.C (Kd.int .u32) w (some ⟨1, 0, none⟩) 8 shaF) (h : wristbandlaw18_SlipRight.f k l0 l1 = some r) (hT_ : r = true) :
   Calls Tryd.prog 8 #[.slice A0 l0.length c0, .slice A1 l1.length c1] w fun e w' => e = .returned (.bool r) ∧ Below w.heap.size w w' := by
  have HR0 := Aside0.mk hr0; have HC0 := Aside0.mk hc0; clear hr0 hc0; have HR1 := Aside0.mk hr1; have HC1 := Aside0.mk hc1; clear hr1 hc1; have HRL0_ := Aside0.mk hL0_; have HRL1_ := Aside0.mk hL1_; clear hL0_ hL1_; have HB := Aside0.mk (Below.refl w.heap.size w); have HR_ := Aside0.mk hT_; clear hT_; have H : ((wristbandlaw18_awake.f k).bind fun t382 => (if t382 = true then (if (l0.length : Int) > 3000 then (wristbandlaw18_SlipRight.j0 k l0 l1 true) else (wristbandlaw18_SlipRight.j0 k l0 l1 (decide ((l1.length : Int) > 3000)))) else (some false))) = some r := h
  clear h; replace H := Option.bind_eq_some_iff.mp H
  obtain ⟨t382, A30, H⟩ := H
  replace H : (if t382 = true then (if (l0.length : Int) > 3000 then (wristbandlaw18_SlipRight.j0 k l0 l1 true) else (wristbandlaw18_SlipRight.j0 k l0 l1 (decide ((l1.length : Int) > 3000)))) else (some false)) = some r := H
  have A3 := Aside0.mk A30; clear A30; by_cases c4 : t382 = true
  ·subst c4
   have H1 : (if (l0.length : Int) > 3000 then (wristbandlaw18_SlipRight.j0 k l0 l1 true) else (wristbandlaw18_SlipRight.j0 k l0 l1 (decide ((l1.length : Int) > 3000)))) = some r := by rw [if_pos rfl] at H; exact H
   clear H; have H := H1; clear H1; have HC5 := Aside0.mk H; clear H; go_enter Tryd.func8, Tryd.ntmps8
   go_upto_region 3 with (first | ((with_reducible refine gate_callee (f := 32) rfl ?_); refine goesL_ (some 11) rfl rfl Tryd.func32 (by kernel_rfl) rfl #[] rfl (by (try simp only [mT, mC, mN]); first | done | rfl | (simp only [List.length_drop, List.length_take]; rfl)) ?_; (with_reducible refine (wristbandlaw18_awake.calls k  true _ ?side1 ?side2 A3.out).mono ?_); (case side1 => repeat (first | exact HRL0_.out | (with_reducible refine Kd.C_alloc ?_ _) | (with_reducible refine Kd.C_drewN ?_ _) | (with_reducible refine Kd.C_drew ?_))); (case side2 => repeat (first | exact HRL1_.out | (with_reducible refine Kd.C_alloc ?_ _) | (with_reducible refine Kd.C_drewN ?_ _) | (with_reducible refine Kd.C_drew ?_))); rintro e w6 ⟨rfl, hb⟩; refine ⟨_, rfl, ?_⟩; have n0_ := Aside0.mk (below_step (by repeat (first | (with_reducible first | exact HB.out | apply bA | apply bN | apply bD) | exact HB.out)) hb); clear HB; have HB := n0_; clear n0_; (try clear hb); (try clear hb2); (try clear hk); (try clear hi)))
   (try simp only [Act.put, sA, s0, sS])
   go_cut [20] (fun v20 wc => ∃ (kq : Nat) (x20_4 : Bool), v20 = .bool x20_4 ∧ Aside0 (wristbandlaw18_SlipRight.j0 kq l0 l1 x20_4 = some r) ∧ Aside0 (kq ≤ k) ∧ Aside0 (Below w.heap.size w wc))
   case first =>
    have H := HC5.out
    clear HC5; by_cases c7 : (l0.length : Int) > 3000
    ·rw [if_pos c7] at H
     have c7b0 : decide (3000 < (l0.length : Int)) = true := decide_eq_true c7
     have c7b1 : decide (3000 < l0.length) = true := decide_eq_true (by omega)
     clear c7; (first | rw [c7b0] | (simp only [i64_w, i32_w]; rw [c7b0]) | skip); have H' := Aside0.mk H; clear H; go_wp2
     go_meet
     case rel => exact ⟨_, (true), (by first | rfl | (simp; done) | (simp [*]; done)), H', ⟨by first | omega | exact Nat.le_refl _⟩, ⟨by repeat (first | (with_reducible first | exact HB.out | apply bA | apply bN | apply bD) | exact HB.out)⟩⟩
    ·rw [if_neg c7] at H
     have c7b0 : decide (3000 < (l0.length : Int)) = false := decide_eq_false c7
     have c7b1 : decide (3000 < l0.length) = false := decide_eq_false (by omega)
     clear c7; (first | rw [c7b0] | (simp only [i64_w, i32_w]; rw [c7b0]) | skip); have H' := Aside0.mk H; clear H; go_wp2
     go_meet
     case rel => exact ⟨_, (decide ((l1.length : Int) > 3000)), (by first | rfl | (simp; done) | (simp [*]; done)), H', ⟨by first | omega | exact Nat.le_refl _⟩, ⟨by repeat (first | (with_reducible first | exact HB.out | apply bA | apply bN | apply bD) | exact HB.out)⟩⟩
   case rest =>
    clear HC5; try clear c1
    try clear p2
    try clear c3
    try clear c4
    try clear c7
    try clear c7b0
    try clear c7b1
    obtain ⟨kq, x20_4, rfl, HA, HJ4, HB⟩ := hcut
    cases kq with
    | zero => exact absurd HA.out (by simp [wristbandlaw18_SlipRight.j0])
    | succ kj4 =>
     have H := HA.out
     clear HA; simp only [wristbandlaw18_SlipRight.j0] at H
     by_cases c8 : x20_4 = true
     ·subst c8
      have H1 : (some true) = some r := by rw [if_pos rfl] at H; exact H
      clear H; have H := H1; clear H1; obtain rfl := Option.some.inj H
      go_wp2
      go_ret
      exact ⟨by first | rfl | (simp [errW_none, errW_some] <;> rfl) | (simp [*, errW_none, errW_some] <;> rfl), by repeat (first | (with_reducible first | exact HB.out | apply bA | apply bN | apply bD) | exact HB.out)⟩
     ·replace c8 := Bool.eq_false_iff.mpr c8
      subst c8; have H1 : ((slip_Put.f kj4 l0).bind fun bt383 => ((slip_Row.f kj4 l1).bind fun bt387 => ((wristbandref18_Row.f kj4 l1).bind fun bt391 => (if bt383.2 = 0 then ((wristbandref18_Put.f kj4 l0).bind fun t395 => (if (strOfNums bt383.1).toList = (strOfNums t395).toList then ((wristbandref18_Same.f kj4 bt387.1 bt391.1).bind fun t398 => (if t398 = true then (if bt387.2 = bt391.2 then ((slip_Whole.f kj4 l1).bind fun t399 => (some (t399 == (bt391.2 == (l1.length : Int))))) else (some false)) else (some false))) else (some false))) else (some false))))) = some r := by rw [if_neg (show ¬ (false = true) by decide)] at H; exact H
      clear H; have H := H1; clear H1; replace H := Option.bind_eq_some_iff.mp H
      obtain ⟨⟨t383, t386⟩, A90, H⟩ := H
      replace H : ((slip_Row.f kj4 l1).bind fun bt387 => ((wristbandref18_Row.f kj4 l1).bind fun bt391 => (if t386 = 0 then ((wristbandref18_Put.f kj4 l0).bind fun t395 => (if (strOfNums t383).toList = (strOfNums t395).toList then ((wristbandref18_Same.f kj4 bt387.1 bt391.1).bind fun t398 => (if t398 = true then (if bt387.2 = bt391.2 then ((slip_Whole.f kj4 l1).bind fun t399 => (some (t399 == (bt391.2 == (l1.length : Int))))) else (some false)) else (some false))) else (some false))) else (some false)))) = some r := H
      have A9 := Aside0.mk A90; clear A90; replace H := Option.bind_eq_some_iff.mp H
      obtain ⟨⟨t387, t390⟩, A100, H⟩ := H
      replace H : ((wristbandref18_Row.f kj4 l1).bind fun bt391 => (if t386 = 0 then ((wristbandref18_Put.f kj4 l0).bind fun t395 => (if (strOfNums t383).toList = (strOfNums t395).toList then ((wristbandref18_Same.f kj4 t387 bt391.1).bind fun t398 => (if t398 = true then (if t390 = bt391.2 then ((slip_Whole.f kj4 l1).bind fun t399 => (some (t399 == (bt391.2 == (l1.length : Int))))) else (some false)) else (some false))) else (some false))) else (some false))) = some r := H
      have A10 := Aside0.mk A100; clear A100; replace H := Option.bind_eq_some_iff.mp H
      obtain ⟨⟨t391, t392⟩, A110, H⟩ := H
      replace H : (if t386 = 0 then ((wristbandref18_Put.f kj4 l0).bind fun t395 => (if (strOfNums t383).toList = (strOfNums t395).toList then ((wristbandref18_Same.f kj4 t387 t391).bind fun t398 => (if t398 = true then (if t390 = t392 then ((slip_Whole.f kj4 l1).bind fun t399 => (some (t399 == (t392 == (l1.length : Int))))) else (some false)) else (some false))) else (some false))) else (some false)) = some r := H
      have A11 := Aside0.mk A110; clear A110; by_cases c12 : t386 = 0
      ·rw [if_pos c12] at H
       have c12b0 : (t386 == 0) = true := beq_iff_eq.mpr c12
       have c12b1 : (t386 != 0) = false := bne_eq_false_iff_eq.mpr c12
       clear c12; replace H := Option.bind_eq_some_iff.mp H
       obtain ⟨t395, A130, H⟩ := H
       replace H : (if (strOfNums t383).toList = (strOfNums t395).toList then ((wristbandref18_Same.f kj4 t387 t391).bind fun t398 => (if t398 = true then (if t390 = t392 then ((slip_Whole.f kj4 l1).bind fun t399 => (some (t399 == (t392 == (l1.length : Int))))) else (some false)) else (some false))) else (some false)) = some r := H
       have A13 := Aside0.mk A130; clear A130; by_cases c14 : (strOfNums t383).toList = (strOfNums t395).toList
       ·rw [if_pos c14] at H
        have c14b0 : ((strOfNums t383).toList == (strOfNums t395).toList) = true := beq_iff_eq.mpr c14
        have c14b1 : ((strOfNums t383).toList != (strOfNums t395).toList) = false := bne_eq_false_iff_eq.mpr c14
        clear c14; replace H := Option.bind_eq_some_iff.mp H
        obtain ⟨t398, A150, H⟩ := H
        replace H : (if t398 = true then (if t390 = t392 then ((slip_Whole.f kj4 l1).bind fun t399 => (some (t399 == (t392 == (l1.length : Int))))) else (some false)) else (some false)) = some r := H
        have A15 := Aside0.mk A150; clear A150; by_cases c16 : t398 = true
        ·subst c16
         have H1 : (if t390 = t392 then ((slip_Whole.f kj4 l1).bind fun t399 => (some (t399 == (t392 == (l1.length : Int))))) else (some false)) = some r := by rw [if_pos rfl] at H; exact H
         clear H; have H := H1; clear H1; by_cases c17 : t390 = t392
         ·rw [if_pos c17] at H
          have c17b0 : (t390 == t392) = true := beq_iff_eq.mpr c17
          have c17b1 : (t390 != t392) = false := bne_eq_false_iff_eq.mpr c17
          clear c17; replace H := Option.bind_eq_some_iff.mp H
          obtain ⟨t399, A180, H⟩ := H
          replace H : (some (t399 == (t392 == (l1.length : Int)))) = some r := H
          have A18 := Aside0.mk A180; clear A180; obtain rfl := Option.some.inj H
          try go_wp2_with (first | ((with_reducible refine gate_callee (f := 33) rfl ?_); refine goesL_ (some 23) rfl rfl Tryd.func33 (by kernel_rfl) rfl #[.slice A0 l0.length c0] rfl (by (try simp only [mT, mC, mN]); first | done | rfl | (simp only [List.length_drop, List.length_take]; rfl)) ?_; (with_reducible refine (slip_Put.calls kj4 (fun k_ => k_ < w.heap.size) _ _ l0 t383 t386 _ ?side1 ?side2 ?side3 A9.out).mono ?_); (case side1 => exact Kd.V_mk HC0.out (Kd.F_below (Kd.C_F (Kd.heap_int .u8) HR0.out) (by repeat (first | (with_reducible first | exact HB.out | apply bA | apply bN | apply bD) | exact HB.out)))); (case side2 => repeat (first | exact (Kd.C_below HRL0_.out HB.out) | (with_reducible refine Kd.C_alloc ?_ _) | (with_reducible refine Kd.C_drewN ?_ _) | (with_reducible refine Kd.C_drew ?_))); (case side3 => repeat (first | exact (Kd.C_below HRL1_.out HB.out) | (with_reducible refine Kd.C_alloc ?_ _) | (with_reducible refine Kd.C_drewN ?_ _) | (with_reducible refine Kd.C_drew ?_))); rintro e w19 ⟨v384, rfl, ho0, hb⟩; refine ⟨_, rfl, ?_⟩; have n0_ := Aside0.mk (Kd.R_lower (Kd.R_mono (ok' := fun k_ => True) ho0 (fun _ hk_ => trivial)) (below_size (by repeat (first | (with_reducible first | exact HB.out | apply bA | apply bN | apply bD) | exact HB.out)))); have n1_ := Aside0.mk (below_step (by repeat (first | (with_reducible first | exact HB.out | apply bA | apply bN | apply bD) | exact HB.out)) hb); clear HB; have HO385 := n0_; have HB := n1_; clear n0_ n1_; (try clear hb); (try clear hb2); (try clear hk); (try clear hi); (try clear ho0)) | ((with_reducible refine gate_callee (f := 34) rfl ?_); refine goesL_ (some 28) rfl rfl Tryd.func34 (by kernel_rfl) rfl #[.slice A1 l1.length c1] rfl (by (try simp only [mT, mC, mN]); first | done | rfl | (simp only [List.length_drop, List.length_take]; rfl)) ?_; (with_reducible refine (slip_Row.calls kj4 (fun k_ => k_ < w.heap.size) _ _ l1 t387 t390 _ ?side1 ?side2 ?side3 A10.out).mono ?_); (case side1 => exact Kd.V_mk HC1.out (Kd.F_below (Kd.C_F (Kd.heap_int .u8) HR1.out) (by repeat (first | (with_reducible first | exact HB.out | apply bA | apply bN | apply bD) | exact HB.out)))); (case side2 => repeat (first | exact (Kd.C_below HRL0_.out HB.out) | (with_reducible refine Kd.C_alloc ?_ _) | (with_reducible refine Kd.C_drewN ?_ _) | (with_reducible refine Kd.C_drew ?_))); (case side3 => repeat (first | exact (Kd.C_below HRL1_.out HB.out) | (with_reducible refine Kd.C_alloc ?_ _) | (with_reducible refine Kd.C_drewN ?_ _) | (with_reducible refine Kd.C_drew ?_))); rintro e w20 ⟨v388, rfl, ho0, hb⟩; refine ⟨_, rfl, ?_⟩; have n0_ := Aside0.mk (Kd.R_below (by (with_reducible repeat (first | apply rL | apply rN | apply rW)); exact HO385.out) hb); have n1_ := Aside0.mk (Kd.N_lower (Kd.N_mono (ok' := fun k_ => some k_ ≠ (v384 : Value).ownBlock) ho0 (fun k_ hk_ => Or.elim hk_ (fun hs_ => fun e_ => Nat.not_le.2 hs_ (Kd.R_base HO385.out k_ e_.symm)) (fun hn_ => (Kd.fresh' (Kd.R_lt (by (with_reducible repeat (first | apply rL | apply rN | apply rW)); exact HO385.out)) k_ hn_)))) (below_size (by repeat (first | (with_reducible first | exact HB.out | apply bA | apply bN | apply bD) | exact HB.out)))); have n2_ := Aside0.mk (below_step (by repeat (first | (with_reducible first | exact HB.out | apply bA | apply bN | apply bD) | exact HB.out)) hb); clear HO385; clear HB; have HO385 := n0_; have HO389 := n1_; have HB := n2_; clear n0_ n1_ n2_; (try clear hb); (try clear hb2); (try clear hk); (try clear hi); (try clear ho0)) | ((with_reducible refine gate_callee (f := 35) rfl ?_); refine goesL_ (some 33) rfl rfl Tryd.func35 (by kernel_rfl) rfl #[.slice A1 l1.length c1] rfl (by (try simp only [mT, mC, mN]); first | done | rfl | (simp only [List.length_drop, List.length_take]; rfl)) ?_; (with_reducible refine (wristbandref18_Row.calls kj4 _ _ l1 t391 t392 _ ?side1 ?side2 A11.out).mono ?_); (case side1 => repeat (first | exact (Kd.C_below HR1.out HB.out) | (with_reducible refine Kd.C_alloc ?_ _) | (with_reducible refine Kd.C_drewN ?_ _) | (with_reducible refine Kd.C_drew ?_))); (case side2 => exact HC1.out); rintro e w21 ⟨v393, rfl, ho0, hb⟩; refine ⟨_, rfl, ?_⟩; have n0_ := Aside0.mk (Kd.R_below (by (with_reducible repeat (first | apply rL | apply rN | apply rW)); exact HO385.out) hb); have n1_ := Aside0.mk (Kd.N_elder' (by (with_reducible repeat (first | apply Kd.N_alloc | apply Kd.N_drewN | apply Kd.N_drew)); exact HO389.out) (Kd.N_base (Kd.S_N ho0)) hb); have n2_ := Aside0.mk (Kd.N_lower (Kd.N_mono (ok' := fun k_ => some k_ ≠ (v384 : Value).ownBlock ∧ some k_ ≠ (v388 : Value).ownBlock) (Kd.S_N (Kd.S_bound ho0)) (fun k_ hk_ => ⟨(Kd.fresh' (Kd.R_lt (by (with_reducible repeat (first | apply rL | apply rN | apply rW)); exact HO385.out)) k_ hk_.2.1), (Kd.fresh' (Kd.N_lt (by (with_reducible repeat (first | apply Kd.N_alloc | apply Kd.N_drewN | apply Kd.N_drew)); exact HO389.out)) k_ hk_.2.1)⟩)) (below_size (by repeat (first | (with_reducible first | exact HB.out | apply bA | apply bN | apply bD) | exact HB.out)))); have n3_ := Aside0.mk (below_step (by repeat (first | (with_reducible first | exact HB.out | apply bA | apply bN | apply bD) | exact HB.out)) hb); clear HO385; clear HO389; clear HB; have HO385 := n0_; have HO389 := n1_; have HO394 := n2_; have HB := n3_; clear n0_ n1_ n2_ n3_; (try clear hb); (try clear hb2); (try clear hk); (try clear hi); (try clear ho0); obtain ⟨Ao22, co22, eo22⟩ := Kd.N_slice HO389.out; subst eo22; obtain ⟨Ao23, co23, eo23⟩ := Kd.N_slice HO394.out; subst eo23))
          have n0_ := Aside0.mk (Kd.R_drew HO385.out); have n1_ := Aside0.mk (Kd.N_drew HO389.out); have n2_ := Aside0.mk (Kd.N_drew HO394.out); have n3_ := Aside0.mk (below_drew1 HB.out); clear HO385; clear HO389; clear HO394; clear HB; have HO385 := n0_; have HO389 := n1_; have HO394 := n2_; have HB := n3_; clear n0_ n1_ n2_ n3_; refine start_ (n := 30) (S := fun w' => True) (ds := []) #[false, false, false, false, false, false, false, false, false, false, false, false, false, false, false, false, false, false, false, false, false, false, false, false, false, false, false, false, false, false] (by kernel_rfl) rfl rfl trivial (fun hHeld => ?_); refine with_tabW wristbandlaw18_SlipRight.tab8 wristbandlaw18_SlipRight.bits8 (fun HT_ HW_ => ?_)
          generalize w21.drew = w24 at HO385 HO389 HO394 HB hHeld ⊢
          refine pu_ 0 36 (rA [1,29]) HT_ (by kernel_rfl) rfl rfl (fun _ _ _ => id) (.inl ⟨by rfl, fun w' => by go_simp; with_reducible rfl⟩) (by simp only [Act.put, sA, s0, sS, i64_w, i32_w]; rfl) ?_
          refine pu_ 1 37 (rA [2,28]) HT_ (by kernel_rfl) rfl rfl (fun _ _ _ => id) (.inl ⟨by rfl, fun w' => by go_simp; with_reducible rfl⟩) (by simp only [Act.put, sA, s0, sS, i64_w, i32_w]; rfl) ?_
          refine pu_ 2 38 (rA [3,27]) HT_ (by kernel_rfl) rfl rfl (fun _ _ _ => id) (.inl ⟨by rfl, fun w' => by go_simp; with_reducible rfl⟩) (by simp only [Act.put, sA, s0, sS, i64_w, i32_w]; rfl) ?_
          refine pu_ 3 39 (rA [4,26]) HT_ (by kernel_rfl) rfl rfl (fun _ _ _ => id) (.inl ⟨by rfl, fun w' => by go_simp; with_reducible rfl⟩) (by simp only [Act.put, sA, s0, sS, i64_w, i32_w]; rfl) ?_
          refine pu_ 5 41 (rA [4,1,1,24]) HT_ (by kernel_rfl) rfl rfl (fun _ _ _ => id) (.inl ⟨by rfl, fun w' => by go_simp; with_reducible rfl⟩) (by simp only [Act.put, sA, s0, sS, i64_w, i32_w]; rfl) ?_
          refine join_ (σ := Value) 22 #[true, true, true, true, true, true, true, true, false, false, false, false, false, false, false, false, false, false, false, false, false, false, false, false, false, false, false, false, false, false] (fun s_ => [(40, .string (strOfNums t383)), (42, s_), (43, .string (strOfNums t395))]) (fun s_ w' => (Kd.R (Kd.int .u8) 5 w' w.heap.size (fun k_ => some k_ ≠ (s_ : Value).ownBlock) v384 t383) ∧ (Kd.N (Kd.slice 5 (Kd.int .u8)) 24 w' w.heap.size (fun k_ => some k_ ≠ (v384 : Value).ownBlock ∧ some k_ ≠ (.slice Ao23 t391.length co23 : Value).ownBlock ∧ some k_ ≠ (s_ : Value).ownBlock) (.slice Ao22 t387.length co22) t387) ∧ (Kd.N (Kd.slice 5 (Kd.int .u8)) 24 w' w.heap.size (fun k_ => some k_ ≠ (v384 : Value).ownBlock ∧ some k_ ≠ (.slice Ao22 t387.length co22 : Value).ownBlock ∧ some k_ ≠ (s_ : Value).ownBlock) (.slice Ao23 t391.length co23) t391) ∧ (Kd.R (Kd.int .u8) 5 w' w.heap.size (fun k_ => some k_ ≠ (v384 : Value).ownBlock) s_ t395) ∧ (Below w.heap.size w w')) ?_ ?_
          rotate_left
          ·intro hCont
           refine two_ (i := 4) (j := 6) (Ni := some 40) (Nj := some 42) #[true, true, true, true, true, true, false, false, false, false, false, false, false, false, false, false, false, false, false, false, false, false, false, false, false, false, false, false, false, false] #[true, true, true, true, false, true, true, false, false, false, false, false, false, false, false, false, false, false, false, false, false, false, false, false, false, false, false, false, false, false] rfl rfl rfl rfl (two_of HT_.out (by kernel_rfl)) (by decide) (by decide) (fun K hK => ?_) (fun K hK => ?_)
           ·skip
            refine str_step (src := 24) (dst := 9) (x := .tmp 39) ?hw ?ho ?hx (v := v384) (s := strOfNums t383) (by obtain ⟨A_, c_, rfl⟩ := Kd.R_slice HO385.out; exact Kd.C_string (P := Tryd.prog) (A := A_) (c := c_) Tryd.underlying24 Tryd.underlying5 Tryd.underlying9 (Kd.R_reads' (by (with_reducible repeat (first | apply rL | apply rN | apply rW)); exact HO385.out)).2.2) ?_
            case ho => rfl
            case hw => first | rfl | (simp [Region.wanted, yielded, *]; done)
            case hx => first | rfl | (simp only [Act.eval, gD, oG, e39]; done)
            intro w25 hb; have n0_ := Aside0.mk (Kd.R_below (by (with_reducible repeat (first | apply rL | apply rN | apply rW)); exact HO385.out) hb)
            have n1_ := Aside0.mk (Kd.N_below (by (with_reducible repeat (first | apply Kd.N_alloc | apply Kd.N_drewN | apply Kd.N_drew)); exact HO389.out) hb); have n2_ := Aside0.mk (Kd.N_below (by (with_reducible repeat (first | apply Kd.N_alloc | apply Kd.N_drewN | apply Kd.N_drew)); exact HO394.out) hb); have n3_ := Aside0.mk (below_step (by repeat (first | (with_reducible first | exact HB.out | apply bA | apply bN | apply bD) | exact HB.out)) hb); clear HO385; clear HO389; clear HO394; clear HB; have HO385 := n0_; have HO389 := n1_; have HO394 := n2_; have HB := n3_; clear n0_ n1_ n2_ n3_; (try clear hb); refine hK.out _ _ trivial (fun hHeld => ?_)
            clear hK K; refine norm_ (a' := ?_) ?_ ?_
            rotate_left
            ·show Act.put _ (some 40) _ = _
             simp only [Act.put, sA, s0, sS, i64_w, i32_w]
             rfl
            refine one_ (i := 6) (N := some 42) (rA [7,23]) rfl rfl (one_of HT_.out (by kernel_rfl)) (by decide) (fun K hK => ?_)
            refine goes_ Tryd.func36 (by kernel_rfl) rfl #[.slice A0 l0.length c0] (by first | rfl | (simp [Region.wanted, yielded, *]; done)) rfl rfl (by (try simp only [mT, mC, mN]); first | done | rfl | (simp only [Act.eval, gD, oG, e41]; done) | (simp only [List.length_drop, List.length_take]; rfl)) ?_
            with_reducible refine (wristbandref18_Put.calls kj4 _ _ l0 t395 _ ?side1 ?side2 A13.out).mono ?_
            (case side1 => repeat (first | exact (Kd.C_below HR0.out HB.out) | (with_reducible refine Kd.C_alloc ?_ _) | (with_reducible refine Kd.C_drewN ?_ _) | (with_reducible refine Kd.C_drew ?_)))
            (case side2 => exact HC0.out)
            rintro e w26 ⟨v396, rfl, ho0, hb⟩
            refine ⟨_, rfl, ?_⟩; have n0_ := Aside0.mk (Kd.R_elder' (by (with_reducible repeat (first | apply rL | apply rN | apply rW)); exact HO385.out) (Kd.R_base ho0) hb); have n1_ := Aside0.mk (Kd.N_elder' (by (with_reducible repeat (first | apply Kd.N_alloc | apply Kd.N_drewN | apply Kd.N_drew)); exact HO389.out) (Kd.R_base ho0) hb); have n2_ := Aside0.mk (Kd.N_elder' (by (with_reducible repeat (first | apply Kd.N_alloc | apply Kd.N_drewN | apply Kd.N_drew)); exact HO394.out) (Kd.R_base ho0) hb); have n3_ := Aside0.mk (Kd.R_lower (Kd.R_new' ho0 (Kd.R_lt (by (with_reducible repeat (first | apply rL | apply rN | apply rW)); exact HO385.out))) (below_size (by repeat (first | (with_reducible first | exact HB.out | apply bA | apply bN | apply bD) | exact HB.out)))); have n4_ := Aside0.mk (below_step (by repeat (first | (with_reducible first | exact HB.out | apply bA | apply bN | apply bD) | exact HB.out)) hb); clear HO385; clear HO389; clear HO394; clear HB; have HO385 := n0_; have HO389 := n1_; have HO394 := n2_; have HO397 := n3_; have HB := n4_; clear n0_ n1_ n2_ n3_ n4_; (try clear hb); (try clear hb2); (try clear hk); (try clear hi); (try clear ho0); refine hK.out _ _ trivial (fun hHeld => ?_)
            clear hK K; refine norm_ (a' := ?_) ?_ ?_
            rotate_left
            ·show Act.put _ (some 42) _ = _
             simp only [Act.put, sA, s0, sS, i64_w, i32_w]
             rfl
            refine one_ (i := 7) (N := some 43) (rA [8,22]) rfl rfl (one_of HT_.out (by kernel_rfl)) (by decide) (fun K hK => ?_)
            refine str_step (src := 24) (dst := 9) (x := .tmp 42) ?hw ?ho ?hx (v := v396) (s := strOfNums t395) (by obtain ⟨A_, c_, rfl⟩ := Kd.R_slice HO397.out; exact Kd.C_string (P := Tryd.prog) (A := A_) (c := c_) Tryd.underlying24 Tryd.underlying5 Tryd.underlying9 (Kd.R_reads' (by (with_reducible repeat (first | apply rL | apply rN | apply rW)); exact HO397.out)).2.2) ?_
            case ho => rfl
            case hw => first | rfl | (simp [Region.wanted, yielded, *]; done)
            case hx => first | rfl | (simp only [Act.eval, gD, oG, e42]; done)
            intro w27 hb; have n0_ := Aside0.mk (Kd.R_below (by (with_reducible repeat (first | apply rL | apply rN | apply rW)); exact HO385.out) hb)
            have n1_ := Aside0.mk (Kd.N_below (by (with_reducible repeat (first | apply Kd.N_alloc | apply Kd.N_drewN | apply Kd.N_drew)); exact HO389.out) hb); have n2_ := Aside0.mk (Kd.N_below (by (with_reducible repeat (first | apply Kd.N_alloc | apply Kd.N_drewN | apply Kd.N_drew)); exact HO394.out) hb); have n3_ := Aside0.mk (Kd.R_below (by (with_reducible repeat (first | apply rL | apply rN | apply rW)); exact HO397.out) hb); have n4_ := Aside0.mk (below_step (by repeat (first | (with_reducible first | exact HB.out | apply bA | apply bN | apply bD) | exact HB.out)) hb); clear HO385; clear HO389; clear HO394; clear HO397; clear HB; have HO385 := n0_; have HO389 := n1_; have HO394 := n2_; have HO397 := n3_; have HB := n4_; clear n0_ n1_ n2_ n3_ n4_; (try clear hb); refine hK.out _ _ trivial (fun hHeld => ?_)
            clear hK K; refine norm_ (a' := ?_) ?_ ?_
            rotate_left
            ·show Act.put _ (some 43) _ = _
             simp only [Act.put, sA, s0, sS, i64_w, i32_w]
             rfl
            exact norm_ (by simp only [putAll, Act.put, sA, s0, sS]) (hCont (v396) _ ⟨(by (with_reducible repeat (first | apply rL | apply rN | apply rW)); exact Kd.R_mono HO385.out (fun _ hk => hk.2)), (by (with_reducible repeat (first | apply Kd.N_alloc | apply Kd.N_drewN | apply Kd.N_drew)); exact Kd.N_mono HO389.out (fun _ hk => ⟨hk.1.1, ⟨hk.1.2, hk.2⟩⟩)), (by (with_reducible repeat (first | apply Kd.N_alloc | apply Kd.N_drewN | apply Kd.N_drew)); exact Kd.N_mono HO394.out (fun _ hk => ⟨hk.1.1, ⟨hk.1.2, hk.2⟩⟩)), (by (with_reducible repeat (first | apply rL | apply rN | apply rW)); exact Kd.R_mono HO397.out (fun _ hk => hk.2)), (by repeat (first | (with_reducible first | exact HB.out | apply bA | apply bN | apply bD) | exact HB.out))⟩)
           ·skip
            refine goes_ Tryd.func36 (by kernel_rfl) rfl #[.slice A0 l0.length c0] (by first | rfl | (simp [Region.wanted, yielded, *]; done)) rfl rfl (by (try simp only [mT, mC, mN]); first | done | rfl | (simp only [Act.eval, gD, oG, e41]; done) | (simp only [List.length_drop, List.length_take]; rfl)) ?_
            with_reducible refine (wristbandref18_Put.calls kj4 _ _ l0 t395 _ ?side1 ?side2 A13.out).mono ?_
            (case side1 => repeat (first | exact (Kd.C_below HR0.out HB.out) | (with_reducible refine Kd.C_alloc ?_ _) | (with_reducible refine Kd.C_drewN ?_ _) | (with_reducible refine Kd.C_drew ?_)))
            (case side2 => exact HC0.out)
            rintro e w25 ⟨v396, rfl, ho0, hb⟩
            refine ⟨_, rfl, ?_⟩; have n0_ := Aside0.mk (Kd.R_elder' (by (with_reducible repeat (first | apply rL | apply rN | apply rW)); exact HO385.out) (Kd.R_base ho0) hb); have n1_ := Aside0.mk (Kd.N_elder' (by (with_reducible repeat (first | apply Kd.N_alloc | apply Kd.N_drewN | apply Kd.N_drew)); exact HO389.out) (Kd.R_base ho0) hb); have n2_ := Aside0.mk (Kd.N_elder' (by (with_reducible repeat (first | apply Kd.N_alloc | apply Kd.N_drewN | apply Kd.N_drew)); exact HO394.out) (Kd.R_base ho0) hb); have n3_ := Aside0.mk (Kd.R_lower (Kd.R_new' ho0 (Kd.R_lt (by (with_reducible repeat (first | apply rL | apply rN | apply rW)); exact HO385.out))) (below_size (by repeat (first | (with_reducible first | exact HB.out | apply bA | apply bN | apply bD) | exact HB.out)))); have n4_ := Aside0.mk (below_step (by repeat (first | (with_reducible first | exact HB.out | apply bA | apply bN | apply bD) | exact HB.out)) hb); clear HO385; clear HO389; clear HO394; clear HB; have HO385 := n0_; have HO389 := n1_; have HO394 := n2_; have HO397 := n3_; have HB := n4_; clear n0_ n1_ n2_ n3_ n4_; (try clear hb); (try clear hb2); (try clear hk); (try clear hi); (try clear ho0); refine hK.out _ _ trivial (fun hHeld => ?_)
            clear hK K; refine norm_ (a' := ?_) ?_ ?_
            rotate_left
            ·show Act.put _ (some 42) _ = _
             simp only [Act.put, sA, s0, sS, i64_w, i32_w]
             rfl
            refine two_ (i := 4) (j := 7) (Ni := some 40) (Nj := some 43) #[true, true, true, true, true, true, true, false, false, false, false, false, false, false, false, false, false, false, false, false, false, false, false, false, false, false, false, false, false, false] #[true, true, true, true, false, true, true, true, false, false, false, false, false, false, false, false, false, false, false, false, false, false, false, false, false, false, false, false, false, false] rfl rfl rfl rfl (two_of HT_.out (by kernel_rfl)) (by decide) (by decide) (fun K hK => ?_) (fun K hK => ?_)
            ·skip
             refine str_step (src := 24) (dst := 9) (x := .tmp 39) ?hw ?ho ?hx (v := v384) (s := strOfNums t383) (by obtain ⟨A_, c_, rfl⟩ := Kd.R_slice HO385.out; exact Kd.C_string (P := Tryd.prog) (A := A_) (c := c_) Tryd.underlying24 Tryd.underlying5 Tryd.underlying9 (Kd.R_reads' (by (with_reducible repeat (first | apply rL | apply rN | apply rW)); exact HO385.out)).2.2) ?_
             case ho => rfl
             case hw => first | rfl | (simp [Region.wanted, yielded, *]; done)
             case hx => first | rfl | (simp only [Act.eval, gD, oG, e39]; done)
             intro w26 hb; have n0_ := Aside0.mk (Kd.R_below (by (with_reducible repeat (first | apply rL | apply rN | apply rW)); exact HO385.out) hb)
             have n1_ := Aside0.mk (Kd.N_below (by (with_reducible repeat (first | apply Kd.N_alloc | apply Kd.N_drewN | apply Kd.N_drew)); exact HO389.out) hb); have n2_ := Aside0.mk (Kd.N_below (by (with_reducible repeat (first | apply Kd.N_alloc | apply Kd.N_drewN | apply Kd.N_drew)); exact HO394.out) hb); have n3_ := Aside0.mk (Kd.R_below (by (with_reducible repeat (first | apply rL | apply rN | apply rW)); exact HO397.out) hb); have n4_ := Aside0.mk (below_step (by repeat (first | (with_reducible first | exact HB.out | apply bA | apply bN | apply bD) | exact HB.out)) hb); clear HO385; clear HO389; clear HO394; clear HO397; clear HB; have HO385 := n0_; have HO389 := n1_; have HO394 := n2_; have HO397 := n3_; have HB := n4_; clear n0_ n1_ n2_ n3_ n4_; (try clear hb); refine hK.out _ _ trivial (fun hHeld => ?_)
             clear hK K; refine norm_ (a' := ?_) ?_ ?_
             rotate_left
             ·show Act.put _ (some 40) _ = _
              simp only [Act.put, sA, s0, sS, i64_w, i32_w]
              rfl
             refine one_ (i := 7) (N := some 43) (rA [8,22]) rfl rfl (one_of HT_.out (by kernel_rfl)) (by decide) (fun K hK => ?_)
             refine str_step (src := 24) (dst := 9) (x := .tmp 42) ?hw ?ho ?hx (v := v396) (s := strOfNums t395) (by obtain ⟨A_, c_, rfl⟩ := Kd.R_slice HO397.out; exact Kd.C_string (P := Tryd.prog) (A := A_) (c := c_) Tryd.underlying24 Tryd.underlying5 Tryd.underlying9 (Kd.R_reads' (by (with_reducible repeat (first | apply rL | apply rN | apply rW)); exact HO397.out)).2.2) ?_
             case ho => rfl
             case hw => first | rfl | (simp [Region.wanted, yielded, *]; done)
             case hx => first | rfl | (simp only [Act.eval, gD, oG, e42]; done)
             intro w27 hb; have n0_ := Aside0.mk (Kd.R_below (by (with_reducible repeat (first | apply rL | apply rN | apply rW)); exact HO385.out) hb)
             have n1_ := Aside0.mk (Kd.N_below (by (with_reducible repeat (first | apply Kd.N_alloc | apply Kd.N_drewN | apply Kd.N_drew)); exact HO389.out) hb); have n2_ := Aside0.mk (Kd.N_below (by (with_reducible repeat (first | apply Kd.N_alloc | apply Kd.N_drewN | apply Kd.N_drew)); exact HO394.out) hb); have n3_ := Aside0.mk (Kd.R_below (by (with_reducible repeat (first | apply rL | apply rN | apply rW)); exact HO397.out) hb); have n4_ := Aside0.mk (below_step (by repeat (first | (with_reducible first | exact HB.out | apply bA | apply bN | apply bD) | exact HB.out)) hb); clear HO385; clear HO389; clear HO394; clear HO397; clear HB; have HO385 := n0_; have HO389 := n1_; have HO394 := n2_; have HO397 := n3_; have HB := n4_; clear n0_ n1_ n2_ n3_ n4_; (try clear hb); refine hK.out _ _ trivial (fun hHeld => ?_)
             clear hK K; refine norm_ (a' := ?_) ?_ ?_
             rotate_left
             ·show Act.put _ (some 43) _ = _
              simp only [Act.put, sA, s0, sS, i64_w, i32_w]
              rfl
             exact norm_ (by simp only [putAll, Act.put, sA, s0, sS]) (hCont (v396) _ ⟨(by (with_reducible repeat (first | apply rL | apply rN | apply rW)); exact Kd.R_mono HO385.out (fun _ hk => hk.2)), (by (with_reducible repeat (first | apply Kd.N_alloc | apply Kd.N_drewN | apply Kd.N_drew)); exact Kd.N_mono HO389.out (fun _ hk => ⟨hk.1.1, ⟨hk.1.2, hk.2⟩⟩)), (by (with_reducible repeat (first | apply Kd.N_alloc | apply Kd.N_drewN | apply Kd.N_drew)); exact Kd.N_mono HO394.out (fun _ hk => ⟨hk.1.1, ⟨hk.1.2, hk.2⟩⟩)), (by (with_reducible repeat (first | apply rL | apply rN | apply rW)); exact Kd.R_mono HO397.out (fun _ hk => hk.2)), (by repeat (first | (with_reducible first | exact HB.out | apply bA | apply bN | apply bD) | exact HB.out))⟩)
            ·skip
             refine str_step (src := 24) (dst := 9) (x := .tmp 42) ?hw ?ho ?hx (v := v396) (s := strOfNums t395) (by obtain ⟨A_, c_, rfl⟩ := Kd.R_slice HO397.out; exact Kd.C_string (P := Tryd.prog) (A := A_) (c := c_) Tryd.underlying24 Tryd.underlying5 Tryd.underlying9 (Kd.R_reads' (by (with_reducible repeat (first | apply rL | apply rN | apply rW)); exact HO397.out)).2.2) ?_
             case ho => rfl
             case hw => first | rfl | (simp [Region.wanted, yielded, *]; done)
             case hx => first | rfl | (simp only [Act.eval, gD, oG, e42]; done)
             intro w26 hb; have n0_ := Aside0.mk (Kd.R_below (by (with_reducible repeat (first | apply rL | apply rN | apply rW)); exact HO385.out) hb)
             have n1_ := Aside0.mk (Kd.N_below (by (with_reducible repeat (first | apply Kd.N_alloc | apply Kd.N_drewN | apply Kd.N_drew)); exact HO389.out) hb); have n2_ := Aside0.mk (Kd.N_below (by (with_reducible repeat (first | apply Kd.N_alloc | apply Kd.N_drewN | apply Kd.N_drew)); exact HO394.out) hb); have n3_ := Aside0.mk (Kd.R_below (by (with_reducible repeat (first | apply rL | apply rN | apply rW)); exact HO397.out) hb); have n4_ := Aside0.mk (below_step (by repeat (first | (with_reducible first | exact HB.out | apply bA | apply bN | apply bD) | exact HB.out)) hb); clear HO385; clear HO389; clear HO394; clear HO397; clear HB; have HO385 := n0_; have HO389 := n1_; have HO394 := n2_; have HO397 := n3_; have HB := n4_; clear n0_ n1_ n2_ n3_ n4_; (try clear hb); refine hK.out _ _ trivial (fun hHeld => ?_)
             clear hK K; refine norm_ (a' := ?_) ?_ ?_
             rotate_left
             ·show Act.put _ (some 43) _ = _
              simp only [Act.put, sA, s0, sS, i64_w, i32_w]
              rfl
             refine one_ (i := 4) (N := some 40) (rA [8,22]) rfl rfl (one_of HT_.out (by kernel_rfl)) (by decide) (fun K hK => ?_)
             refine str_step (src := 24) (dst := 9) (x := .tmp 39) ?hw ?ho ?hx (v := v384) (s := strOfNums t383) (by obtain ⟨A_, c_, rfl⟩ := Kd.R_slice HO385.out; exact Kd.C_string (P := Tryd.prog) (A := A_) (c := c_) Tryd.underlying24 Tryd.underlying5 Tryd.underlying9 (Kd.R_reads' (by (with_reducible repeat (first | apply rL | apply rN | apply rW)); exact HO385.out)).2.2) ?_
             case ho => rfl
             case hw => first | rfl | (simp [Region.wanted, yielded, *]; done)
             case hx => first | rfl | (simp only [Act.eval, gD, oG, e39]; done)
             intro w27 hb; have n0_ := Aside0.mk (Kd.R_below (by (with_reducible repeat (first | apply rL | apply rN | apply rW)); exact HO385.out) hb)
             have n1_ := Aside0.mk (Kd.N_below (by (with_reducible repeat (first | apply Kd.N_alloc | apply Kd.N_drewN | apply Kd.N_drew)); exact HO389.out) hb); have n2_ := Aside0.mk (Kd.N_below (by (with_reducible repeat (first | apply Kd.N_alloc | apply Kd.N_drewN | apply Kd.N_drew)); exact HO394.out) hb); have n3_ := Aside0.mk (Kd.R_below (by (with_reducible repeat (first | apply rL | apply rN | apply rW)); exact HO397.out) hb); have n4_ := Aside0.mk (below_step (by repeat (first | (with_reducible first | exact HB.out | apply bA | apply bN | apply bD) | exact HB.out)) hb); clear HO385; clear HO389; clear HO394; clear HO397; clear HB; have HO385 := n0_; have HO389 := n1_; have HO394 := n2_; have HO397 := n3_; have HB := n4_; clear n0_ n1_ n2_ n3_ n4_; (try clear hb); refine hK.out _ _ trivial (fun hHeld => ?_)
             clear hK K; refine norm_ (a' := ?_) ?_ ?_
             rotate_left
             ·show Act.put _ (some 40) _ = _
              simp only [Act.put, sA, s0, sS, i64_w, i32_w]
              rfl
             exact norm_ (by simp only [putAll, Act.put, sA, s0, sS]) (hCont (v396) _ ⟨(by (with_reducible repeat (first | apply rL | apply rN | apply rW)); exact Kd.R_mono HO385.out (fun _ hk => hk.2)), (by (with_reducible repeat (first | apply Kd.N_alloc | apply Kd.N_drewN | apply Kd.N_drew)); exact Kd.N_mono HO389.out (fun _ hk => ⟨hk.1.1, ⟨hk.1.2, hk.2⟩⟩)), (by (with_reducible repeat (first | apply Kd.N_alloc | apply Kd.N_drewN | apply Kd.N_drew)); exact Kd.N_mono HO394.out (fun _ hk => ⟨hk.1.1, ⟨hk.1.2, hk.2⟩⟩)), (by (with_reducible repeat (first | apply rL | apply rN | apply rW)); exact Kd.R_mono HO397.out (fun _ hk => hk.2)), (by repeat (first | (with_reducible first | exact HB.out | apply bA | apply bN | apply bD) | exact HB.out))⟩)
          rintro v396 w28 ⟨h0_, h1_, h2_, h3_, h4_⟩
          have n0_ : Aside0 (Kd.R (Kd.int .u8) 5 w28 w.heap.size (fun k_ => some k_ ≠ (v396 : Value).ownBlock) v384 t383) := ⟨h0_⟩
          have n1_ : Aside0 (Kd.N (Kd.slice 5 (Kd.int .u8)) 24 w28 w.heap.size (fun k_ => some k_ ≠ (v384 : Value).ownBlock ∧ some k_ ≠ (.slice Ao23 t391.length co23 : Value).ownBlock ∧ some k_ ≠ (v396 : Value).ownBlock) (.slice Ao22 t387.length co22) t387) := ⟨h1_⟩
          have n2_ : Aside0 (Kd.N (Kd.slice 5 (Kd.int .u8)) 24 w28 w.heap.size (fun k_ => some k_ ≠ (v384 : Value).ownBlock ∧ some k_ ≠ (.slice Ao22 t387.length co22 : Value).ownBlock ∧ some k_ ≠ (v396 : Value).ownBlock) (.slice Ao23 t391.length co23) t391) := ⟨h2_⟩
          have n3_ : Aside0 (Kd.R (Kd.int .u8) 5 w28 w.heap.size (fun k_ => some k_ ≠ (v384 : Value).ownBlock) v396 t395) := ⟨h3_⟩
          have n4_ : Aside0 (Below w.heap.size w w28) := ⟨h4_⟩
          clear HO385; clear HO389; clear HO394; clear HB; clear h0_ h1_ h2_ h3_ h4_; have HO385 := n0_; have HO389 := n1_; have HO394 := n2_; have HO397 := n3_; have HB := n4_; clear n0_ n1_ n2_ n3_ n4_; have hHeld := trivial
          refine norm_ (a' := ?_) ?_ ?_
          rotate_left
          ·simp only [putAll, Act.put, sA, s0, sS]
           rfl
          refine pu_ 8 44 (rA [9,21]) HT_ (by kernel_rfl) rfl rfl (fun _ _ _ => id) (.inl ⟨by rfl, fun w' => by go_simp; with_reducible rfl⟩) (by simp only [Act.put, sA, s0, sS, i64_w, i32_w]; rfl) ?_
          refine pu_ 9 45 (rA [10,20]) HT_ (by kernel_rfl) rfl rfl (fun _ _ _ => id) (.inl ⟨by rfl, fun w' => by go_simp; with_reducible rfl⟩) (by simp only [Act.put, sA, s0, sS, i64_w, i32_w]; rfl) ?_
          refine pu_ 10 46 (rA [11,19]) HT_ (by kernel_rfl) rfl rfl (fun _ _ _ => id) (.inl ⟨by rfl, fun w' => by go_simp; with_reducible rfl⟩) (by simp only [Act.put, sA, s0, sS, i64_w, i32_w]; rfl) ?_
          refine pu_ 11 47 (rA [12,18]) HT_ (by kernel_rfl) rfl rfl (fun _ _ _ => id) (.inl ⟨by rfl, fun w' => by go_simp; with_reducible rfl⟩) (by simp only [Act.put, sA, s0, sS, i64_w, i32_w]; rfl) ?_
          refine pu_ 12 48 (rA [13,17]) HT_ (by kernel_rfl) rfl rfl (fun _ _ _ => id) (.inl ⟨by rfl, fun w' => by go_simp; with_reducible rfl⟩) (by simp only [Act.put, sA, s0, sS, i64_w, i32_w]; rfl) ?_
          refine one_ (i := 13) (N := some 49) (rA [14,16]) rfl rfl (one_of HT_.out (by kernel_rfl)) (by decide) (fun K hK => ?_)
          refine goes_ Tryd.func37 (by kernel_rfl) rfl #[.slice Ao22 t387.length co22, .slice Ao23 t391.length co23] (by first | rfl | (simp [Region.wanted, yielded, *]; done)) rfl rfl (by (try simp only [mT, mC, mN]); first | done | rfl | (simp only [Act.eval, gD, oG, e47, e48]; done) | (simp only [List.length_drop, List.length_take]; rfl)) ?_
          with_reducible refine (wristbandref18_Same.calls kj4 _ _ t387 _ _ t391 true _ ?side1 ?side2 ?side3 ?side4 A15.out).mono ?_
          (case side1 => repeat (first | exact (Kd.N_reads' HO389.out).2.2 | (with_reducible refine Kd.C_alloc ?_ _) | (with_reducible refine Kd.C_drewN ?_ _) | (with_reducible refine Kd.C_drew ?_)))
          (case side2 => exact (Kd.N_reads' HO389.out).2.1)
          (case side3 => repeat (first | exact (Kd.N_reads' HO394.out).2.2 | (with_reducible refine Kd.C_alloc ?_ _) | (with_reducible refine Kd.C_drewN ?_ _) | (with_reducible refine Kd.C_drew ?_)))
          (case side4 => exact (Kd.N_reads' HO394.out).2.1)
          rintro e w' ⟨rfl, ⟨nd, rfl⟩⟩
          refine ⟨_, rfl, ?_⟩; refine hK.out _ _ trivial (fun hHeld => ?_)
          clear hK K; refine norm_ (a' := ?_) ?_ ?_
          rotate_left
          ·show Act.put _ (some 49) _ = _
           simp only [Act.put, sA, s0, sS, i64_w, i32_w]
           rfl
          refine pu_ 14 50 (rA [15,15]) HT_ (by kernel_rfl) rfl rfl (fun _ _ _ => id) (.inl ⟨by rfl, fun w' => by go_simp; with_reducible rfl⟩) (by simp only [Act.put, sA, s0, sS, i64_w, i32_w]; rfl) ?_
          refine pu_ 15 51 (rA [16,14]) HT_ (by kernel_rfl) rfl rfl (fun _ _ _ => id) (.inl ⟨by rfl, fun w' => by go_simp; with_reducible rfl⟩) (by simp only [Act.put, sA, s0, sS, i64_w, i32_w]; rfl) ?_
          refine pu_ 16 52 (rA [17,13]) HT_ (by kernel_rfl) rfl rfl (fun _ _ _ => id) (.inl ⟨by rfl, fun w' => by go_simp; with_reducible rfl⟩) (by simp only [Act.put, sA, s0, sS, i64_w, i32_w]; rfl) ?_
          refine pu_ 17 53 (rA [18,12]) HT_ (by kernel_rfl) rfl rfl (fun _ _ _ => id) (.inl ⟨by rfl, fun w' => by go_simp; with_reducible rfl⟩) (by simp only [Act.put, sA, s0, sS, i64_w, i32_w]; rfl) ?_
          refine pu_ 18 54 (rA [19,11]) HT_ (by kernel_rfl) rfl rfl (fun _ _ _ => id) (.inl ⟨by rfl, fun w' => by go_simp; with_reducible rfl⟩) (by simp only [Act.put, sA, s0, sS, i64_w, i32_w]; rfl) ?_
          refine pu_ 19 55 (rA [20,10]) HT_ (by kernel_rfl) rfl rfl (fun _ _ _ => id) (.inl ⟨by rfl, fun w' => by go_simp; with_reducible rfl⟩) (by simp only [Act.put, sA, s0, sS, i64_w, i32_w]; rfl) ?_
          refine pu_ 20 56 (rA [21,9]) HT_ (by kernel_rfl) rfl rfl (fun _ _ _ => id) (.inl ⟨by rfl, fun w' => by go_simp; with_reducible rfl⟩) (by simp only [Act.put, sA, s0, sS, i64_w, i32_w]; rfl) ?_
          refine pu_ 21 57 (rA [22,8]) HT_ (by kernel_rfl) rfl rfl (fun _ _ _ => id) (.inl ⟨by rfl, fun w' => by go_simp; with_reducible rfl⟩) (by simp only [Act.put, sA, s0, sS, i64_w, i32_w]; rfl) ?_
          refine pu_ 23 59 (rA [22,1,1,6]) HT_ (by kernel_rfl) rfl rfl (fun _ _ _ => id) (.inl ⟨by rfl, fun w' => by go_simp; with_reducible rfl⟩) (by simp only [Act.put, sA, s0, sS, i64_w, i32_w]; rfl) ?_
          refine pu_ 24 60 (rA [22,1,2,5]) HT_ (by kernel_rfl) rfl rfl (fun _ _ _ => id) (.inl ⟨by rfl, fun w' => by go_simp; with_reducible rfl⟩) (by simp only [Act.put, sA, s0, sS, i64_w, i32_w]; rfl) ?_
          refine pu_ 25 61 (rA [22,1,3,4]) HT_ (by kernel_rfl) rfl rfl (fun _ _ _ => id) (.inl ⟨by rfl, fun w' => by go_simp; with_reducible rfl⟩) (by simp only [Act.put, sA, s0, sS, i64_w, i32_w]; rfl) ?_
          refine pu_ 26 62 (rA [22,1,4,3]) HT_ (by kernel_rfl) rfl rfl (fun _ _ _ => id) (.inl ⟨by rfl, fun w' => by go_simp; with_reducible rfl⟩) (by simp only [Act.put, sA, s0, sS, i64_w, i32_w]; rfl) ?_
          refine one_ (i := 22) (N := some 58) (rA [27,3]) rfl rfl (one_of HT_.out (by kernel_rfl)) (by decide) (fun K hK => ?_)
          refine goes_ Tryd.func38 (by kernel_rfl) rfl #[.slice A1 l1.length c1] (by first | rfl | (simp [Region.wanted, yielded, *]; done)) rfl rfl (by (try simp only [mT, mC, mN]); first | done | rfl | (simp only [Act.eval, gD, oG, e57]; done) | (simp only [List.length_drop, List.length_take]; rfl)) ?_
          with_reducible refine (slip_Whole.calls kj4 _ _ l1 t399 _ ?side1 ?side2 ?side3 ?side4 A18.out).mono ?_
          (case side1 => repeat (first | exact (Kd.C_below HR1.out (by repeat (first | (with_reducible first | exact HB.out | apply bA | apply bN | apply bD) | exact HB.out))) | (with_reducible refine Kd.C_alloc ?_ _) | (with_reducible refine Kd.C_drewN ?_ _) | (with_reducible refine Kd.C_drew ?_)))
          (case side2 => exact HC1.out)
          (case side3 => repeat (first | exact (Kd.C_below HRL0_.out (by repeat (first | (with_reducible first | exact HB.out | apply bA | apply bN | apply bD) | exact HB.out))) | (with_reducible refine Kd.C_alloc ?_ _) | (with_reducible refine Kd.C_drewN ?_ _) | (with_reducible refine Kd.C_drew ?_)))
          (case side4 => repeat (first | exact (Kd.C_below HRL1_.out (by repeat (first | (with_reducible first | exact HB.out | apply bA | apply bN | apply bD) | exact HB.out))) | (with_reducible refine Kd.C_alloc ?_ _) | (with_reducible refine Kd.C_drewN ?_ _) | (with_reducible refine Kd.C_drew ?_)))
          rintro e w29 ⟨rfl, hb⟩
          refine ⟨_, rfl, ?_⟩; have n0_ := Aside0.mk (Kd.R_below (by (with_reducible repeat (first | apply rL | apply rN | apply rW)); exact HO385.out) hb); have n1_ := Aside0.mk (Kd.N_below (by (with_reducible repeat (first | apply Kd.N_alloc | apply Kd.N_drewN | apply Kd.N_drew)); exact HO389.out) hb); have n2_ := Aside0.mk (Kd.N_below (by (with_reducible repeat (first | apply Kd.N_alloc | apply Kd.N_drewN | apply Kd.N_drew)); exact HO394.out) hb); have n3_ := Aside0.mk (Kd.R_below (by (with_reducible repeat (first | apply rL | apply rN | apply rW)); exact HO397.out) hb); have n4_ := Aside0.mk (below_step (by repeat (first | (with_reducible first | exact HB.out | apply bA | apply bN | apply bD) | exact HB.out)) hb); clear HO385; clear HO389; clear HO394; clear HO397; clear HB; have HO385 := n0_; have HO389 := n1_; have HO394 := n2_; have HO397 := n3_; have HB := n4_; clear n0_ n1_ n2_ n3_ n4_; (try clear hb); (try clear hb2); (try clear hk); (try clear hi); refine hK.out _ _ trivial (fun hHeld => ?_)
          clear hK K; refine norm_ (a' := ?_) ?_ ?_
          rotate_left
          ·show Act.put _ (some 58) _ = _
           simp only [Act.put, sA, s0, sS, i64_w, i32_w]
           rfl
          refine pu_ 27 63 (rA [28,2]) HT_ (by kernel_rfl) rfl rfl (fun _ _ _ => id) (.inl ⟨by rfl, fun w' => by go_simp; with_reducible rfl⟩) (by simp only [Act.put, sA, s0, sS, i64_w, i32_w]; rfl) ?_
          refine pu_ 28 64 (rA [29,1]) HT_ (by kernel_rfl) rfl rfl (fun _ _ _ => id) (.inl ⟨by rfl, fun w' => by go_simp; with_reducible rfl⟩) (by simp only [Act.put, sA, s0, sS, i64_w, i32_w]; rfl) ?_
          refine pu_ 29 4 (rA [30]) HT_ (by kernel_rfl) rfl rfl (fun _ _ _ => id) (.inl ⟨by rfl, fun w' => by go_simp; with_reducible rfl⟩) (by simp only [Act.put, sA, s0, sS, i64_w, i32_w]; rfl) ?_
          refine done_ (done_of HT_.out (by kernel_rfl)) ?_
          try go_wp2
          go_ret
          exact ⟨by first | rfl | (simp [errW_none, errW_some] <;> rfl) | (simp [*, errW_none, errW_some] <;> rfl), by repeat (first | (with_reducible first | exact HB.out | apply bA | apply bN | apply bD) | exact HB.out)⟩
         ·rw [if_neg c17] at H
          have c17b0 : (t390 == t392) = false := beq_eq_false_iff_ne.mpr c17
          have c17b1 : (t390 != t392) = true := bne_iff_ne.mpr c17
          exact absurd (Option.some.inj H) (by rw [HR_.out]; decide)
        ·replace c16 := Bool.eq_false_iff.mpr c16
         subst c16; have H1 : (some false) = some r := by rw [if_neg (show ¬ (false = true) by decide)] at H; exact H
         clear H; have H := H1; clear H1; exact absurd (Option.some.inj H) (by rw [HR_.out]; decide)
       ·rw [if_neg c14] at H
        have c14b0 : ((strOfNums t383).toList == (strOfNums t395).toList) = false := beq_eq_false_iff_ne.mpr c14
        have c14b1 : ((strOfNums t383).toList != (strOfNums t395).toList) = true := bne_iff_ne.mpr c14
        exact absurd (Option.some.inj H) (by rw [HR_.out]; decide)
      ·rw [if_neg c12] at H
       have c12b0 : (t386 == 0) = false := beq_eq_false_iff_ne.mpr c12
       have c12b1 : (t386 != 0) = true := bne_iff_ne.mpr c12
       exact absurd (Option.some.inj H) (by rw [HR_.out]; decide)
  ·replace c4 := Bool.eq_false_iff.mpr c4
   subst c4; have H1 : (some false) = some r := by rw [if_neg (show ¬ (false = true) by decide)] at H; exact H
   clear H; have H := H1; clear H1; exact absurd (Option.some.inj H) (by rw [HR_.out]; decide)

/-- THE ONE PURE STATEMENT of wristbandlaw18_SlipRight: yours. -/
def wristbandlaw18_SlipRight.Pure : Prop := ∀ (l0 : List Int) (l1 : List Int), l0.length ≤ maxLen → l0.length * 1 ≤ 140737488351232 → (∀ x ∈ l0, (Lit.int .u8 x).wf = true) → l1.length ≤ maxLen → l1.length * 1 ≤ 140737488351232 → (∀ x ∈ l1, (Lit.int .u8 x).wf = true) → ∃ k, wristbandlaw18_SlipRight.f k l0 l1 = some true
theorem wristbandlaw18_SlipRight.walk (P : wristbandlaw18_SlipRight.Pure) (a0 : Option Addr) (len0 cap0 : Nat) (z0 : List Int) (a1 : Option Addr) (len1 cap1 : Nat) (z1 : List Int) (w : World) (w0 : (a0 = none ∧ len0 = 0 ∧ cap0 = 0 ∧ z0 = []) ∨ ∃ x, a0 = some x ∧ len0 ≤ cap0 ∧ cap0 ≤ maxLen ∧ z0.length = cap0 ∧ (∀ i, i < z0.length → w.cell? (x.add i) = some (.int .u8 (z0.getD i 0))) ∧ ∀ n ∈ z0, (Lit.int .u8 n).wf = true) (y0 : len0 * 1 ≤ 140737488351232) (w1 : (a1 = none ∧ len1 = 0 ∧ cap1 = 0 ∧ z1 = []) ∨ ∃ x, a1 = some x ∧ len1 ≤ cap1 ∧ cap1 ≤ maxLen ∧ z1.length = cap1 ∧ (∀ i, i < z1.length → w.cell? (x.add i) = some (.int .u8 (z1.getD i 0))) ∧ ∀ n ∈ z1, (Lit.int .u8 n).wf = true) (y1 : len1 * 1 ≤ 140737488351232) (hL0_ : Kd.C (Kd.int .u32) w (some ⟨0, 0, none⟩) 64 shaK) (hL1_ : Kd.C (Kd.int .u32) w (some ⟨1, 0, none⟩) 8 shaF) :
   Calls Tryd.prog 8 #[.slice a0 len0 cap0, .slice a1 len1 cap1] w fun e w' => e = .returned (.bool true) ∧ Below w.heap.size w w' := by
  obtain ⟨l0, rfl, hr0, hm0, hw0, hc0⟩ := ReadsInt.ofRowC w0
  obtain ⟨l1, rfl, hr1, hm1, hw1, hc1⟩ := ReadsInt.ofRowC w1
  obtain ⟨k, h⟩ := P l0 l1 hm0 y0 hw0 hm1 y1 hw1
  refine (wristbandlaw18_SlipRight.calls k _ _ l0 _ _ l1 true w (Kd.C_of_reads (d := (0 : Int)) (h1 := fun _ => rfl) hr0) hc0 (Kd.C_of_reads (d := (0 : Int)) (h1 := fun _ => rfl) hr1) hc1 hL0_ hL1_ h rfl).mono ?_
  rintro e w' ⟨rfl, hd⟩
  exact ⟨rfl, hd⟩

end Go.Proofs.YtnpkhkhlofkbhaaDoor.PSlipRight
