-- made by a program of this session (its printer) out of what Lean prints of the given program
import Derived.Test.YtnpkhkhlofkbhaaPTermRightx0
namespace Go.Proofs.Ytnpkhkhlofkbhaa.PTermRight
open Go.RowKit Go.Proofs.YtnpkhkhlofkbhaaW.PrintWords Go.Proofs.YtnpkhkhlofkbhaaW.PrintLast Go.Proofs.YtnpkhkhlofkbhaaW.PrintMore
attribute [local go_sem] max2_int min2_int max_two min_two max_three min_three max_four min_four   -- for this text's walks alone
set_option linter.unusedVariables false
set_option linter.unusedSimpArgs false

/-! ### wristbandref05_Same: function 52 -/
def wristbandref05_Same.l0 : Nat → List (S60) → List (S60) → Int → Option (Bool)
  | 0, _, _, _ => none
  | k + 1, x0, x1, x5 => if x5 < (x0.length : Int) then (if 0 ≤ x5 then (if x5 < (x1.length : Int) then (if (strOfNums ((rd_T60 x0 x5).f0)).toList = (strOfNums ((rd_T60 x1 x5).f0)).toList then (if (strOfNums ((rd_T60 x0 x5).f1)).toList = (strOfNums ((rd_T60 x1 x5).f1)).toList then (wristbandref05_Same.l0 k x0 x1 (wrap64 (x5 + 1))) else (some false)) else (some false)) else (none)) else (none)) else (some true)
def wristbandref05_Same.f (k : Nat) (l0 : List (S60)) (l1 : List (S60)) : Option (Bool) := if (l0.length : Int) = (l1.length : Int) then (wristbandref05_Same.l0 k l0 l1 0) else (some false)
theorem wristbandref05_Same.mono_l : ∀ k, (∀ y0 y1 y2, LeO (wristbandref05_Same.l0 k y0 y1 y2) (wristbandref05_Same.l0 (k + 1) y0 y1 y2))
  | 0 => fun _ _ _ r h => by simp [wristbandref05_Same.l0] at h
  | k + 1 => by
    have ih0 := wristbandref05_Same.mono_l k
    · intro y0 y1 y2
      unfold wristbandref05_Same.l0
      repeat' first
      | (with_reducible exact ih0 _ _ _)
      | (with_reducible exact LeO.refl _)
      | (with_reducible exact LeO.none _)
      | (with_reducible refine LeO.ite ?_ ?_)
      | (with_reducible refine LeO.bind ?_ (fun _ => ?_))
      | exact ih0 _ _ _
      | exact LeO.none _
      | refine LeO.ite ?_ ?_
      | refine LeO.bind ?_ (fun _ => ?_)
theorem wristbandref05_Same.mono : ∀ a0 a1 k, LeO (wristbandref05_Same.f k a0 a1) (wristbandref05_Same.f (k + 1) a0 a1) := by
  intro a0 a1 k
  have ih0 := wristbandref05_Same.mono_l k
  unfold wristbandref05_Same.f
  repeat' first
      | (with_reducible exact ih0 _ _ _)
      | (with_reducible exact LeO.refl _)
      | (with_reducible exact LeO.none _)
      | (with_reducible refine LeO.ite ?_ ?_)
      | (with_reducible refine LeO.bind ?_ (fun _ => ?_))
      | exact ih0 _ _ _
      | exact LeO.none _
      | refine LeO.ite ?_ ?_
      | refine LeO.bind ?_ (fun _ => ?_)
set_option maxHeartbeats 8000000 in
set_option maxRecDepth 100000 in
theorem wristbandref05_Same.calls (k : Nat) (A0 : Option Addr) (c0 : Nat) (l0 : List (S60)) (A1 : Option Addr) (c1 : Nat) (l1 : List (S60)) (r : Bool) (w : World) (hr0 : Kd.C k60 w A0 l0.length l0) (hc0 : l0.length ≤ c0) (hr1 : Kd.C k60 w A1 l1.length l1) (hc1 : l1.length ≤ c1) (h : wristbandref05_Same.f k l0 l1 = some r) :
    Calls Try.prog 52 #[.slice A0 l0.length c0, .slice A1 l1.length c1] w fun e w' => e = .returned (.bool r) ∧ Drawn0 w w' := by
  have HR0 := Aside0.mk hr0
  have HC0 := Aside0.mk hc0
  clear hr0 hc0
  have HR1 := Aside0.mk hr1
  have HC1 := Aside0.mk hc1
  clear hr1 hc1
  have H : (if (l0.length : Int) = (l1.length : Int) then (wristbandref05_Same.l0 k l0 l1 0) else (some false)) = some r := h
  clear h
  by_cases c3 : (l0.length : Int) = (l1.length : Int)
  · rw [if_pos c3] at H
    have c3b0 : ((l0.length : Int) == (l1.length : Int)) = true := beq_iff_eq.mpr c3
    have c3b1 : ((l0.length : Int) != (l1.length : Int)) = false := bne_eq_false_iff_eq.mpr c3
    have c3b2 : (l0.length == l1.length) = true := by first | simpa using c3 | (simp at c3 ⊢; omega)
    clear c3
    have H' := Aside0.mk H
    clear H
    go_enter Try.func52, Try.ntmps52
    go_wp2
    repeat (go_quiet (fail); try go_wp2)
    go_loopg [5] k (fun kq v5 w' => ∃ (x5_1 : Int), v5 = .int .i64 x5_1 ∧ Aside0 (wristbandref05_Same.l0 kq l0 l1 x5_1 = some r) ∧ Aside0 (kq ≤ k) ∧ Drawn0 w w')
    case atStart => exact ⟨(0), (by first | rfl | (simp; done) | (simp [*]; done)), H', ⟨Nat.le_refl _⟩, by repeat (first | exact Drawn0.refl _ | apply Drawn0.step)⟩
    case round =>
      clear H'
      try clear c1
      try clear p2
      try clear c3
      try clear c3b0
      try clear c3b1
      try clear c3b2
      obtain ⟨x5_1, rfl, HA, HK1, ⟨m1, rfl⟩⟩ := hrel
      cases gk with
      | zero => exact absurd HA.out (by simp [wristbandref05_Same.l0])
      | succ k1 =>
        have H := HA.out
        clear HA
        simp only [wristbandref05_Same.l0] at H
        by_cases c4 : x5_1 < (l0.length : Int)
        · rw [if_pos c4] at H
          have c4b0 : decide (x5_1 < (l0.length : Int)) = true := decide_eq_true c4
          clear c4
          by_cases c5 : 0 ≤ x5_1
          · rw [if_pos c5] at H
            have c5b0 : decide (0 ≤ x5_1) = true := decide_eq_true c5
            clear c5
            by_cases c6 : x5_1 < (l1.length : Int)
            · rw [if_pos c6] at H
              have c6b0 : decide (x5_1 < (l1.length : Int)) = true := decide_eq_true c6
              clear c6
              by_cases c7 : (strOfNums ((rd_T60 l0 x5_1).f0)).toList = (strOfNums ((rd_T60 l1 x5_1).f0)).toList
              · rw [if_pos c7] at H
                have c7b0 : ((strOfNums ((rd_T60 l0 x5_1).f0)).toList == (strOfNums ((rd_T60 l1 x5_1).f0)).toList) = true := beq_iff_eq.mpr c7
                have c7b1 : ((strOfNums ((rd_T60 l0 x5_1).f0)).toList != (strOfNums ((rd_T60 l1 x5_1).f0)).toList) = false := bne_eq_false_iff_eq.mpr c7
                clear c7
                by_cases c8 : (strOfNums ((rd_T60 l0 x5_1).f1)).toList = (strOfNums ((rd_T60 l1 x5_1).f1)).toList
                · rw [if_pos c8] at H
                  have c8b0 : ((strOfNums ((rd_T60 l0 x5_1).f1)).toList == (strOfNums ((rd_T60 l1 x5_1).f1)).toList) = true := beq_iff_eq.mpr c8
                  have c8b1 : ((strOfNums ((rd_T60 l0 x5_1).f1)).toList != (strOfNums ((rd_T60 l1 x5_1).f1)).toList) = false := bne_eq_false_iff_eq.mpr c8
                  clear c8
                  have H' := Aside0.mk H
                  clear H
                  have p255 : 0 ≤ (x5_1 : Int) := of_decide_eq_true (by first | (with_reducible assumption) | assumption)
                  have q255 : x5_1 < (l0.length : Int) := of_decide_eq_true (by first | (with_reducible assumption) | assumption)
                  obtain ⟨ad255, A255_0, c255_0, A255_1, c255_1, e255, hx255_0, hx255_1, hl255_0, hi255_0, hl255_1, hi255_1⟩ := at_T60 HR0.out x5_1 p255 q255
                  cases e255
                  have HR255_0 := Aside0.mk hi255_0
                  have HC255_0 := Aside0.mk hl255_0
                  clear hi255_0 hl255_0
                  have HR255_1 := Aside0.mk hi255_1
                  have HC255_1 := Aside0.mk hl255_1
                  clear hi255_1 hl255_1
                  replace p255 := eq_true p255
                  replace q255 := eq_true q255
                  have hcv9 := Kd.C_string (P := Try.prog) (A := A255_0) (c := c255_0) Try.underlying22 Try.underlying5 Try.underlying9 HR255_0.out
                  have hcv9q := fun n_ : Nat => Kd.C_string (P := Try.prog) (A := A255_0) (c := c255_0) Try.underlying22 Try.underlying5 Try.underlying9 (Kd.C_drewN HR255_0.out n_)
                  have p256 : 0 ≤ (x5_1 : Int) := of_decide_eq_true (by first | (with_reducible assumption) | assumption)
                  have q256 : x5_1 < (l1.length : Int) := of_decide_eq_true (by first | (with_reducible assumption) | assumption)
                  obtain ⟨ad256, A256_0, c256_0, A256_1, c256_1, e256, hx256_0, hx256_1, hl256_0, hi256_0, hl256_1, hi256_1⟩ := at_T60 HR1.out x5_1 p256 q256
                  cases e256
                  have HR256_0 := Aside0.mk hi256_0
                  have HC256_0 := Aside0.mk hl256_0
                  clear hi256_0 hl256_0
                  have HR256_1 := Aside0.mk hi256_1
                  have HC256_1 := Aside0.mk hl256_1
                  clear hi256_1 hl256_1
                  replace p256 := eq_true p256
                  replace q256 := eq_true q256
                  have hcv10 := Kd.C_string (P := Try.prog) (A := A256_0) (c := c256_0) Try.underlying22 Try.underlying5 Try.underlying9 HR256_0.out
                  have hcv10q := fun n_ : Nat => Kd.C_string (P := Try.prog) (A := A256_0) (c := c256_0) Try.underlying22 Try.underlying5 Try.underlying9 (Kd.C_drewN HR256_0.out n_)
                  have p257 : 0 ≤ (x5_1 : Int) := of_decide_eq_true (by first | (with_reducible assumption) | assumption)
                  have q257 : x5_1 < (l0.length : Int) := of_decide_eq_true (by first | (with_reducible assumption) | assumption)
                  obtain ⟨ad257, A257_0, c257_0, A257_1, c257_1, e257, hx257_0, hx257_1, hl257_0, hi257_0, hl257_1, hi257_1⟩ := at_T60 HR0.out x5_1 p257 q257
                  obtain rfl : ad255 = ad257 := (by injection e257)
                  have HR257_0 := Aside0.mk hi257_0
                  have HC257_0 := Aside0.mk hl257_0
                  clear hi257_0 hl257_0
                  have HR257_1 := Aside0.mk hi257_1
                  have HC257_1 := Aside0.mk hl257_1
                  clear hi257_1 hl257_1
                  replace p257 := eq_true p257
                  replace q257 := eq_true q257
                  have ea_ := Option.some.inj (hx255_0.symm.trans hx257_0)
                  injection ea_ with ea_ en_ ec_
                  subst ea_
                  subst ec_
                  clear en_
                  have ea_ := Option.some.inj (hx255_1.symm.trans hx257_1)
                  injection ea_ with ea_ en_ ec_
                  subst ea_
                  subst ec_
                  clear en_
                  have hcv11 := Kd.C_string (P := Try.prog) (A := A255_1) (c := c255_1) Try.underlying22 Try.underlying5 Try.underlying9 HR257_1.out
                  have hcv11q := fun n_ : Nat => Kd.C_string (P := Try.prog) (A := A255_1) (c := c255_1) Try.underlying22 Try.underlying5 Try.underlying9 (Kd.C_drewN HR257_1.out n_)
                  have p258 : 0 ≤ (x5_1 : Int) := of_decide_eq_true (by first | (with_reducible assumption) | assumption)
                  have q258 : x5_1 < (l1.length : Int) := of_decide_eq_true (by first | (with_reducible assumption) | assumption)
                  obtain ⟨ad258, A258_0, c258_0, A258_1, c258_1, e258, hx258_0, hx258_1, hl258_0, hi258_0, hl258_1, hi258_1⟩ := at_T60 HR1.out x5_1 p258 q258
                  obtain rfl : ad256 = ad258 := (by injection e258)
                  have HR258_0 := Aside0.mk hi258_0
                  have HC258_0 := Aside0.mk hl258_0
                  clear hi258_0 hl258_0
                  have HR258_1 := Aside0.mk hi258_1
                  have HC258_1 := Aside0.mk hl258_1
                  clear hi258_1 hl258_1
                  replace p258 := eq_true p258
                  replace q258 := eq_true q258
                  have ea_ := Option.some.inj (hx256_0.symm.trans hx258_0)
                  injection ea_ with ea_ en_ ec_
                  subst ea_
                  subst ec_
                  clear en_
                  have ea_ := Option.some.inj (hx256_1.symm.trans hx258_1)
                  injection ea_ with ea_ en_ ec_
                  subst ea_
                  subst ec_
                  clear en_
                  have hcv12 := Kd.C_string (P := Try.prog) (A := A256_1) (c := c256_1) Try.underlying22 Try.underlying5 Try.underlying9 HR258_1.out
                  have hcv12q := fun n_ : Nat => Kd.C_string (P := Try.prog) (A := A256_1) (c := c256_1) Try.underlying22 Try.underlying5 Try.underlying9 (Kd.C_drewN HR258_1.out n_)
                  go_wp2
                  repeat (go_quiet (fail); try go_wp2)
                  go_roundg k1
                  case measure => have := HK1.out; omega
                  case rel => exact ⟨(wrap64 (x5_1 + 1)), (by first | rfl | (simp; done) | (simp [*]; done)), H', ⟨by have := HK1.out; omega⟩, by repeat (first | exact Drawn0.refl _ | apply Drawn0.step)⟩
                · rw [if_neg c8] at H
                  have c8b0 : ((strOfNums ((rd_T60 l0 x5_1).f1)).toList == (strOfNums ((rd_T60 l1 x5_1).f1)).toList) = false := beq_eq_false_iff_ne.mpr c8
                  have c8b1 : ((strOfNums ((rd_T60 l0 x5_1).f1)).toList != (strOfNums ((rd_T60 l1 x5_1).f1)).toList) = true := bne_iff_ne.mpr c8
                  obtain rfl := Option.some.inj H
                  have p255 : 0 ≤ (x5_1 : Int) := of_decide_eq_true (by first | (with_reducible assumption) | assumption)
                  have q255 : x5_1 < (l0.length : Int) := of_decide_eq_true (by first | (with_reducible assumption) | assumption)
                  obtain ⟨ad255, A255_0, c255_0, A255_1, c255_1, e255, hx255_0, hx255_1, hl255_0, hi255_0, hl255_1, hi255_1⟩ := at_T60 HR0.out x5_1 p255 q255
                  cases e255
                  have HR255_0 := Aside0.mk hi255_0
                  have HC255_0 := Aside0.mk hl255_0
                  clear hi255_0 hl255_0
                  have HR255_1 := Aside0.mk hi255_1
                  have HC255_1 := Aside0.mk hl255_1
                  clear hi255_1 hl255_1
                  replace p255 := eq_true p255
                  replace q255 := eq_true q255
                  have hcv13 := Kd.C_string (P := Try.prog) (A := A255_0) (c := c255_0) Try.underlying22 Try.underlying5 Try.underlying9 HR255_0.out
                  have hcv13q := fun n_ : Nat => Kd.C_string (P := Try.prog) (A := A255_0) (c := c255_0) Try.underlying22 Try.underlying5 Try.underlying9 (Kd.C_drewN HR255_0.out n_)
                  have p256 : 0 ≤ (x5_1 : Int) := of_decide_eq_true (by first | (with_reducible assumption) | assumption)
                  have q256 : x5_1 < (l1.length : Int) := of_decide_eq_true (by first | (with_reducible assumption) | assumption)
                  obtain ⟨ad256, A256_0, c256_0, A256_1, c256_1, e256, hx256_0, hx256_1, hl256_0, hi256_0, hl256_1, hi256_1⟩ := at_T60 HR1.out x5_1 p256 q256
                  cases e256
                  have HR256_0 := Aside0.mk hi256_0
                  have HC256_0 := Aside0.mk hl256_0
                  clear hi256_0 hl256_0
                  have HR256_1 := Aside0.mk hi256_1
                  have HC256_1 := Aside0.mk hl256_1
                  clear hi256_1 hl256_1
                  replace p256 := eq_true p256
                  replace q256 := eq_true q256
                  have hcv14 := Kd.C_string (P := Try.prog) (A := A256_0) (c := c256_0) Try.underlying22 Try.underlying5 Try.underlying9 HR256_0.out
                  have hcv14q := fun n_ : Nat => Kd.C_string (P := Try.prog) (A := A256_0) (c := c256_0) Try.underlying22 Try.underlying5 Try.underlying9 (Kd.C_drewN HR256_0.out n_)
                  have p257 : 0 ≤ (x5_1 : Int) := of_decide_eq_true (by first | (with_reducible assumption) | assumption)
                  have q257 : x5_1 < (l0.length : Int) := of_decide_eq_true (by first | (with_reducible assumption) | assumption)
                  obtain ⟨ad257, A257_0, c257_0, A257_1, c257_1, e257, hx257_0, hx257_1, hl257_0, hi257_0, hl257_1, hi257_1⟩ := at_T60 HR0.out x5_1 p257 q257
                  obtain rfl : ad255 = ad257 := (by injection e257)
                  have HR257_0 := Aside0.mk hi257_0
                  have HC257_0 := Aside0.mk hl257_0
                  clear hi257_0 hl257_0
                  have HR257_1 := Aside0.mk hi257_1
                  have HC257_1 := Aside0.mk hl257_1
                  clear hi257_1 hl257_1
                  replace p257 := eq_true p257
                  replace q257 := eq_true q257
                  have ea_ := Option.some.inj (hx255_0.symm.trans hx257_0)
                  injection ea_ with ea_ en_ ec_
                  subst ea_
                  subst ec_
                  clear en_
                  have ea_ := Option.some.inj (hx255_1.symm.trans hx257_1)
                  injection ea_ with ea_ en_ ec_
                  subst ea_
                  subst ec_
                  clear en_
                  have hcv15 := Kd.C_string (P := Try.prog) (A := A255_1) (c := c255_1) Try.underlying22 Try.underlying5 Try.underlying9 HR257_1.out
                  have hcv15q := fun n_ : Nat => Kd.C_string (P := Try.prog) (A := A255_1) (c := c255_1) Try.underlying22 Try.underlying5 Try.underlying9 (Kd.C_drewN HR257_1.out n_)
                  have p258 : 0 ≤ (x5_1 : Int) := of_decide_eq_true (by first | (with_reducible assumption) | assumption)
                  have q258 : x5_1 < (l1.length : Int) := of_decide_eq_true (by first | (with_reducible assumption) | assumption)
                  obtain ⟨ad258, A258_0, c258_0, A258_1, c258_1, e258, hx258_0, hx258_1, hl258_0, hi258_0, hl258_1, hi258_1⟩ := at_T60 HR1.out x5_1 p258 q258
                  obtain rfl : ad256 = ad258 := (by injection e258)
                  have HR258_0 := Aside0.mk hi258_0
                  have HC258_0 := Aside0.mk hl258_0
                  clear hi258_0 hl258_0
                  have HR258_1 := Aside0.mk hi258_1
                  have HC258_1 := Aside0.mk hl258_1
                  clear hi258_1 hl258_1
                  replace p258 := eq_true p258
                  replace q258 := eq_true q258
                  have ea_ := Option.some.inj (hx256_0.symm.trans hx258_0)
                  injection ea_ with ea_ en_ ec_
                  subst ea_
                  subst ec_
                  clear en_
                  have ea_ := Option.some.inj (hx256_1.symm.trans hx258_1)
                  injection ea_ with ea_ en_ ec_
                  subst ea_
                  subst ec_
                  clear en_
                  have hcv16 := Kd.C_string (P := Try.prog) (A := A256_1) (c := c256_1) Try.underlying22 Try.underlying5 Try.underlying9 HR258_1.out
                  have hcv16q := fun n_ : Nat => Kd.C_string (P := Try.prog) (A := A256_1) (c := c256_1) Try.underlying22 Try.underlying5 Try.underlying9 (Kd.C_drewN HR258_1.out n_)
                  go_wp2
                  repeat (go_quiet (fail); try go_wp2)
                  go_ret
                  exact ⟨by first | rfl | (simp; done) | (simp [*]; done), by repeat (first | exact Drawn0.refl _ | apply Drawn0.step)⟩
              · rw [if_neg c7] at H
                have c7b0 : ((strOfNums ((rd_T60 l0 x5_1).f0)).toList == (strOfNums ((rd_T60 l1 x5_1).f0)).toList) = false := beq_eq_false_iff_ne.mpr c7
                have c7b1 : ((strOfNums ((rd_T60 l0 x5_1).f0)).toList != (strOfNums ((rd_T60 l1 x5_1).f0)).toList) = true := bne_iff_ne.mpr c7
                obtain rfl := Option.some.inj H
                have p255 : 0 ≤ (x5_1 : Int) := of_decide_eq_true (by first | (with_reducible assumption) | assumption)
                have q255 : x5_1 < (l0.length : Int) := of_decide_eq_true (by first | (with_reducible assumption) | assumption)
                obtain ⟨ad255, A255_0, c255_0, A255_1, c255_1, e255, hx255_0, hx255_1, hl255_0, hi255_0, hl255_1, hi255_1⟩ := at_T60 HR0.out x5_1 p255 q255
                cases e255
                have HR255_0 := Aside0.mk hi255_0
                have HC255_0 := Aside0.mk hl255_0
                clear hi255_0 hl255_0
                have HR255_1 := Aside0.mk hi255_1
                have HC255_1 := Aside0.mk hl255_1
                clear hi255_1 hl255_1
                replace p255 := eq_true p255
                replace q255 := eq_true q255
                have hcv17 := Kd.C_string (P := Try.prog) (A := A255_0) (c := c255_0) Try.underlying22 Try.underlying5 Try.underlying9 HR255_0.out
                have hcv17q := fun n_ : Nat => Kd.C_string (P := Try.prog) (A := A255_0) (c := c255_0) Try.underlying22 Try.underlying5 Try.underlying9 (Kd.C_drewN HR255_0.out n_)
                have p256 : 0 ≤ (x5_1 : Int) := of_decide_eq_true (by first | (with_reducible assumption) | assumption)
                have q256 : x5_1 < (l1.length : Int) := of_decide_eq_true (by first | (with_reducible assumption) | assumption)
                obtain ⟨ad256, A256_0, c256_0, A256_1, c256_1, e256, hx256_0, hx256_1, hl256_0, hi256_0, hl256_1, hi256_1⟩ := at_T60 HR1.out x5_1 p256 q256
                cases e256
                have HR256_0 := Aside0.mk hi256_0
                have HC256_0 := Aside0.mk hl256_0
                clear hi256_0 hl256_0
                have HR256_1 := Aside0.mk hi256_1
                have HC256_1 := Aside0.mk hl256_1
                clear hi256_1 hl256_1
                replace p256 := eq_true p256
                replace q256 := eq_true q256
                have hcv18 := Kd.C_string (P := Try.prog) (A := A256_0) (c := c256_0) Try.underlying22 Try.underlying5 Try.underlying9 HR256_0.out
                have hcv18q := fun n_ : Nat => Kd.C_string (P := Try.prog) (A := A256_0) (c := c256_0) Try.underlying22 Try.underlying5 Try.underlying9 (Kd.C_drewN HR256_0.out n_)
                go_wp2
                repeat (go_quiet (fail); try go_wp2)
                go_ret
                exact ⟨by first | rfl | (simp; done) | (simp [*]; done), by repeat (first | exact Drawn0.refl _ | apply Drawn0.step)⟩
            · rw [if_neg c6] at H
              exact absurd H (by simp)
          · rw [if_neg c5] at H
            exact absurd H (by simp)
        · rw [if_neg c4] at H
          have c4b0 : decide (x5_1 < (l0.length : Int)) = false := decide_eq_false c4
          clear c4
          obtain rfl := Option.some.inj H
          go_wp2
          repeat (go_quiet (fail); try go_wp2)
          go_ret
          exact ⟨by first | rfl | (simp; done) | (simp [*]; done), by repeat (first | exact Drawn0.refl _ | apply Drawn0.step)⟩
  · rw [if_neg c3] at H
    have c3b0 : ((l0.length : Int) == (l1.length : Int)) = false := beq_eq_false_iff_ne.mpr c3
    have c3b1 : ((l0.length : Int) != (l1.length : Int)) = true := bne_iff_ne.mpr c3
    have c3b2 : (l0.length == l1.length) = false := by first | simpa using c3 | (simp at c3 ⊢; omega)
    obtain rfl := Option.some.inj H
    go_enter Try.func52, Try.ntmps52
    go_wp2
    repeat (go_quiet (fail); try go_wp2)
    go_ret
    exact ⟨by first | rfl | (simp; done) | (simp [*]; done), by repeat (first | exact Drawn0.refl _ | apply Drawn0.step)⟩

end Go.Proofs.Ytnpkhkhlofkbhaa.PTermRight
