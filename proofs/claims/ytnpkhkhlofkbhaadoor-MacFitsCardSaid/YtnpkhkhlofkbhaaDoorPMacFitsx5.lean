-- made by a program of this session (its printer) out of what Lean prints of the given program
import Derived.Test.YtnpkhkhlofkbhaaDoorPMacFitsx0
import Derived.Test.YtnpkhkhlofkbhaaDoorPMacFitsx2
import Derived.Test.YtnpkhkhlofkbhaaDoorPMacFitsx3
import Derived.Test.YtnpkhkhlofkbhaaDoorPMacFitsx4
namespace Go.Proofs.YtnpkhkhlofkbhaaDoor.PMacFits
open Go.RowKit Go.Proofs.YtnpkhkhlofkbhaaDoorW.PrintWords Go.Proofs.YtnpkhkhlofkbhaaDoorW.PrintLast Go.Proofs.YtnpkhkhlofkbhaaDoorW.PrintMore
attribute [local go_sem] max2_int min2_int max_two min_two max_three min_three max_four min_four   -- for this text's walks alone
set_option linter.unusedVariables false
set_option linter.unusedSimpArgs false

/-! ### wristbandref05_Short: function 40 -/
mutual
def wristbandref05_Short.l0 : Nat → List (S84) → Int → Option (Bool)
  | 0, _, _ => none
  | k + 1, x0, x3 => if x3 < (x0.length : Int) then (wristbandref05_Short.j1 k x0 x3 (decide (x3 < 400))) else (wristbandref05_Short.j1 k x0 x3 false)
def wristbandref05_Short.j1 : Nat → List (S84) → Int → Bool → Option (Bool)
  | 0, _, _, _ => none
  | k + 1, x0, x3, x11 => if x11 = true then (if 0 ≤ x3 then (if x3 < (x0.length : Int) then (if (((rd_T84 x0 x3).f0).length : Int) > 3000 then (some false) else (if (((rd_T84 x0 x3).f1).length : Int) > 3000 then (some false) else (wristbandref05_Short.l0 k x0 (wrap64 (x3 + 1))))) else (none)) else (none)) else (some (decide ((x0.length : Int) ≤ 400)))
end
def wristbandref05_Short.f (k : Nat) (l0 : List (S84)) : Option (Bool) := wristbandref05_Short.l0 k l0 0
theorem wristbandref05_Short.mono_l : ∀ k, (∀ y0 y1, LeO (wristbandref05_Short.l0 k y0 y1) (wristbandref05_Short.l0 (k + 1) y0 y1)) ∧ (∀ y0 y1 y2, LeO (wristbandref05_Short.j1 k y0 y1 y2) (wristbandref05_Short.j1 (k + 1) y0 y1 y2))
  | 0 => ⟨fun _ _ r h => by simp [wristbandref05_Short.l0] at h, fun _ _ _ r h => by simp [wristbandref05_Short.j1] at h⟩
  | k + 1 => by
   obtain ⟨ih0, ih1⟩ := wristbandref05_Short.mono_l k
   refine ⟨?_, ?_⟩
   ·intro y0 y1
    unfold wristbandref05_Short.l0
    repeat' first
    | (with_reducible exact ih0 _ _)
    | (with_reducible exact ih1 _ _ _)
    | (with_reducible exact LeO.refl _)
    | (with_reducible exact LeO.none _)
    | (with_reducible refine LeO.ite ?_ ?_)
    | (with_reducible refine LeO.bind ?_ (fun _ => ?_))
    | exact ih0 _ _
    | exact ih1 _ _ _
    | exact LeO.none _
    | refine LeO.ite ?_ ?_
    | refine LeO.bind ?_ (fun _ => ?_)
   ·intro y0 y1 y2
    unfold wristbandref05_Short.j1
    repeat' first
    | (with_reducible exact ih0 _ _)
    | (with_reducible exact ih1 _ _ _)
    | (with_reducible exact LeO.refl _)
    | (with_reducible exact LeO.none _)
    | (with_reducible refine LeO.ite ?_ ?_)
    | (with_reducible refine LeO.bind ?_ (fun _ => ?_))
    | exact ih0 _ _
    | exact ih1 _ _ _
    | exact LeO.none _
    | refine LeO.ite ?_ ?_
    | refine LeO.bind ?_ (fun _ => ?_)
theorem wristbandref05_Short.mono : ∀ a0 k, LeO (wristbandref05_Short.f k a0) (wristbandref05_Short.f (k + 1) a0) := by
  intro a0 k; obtain ⟨ih0, ih1⟩ := wristbandref05_Short.mono_l k
  unfold wristbandref05_Short.f
  repeat' first
    | (with_reducible exact ih0 _ _)
    | (with_reducible exact ih1 _ _ _)
    | (with_reducible exact LeO.refl _)
    | (with_reducible exact LeO.none _)
    | (with_reducible refine LeO.ite ?_ ?_)
    | (with_reducible refine LeO.bind ?_ (fun _ => ?_))
    | exact ih0 _ _
    | exact ih1 _ _ _
    | exact LeO.none _
    | refine LeO.ite ?_ ?_
    | refine LeO.bind ?_ (fun _ => ?_)
set_option maxHeartbeats 8000000 in
set_option maxRecDepth 100000 in
theorem wristbandref05_Short.calls (k : Nat) (A0 : Option Addr) (c0 : Nat) (l0 : List (S84)) (r : Bool) (w : World) (hr0 : Kd.C k84 w A0 l0.length l0) (hc0 : l0.length ≤ c0) (h : wristbandref05_Short.f k l0 = some r) :
   Calls Tryd.prog 40 #[.slice A0 l0.length c0] w fun e w' => e = .returned (.bool r) ∧ Drawn0 w w' := by
  have HR0 := Aside0.mk hr0; have HC0 := Aside0.mk hc0; clear hr0 hc0; have H : (wristbandref05_Short.l0 k l0 0) = some r := h
  clear h; have H' := Aside0.mk H; clear H; go_enter Tryd.func40, Tryd.ntmps40
  go_wp2
  go_loopg [3] k (fun kq v3 w' => ∃ (x3_1 : Int), v3 = .int .i64 x3_1 ∧ Aside0 (wristbandref05_Short.l0 kq l0 x3_1 = some r) ∧ Aside0 (kq ≤ k) ∧ Drawn0 w w')
  case atStart => exact ⟨(0), (by first | rfl | (simp; done) | (simp [*]; done)), H', ⟨Nat.le_refl _⟩, by repeat (first | exact Drawn0.refl _ | apply Drawn0.step)⟩
  case round =>
   clear H'; obtain ⟨x3_1, rfl, HA, HK1, ⟨m1, rfl⟩⟩ := hrel
   cases gk with
   | zero => exact absurd HA.out (by simp [wristbandref05_Short.l0])
   | succ k1 =>
    have H := HA.out
    clear HA; simp only [wristbandref05_Short.l0] at H
    have HC2 := Aside0.mk H; clear H; go_upto_region 2 with (fail)
    go_cut [11] (fun v11 wc => ∃ (kq : Nat) (x11_1 : Bool), v11 = .bool x11_1 ∧ Aside0 (wristbandref05_Short.j1 kq l0 x3_1 x11_1 = some r) ∧ Aside0 (kq ≤ k1) ∧ Drawn0 w wc)
    case first =>
     have H := HC2.out
     clear HC2; by_cases c3 : x3_1 < (l0.length : Int)
     ·rw [if_pos c3] at H
      have c3b0 : decide (x3_1 < (l0.length : Int)) = true := decide_eq_true c3
      clear c3; (first | rw [c3b0] | (simp only [i64_w, i32_w]; rw [c3b0]) | skip); have H' := Aside0.mk H; clear H; go_wp2
      go_meet
      case rel => exact ⟨_, (decide (x3_1 < 400)), (by first | rfl | (simp; done) | (simp [*]; done)), H', ⟨by have := HK1.out; first | omega | exact Nat.le_refl _⟩, by repeat (first | exact Drawn0.refl _ | apply Drawn0.step)⟩
     ·rw [if_neg c3] at H
      have c3b0 : decide (x3_1 < (l0.length : Int)) = false := decide_eq_false c3
      clear c3; (first | rw [c3b0] | (simp only [i64_w, i32_w]; rw [c3b0]) | skip); have H' := Aside0.mk H; clear H; go_wp2
      go_meet
      case rel => exact ⟨_, (false), (by first | rfl | (simp; done) | (simp [*]; done)), H', ⟨by have := HK1.out; first | omega | exact Nat.le_refl _⟩, by repeat (first | exact Drawn0.refl _ | apply Drawn0.step)⟩
    case rest =>
     clear HC2; try clear p2
     try clear c3
     try clear c3b0
     obtain ⟨kq, x11_1, rfl, HA, HJ1, ⟨mc1, rfl⟩⟩ := hcut
     cases kq with
     | zero => exact absurd HA.out (by simp [wristbandref05_Short.j1])
     | succ kj1 =>
      have H := HA.out
      clear HA; simp only [wristbandref05_Short.j1] at H
      by_cases c4 : x11_1 = true
      ·subst c4
       have H1 : (if 0 ≤ x3_1 then (if x3_1 < (l0.length : Int) then (if (((rd_T84 l0 x3_1).f0).length : Int) > 3000 then (some false) else (if (((rd_T84 l0 x3_1).f1).length : Int) > 3000 then (some false) else (wristbandref05_Short.l0 kj1 l0 (wrap64 (x3_1 + 1))))) else (none)) else (none)) = some r := by rw [if_pos rfl] at H; exact H
       clear H; have H := H1; clear H1; by_cases c5 : 0 ≤ x3_1
       ·rw [if_pos c5] at H
        have c5b0 : decide (0 ≤ x3_1) = true := decide_eq_true c5
        clear c5; by_cases c6 : x3_1 < (l0.length : Int)
        ·rw [if_pos c6] at H
         have c6b0 : decide (x3_1 < (l0.length : Int)) = true := decide_eq_true c6
         clear c6; by_cases c7 : (((rd_T84 l0 x3_1).f0).length : Int) > 3000
         ·rw [if_pos c7] at H
          have c7b0 : decide (3000 < (((rd_T84 l0 x3_1).f0).length : Int)) = true := decide_eq_true c7
          have c7b1 : decide (3000 < ((rd_T84 l0 x3_1).f0).length) = true := decide_eq_true (by omega)
          clear c7; obtain rfl := Option.some.inj H
          have p209 : 0 ≤ (x3_1 : Int) := of_decide_eq_true (by first | (with_reducible assumption) | assumption)
          have q209 : x3_1 < (l0.length : Int) := of_decide_eq_true (by first | (with_reducible assumption) | assumption)
          obtain ⟨ad209, A209_0, c209_0, A209_1, c209_1, e209, hx209_0, hx209_1, hl209_0, hi209_0, hl209_1, hi209_1⟩ := at_T84 HR0.out x3_1 p209 q209
          cases e209
          have HR209_0 := Aside0.mk hi209_0; have HC209_0 := Aside0.mk hl209_0; clear hi209_0 hl209_0; have HR209_1 := Aside0.mk hi209_1; have HC209_1 := Aside0.mk hl209_1; clear hi209_1 hl209_1; replace p209 := eq_true p209
          replace q209 := eq_true q209
          go_wp2
          go_ret
          exact ⟨by first | rfl | (simp; done) | (simp [*]; done), by repeat (first | exact Drawn0.refl _ | apply Drawn0.step)⟩
         ·rw [if_neg c7] at H
          have c7b0 : decide (3000 < (((rd_T84 l0 x3_1).f0).length : Int)) = false := decide_eq_false c7
          have c7b1 : decide (3000 < ((rd_T84 l0 x3_1).f0).length) = false := decide_eq_false (by omega)
          clear c7; by_cases c8 : (((rd_T84 l0 x3_1).f1).length : Int) > 3000
          ·rw [if_pos c8] at H
           have c8b0 : decide (3000 < (((rd_T84 l0 x3_1).f1).length : Int)) = true := decide_eq_true c8
           have c8b1 : decide (3000 < ((rd_T84 l0 x3_1).f1).length) = true := decide_eq_true (by omega)
           clear c8; obtain rfl := Option.some.inj H
           have p209 : 0 ≤ (x3_1 : Int) := of_decide_eq_true (by first | (with_reducible assumption) | assumption)
           have q209 : x3_1 < (l0.length : Int) := of_decide_eq_true (by first | (with_reducible assumption) | assumption)
           obtain ⟨ad209, A209_0, c209_0, A209_1, c209_1, e209, hx209_0, hx209_1, hl209_0, hi209_0, hl209_1, hi209_1⟩ := at_T84 HR0.out x3_1 p209 q209
           cases e209
           have HR209_0 := Aside0.mk hi209_0; have HC209_0 := Aside0.mk hl209_0; clear hi209_0 hl209_0; have HR209_1 := Aside0.mk hi209_1; have HC209_1 := Aside0.mk hl209_1; clear hi209_1 hl209_1; replace p209 := eq_true p209
           replace q209 := eq_true q209
           have p210 : 0 ≤ (x3_1 : Int) := of_decide_eq_true (by first | (with_reducible assumption) | assumption)
           have q210 : x3_1 < (l0.length : Int) := of_decide_eq_true (by first | (with_reducible assumption) | assumption)
           obtain ⟨ad210, A210_0, c210_0, A210_1, c210_1, e210, hx210_0, hx210_1, hl210_0, hi210_0, hl210_1, hi210_1⟩ := at_T84 HR0.out x3_1 p210 q210
           obtain rfl : ad209 = ad210 := (by injection e210)
           have HR210_0 := Aside0.mk hi210_0; have HC210_0 := Aside0.mk hl210_0; clear hi210_0 hl210_0; have HR210_1 := Aside0.mk hi210_1; have HC210_1 := Aside0.mk hl210_1; clear hi210_1 hl210_1; replace p210 := eq_true p210
           replace q210 := eq_true q210
           have ea_ := Option.some.inj (hx209_0.symm.trans hx210_0)
           injection ea_ with ea_ en_ ec_
           subst ea_; subst ec_
           clear en_; have ea_ := Option.some.inj (hx209_1.symm.trans hx210_1)
           injection ea_ with ea_ en_ ec_
           subst ea_; subst ec_
           clear en_; go_wp2
           go_ret
           exact ⟨by first | rfl | (simp; done) | (simp [*]; done), by repeat (first | exact Drawn0.refl _ | apply Drawn0.step)⟩
          ·rw [if_neg c8] at H
           have c8b0 : decide (3000 < (((rd_T84 l0 x3_1).f1).length : Int)) = false := decide_eq_false c8
           have c8b1 : decide (3000 < ((rd_T84 l0 x3_1).f1).length) = false := decide_eq_false (by omega)
           clear c8; have H' := Aside0.mk H; clear H; have p209 : 0 ≤ (x3_1 : Int) := of_decide_eq_true (by first | (with_reducible assumption) | assumption)
           have q209 : x3_1 < (l0.length : Int) := of_decide_eq_true (by first | (with_reducible assumption) | assumption)
           obtain ⟨ad209, A209_0, c209_0, A209_1, c209_1, e209, hx209_0, hx209_1, hl209_0, hi209_0, hl209_1, hi209_1⟩ := at_T84 HR0.out x3_1 p209 q209
           cases e209
           have HR209_0 := Aside0.mk hi209_0; have HC209_0 := Aside0.mk hl209_0; clear hi209_0 hl209_0; have HR209_1 := Aside0.mk hi209_1; have HC209_1 := Aside0.mk hl209_1; clear hi209_1 hl209_1; replace p209 := eq_true p209
           replace q209 := eq_true q209
           have p210 : 0 ≤ (x3_1 : Int) := of_decide_eq_true (by first | (with_reducible assumption) | assumption)
           have q210 : x3_1 < (l0.length : Int) := of_decide_eq_true (by first | (with_reducible assumption) | assumption)
           obtain ⟨ad210, A210_0, c210_0, A210_1, c210_1, e210, hx210_0, hx210_1, hl210_0, hi210_0, hl210_1, hi210_1⟩ := at_T84 HR0.out x3_1 p210 q210
           obtain rfl : ad209 = ad210 := (by injection e210)
           have HR210_0 := Aside0.mk hi210_0; have HC210_0 := Aside0.mk hl210_0; clear hi210_0 hl210_0; have HR210_1 := Aside0.mk hi210_1; have HC210_1 := Aside0.mk hl210_1; clear hi210_1 hl210_1; replace p210 := eq_true p210
           replace q210 := eq_true q210
           have ea_ := Option.some.inj (hx209_0.symm.trans hx210_0)
           injection ea_ with ea_ en_ ec_
           subst ea_; subst ec_
           clear en_; have ea_ := Option.some.inj (hx209_1.symm.trans hx210_1)
           injection ea_ with ea_ en_ ec_
           subst ea_; subst ec_
           clear en_; go_wp2
           go_roundg kj1
           case measure => have := HK1.out; have := HJ1.out; omega
           case rel => exact ⟨(wrap64 (x3_1 + 1)), (by first | rfl | (simp; done) | (simp [*]; done)), H', ⟨by have := HK1.out; have := HJ1.out; omega⟩, by repeat (first | exact Drawn0.refl _ | apply Drawn0.step)⟩
        ·rw [if_neg c6] at H
         exact absurd H (by simp)
       ·rw [if_neg c5] at H
        exact absurd H (by simp)
      ·replace c4 := Bool.eq_false_iff.mpr c4
       subst c4; have H1 : (some (decide ((l0.length : Int) ≤ 400))) = some r := by rw [if_neg (show ¬ (false = true) by decide)] at H; exact H
       clear H; have H := H1; clear H1; obtain rfl := Option.some.inj H
       go_wp2
       go_ret
       exact ⟨by first | rfl | (simp; done) | (simp [*]; done), by repeat (first | exact Drawn0.refl _ | apply Drawn0.step)⟩

/-! ### wristbandlaw06_MacFits: function 12 -/
theorem mf.c2 {W : World} {g t : Nat} {a b : Value} (h : W.heap[g]? = some (.cells #[a, b] t (0, 0))) : W.cell? ⟨g, 0, none⟩ = some a ∧ W.cell? ⟨g, 1, none⟩ = some b := ⟨(blk_cell h 0).trans rfl, (blk_cell h 1).trans rfl⟩
theorem mf.str {W : World} {A : Option Addr} {c : Nat} {l : List Int} (h : Kd.C (Kd.int .u8) W A l.length l) : (convert 24 9 (.slice A l.length c)).run Tryd.prog W = .ok (.string (strOfNums l)) W :=
  Kd.C_string Tryd.underlying24 Tryd.underlying5 Tryd.underlying9 h
theorem mf.cut7 (A : Option Addr) (c : Nat) (h t : List Int) (ht : t = h.take 7) (h8 : 7 ≤ h.length) (hc : h.length ≤ c) : ∀ W : World, (Instr.slice 24 (.slice A h.length c) none (some (.int .i64 7)) none).run Tryd.prog W = .ok (.slice A t.length c) W := by
  obtain ⟨i0, hi0, _⟩ := info_parts info5
  intro W
  have := cut_to (P := Tryd.prog) 24 5 .i64 Tryd.underlying24 hi0 A h.length c 7 (by omega) (by omega) hc W
  rw [this, ht, List.length_take, Nat.min_eq_left h8]
  rfl
theorem mf.fitsx (k : Nat) (a0_0 : Int) (A0_1 : Option Addr) (c0_1 : Nat) (l0_1 : List S84) (A1 : Option Addr) (c1 : Nat) (l1 : List Int) (A2 : Option Addr) (c2 : Nat) (l2 : List Int) (A3 : Option Addr) (c3 : Nat) (l3 : List Int) (n : Nat) (r : Bool) (w : World) (hr0_1 : Kd.C k84 w A0_1 l0_1.length l0_1) (hc0_1 : l0_1.length ≤ c0_1) (hr1 : Kd.C (Kd.int .u8) w A1 l1.length l1) (hc1 : l1.length ≤ c1) (hr2 : Kd.C (Kd.int .u8) w A2 l2.length l2) (hc2 : l2.length ≤ c2) (hr3 : Kd.C (Kd.int .u8) w A3 l3.length l3) (hc3 : n ≤ c3) (hn : n = l3.length) (hL0_ : Kd.C (Kd.int .u32) w (some ⟨0, 0, none⟩) 64 shaK) (hL1_ : Kd.C (Kd.int .u32) w (some ⟨1, 0, none⟩) 8 shaF) (h : mac_Fits.f k a0_0 l0_1 l1 l2 l3 = some r) :
    Calls Tryd.prog 43 #[.agg #[.int .i64 a0_0, .slice A0_1 l0_1.length c0_1], .slice A1 l1.length c1, .slice A2 l2.length c2, .slice A3 n c3] w fun e w' => e = .returned (.bool r) ∧ Below w.heap.size w w' := by
  subst hn
  exact mac_Fits.calls k a0_0 A0_1 c0_1 l0_1 A1 c1 l1 A2 c2 l2 A3 c3 l3 r w hr0_1 hc0_1 hr1 hc1 hr2 hc2 hr3 hc3 hL0_ hL1_ h
set_option maxHeartbeats 16000000 in
set_option maxRecDepth 100000 in
theorem mf.much (k : Nat) (kd : Int) (A0 : Option Addr) (c0 : Nat) (l0 : List S84) (A1 : Option Addr) (c1 : Nat) (l1 : List Int) (A2 : Option Addr) (c2 : Nat) (l2 : List Int) (A3 : Option Addr) (c3 : Nat) (l3 : List Int) (at_ by_ : Int) (w : World) (hr0 : Kd.C k84 w A0 l0.length l0) (hc0 : l0.length ≤ c0) (hr1 : Kd.C (Kd.int .u8) w A1 l1.length l1) (hc1 : l1.length ≤ c1) (hr2 : Kd.C (Kd.int .u8) w A2 l2.length l2) (hc2 : l2.length ≤ c2) (hr3 : Kd.C (Kd.int .u8) w A3 l3.length l3) (hc3 : l3.length ≤ c3) (hL0 : Kd.C (Kd.int .u32) w (some ⟨0, 0, none⟩) 64 shaK) (hL1 : Kd.C (Kd.int .u32) w (some ⟨1, 0, none⟩) 8 shaF) (haw : ∀ W : World, Kd.C (Kd.int .u32) W (some ⟨0, 0, none⟩) 64 shaK → Kd.C (Kd.int .u32) W (some ⟨1, 0, none⟩) 8 shaF → Calls Tryd.prog 39 #[] W fun e w' => e = .returned (.bool true) ∧ Below W.heap.size W w') (sv : Bool) (hsh : wristbandref05_Short.f k l0 = some sv) (hl : sv = false ∨ 2000 < l1.length ∨ 2000 < l2.length ∨ 2000 < l3.length) :
    Calls Tryd.prog 12 #[.agg #[.int .i64 kd, .slice A0 l0.length c0], .slice A1 l1.length c1, .slice A2 l2.length c2, .slice A3 l3.length c3, .int .u8 at_, .int .u8 by_] w fun e w' => e = .returned (.bool true) ∧ Below w.heap.size w w' := by
  have HSH := Aside0.mk hsh
  clear hsh
  have HD : Aside0 (sv = false ∨ 2000 < l1.length ∨ 2000 < l2.length ∨ 2000 < l3.length) := ⟨hl⟩
  clear hl
  have HR0 := Aside0.mk hr0; have HC0 := Aside0.mk hc0; have HR1 := Aside0.mk hr1; have HC1 := Aside0.mk hc1; have HR2 := Aside0.mk hr2; have HC2 := Aside0.mk hc2; have HR3 := Aside0.mk hr3; have HC3 := Aside0.mk hc3; have HL0 := Aside0.mk hL0; have HL1 := Aside0.mk hL1; have HAW := Aside0.mk haw
  clear hr0 hc0 hr1 hc1 hr2 hc2 hr3 hc3 hL0 hL1 haw
  go_enter Tryd.func12, Tryd.ntmps12
  go_upto_region 1 with fail
  have BS := Aside0.mk (blk_new w (.cells #[.int .i64 kd, .slice A0 l0.length c0] 62)); have HB := Aside0.mk (below_alloc (Below.refl w.heap.size w) (.cells #[.int .i64 kd, .slice A0 l0.length c0] 62))
  generalize w.alloc (.cells #[.int .i64 kd, .slice A0 l0.length c0] 62) = W0 at BS HB ⊢
  have H := Aside0.mk (Below.refl W0.heap.size W0)
  by_cases hs : sv = false
  · subst hs
    clear HD
    go_wp2_with (first
      | (go_at_call 39; refine Calls.mono (HAW.out _ (Kd.C_below HL0.out (below_step HB.out H.out)) (Kd.C_below HL1.out (below_step HB.out H.out))) ?_; rintro e w2 ⟨rfl, hb⟩; have H9 := Aside0.mk (below_step H.out hb); clear H; have H := H9; clear H9; clear hb; obtain ⟨ca0, ca1⟩ := mf.c2 (blk_below BS.out H.out))
      | (go_at_call 40; refine Calls.mono (wristbandref05_Short.calls k _ _ l0 false _ (Kd.C_below HR0.out (below_step HB.out H.out)) HC0.out HSH.out) ?_; rintro e w3 ⟨rfl, hd⟩; have hb := hd.below; have H9 := Aside0.mk (below_step H.out hb); clear H; have H := H9; clear H9; clear hb hd; obtain ⟨cb0, cb1⟩ := mf.c2 (blk_below BS.out H.out)))
    go_ret
    exact ⟨rfl, below_step HB.out H.out⟩
  · replace hs : sv = true := by cases sv with
      | true => rfl
      | false => exact absurd rfl hs
    subst hs
    have hd := HD.out.resolve_left (by decide)
    clear HD
    by_cases h1 : 2000 < l1.length
    · have d11 : decide (2000 < (l1.length : Int)) = true := decide_eq_true (by omega)
      have d12 : decide (2000 < l1.length) = true := decide_eq_true (by omega)
      clear h1 hd
      go_wp2_with (first
        | (go_at_call 39; refine Calls.mono (HAW.out _ (Kd.C_below HL0.out (below_step HB.out H.out)) (Kd.C_below HL1.out (below_step HB.out H.out))) ?_; rintro e w2 ⟨rfl, hb⟩; have H9 := Aside0.mk (below_step H.out hb); clear H; have H := H9; clear H9; clear hb; obtain ⟨ca0, ca1⟩ := mf.c2 (blk_below BS.out H.out))
        | (go_at_call 40; refine Calls.mono (wristbandref05_Short.calls k _ _ l0 true _ (Kd.C_below HR0.out (below_step HB.out H.out)) HC0.out HSH.out) ?_; rintro e w3 ⟨rfl, hd⟩; have hb := hd.below; have H9 := Aside0.mk (below_step H.out hb); clear H; have H := H9; clear H9; clear hb hd; obtain ⟨cb0, cb1⟩ := mf.c2 (blk_below BS.out H.out)))
      go_ret
      exact ⟨rfl, below_step HB.out H.out⟩
    · have hd := hd.resolve_left h1
      by_cases h2 : 2000 < l2.length
      · have d11 : decide (2000 < (l1.length : Int)) = false := decide_eq_false (by omega)
        have d12 : decide (2000 < l1.length) = false := decide_eq_false (by omega)
        have d21 : decide (2000 < (l2.length : Int)) = true := decide_eq_true (by omega)
        have d22 : decide (2000 < l2.length) = true := decide_eq_true (by omega)
        clear h1 h2 hd
        go_wp2_with (first
          | (go_at_call 39; refine Calls.mono (HAW.out _ (Kd.C_below HL0.out (below_step HB.out H.out)) (Kd.C_below HL1.out (below_step HB.out H.out))) ?_; rintro e w2 ⟨rfl, hb⟩; have H9 := Aside0.mk (below_step H.out hb); clear H; have H := H9; clear H9; clear hb; obtain ⟨ca0, ca1⟩ := mf.c2 (blk_below BS.out H.out))
          | (go_at_call 40; refine Calls.mono (wristbandref05_Short.calls k _ _ l0 true _ (Kd.C_below HR0.out (below_step HB.out H.out)) HC0.out HSH.out) ?_; rintro e w3 ⟨rfl, hd⟩; have hb := hd.below; have H9 := Aside0.mk (below_step H.out hb); clear H; have H := H9; clear H9; clear hb hd; obtain ⟨cb0, cb1⟩ := mf.c2 (blk_below BS.out H.out)))
        go_ret
        exact ⟨rfl, below_step HB.out H.out⟩
      · have h3 := hd.resolve_left h2
        have d11 : decide (2000 < (l1.length : Int)) = false := decide_eq_false (by omega)
        have d12 : decide (2000 < l1.length) = false := decide_eq_false (by omega)
        have d21 : decide (2000 < (l2.length : Int)) = false := decide_eq_false (by omega)
        have d22 : decide (2000 < l2.length) = false := decide_eq_false (by omega)
        have d31 : decide (2000 < (l3.length : Int)) = true := decide_eq_true (by omega)
        have d32 : decide (2000 < l3.length) = true := decide_eq_true (by omega)
        clear h1 h2 h3 hd
        go_wp2_with (first
          | (go_at_call 39; refine Calls.mono (HAW.out _ (Kd.C_below HL0.out (below_step HB.out H.out)) (Kd.C_below HL1.out (below_step HB.out H.out))) ?_; rintro e w2 ⟨rfl, hb⟩; have H9 := Aside0.mk (below_step H.out hb); clear H; have H := H9; clear H9; clear hb; obtain ⟨ca0, ca1⟩ := mf.c2 (blk_below BS.out H.out))
          | (go_at_call 40; refine Calls.mono (wristbandref05_Short.calls k _ _ l0 true _ (Kd.C_below HR0.out (below_step HB.out H.out)) HC0.out HSH.out) ?_; rintro e w3 ⟨rfl, hd⟩; have hb := hd.below; have H9 := Aside0.mk (below_step H.out hb); clear H; have H := H9; clear H9; clear hb hd; obtain ⟨cb0, cb1⟩ := mf.c2 (blk_below BS.out H.out)))
        go_ret
        exact ⟨rfl, below_step HB.out H.out⟩
set_option maxHeartbeats 16000000 in
set_option maxRecDepth 100000 in
theorem mf.main (k : Nat) (kd : Int) (A0 : Option Addr) (c0 : Nat) (l0 : List S84) (A1 : Option Addr) (c1 : Nat) (l1 : List Int) (A2 : Option Addr) (c2 : Nat) (l2 : List Int) (A3 : Option Addr) (c3 : Nat) (l3 : List Int) (at_ by_ : Int) (w : World) (hr0 : Kd.C k84 w A0 l0.length l0) (hc0 : l0.length ≤ c0) (hr1 : Kd.C (Kd.int .u8) w A1 l1.length l1) (hc1 : l1.length ≤ c1) (hr2 : Kd.C (Kd.int .u8) w A2 l2.length l2) (hc2 : l2.length ≤ c2) (hr3 : Kd.C (Kd.int .u8) w A3 l3.length l3) (hc3 : l3.length ≤ c3) (hL0 : Kd.C (Kd.int .u32) w (some ⟨0, 0, none⟩) 64 shaK) (hL1 : Kd.C (Kd.int .u32) w (some ⟨1, 0, none⟩) 8 shaF) (haw : ∀ W : World, Kd.C (Kd.int .u32) W (some ⟨0, 0, none⟩) 64 shaK → Kd.C (Kd.int .u32) W (some ⟨1, 0, none⟩) 8 shaF → Calls Tryd.prog 39 #[] W fun e w' => e = .returned (.bool true) ∧ Below W.heap.size W w') (ha0 : 0 ≤ at_) (ha1 : at_ ≤ 255) (hl1 : ¬ 2000 < l1.length) (hl2 : ¬ 2000 < l2.length) (hl3 : ¬ 2000 < l3.length) (hsh : wristbandref05_Short.f k l0 = some true) (r1 : Int) (r2 : List S84) (b : List Int) (er : Int) (htg : mac_Tag.f k kd l0 l1 l2 = some (r1, r2, b, er)) (hce : (er = 1 ∧ b = [] ∧ mac_Right.f kd l0 = some false) ∨ (er = 0 ∧ b.length = 8 ∧ mac_Right.f r1 r2 = some true ∧ mac_Fits.f k r1 r2 l1 l2 b = some true ∧ ∃ (i1 : Int) (i2 : List S84) (b2 : List Int), mac_Tag.f k r1 r2 l1 l3 = some (i1, i2, b2, 0) ∧ mac_Right.f i1 i2 = some true ∧ mac_Fits.f k i1 i2 l1 l2 b = some true ∧ mac_Fits.f k i1 i2 l1 l2 (b.take 7) = some false ∧ mac_Fits.f k i1 i2 l1 l2 (b.set (at_ % 8).toNat (Go.bits .xor .u8 (rd b (at_ % 8)) by_)) = some (by_ == 0) ∧ (kd = 1 → ∃ hm, hmac_Mac.f k l1 l2 = some hm ∧ 8 ≤ hm.length ∧ b = hm.take 8))) :
    Calls Tryd.prog 12 #[.agg #[.int .i64 kd, .slice A0 l0.length c0], .slice A1 l1.length c1, .slice A2 l2.length c2, .slice A3 l3.length c3, .int .u8 at_, .int .u8 by_] w fun e w' => e = .returned (.bool true) ∧ Below w.heap.size w w' := by
  have HSH := Aside0.mk hsh; have HTG := Aside0.mk htg; have HCE := Aside0.mk hce; have AT0 := Aside0.mk ha0; have AT1 := Aside0.mk ha1
  clear hsh htg hce ha0 ha1
  have d11 : decide (2000 < (l1.length : Int)) = false := decide_eq_false (by omega)
  have d12 : decide (2000 < l1.length) = false := decide_eq_false (by omega)
  have d21 : decide (2000 < (l2.length : Int)) = false := decide_eq_false (by omega)
  have d22 : decide (2000 < l2.length) = false := decide_eq_false (by omega)
  have d31 : decide (2000 < (l3.length : Int)) = false := decide_eq_false (by omega)
  have d32 : decide (2000 < l3.length) = false := decide_eq_false (by omega)
  clear hl1 hl2 hl3
  have HR0 := Aside0.mk hr0; have HC0 := Aside0.mk hc0; have HR1 := Aside0.mk hr1; have HC1 := Aside0.mk hc1; have HR2 := Aside0.mk hr2; have HC2 := Aside0.mk hc2; have HR3 := Aside0.mk hr3; have HC3 := Aside0.mk hc3; have HL0 := Aside0.mk hL0; have HL1 := Aside0.mk hL1; have HAW := Aside0.mk haw
  clear hr0 hc0 hr1 hc1 hr2 hc2 hr3 hc3 hL0 hL1 haw
  go_enter Tryd.func12, Tryd.ntmps12
  go_upto_region 1 with fail
  have BS := Aside0.mk (blk_new w (.cells #[.int .i64 kd, .slice A0 l0.length c0] 62)); have HB := Aside0.mk (below_alloc (Below.refl w.heap.size w) (.cells #[.int .i64 kd, .slice A0 l0.length c0] 62))
  generalize w.alloc (.cells #[.int .i64 kd, .slice A0 l0.length c0] 62) = W0 at BS HB ⊢
  have H := Aside0.mk (Below.refl W0.heap.size W0)
  go_upto_region 5 with (first
    | (go_at_call 39; refine Calls.mono (HAW.out _ (Kd.C_below HL0.out (below_step HB.out H.out)) (Kd.C_below HL1.out (below_step HB.out H.out))) ?_; rintro e w2 ⟨rfl, hb⟩; have H9 := Aside0.mk (below_step H.out hb); clear H; have H := H9; clear H9; clear hb; obtain ⟨ca0, ca1⟩ := mf.c2 (blk_below BS.out H.out))
    | (go_at_call 40; refine Calls.mono (wristbandref05_Short.calls k _ _ l0 true _ (Kd.C_below HR0.out (below_step HB.out H.out)) HC0.out HSH.out) ?_; rintro e w3 ⟨rfl, hd⟩; have hb := hd.below; have H9 := Aside0.mk (below_step H.out hb); clear H; have H := H9; clear H9; clear hb hd; obtain ⟨cb0, cb1⟩ := mf.c2 (blk_below BS.out H.out)))
  clear ca0 ca1 d11 d12 d21 d22 d31 d32
  go_upto_region 6 with (go_at_call 41; refine Calls.mono (mac_Tag.calls k kd (fun k_ => k_ < w.heap.size) _ _ l0 _ _ l1 _ _ l2 r1 r2 b er _ (Kd.V_mk HC0.out (Kd.F_below (Kd.C_F k84_heap HR0.out) (below_step HB.out H.out))) (Kd.C_below HR1.out (below_step HB.out H.out)) HC1.out (Kd.C_below HR2.out (below_step HB.out H.out)) HC2.out (Kd.C_below HL0.out (below_step HB.out H.out)) (Kd.C_below HL1.out (below_step HB.out H.out)) HTG.out) ?_; rintro e wt ⟨v1, v2, rfl, h1, h2, hb⟩; obtain ⟨Ah, ch, rfl⟩ := Kd.V_slice h1; obtain ⟨Ab, cb, rfl⟩ := Kd.V_slice h2; have HRH := Aside0.mk (Kd.V_reads' h1).2.2; have HCH := Aside0.mk (Kd.V_reads' h1).2.1; have HRB := Aside0.mk (Kd.V_reads' h2).2.2; have HCB := Aside0.mk (Kd.V_reads' h2).2.1; have H9 := Aside0.mk (below_step H.out hb); clear H; have H := H9; clear H9; clear h1 h2 hb)
  clear cb0 cb1
  have BH := Aside0.mk (blk_new wt (.cells #[.int .i64 r1, .slice Ah r2.length ch] 62))
  have BS9 := Aside0.mk (blk_alloc (blk_below BS.out H.out) (.cells #[.int .i64 r1, .slice Ah r2.length ch] 62)); have HB9 := Aside0.mk (below_alloc (below_step HB.out H.out) (.cells #[.int .i64 r1, .slice Ah r2.length ch] 62)); have HRH9 := Aside0.mk (Kd.C_alloc HRH.out (.cells #[.int .i64 r1, .slice Ah r2.length ch] 62)); have HRB9 := Aside0.mk (Kd.C_alloc HRB.out (.cells #[.int .i64 r1, .slice Ah r2.length ch] 62))
  generalize wt.alloc (.cells #[.int .i64 r1, .slice Ah r2.length ch] 62) = W5 at BH BS9 HB9 HRH9 HRB9 ⊢
  generalize wt.heap.size = gh at BH ⊢
  clear H
  clear BS; have BS := BS9; clear BS9; clear HB; have HB := HB9; clear HB9; clear HRH; have HRH := HRH9; clear HRH9; clear HRB; have HRB := HRB9; clear HRB9
  have H := Aside0.mk (Below.refl W5.heap.size W5)
  rcases HCE.out with ⟨rfl, rfl, q1⟩ | ⟨rfl, q1, q2, q3, i1, i2, b2, q4, q5, q6, q7, q8, q9⟩
  · have Q1 := Aside0.mk q1
    clear q1 HCE
    obtain ⟨ca0, ca1⟩ := mf.c2 BS.out
    go_wp2_with (go_at_call 42; refine Calls.mono (mac_Right.calls kd _ _ l0 false _ (Kd.C_below HR0.out (below_step HB.out H.out)) HC0.out Q1.out) ?_; rintro e w7 ⟨rfl, hb⟩; have H9 := Aside0.mk (below_step H.out hb); clear H; have H := H9; clear H9; clear hb)
    go_ret
    exact ⟨rfl, below_step HB.out H.out⟩
  · have Q1 := Aside0.mk q1; have Q2 := Aside0.mk q2; have Q3 := Aside0.mk q3; have Q4 := Aside0.mk q4; have Q5 := Aside0.mk q5; have Q6 := Aside0.mk q6; have Q7 := Aside0.mk q7; have Q8 := Aside0.mk q8; have Q9 := Aside0.mk q9
    clear q1 q2 q3 q4 q5 q6 q7 q8 q9 HCE
    obtain ⟨ca0, ca1⟩ := mf.c2 BH.out
    go_upto_region 9 with (go_at_call 41; refine Calls.mono (mac_Tag.calls k r1 (fun k_ => k_ < W5.heap.size) _ _ r2 _ _ l1 _ _ l3 i1 i2 b2 0 _ (Kd.V_mk HCH.out (Kd.F_below (Kd.C_F k84_heap HRH.out) H.out)) (Kd.C_below HR1.out (below_step HB.out H.out)) HC1.out (Kd.C_below HR3.out (below_step HB.out H.out)) HC3.out (Kd.C_below HL0.out (below_step HB.out H.out)) (Kd.C_below HL1.out (below_step HB.out H.out)) Q4.out) ?_; rintro e wi ⟨v1, v2, rfl, h1, h2, hb⟩; obtain ⟨Ai, ci, rfl⟩ := Kd.V_slice h1; have HRI := Aside0.mk (Kd.V_reads' h1).2.2; have HCI := Aside0.mk (Kd.V_reads' h1).2.1; have H9 := Aside0.mk (below_step H.out hb); clear H; have H := H9; clear H9; clear h1 hb)
    clear ca0 ca1 h2
    have BI := Aside0.mk (blk_new wi (.cells #[.int .i64 i1, .slice Ai i2.length ci] 62))
    have BS9 := Aside0.mk (blk_alloc (blk_below BS.out H.out) (.cells #[.int .i64 i1, .slice Ai i2.length ci] 62)); have BH9 := Aside0.mk (blk_alloc (blk_below BH.out H.out) (.cells #[.int .i64 i1, .slice Ai i2.length ci] 62)); have HB9 := Aside0.mk (below_alloc (below_step HB.out H.out) (.cells #[.int .i64 i1, .slice Ai i2.length ci] 62)); have HRI9 := Aside0.mk (Kd.C_alloc HRI.out (.cells #[.int .i64 i1, .slice Ai i2.length ci] 62)); have HRH9 := Aside0.mk (Kd.C_alloc (Kd.C_below HRH.out H.out) (.cells #[.int .i64 i1, .slice Ai i2.length ci] 62)); have HRB9 := Aside0.mk (Kd.C_alloc (Kd.C_below HRB.out H.out) (.cells #[.int .i64 i1, .slice Ai i2.length ci] 62))
    generalize wi.alloc (.cells #[.int .i64 i1, .slice Ai i2.length ci] 62) = W8 at BI BS9 BH9 HB9 HRI9 HRH9 HRB9 ⊢
    generalize wi.heap.size = gi at BI ⊢
    clear H
    clear BS; have BS := BS9; clear BS9; clear BH; have BH := BH9; clear BH9; clear HB; have HB := HB9; clear HB9; clear HRI; have HRI := HRI9; clear HRI9; clear HRH; have HRH := HRH9; clear HRH9; clear HRB; have HRB := HRB9; clear HRB9
    have H := Aside0.mk (below_drew1 (Below.refl W8.heap.size W8))
    obtain ⟨t7, ht7⟩ : ∃ t, t = b.take 7 := ⟨_, rfl⟩
    have hc7 := mf.cut7 Ab cb b t7 ht7 (by have := Q1.out; omega) HCB.out
    have HR7 := Aside0.mk (show Kd.C (Kd.int .u8) W8 Ab t7.length t7 by rw [ht7]; exact Kd.C_take HRB.out (by have := Q1.out; omega))
    have HC7 := Aside0.mk (show t7.length ≤ cb by rw [ht7, List.length_take]; have := HCB.out; omega)
    have Q77 := Aside0.mk (show mac_Fits.f k i1 i2 l1 l2 t7 = some false by rw [ht7]; exact Q7.out)
    have n1 : (b.length != 8) = false := by rw [Q1.out]; rfl
    have n2 : ((b.length : Int) != 8) = false := by rw [Q1.out]; rfl
    clear ht7 Q7
    obtain ⟨pa0, pa1⟩ := mf.c2 (blk_below BH.out H.out); obtain ⟨pb0, pb1⟩ := mf.c2 (blk_below BI.out H.out)
    go_region_with (first
      | (go_at_call 42; (with_reducible refine Calls.mono (mac_Right.calls r1 _ _ r2 true _ (Kd.C_below HRH.out H.out) HCH.out Q2.out) ?_); rintro e wa ⟨rfl, hb⟩; have H9 := Aside0.mk (below_step H.out hb); clear H; have H := H9; clear H9; clear hb; obtain ⟨qa0, qa1⟩ := mf.c2 (blk_below BH.out H.out); obtain ⟨qb0, qb1⟩ := mf.c2 (blk_below BI.out H.out))
      | (go_at_call 42; (with_reducible refine Calls.mono (mac_Right.calls i1 _ _ i2 true _ (Kd.C_below HRI.out H.out) HCI.out Q5.out) ?_); rintro e wb ⟨rfl, hb⟩; have H9 := Aside0.mk (below_step H.out hb); clear H; have H := H9; clear H9; clear hb; obtain ⟨ra0, ra1⟩ := mf.c2 (blk_below BH.out H.out); obtain ⟨rb0, rb1⟩ := mf.c2 (blk_below BI.out H.out))
      | (go_at_call 43; (with_reducible refine Calls.mono (mac_Fits.calls k r1 _ _ r2 _ _ l1 _ _ l2 _ _ b true _ (Kd.C_below HRH.out H.out) HCH.out (Kd.C_below HR1.out (below_step HB.out H.out)) HC1.out (Kd.C_below HR2.out (below_step HB.out H.out)) HC2.out (Kd.C_below HRB.out H.out) HCB.out (Kd.C_below HL0.out (below_step HB.out H.out)) (Kd.C_below HL1.out (below_step HB.out H.out)) Q3.out) ?_); rintro e wc ⟨rfl, hb⟩; have H9 := Aside0.mk (below_step H.out hb); clear H; have H := H9; clear H9; clear hb; obtain ⟨sa0, sa1⟩ := mf.c2 (blk_below BH.out H.out); obtain ⟨sb0, sb1⟩ := mf.c2 (blk_below BI.out H.out))
      | (go_at_call 43; (with_reducible refine Calls.mono (mac_Fits.calls k i1 _ _ i2 _ _ l1 _ _ l2 _ _ b true _ (Kd.C_below HRI.out H.out) HCI.out (Kd.C_below HR1.out (below_step HB.out H.out)) HC1.out (Kd.C_below HR2.out (below_step HB.out H.out)) HC2.out (Kd.C_below HRB.out H.out) HCB.out (Kd.C_below HL0.out (below_step HB.out H.out)) (Kd.C_below HL1.out (below_step HB.out H.out)) Q6.out) ?_); rintro e wd ⟨rfl, hb⟩; have H9 := Aside0.mk (below_step H.out hb); clear H; have H := H9; clear H9; clear hb; obtain ⟨ta0, ta1⟩ := mf.c2 (blk_below BH.out H.out); obtain ⟨tb0, tb1⟩ := mf.c2 (blk_below BI.out H.out))
      | (go_at_call 43; (with_reducible refine Calls.mono (mac_Fits.calls k i1 _ _ i2 _ _ l1 _ _ l2 _ _ t7 false _ (Kd.C_below HRI.out H.out) HCI.out (Kd.C_below HR1.out (below_step HB.out H.out)) HC1.out (Kd.C_below HR2.out (below_step HB.out H.out)) HC2.out (Kd.C_below HR7.out H.out) HC7.out (Kd.C_below HL0.out (below_step HB.out H.out)) (Kd.C_below HL1.out (below_step HB.out H.out)) Q77.out) ?_); rintro e we ⟨rfl, hb⟩; have H9 := Aside0.mk (below_step H.out hb); clear H; have H := H9; clear H9; clear hb; obtain ⟨ua0, ua1⟩ := mf.c2 (blk_below BH.out H.out); obtain ⟨ub0, ub1⟩ := mf.c2 (blk_below BI.out H.out)))
    simp only [List.getElem_toArray, List.getElem_cons_succ, List.getElem_cons_zero, Act.put, List.setIfInBounds_toArray, List.set_cons_zero, List.set_cons_succ]
    clear pa0 pa1 pb0 pb1 n1 n2
    go_upto_region 12 with (first
      | ((with_reducible refine gate_dst (N := 108) rfl ?_); refine Kd.R_lit (Kd.int .u8) W8.heap.size 5 ?hg (N := 108) ?hd (xs := ([] : List Int)) (inner := []) (ok := fun _ => True) (okp := fun _ => True) ?hr ?hp (fun _ hk => hk) trivial H.out H.out.size (by simp) ?_; (case hd => rfl); (case hg => rfl); (case hr => first | (go_simp; done) | (go_simp; rfl)); (case hp => exact (Reps.none _ _)); intro v0 wl ho hb _ _; have HV0 := Aside0.mk ho; have H9 := Aside0.mk hb; clear H ho hb; have H := H9; clear H9)
      | ((with_reducible refine gate_builtin (b := .append) (xs := #[.tmp 108, .tmp 109]) rfl ?_); at_builtin; refine Kd.R_append_rows (Kd.int .u8) (w0 := W8) W8.heap.size rfl (.tmp 108) (.tmp 109) 24 5 (.int .u8 0) 1 rfl Tryd.underlying24 info5 rfl (by decide) (by omega) v0 ([] : List Int) b _ _ _ (fun _ => True) (fun _ => False) rfl rfl ?aO ?aR (fun _ _ h => h) (fun _ h => h.elim) ?aF ?aB ?aS ?aL ?_; (case aR => exact (Kd.C_below HRB.out H.out)); (case aB => exact H.out); (case aF => exact fun _ _ => trivial); (case aO => exact HV0.out); (case aS => exact H.out.size); (case aL => have := Q1.out; simp only [List.nil_append, List.length_nil]; omega); intro v1 wx ho hb _ _; have HV1 := Aside0.mk ho; have H9 := Aside0.mk hb; clear H ho hb; have H := H9; clear H9))
    have hv := HV1.out
    rw [List.nil_append] at hv
    obtain ⟨gx, cx, rfl, hgb, hgl, _⟩ := Kd.R_form hv (by have := Q1.out; omega)
    have GX := Aside0.mk hgb
    obtain ⟨ji, hji⟩ : ∃ ji : Int, at_ % 8 = ji := ⟨_, rfl⟩
    have hj0 : 0 ≤ ji := by have := AT0.out; omega
    have hj1 : ji < (b.length : Int) := by have := Q1.out; omega
    obtain ⟨ad, ead, hx1⟩ := Kd.at_int (Kd.R_reads' hv).2.2 ji hj0 hj1
    cases ead
    simp only [add_plain] at hx1
    obtain ⟨_, hf1⟩ := Kd.R_celln 0 hv ji hj0 hj1
    have HP := Aside0.mk (Kd.R_putg hv ji (Go.bits .xor .u8 (rd b ji) by_))
    have e1 : IntKind.i64.wrap at_ = at_ := by rw [i64_w]; have := AT0.out; have := AT1.out; unfold wrap64; omega
    have e2 : Int.tmod at_ 8 = ji := by rw [← hji]; exact Int.tmod_eq_emod_of_nonneg AT0.out
    have e3 : wrap64 ji = ji := by unfold wrap64; omega
    have e4 : wrap64 at_ = at_ := by have := AT0.out; have := AT1.out; unfold wrap64; omega
    have p0 := eq_true hj0
    have p1 := eq_true hj1
    have Q88 := Aside0.mk Q8.out
    rw [hji] at Q88
    have HJ := Aside0.mk hji
    clear hj0 hj1 hji hv HV1 HV0 Q8 hgb hgl
    go_upto_region 13 with fail
    have H9 := Aside0.mk (below_set (j := ji.toNat) (v := (.int .u8 (Go.bits .xor .u8 (rd b ji) by_))) H.out GX.out)
    clear H hx1 hf1 p0 p1 e1 e2 e3 e4
    generalize wx.setCell ⟨gx, ji.toNat, none⟩ (.int .u8 (Go.bits .xor .u8 (rd b ji) by_)) = W12 at HP H9 ⊢
    have HXR := Aside0.mk (Kd.R_reads' HP.out.1).2.2; have HXC := Aside0.mk (Kd.R_reads' HP.out.1).2.1; have HXN := Aside0.mk (Kd.R_reads' HP.out.1).1
    generalize b.set ji.toNat (Go.bits .xor .u8 (rd b ji) by_) = x at Q88 HXR HXC HXN
    clear HP
    have H := Aside0.mk (below_drew1 H9.out)
    clear H9
    have HXD := Aside0.mk (Kd.C_drew HXR.out)
    obtain ⟨pb0, pb1⟩ := mf.c2 (blk_below BI.out H.out); have pk := (blk_cell (blk_below BS.out H.out) 0).trans rfl
    rcases Classical.em (kd = 1) with hk | hk
    · obtain ⟨hm, hm1, hm2, hm3⟩ := Q9.out hk
      have HHM := Aside0.mk hm1; have HH8 := Aside0.mk hm2; have HBE := Aside0.mk hm3
      have z1 : (kd != 1) = false := by rw [hk]; rfl
      clear hm1 hm2 hm3 hk Q9
      go_region_with (first
        | (go_at_call 43; refine Calls.mono (mf.fitsx k i1 _ _ i2 _ _ l1 _ _ l2 _ _ x _ (by_ == 0) _ (Kd.C_below HRI.out H.out) HCI.out (Kd.C_below HR1.out (below_step HB.out H.out)) HC1.out (Kd.C_below HR2.out (below_step HB.out H.out)) HC2.out ?hxr HXC.out HXN.out (Kd.C_below HL0.out (below_step HB.out H.out)) (Kd.C_below HL1.out (below_step HB.out H.out)) Q88.out) ?_; (case hxr => exact HXD.out); rintro e wu ⟨rfl, hb⟩; have H9 := Aside0.mk (below_step H.out hb); clear H; have H := H9; clear H9; have qk := (blk_cell (blk_below BS.out H.out) 0).trans rfl; have kb := mf.str (c := cb) (Kd.C_below HRB.out H.out); clear hb)
        | (go_at_call 30; refine Calls.mono (hmac_Mac.calls k _ _ l1 (fun k_ => k_ < w.heap.size) _ _ l2 hm _ (Kd.C_below HR1.out (below_step HB.out H.out)) HC1.out (Kd.V_mk HC2.out (Kd.F_below (Kd.C_F (Kd.heap_int .u8) HR2.out) (below_step HB.out H.out))) (Kd.C_below HL0.out (below_step HB.out H.out)) (Kd.C_below HL1.out (below_step HB.out H.out)) HHM.out) ?_; rintro e wy ⟨v, rfl, h0, hb⟩; obtain ⟨Am, cm, rfl⟩ := Kd.R_slice h0; have HMR := Aside0.mk (Kd.R_reads' h0); have hcut := mk.cut8 Am cm hm b HBE.out HH8.out HMR.out.2.1; have kz := mf.str (c := cm) (show Kd.C (Kd.int .u8) wy Am b.length b by rw [HBE.out]; exact Kd.C_take HMR.out.2.2 HH8.out); have H9 := Aside0.mk (below_step H.out hb); clear H; have H := H9; clear H9; have ky := mf.str (c := cb) (Kd.C_below HRB.out H.out); clear h0 hb))
      all_goals
        simp only [List.getElem_toArray, List.getElem_cons_succ, List.getElem_cons_zero, Act.put, List.setIfInBounds_toArray, List.set_cons_zero, List.set_cons_succ]
        go_wp2
        go_ret
        exact ⟨rfl, below_step HB.out H.out⟩
    · have z1 : (kd != 1) = true := bne_iff_ne.2 hk
      clear hk Q9
      first
        | (go_region_with (go_at_call 43; refine Calls.mono (mf.fitsx k i1 _ _ i2 _ _ l1 _ _ l2 _ _ x _ (by_ == 0) _ (Kd.C_below HRI.out H.out) HCI.out (Kd.C_below HR1.out (below_step HB.out H.out)) HC1.out (Kd.C_below HR2.out (below_step HB.out H.out)) HC2.out ?hxr HXC.out HXN.out (Kd.C_below HL0.out (below_step HB.out H.out)) (Kd.C_below HL1.out (below_step HB.out H.out)) Q88.out) ?_; (case hxr => exact HXD.out); rintro e wu ⟨rfl, hb⟩; have H9 := Aside0.mk (below_step H.out hb); clear H; have H := H9; clear H9; have qk := (blk_cell (blk_below BS.out H.out) 0).trans rfl; have kb := mf.str (c := cb) (Kd.C_below HRB.out H.out); clear hb))
        | fail
      all_goals
        (try simp only [List.getElem_toArray, List.getElem_cons_succ, List.getElem_cons_zero, Act.put, List.setIfInBounds_toArray, List.set_cons_zero, List.set_cons_succ])
        go_wp2
        go_ret
        exact ⟨rfl, below_step HB.out H.out⟩
structure Sm62 where
  f0 : Int
  f1 : List S84
def km62 : Kd Sm62 := Kd.iso (Kd.pair (Kd.int .i64) (Kd.slice 84 k84)) (fun x : Sm62 => (x.f0, x.f1))
def Gm84 (x_ : S84) : Prop := (fun xs_ : List Int => xs_.length ≤ maxLen ∧ ∀ x_ ∈ xs_, (fun n_ : Int => (Lit.int .u8 n_).wf = true) x_) x_.f0 ∧ (fun xs_ : List Int => xs_.length ≤ maxLen ∧ ∀ x_ ∈ xs_, (fun n_ : Int => (Lit.int .u8 n_).wf = true) x_) x_.f1
def Gm62 (x_ : Sm62) : Prop := (fun n_ : Int => (Lit.int .i64 n_).wf = true) x_.f0 ∧ (fun xs_ : List S84 => xs_.length ≤ maxLen ∧ ∀ x_ ∈ xs_, Gm84 x_) x_.f1
theorem opensm84 : Opens Tryd.prog 84 k84 Gm84 := opens_iso (opens_struct Tryd.underlying84 (opens_cons (opens_slice Tryd.underlying24 (opens_int Tryd.underlying5) (by kernel_rfl)) rfl (by kernel_rfl) (opens_one (opens_slice Tryd.underlying24 (opens_int Tryd.underlying5) (by kernel_rfl)) rfl (by kernel_rfl))) (by kernel_rfl)) (fun p_ => (⟨p_.1, p_.2⟩ : S84)) (fun _ => rfl)
theorem opensm62 : Opens Tryd.prog 62 km62 Gm62 := opens_iso (opens_struct Tryd.underlying62 (opens_cons (opens_int Tryd.underlying3) rfl (by kernel_rfl) (opens_one (opens_slice Tryd.underlying60 opensm84 (by kernel_rfl)) rfl (by kernel_rfl))) (by kernel_rfl)) (fun p_ => (⟨p_.1, p_.2⟩ : Sm62)) (fun _ => rfl)
theorem wristbandlaw06_MacFits.open0 {H : Type} {enc : TypeId × Value → H} {W : World} {base : Nat} {sp : Nat → Bool} {held : Bool} {cs : Array Value} {x : DataW H} {p : List MemPlace} (hT : DataW.Trod enc Tryd.prog W base sp held 62 (.agg cs) x p) : ∃ (a0_0 : Int) (A0_1 : Option Addr) (c0_1 : Nat) (l0_1 : List S84), Value.agg cs = .agg #[.int .i64 a0_0, .slice A0_1 l0_1.length c0_1] ∧ (Lit.int .i64 a0_0).wf = true ∧ (l0_1.length ≤ c0_1 ∧ Kd.C k84 W A0_1 l0_1.length l0_1 ∧ (l0_1.length ≤ maxLen ∧ ∀ x_ ∈ l0_1, Gm84 x_)) := by
  obtain ⟨fuel, hf⟩ := hT
  obtain ⟨z, hk, hg⟩ := opensm62 enc W base sp held fuel _ _ hf
  change km62.K W z cs.toList at hk
  obtain ⟨hg_0, hg_1⟩ := hg
  obtain ⟨ca1, cb1, ea1, ha1, hb1⟩ := hk
  have q2 : ca1 = [.int .i64 z.f0] := ha1
  obtain ⟨A3, c3, q3, hl3, hC3⟩ := hb1
  exact ⟨z.f0, A3, c3, z.f1, congrArg Value.agg (Array.toList_inj.1 (by rw [ea1, q2, q3]; rfl)), hg_0, ⟨hl3, hC3, hg_1⟩⟩
/-- What both answer. -/
def wristbandlaw06_MacFits.Pure : Prop := ∀ (a0_0 : Int) (l0_1 : List S84) (l1 l2 l3 : List Int) (a4 a5 : Int), (Lit.int .i64 a0_0).wf = true → l0_1.length ≤ maxLen → (∀ x_ ∈ l0_1, Gm84 x_) → l1.length ≤ maxLen → (∀ x ∈ l1, (Lit.int .u8 x).wf = true) → l2.length ≤ maxLen → (∀ x ∈ l2, (Lit.int .u8 x).wf = true) → l3.length ≤ maxLen → (∀ x ∈ l3, (Lit.int .u8 x).wf = true) → (Lit.int .u8 a4).wf = true → (Lit.int .u8 a5).wf = true → ∃ (k : Nat) (le lg lc : List S84) (lk lm ln l8 tb td : List Int), (le = [] ∧ lk = [107] ∧ lm = [109] ∧ ln = [110] ∧ l8 = [0, 0, 0, 0, 0, 0, 0, 1] ∧ mac_New.f 2 = some (2, le, 0) ∧ mac_New.f 1 = some (1, le, 0) ∧ mac_New.f 3 = some (0, le, 1) ∧ mac_Fits.f k 2 le lk lm l8 = some false ∧ mac_Tag.f k 2 le lk lm = some (2, lg, tb, 0) ∧ mac_Tag.f k 1 le lk lm = some (1, lc, td, 0) ∧ mac_Fits.f k 2 lg lk lm tb = some true ∧ mac_Fits.f k 2 lg lk ln tb = some false ∧ mac_Fits.f k 1 le lk lm td = some true ∧ mac_Right.f 2 lg = some true ∧ tb.length = 8 ∧ td.length = 8 ∧ lg.length = 1) ∧ ∃ sv, wristbandref05_Short.f k l0_1 = some sv ∧ ((sv = false ∨ 2000 < l1.length ∨ 2000 < l2.length ∨ 2000 < l3.length) ∨ (sv = true ∧ ¬ 2000 < l1.length ∧ ¬ 2000 < l2.length ∧ ¬ 2000 < l3.length ∧ ∃ (r1 : Int) (r2 : List S84) (b : List Int) (er : Int), (mac_Tag.f k a0_0 l0_1 l1 l2 = some (r1, r2, b, er)) ∧ ((er = 1 ∧ b = [] ∧ mac_Right.f a0_0 l0_1 = some false) ∨ (er = 0 ∧ b.length = 8 ∧ mac_Right.f r1 r2 = some true ∧ mac_Fits.f k r1 r2 l1 l2 b = some true ∧ ∃ (i1 : Int) (i2 : List S84) (b2 : List Int), mac_Tag.f k r1 r2 l1 l3 = some (i1, i2, b2, 0) ∧ mac_Right.f i1 i2 = some true ∧ mac_Fits.f k i1 i2 l1 l2 b = some true ∧ mac_Fits.f k i1 i2 l1 l2 (b.take 7) = some false ∧ mac_Fits.f k i1 i2 l1 l2 (b.set (a4 % 8).toNat (Go.bits .xor .u8 (rd b (a4 % 8)) a5)) = some (a5 == 0) ∧ (a0_0 = 1 → ∃ hm, hmac_Mac.f k l1 l2 = some hm ∧ 8 ≤ hm.length ∧ b = hm.take 8)))))
theorem wristbandlaw06_MacFits.walk (P : wristbandlaw06_MacFits.Pure) (a0_0 : Int) (A0_1 : Option Addr) (c0_1 : Nat) (l0_1 : List S84) (a1 : Option Addr) (len1 cap1 : Nat) (z1 : List Int) (a2 : Option Addr) (len2 cap2 : Nat) (z2 : List Int) (a3 : Option Addr) (len3 cap3 : Nat) (z3 : List Int) (a4 a5 : Int) (w : World) (w0_0 : (Lit.int .i64 a0_0).wf = true) (w0_1 : l0_1.length ≤ c0_1 ∧ Kd.C k84 w A0_1 l0_1.length l0_1 ∧ (l0_1.length ≤ maxLen ∧ ∀ x_ ∈ l0_1, Gm84 x_)) (w1 : (a1 = none ∧ len1 = 0 ∧ cap1 = 0 ∧ z1 = []) ∨ ∃ x, a1 = some x ∧ len1 ≤ cap1 ∧ cap1 ≤ maxLen ∧ z1.length = cap1 ∧ (∀ i, i < z1.length → w.cell? (x.add i) = some (.int .u8 (z1.getD i 0))) ∧ ∀ n ∈ z1, (Lit.int .u8 n).wf = true) (y1 : len1 * 1 ≤ 140737488351232) (w2 : (a2 = none ∧ len2 = 0 ∧ cap2 = 0 ∧ z2 = []) ∨ ∃ x, a2 = some x ∧ len2 ≤ cap2 ∧ cap2 ≤ maxLen ∧ z2.length = cap2 ∧ (∀ i, i < z2.length → w.cell? (x.add i) = some (.int .u8 (z2.getD i 0))) ∧ ∀ n ∈ z2, (Lit.int .u8 n).wf = true) (y2 : len2 * 1 ≤ 140737488351232) (w3 : (a3 = none ∧ len3 = 0 ∧ cap3 = 0 ∧ z3 = []) ∨ ∃ x, a3 = some x ∧ len3 ≤ cap3 ∧ cap3 ≤ maxLen ∧ z3.length = cap3 ∧ (∀ i, i < z3.length → w.cell? (x.add i) = some (.int .u8 (z3.getD i 0))) ∧ ∀ n ∈ z3, (Lit.int .u8 n).wf = true) (y3 : len3 * 1 ≤ 140737488351232) (w4 : (Lit.int .u8 a4).wf = true) (w5 : (Lit.int .u8 a5).wf = true) (hL0_ : Kd.C (Kd.int .u32) w (some ⟨0, 0, none⟩) 64 shaK) (hL1_ : Kd.C (Kd.int .u32) w (some ⟨1, 0, none⟩) 8 shaF) :
    Calls Tryd.prog 12 #[.agg #[.int .i64 a0_0, .slice A0_1 l0_1.length c0_1], .slice a1 len1 cap1, .slice a2 len2 cap2, .slice a3 len3 cap3, .int .u8 a4, .int .u8 a5] w fun e w' => e = .returned (.bool true) ∧ Below w.heap.size w w' := by
  obtain ⟨hc0, hr0, hm0, hg0⟩ := w0_1
  obtain ⟨l1, rfl, hr1, hm1, hw1, hc1⟩ := ReadsInt.ofRowC w1
  have hq1 := Kd.C_of_reads (enc := Value.int .u8) (d := (0 : Int)) (h1 := fun _ => rfl) hr1
  obtain ⟨l2, rfl, hr2, hm2, hw2, hc2⟩ := ReadsInt.ofRowC w2
  have hq2 := Kd.C_of_reads (enc := Value.int .u8) (d := (0 : Int)) (h1 := fun _ => rfl) hr2
  obtain ⟨l3, rfl, hr3, hm3, hw3, hc3⟩ := ReadsInt.ofRowC w3
  have hq3 := Kd.C_of_reads (enc := Value.int .u8) (d := (0 : Int)) (h1 := fun _ => rfl) hr3
  obtain ⟨k, le, lg, lc, lk, lm, ln, l8, tb, td, ⟨hle, hlk, hlm, hln, hl8, fn2, fn1, fn3, ff1, ft1, ft2, ff2, ff3, ff4, fr, hb8, hd8, hg1⟩, sv, hsh, h | ⟨rfl, n1, n2, n3, r1, r2, b, er, htg, hce⟩⟩ := P a0_0 l0_1 l1 l2 l3 a4 a5 w0_0 hm0 hg0 hm1 hw1 hm2 hw2 hm3 hw3 w4 w5
  · have haw := fun (W : World) h0 h1 => ma.awake k le lg lc lk lm ln l8 tb td hle hlk hlm hln hl8 fn2 fn1 fn3 ff1 ft1 ft2 ff2 ff3 ff4 fr hb8 hd8 hg1 W h0 h1
    exact mf.much k a0_0 A0_1 c0_1 l0_1 a1 cap1 l1 a2 cap2 l2 a3 cap3 l3 a4 a5 w hr0 hc0 hq1 hc1 hq2 hc2 hq3 hc3 hL0_ hL1_ haw sv hsh h
  · have haw := fun (W : World) h0 h1 => ma.awake k le lg lc lk lm ln l8 tb td hle hlk hlm hln hl8 fn2 fn1 fn3 ff1 ft1 ft2 ff2 ff3 ff4 fr hb8 hd8 hg1 W h0 h1
    exact mf.main k a0_0 A0_1 c0_1 l0_1 a1 cap1 l1 a2 cap2 l2 a3 cap3 l3 a4 a5 w hr0 hc0 hq1 hc1 hq2 hc2 hq3 hc3 hL0_ hL1_ haw (bounds_u8 w4).1 (bounds_u8 w4).2 n1 n2 n3 hsh r1 r2 b er htg hce

end Go.Proofs.YtnpkhkhlofkbhaaDoor.PMacFits
