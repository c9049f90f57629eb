-- made by a program of this session (its printer) out of what Lean prints of the given program
import Derived.Test.YtnpkhkhlofkbhaaDoorPShaRightx0
import Derived.Test.YtnpkhkhlofkbhaaDoorPShaRightx4
import Derived.Test.YtnpkhkhlofkbhaaDoorPShaRightx5
namespace Go.Proofs.YtnpkhkhlofkbhaaDoor.PShaRight
open Go.RowKit Go.Proofs.YtnpkhkhlofkbhaaDoorW.PrintWords Go.Proofs.YtnpkhkhlofkbhaaDoorW.PrintLast Go.Proofs.YtnpkhkhlofkbhaaDoorW.PrintMore
attribute [local go_sem] max2_int min2_int max_two min_two max_three min_three max_four min_four   -- for this text's walks alone
set_option linter.unusedVariables false
set_option linter.unusedSimpArgs false

/-! ### wristbandref02_From: function 23 -/
def wristbandref02_From.l0 : Nat → List Int → List Int → Int → Option (List Int)
  | 0, _, _, _ => none
  | k + 1, x0, x1, x5 => if (wrap64 (x5 + 63)) < (x1.length : Int) then (if 0 ≤ x5 then (if x5 ≤ (wrap64 (x5 + 64)) then (if (wrap64 (x5 + 64)) ≤ (x1.length : Int) then ((wristbandref02_Block.f k x0 ((x1.take ((wrap64 (x5 + 64)) : Int).toNat).drop (x5 : Int).toNat)).bind fun t279 => (wristbandref02_From.l0 k t279 x1 (wrap64 (x5 + 64)))) else (none)) else (none)) else (none)) else (some x0)
def wristbandref02_From.f (k : Nat) (l0 : List Int) (l1 : List Int) : Option (List Int) := wristbandref02_From.l0 k l0 l1 0
theorem wristbandref02_From.mono_l : ∀ k, (∀ y0 y1 y2, LeO (wristbandref02_From.l0 k y0 y1 y2) (wristbandref02_From.l0 (k + 1) y0 y1 y2))
  | 0 => fun _ _ _ r h => by simp [wristbandref02_From.l0] at h
  | k + 1 => by
   have ih0 := wristbandref02_From.mono_l k
   ·intro y0 y1 y2
    unfold wristbandref02_From.l0
    repeat' first
    | (with_reducible exact ih0 _ _ _)
    | (with_reducible exact wristbandref02_Block.mono _ _ _)
    | (with_reducible exact LeO.refl _)
    | (with_reducible exact LeO.none _)
    | (with_reducible refine LeO.ite ?_ ?_)
    | (with_reducible refine LeO.bind ?_ (fun _ => ?_))
    | exact ih0 _ _ _
    | exact wristbandref02_Block.mono _ _ _
    | exact LeO.none _
    | refine LeO.ite ?_ ?_
    | refine LeO.bind ?_ (fun _ => ?_)
theorem wristbandref02_From.mono : ∀ a0 a1 k, LeO (wristbandref02_From.f k a0 a1) (wristbandref02_From.f (k + 1) a0 a1) := by
  intro a0 a1 k; have ih0 := wristbandref02_From.mono_l k
  unfold wristbandref02_From.f
  repeat' first
    | (with_reducible exact ih0 _ _ _)
    | (with_reducible exact wristbandref02_Block.mono _ _ _)
    | (with_reducible exact LeO.refl _)
    | (with_reducible exact LeO.none _)
    | (with_reducible refine LeO.ite ?_ ?_)
    | (with_reducible refine LeO.bind ?_ (fun _ => ?_))
    | exact ih0 _ _ _
    | exact wristbandref02_Block.mono _ _ _
    | exact LeO.none _
    | refine LeO.ite ?_ ?_
    | refine LeO.bind ?_ (fun _ => ?_)
set_option maxHeartbeats 8000000 in
set_option maxRecDepth 100000 in
theorem wristbandref02_From.calls (k : Nat) (P0_ : Nat → Prop) (A0 : Option Addr) (c0 : Nat) (l0 : List Int) (A1 : Option Addr) (c1 : Nat) (l1 : List Int) (r : List Int) (w : World) (hs0 : Kd.V (Kd.int .u32) 22 w w.heap.size (fun k_ => P0_ k_) (.slice A0 l0.length c0) l0) (hr1 : Kd.C (Kd.int .u8) w A1 l1.length l1) (hc1 : l1.length ≤ c1) (h : wristbandref02_From.f k l0 l1 = some r) :
   Calls Tryd.prog 23 #[.slice A0 l0.length c0, .slice A1 l1.length c1] w fun e w' => ∃ v0_ : Value, e = .returned (v0_) ∧ Kd.V (Kd.int .u32) 22 w' w.heap.size (fun k_ => (P0_ k_ ∨ w.heap.size ≤ k_)) v0_ r ∧ Below w.heap.size w w' := by
  have HO0 := Aside0.mk (show Kd.V (Kd.int .u32) 22 w w.heap.size (fun k_ => (P0_ k_ ∨ w.heap.size ≤ k_)) (.slice A0 l0.length c0) l0 from Kd.V_mono hs0 (fun k_ hk => .inl hk)); have HR1 := Aside0.mk hr1; have HC1 := Aside0.mk hc1; clear hr1 hc1; have HB := Aside0.mk (Below.refl w.heap.size w); have H : (wristbandref02_From.l0 k l0 l1 0) = some r := h
  clear h; have H' := Aside0.mk H; clear H; go_enter Tryd.func23, Tryd.ntmps23
  go_wp2
  go_loopg [0, 5] k (fun kq v0 v5 w' => ∃ (x0_1 : List Int) (x5_1 : Int), v5 = .int .i64 x5_1 ∧ Aside0 (wristbandref02_From.l0 kq x0_1 l1 x5_1 = some r) ∧ Aside0 (kq ≤ k) ∧ Aside0 (Kd.V (Kd.int .u32) 22 w' w.heap.size (fun k_ => (P0_ k_ ∨ w.heap.size ≤ k_)) v0 x0_1) ∧ Aside0 (Below w.heap.size w w'))
  case atStart => exact ⟨(l0), (0), (by first | rfl | (simp; done) | (simp [*]; done)), H', ⟨Nat.le_refl _⟩, ⟨by (with_reducible repeat (first | apply Kd.V_alloc | apply Kd.V_drewN | apply Kd.V_drew)); exact HO0.out⟩, ⟨by repeat (first | (with_reducible first | exact HB.out | apply bA | apply bN | apply bD) | exact HB.out)⟩⟩
  case round =>
   clear H'; try clear c1
   try clear c2
   try clear p2
   obtain ⟨x0_1, x5_1, rfl, HA, HK1, HO_0, HB⟩ := hrel
   cases gk with
   | zero => exact absurd HA.out (by simp [wristbandref02_From.l0])
   | succ k1 =>
    have H := HA.out
    clear HA; simp only [wristbandref02_From.l0] at H
    by_cases c3 : (wrap64 (x5_1 + 63)) < (l1.length : Int)
    ·rw [if_pos c3] at H
     have c3b0 : decide ((wrap64 (x5_1 + 63)) < (l1.length : Int)) = true := decide_eq_true c3
     clear c3; by_cases c4 : 0 ≤ x5_1
     ·rw [if_pos c4] at H
      have c4b0 := eq_true c4
      have c4b1 : decide (0 ≤ x5_1) = true := decide_eq_true c4
      clear c4; by_cases c5 : x5_1 ≤ (wrap64 (x5_1 + 64))
      ·rw [if_pos c5] at H
       have c5b0 := eq_true c5
       have c5b1 : decide (x5_1 ≤ (wrap64 (x5_1 + 64))) = true := decide_eq_true c5
       by_cases c6 : (wrap64 (x5_1 + 64)) ≤ (l1.length : Int)
       ·rw [if_pos c6] at H
        have c6b0 := eq_true c6
        have c6b1 : decide ((wrap64 (x5_1 + 64)) ≤ (l1.length : Int)) = true := decide_eq_true c6
        replace H := Option.bind_eq_some_iff.mp H
        obtain ⟨t279, A70, H⟩ := H
        replace H : (wristbandref02_From.l0 k1 t279 l1 (wrap64 (x5_1 + 64))) = some r := H
        have A7 := Aside0.mk A70; clear A70; have H' := Aside0.mk H; clear H; obtain ⟨i08, hi08, _, hsz8, _⟩ := info_parts info5
        obtain ⟨A8, hcut8, hA8, hC8⟩ := print_mid_of (P := Tryd.prog) (Value.int .u8) 0 24 5 .i64 .i64 Tryd.underlying24 hi08 hsz8 A1 c1 l1 x5_1 (wrap64 (x5_1 + 64)) (of_decide_eq_true (by first | (with_reducible assumption) | assumption)) (by first | omega | exact of_decide_eq_true (by first | (with_reducible assumption) | assumption)) (of_decide_eq_true (by first | (with_reducible assumption) | assumption)) HC1.out
        have HR278 := Aside0.mk (Kd.C_of_reads (h1 := fun _ => rfl) (hA8 _ (Kd.reads_of_C HR1.out))); have HC278 := Aside0.mk hC8; clear hA8 hC8 hi08 hsz8; (try (have hsl8_ : Aside0 (((l1.take ((wrap64 (x5_1 + 64)) : Int).toNat).drop (x5_1 : Int).toNat).length = ((wrap64 (x5_1 + 64)).toNat - x5_1.toNat)) := ⟨(by rw [List.length_drop, List.length_take]; have h_ : ((wrap64 (x5_1 + 64)) : Int) ≤ (l1.length : Int) := of_decide_eq_true (by first | (with_reducible assumption) | assumption); omega)⟩))
        obtain ⟨Ao9, co9, eo9⟩ := Kd.V_slice HO_0.out
        subst eo9; go_wp2_with (first | ((with_reducible refine gate_callee (f := 18) rfl ?_); refine goesL_ (some 19) rfl rfl Tryd.func18 (by kernel_rfl) rfl #[.slice Ao9 x0_1.length co9, .slice A8 ((l1.take ((wrap64 (x5_1 + 64)) : Int).toNat).drop (x5_1 : Int).toNat).length (c1 - x5_1.toNat)] rfl (by (try simp only [mT, mC, mN]); first | done | (rw [hsl8_.out] <;> rfl) | (rw [show ((l1.take ((wrap64 (x5_1 + 64)) : Int).toNat).drop (x5_1 : Int).toNat).length = ((wrap64 (x5_1 + 64)).toNat - x5_1.toNat) from (by rw [List.length_drop, List.length_take]; have h_ : ((wrap64 (x5_1 + 64)) : Int) ≤ (l1.length : Int) := of_decide_eq_true (by first | (with_reducible assumption) | assumption); omega)] <;> rfl) | rfl | (simp only [List.length_drop, List.length_take]; rfl)) ?_; (with_reducible refine (wristbandref02_Block.calls k1 _ _ x0_1 _ _ ((l1.take ((wrap64 (x5_1 + 64)) : Int).toNat).drop (x5_1 : Int).toNat) t279 _ ?side1 ?side2 ?side3 ?side4 A7.out).mono ?_); (case side1 => repeat (first | exact (Kd.V_reads' HO_0.out).2.2 | (with_reducible refine Kd.C_alloc ?_ _) | (with_reducible refine Kd.C_drewN ?_ _) | (with_reducible refine Kd.C_drew ?_))); (case side2 => exact (Kd.V_reads' HO_0.out).2.1); (case side3 => repeat (first | exact (Kd.C_below HR278.out HB.out) | (with_reducible refine Kd.C_alloc ?_ _) | (with_reducible refine Kd.C_drewN ?_ _) | (with_reducible refine Kd.C_drew ?_))); (case side4 => exact HC278.out); rintro e w10 ⟨v280, rfl, ho0, hb⟩; refine ⟨_, rfl, ?_⟩; have n0_ := Aside0.mk (Kd.V_elder' (by (with_reducible repeat (first | apply Kd.V_alloc | apply Kd.V_drewN | apply Kd.V_drew)); exact HO_0.out) (Kd.R_base ho0) hb); have n1_ := Aside0.mk (Kd.R_lower (Kd.R_newM (M := fun k_ => (w.heap.size ≤ k_)) ho0 (below_size (by repeat (first | (with_reducible first | exact HB.out | apply bA | apply bN | apply bD) | exact HB.out))) (fun k_ h_ => h_)) (below_size (by repeat (first | (with_reducible first | exact HB.out | apply bA | apply bN | apply bD) | exact HB.out)))); have n2_ := Aside0.mk (below_step (by repeat (first | (with_reducible first | exact HB.out | apply bA | apply bN | apply bD) | exact HB.out)) hb); clear HO_0; clear HB; have HO_0 := n0_; have HO281 := n1_; have HB := n2_; clear n0_ n1_ n2_; (try clear hb); (try clear hb2); (try clear hk); (try clear hi); (try clear ho0)))
        go_roundg k1
        case measure => have := HK1.out; omega
        case rel => exact ⟨(t279), (wrap64 (x5_1 + 64)), (by first | rfl | (simp; done) | (simp [*]; done)), H', ⟨by have := HK1.out; omega⟩, ⟨Kd.V_mono (Kd.R_V (by (with_reducible repeat (first | apply rL | apply rN | apply rW)); exact Kd.R_mono HO281.out (fun _ hk => hk.1))) (fun k_ hk => by first | exact ⟨(.inr (hk.1)), hk.2⟩ | exact (.inr (hk)))⟩, ⟨by repeat (first | (with_reducible first | exact HB.out | apply bA | apply bN | apply bD) | exact HB.out)⟩⟩
       ·rw [if_neg c6] at H
        exact absurd H (by simp)
      ·rw [if_neg c5] at H
       exact absurd H (by simp)
     ·rw [if_neg c4] at H
      exact absurd H (by simp)
    ·rw [if_neg c3] at H
     have c3b0 : decide ((wrap64 (x5_1 + 63)) < (l1.length : Int)) = false := decide_eq_false c3
     (try (have c3h8 := c3b0; simp only [hsl8_.out, Int.ofNat_toNat] at c3h8))
     clear c3; obtain rfl := Option.some.inj H
     go_wp2
     go_ret
     exact ⟨_, by first | rfl | (simp [errW_none, errW_some] <;> rfl) | (simp [*, errW_none, errW_some] <;> rfl), by (with_reducible repeat (first | apply Kd.V_alloc | apply Kd.V_drewN | apply Kd.V_drew)); exact HO_0.out, by repeat (first | (with_reducible first | exact HB.out | apply bA | apply bN | apply bD) | exact HB.out)⟩

/-! ### wristbandref01_Bytes: function 44 -/
def wristbandref01_Bytes.l0 : Nat → List Int → List Int → Int → Option (List Int)
  | 0, _, _, _ => none
  | k + 1, x0, x3, x4 => if x4 < (x0.length : Int) then (if 0 ≤ x4 then ((some (([((Int.tdiv (rd x0 x4) 16777216) % 4294967296) % 256, ((Int.tdiv (rd x0 x4) 65536) % 4294967296) % 256, ((Int.tdiv (rd x0 x4) 256) % 4294967296) % 256, (Int.tmod (rd x0 x4) 256) % 256] : List Int) : List Int)).bind fun y283 => (if x3.length + y283.length < 140737488355328 then (wristbandref01_Bytes.l0 k x0 (x3 ++ y283) (wrap64 (x4 + 1))) else (none))) else (none)) else (some x3)
def wristbandref01_Bytes.f (k : Nat) (l0 : List Int) : Option (List Int) := wristbandref01_Bytes.l0 k l0 ([] : List Int) 0
theorem wristbandref01_Bytes.mono_l : ∀ k, (∀ y0 y1 y2, LeO (wristbandref01_Bytes.l0 k y0 y1 y2) (wristbandref01_Bytes.l0 (k + 1) y0 y1 y2))
  | 0 => fun _ _ _ r h => by simp [wristbandref01_Bytes.l0] at h
  | k + 1 => by
   have ih0 := wristbandref01_Bytes.mono_l k
   ·intro y0 y1 y2
    unfold wristbandref01_Bytes.l0
    repeat' first
    | (with_reducible exact ih0 _ _ _)
    | (with_reducible exact LeO.refl _)
    | (with_reducible exact LeO.none _)
    | (with_reducible refine LeO.ite ?_ ?_)
    | (with_reducible refine LeO.bind ?_ (fun _ => ?_))
    | exact ih0 _ _ _
    | exact LeO.none _
    | refine LeO.ite ?_ ?_
    | refine LeO.bind ?_ (fun _ => ?_)
theorem wristbandref01_Bytes.mono : ∀ a0 k, LeO (wristbandref01_Bytes.f k a0) (wristbandref01_Bytes.f (k + 1) a0) := by
  intro a0 k; have ih0 := wristbandref01_Bytes.mono_l k
  unfold wristbandref01_Bytes.f
  repeat' first
    | (with_reducible exact ih0 _ _ _)
    | (with_reducible exact LeO.refl _)
    | (with_reducible exact LeO.none _)
    | (with_reducible refine LeO.ite ?_ ?_)
    | (with_reducible refine LeO.bind ?_ (fun _ => ?_))
    | exact ih0 _ _ _
    | exact LeO.none _
    | refine LeO.ite ?_ ?_
    | refine LeO.bind ?_ (fun _ => ?_)
set_option maxHeartbeats 8000000 in
set_option maxRecDepth 100000 in
theorem wristbandref01_Bytes.calls (k : Nat) (A0 : Option Addr) (c0 : Nat) (l0 : List Int) (r : List Int) (w : World) (hr0 : Kd.C (Kd.int .u32) w A0 l0.length l0) (hc0 : l0.length ≤ c0) (h : wristbandref01_Bytes.f k l0 = some r) :
   Calls Tryd.prog 44 #[.slice A0 l0.length c0] w fun e w' => ∃ v0_ : Value, e = .returned (v0_) ∧ Kd.R (Kd.int .u8) 5 w' w.heap.size (fun _ => True) v0_ r ∧ Below w.heap.size w w' := by
  have HR0 := Aside0.mk hr0; have HC0 := Aside0.mk hc0; clear hr0 hc0; have HB := Aside0.mk (Below.refl w.heap.size w); have H : (wristbandref01_Bytes.l0 k l0 ([] : List Int) 0) = some r := h
  clear h; have H' := Aside0.mk H; clear H; go_enter Tryd.func44, Tryd.ntmps44
  go_wp2
  go_loopg [3, 4] k (fun kq v3 v4 w' => ∃ (x3_1 : List Int) (x4_1 : Int), v4 = .int .i64 x4_1 ∧ Aside0 (wristbandref01_Bytes.l0 kq l0 x3_1 x4_1 = some r) ∧ Aside0 (kq ≤ k) ∧ Aside0 (Kd.R (Kd.int .u8) 5 w' w.heap.size (fun _ => True) v3 x3_1) ∧ Aside0 (Below w.heap.size w w'))
  case atStart => exact ⟨(([] : List Int)), (0), (by first | rfl | (simp; done) | (simp [*]; done)), H', ⟨Nat.le_refl _⟩, ⟨by first | exact Kd.R_nil _ _ _ _ _ | exact Kd.N_nil _ _ _ _ _ | exact Kd.V_nil _ _ _ _ _ | exact Kd.Q_nil _ _ _ _ _ | exact Kd.S_nil _ _ _ _ _⟩, ⟨by repeat (first | (with_reducible first | exact HB.out | apply bA | apply bN | apply bD) | exact HB.out)⟩⟩
  case round =>
   clear H'; obtain ⟨x3_1, x4_1, rfl, HA, HK1, HO_3, HB⟩ := hrel
   cases gk with
   | zero => exact absurd HA.out (by simp [wristbandref01_Bytes.l0])
   | succ k1 =>
    have H := HA.out
    clear HA; simp only [wristbandref01_Bytes.l0] at H
    by_cases c2 : x4_1 < (l0.length : Int)
    ·rw [if_pos c2] at H
     have c2b0 : decide (x4_1 < (l0.length : Int)) = true := decide_eq_true c2
     clear c2; by_cases c3 : 0 ≤ x4_1
     ·rw [if_pos c3] at H
      have c3b0 : decide (0 ≤ x4_1) = true := decide_eq_true c3
      clear c3; obtain ⟨y283, hy283⟩ : ∃ y_ : List Int, y_ = (([((Int.tdiv (rd l0 x4_1) 16777216) % 4294967296) % 256, ((Int.tdiv (rd l0 x4_1) 65536) % 4294967296) % 256, ((Int.tdiv (rd l0 x4_1) 256) % 4294967296) % 256, (Int.tmod (rd l0 x4_1) 256) % 256] : List Int)) := ⟨_, rfl⟩
      replace H : (if x3_1.length + y283.length < 140737488355328 then (wristbandref01_Bytes.l0 k1 l0 (x3_1 ++ y283) (wrap64 (x4_1 + 1))) else (none)) = some r := by first | (rw [hy283]; with_reducible exact H) | (have H2_ := (Option.bind_some _ _).symm.trans H; rw [hy283]; with_reducible exact H2_) | (have H2_ := (Option.bind_some _ _).symm.trans H; with_reducible exact H2_) | with_reducible exact H | (rw [hy283]; exact H) | exact H
      have Ny283 := Aside0.mk hy283; clear hy283; by_cases c4 : x3_1.length + y283.length < 140737488355328
      ·rw [if_pos c4] at H
       have LMc4 := Aside0.mk c4; clear c4; obtain ⟨y286, hy286⟩ : ∃ y_ : List Int, y_ = (x3_1 ++ y283) := ⟨_, rfl⟩
       replace H : (wristbandref01_Bytes.l0 k1 l0 y286 (wrap64 (x4_1 + 1))) = some r := by first | (rw [hy286]; with_reducible exact H) | (have H2_ := (Option.bind_some _ _).symm.trans H; rw [hy286]; with_reducible exact H2_) | (have H2_ := (Option.bind_some _ _).symm.trans H; with_reducible exact H2_) | with_reducible exact H | (rw [hy286]; exact H) | exact H
       have Ny286 := Aside0.mk hy286; clear hy286; have H' := Aside0.mk H; clear H; have p282 : 0 ≤ (x4_1 : Int) := of_decide_eq_true (by first | (with_reducible assumption) | assumption)
       have q282 : x4_1 < (l0.length : Int) := of_decide_eq_true (by first | (with_reducible assumption) | assumption)
       obtain ⟨ad282, e282, hx282_0⟩ := Kd.at_int HR0.out x4_1 p282 q282
       cases e282
       replace hx282_0 := (HB.out.cell (World.block_lt_of_cell? w _ hx282_0)).trans hx282_0
       replace p282 := eq_true p282
       replace q282 := eq_true q282
       go_wp2_with (first | ((with_reducible refine gate_dst (N := 31) rfl ?_); refine Kd.R_lit (Kd.int .u8) _ 5 ?hg (N := 31) ?hd (xs := ([((Int.tdiv (rd l0 x4_1) 16777216) % 4294967296) % 256, ((Int.tdiv (rd l0 x4_1) 65536) % 4294967296) % 256, ((Int.tdiv (rd l0 x4_1) 256) % 4294967296) % 256, (Int.tmod (rd l0 x4_1) 256) % 256] : List Int)) (inner := [.int .u8 (((Int.tdiv (rd l0 x4_1) 16777216) % 4294967296) % 256), .int .u8 (((Int.tdiv (rd l0 x4_1) 65536) % 4294967296) % 256), .int .u8 (((Int.tdiv (rd l0 x4_1) 256) % 4294967296) % 256), .int .u8 ((Int.tmod (rd l0 x4_1) 256) % 256)]) (ok := fun _ => True) (okp := fun _ => True) ?hr ?hp (fun _ hk => hk) trivial (Below.refl _ _) (Nat.le_refl _) (by simp) ?_; (case hd => rfl); (case hg => rfl); (case hr => first | (go_simp; done) | (go_simp; rfl)); (case hp => exact (Reps.one (show Kd.M (Kd.int .u8) _ _ _ (((Int.tdiv (rd l0 x4_1) 16777216) % 4294967296) % 256) [.int .u8 (((Int.tdiv (rd l0 x4_1) 16777216) % 4294967296) % 256)] from rfl) (Reps.one (show Kd.M (Kd.int .u8) _ _ _ (((Int.tdiv (rd l0 x4_1) 65536) % 4294967296) % 256) [.int .u8 (((Int.tdiv (rd l0 x4_1) 65536) % 4294967296) % 256)] from rfl) (Reps.one (show Kd.M (Kd.int .u8) _ _ _ (((Int.tdiv (rd l0 x4_1) 256) % 4294967296) % 256) [.int .u8 (((Int.tdiv (rd l0 x4_1) 256) % 4294967296) % 256)] from rfl) (Reps.one (show Kd.M (Kd.int .u8) _ _ _ ((Int.tmod (rd l0 x4_1) 256) % 256) [.int .u8 ((Int.tmod (rd l0 x4_1) 256) % 256)] from rfl) (Reps.none _ _)))))); intro v284 w5 ho6 hb hg_ hnew_; clear hg_ hnew_; (first | rw [← Ny283.out] at ho6 | (simp only [Int.reduceToNat] at ho6; rw [← Ny283.out] at ho6)); have n0_ := Aside0.mk (Kd.R_elder' (by (with_reducible repeat (first | apply rL | apply rN | apply rW)); exact HO_3.out) (Kd.R_base ho6) hb); have n1_ := Aside0.mk (Kd.R_lower (Kd.R_new' ho6 (Kd.R_lt (by (with_reducible repeat (first | apply rL | apply rN | apply rW)); exact HO_3.out))) (below_size (by repeat (first | (with_reducible first | exact HB.out | apply bA | apply bN | apply bD) | exact HB.out)))); have n2_ := Aside0.mk (below_step (by repeat (first | (with_reducible first | exact HB.out | apply bA | apply bN | apply bD) | exact HB.out)) hb); clear HO_3; clear HB; have HO_3 := n0_; have HO285 := n1_; have HB := n2_; clear n0_ n1_ n2_; clear hb ho6; obtain ⟨Ao8, co8, eo8⟩ := Kd.R_slice HO285.out; subst eo8) | ((with_reducible refine gate_builtin (b := .append) (xs := #[.tmp 16, .tmp 31]) rfl ?_); at_builtin; refine Kd.R_append_rows (Kd.int .u8) (w0 := w) w.heap.size rfl (.tmp 16) (.tmp 31) 24 5 (.int .u8 0) 1 rfl Tryd.underlying24 info5 rfl (by decide) (by omega) u3 x3_1 y283 _ _ _ (fun k_ => some k_ ≠ (.slice Ao8 y283.length co8 : Value).ownBlock) (fun _ => False) rfl rfl ?aO ?aR (fun _ _ h => h) (fun _ h => h.elim) ?aF ?aB ?aS ?aL ?_; (case aR => repeat (first | exact (Kd.R_reads' HO285.out).2.2 | (with_reducible refine Kd.C_alloc ?_ _) | (with_reducible refine Kd.C_drewN ?_ _) | (with_reducible refine Kd.C_drew ?_))); (case aB => exact (by repeat (first | (with_reducible first | exact HB.out | apply bA | apply bN | apply bD) | exact HB.out))); (case aF => exact (fun k_ hk => Kd.fresh' (Kd.R_lt (by (with_reducible repeat (first | apply rL | apply rN | apply rW)); exact HO285.out)) k_ hk)); (case aO => exact (by (with_reducible repeat (first | apply rL | apply rN | apply rW)); exact Kd.R_mono HO_3.out (fun _ hk => hk.2))); (case aS => exact (below_size (by repeat (first | (with_reducible first | exact HB.out | apply bA | apply bN | apply bD) | exact HB.out)))); (case aL => have := LMc4.out; omega); intro v287 w7 ho hb hg hat; rw [← Ny286.out] at ho; have n0_ := Aside0.mk (Kd.R_after (ok := (fun _ => True)) (by (with_reducible repeat (first | apply rL | apply rN | apply rW)); exact HO285.out) hg hat); have n1_ := Aside0.mk (hb); have n2_ := Aside0.mk (ho); clear HO285; clear HB; clear HO_3; have HO285 := n0_; have HB := n1_; have HO288 := n2_; clear n0_ n1_ n2_; clear ho hb hg hat))
       go_roundg k1
       case measure => have := HK1.out; omega
       case rel => exact ⟨(y286), (wrap64 (x4_1 + 1)), (by first | rfl | (simp; done) | (simp [*]; done)), H', ⟨by have := HK1.out; omega⟩, ⟨by (with_reducible repeat (first | apply rL | apply rN | apply rW)); exact Kd.R_mono HO288.out (fun _ hk => trivial)⟩, ⟨by repeat (first | (with_reducible first | exact HB.out | apply bA | apply bN | apply bD) | exact HB.out)⟩⟩
      ·rw [if_neg c4] at H
       exact absurd H (by simp)
     ·rw [if_neg c3] at H
      exact absurd H (by simp)
    ·rw [if_neg c2] at H
     have c2b0 : decide (x4_1 < (l0.length : Int)) = false := decide_eq_false c2
     clear c2; obtain rfl := Option.some.inj H
     go_wp2
     go_ret
     exact ⟨_, by first | rfl | (simp [errW_none, errW_some] <;> rfl) | (simp [*, errW_none, errW_some] <;> rfl), by (with_reducible repeat (first | apply rL | apply rN | apply rW)); exact HO_3.out, by repeat (first | (with_reducible first | exact HB.out | apply bA | apply bN | apply bD) | exact HB.out)⟩

/-! ### wristbandref02_First: function 45 -/
def wristbandref02_First.f  : Option (List Int) := some (([1779033703, 3144134277, 1013904242, 2773480762, 1359893119, 2600822924, 528734635, 1541459225] : List Int))
set_option maxHeartbeats 8000000 in
set_option maxRecDepth 100000 in
theorem wristbandref02_First.calls  (r : List Int) (w : World) (h : wristbandref02_First.f  = some r) :
   Calls Tryd.prog 45 #[] w fun e w' => ∃ v0_ : Value, e = .returned (v0_) ∧ Kd.R (Kd.int .u32) 22 w' w.heap.size (fun _ => True) v0_ r ∧ Below w.heap.size w w' := by
  have HB := Aside0.mk (Below.refl w.heap.size w); have H : (some (([1779033703, 3144134277, 1013904242, 2773480762, 1359893119, 2600822924, 528734635, 1541459225] : List Int))) = some r := h
  clear h; obtain ⟨y289, hy289⟩ : ∃ y_ : List Int, y_ = (([1779033703, 3144134277, 1013904242, 2773480762, 1359893119, 2600822924, 528734635, 1541459225] : List Int)) := ⟨_, rfl⟩
  replace H : (some y289) = some r := by first | (rw [hy289]; with_reducible exact H) | (have H2_ := (Option.bind_some _ _).symm.trans H; rw [hy289]; with_reducible exact H2_) | (have H2_ := (Option.bind_some _ _).symm.trans H; with_reducible exact H2_) | with_reducible exact H | (rw [hy289]; exact H) | exact H
  have Ny289 := Aside0.mk hy289; clear hy289; obtain rfl := Option.some.inj H
  go_enter Tryd.func45, Tryd.ntmps45
  go_wp2_with (first | ((with_reducible refine gate_dst (N := 1) rfl ?_); refine Kd.R_lit (Kd.int .u32) _ 22 ?hg (N := 1) ?hd (xs := ([1779033703, 3144134277, 1013904242, 2773480762, 1359893119, 2600822924, 528734635, 1541459225] : List Int)) (inner := [.int .u32 1779033703, .int .u32 3144134277, .int .u32 1013904242, .int .u32 2773480762, .int .u32 1359893119, .int .u32 2600822924, .int .u32 528734635, .int .u32 1541459225]) (ok := fun _ => True) (okp := fun _ => True) ?hr ?hp (fun _ hk => hk) trivial (Below.refl _ _) (Nat.le_refl _) (by simp) ?_; (case hd => rfl); (case hg => rfl); (case hr => first | (go_simp; done) | (go_simp; rfl)); (case hp => exact (Reps.one (show Kd.M (Kd.int .u32) _ _ _ 1779033703 [.int .u32 1779033703] from rfl) (Reps.one (show Kd.M (Kd.int .u32) _ _ _ 3144134277 [.int .u32 3144134277] from rfl) (Reps.one (show Kd.M (Kd.int .u32) _ _ _ 1013904242 [.int .u32 1013904242] from rfl) (Reps.one (show Kd.M (Kd.int .u32) _ _ _ 2773480762 [.int .u32 2773480762] from rfl) (Reps.one (show Kd.M (Kd.int .u32) _ _ _ 1359893119 [.int .u32 1359893119] from rfl) (Reps.one (show Kd.M (Kd.int .u32) _ _ _ 2600822924 [.int .u32 2600822924] from rfl) (Reps.one (show Kd.M (Kd.int .u32) _ _ _ 528734635 [.int .u32 528734635] from rfl) (Reps.one (show Kd.M (Kd.int .u32) _ _ _ 1541459225 [.int .u32 1541459225] from rfl) (Reps.none _ _)))))))))); intro v290 w1 ho2 hb hg_ hnew_; clear hg_ hnew_; (first | rw [← Ny289.out] at ho2 | (simp only [Int.reduceToNat] at ho2; rw [← Ny289.out] at ho2)); have n0_ := Aside0.mk (Kd.R_lower ho2 (below_size (by repeat (first | (with_reducible first | exact HB.out | apply bA | apply bN | apply bD) | exact HB.out)))); have n1_ := Aside0.mk (below_step (by repeat (first | (with_reducible first | exact HB.out | apply bA | apply bN | apply bD) | exact HB.out)) hb); clear HB; have HO291 := n0_; have HB := n1_; clear n0_ n1_; clear hb ho2))
  go_ret
  exact ⟨_, by first | rfl | (simp [errW_none, errW_some] <;> rfl) | (simp [*, errW_none, errW_some] <;> rfl), by (with_reducible repeat (first | apply rL | apply rN | apply rW)); exact HO291.out, by repeat (first | (with_reducible first | exact HB.out | apply bA | apply bN | apply bD) | exact HB.out)⟩

/-! ### wristbandref02_Sum: function 15 -/
def wristbandref02_Sum.f (k : Nat) (l0 : List Int) : Option (List Int) := (wristbandref02_First.f).bind fun t292 => ((wristbandref02_Fill.f k l0 (IntKind.u64.wrap ((l0.length : Int)))).bind fun t295 => ((wristbandref02_From.f k t292 t295).bind fun t298 => ((wristbandref01_Bytes.f k t298).bind fun t301 => (some t301))))
theorem wristbandref02_Sum.mono : ∀ a0 k, LeO (wristbandref02_Sum.f k a0) (wristbandref02_Sum.f (k + 1) a0) := by
  intro a0 k; unfold wristbandref02_Sum.f
  repeat' first
    | (with_reducible exact wristbandref01_Bytes.mono _ _)
    | (with_reducible exact wristbandref02_Fill.mono _ _ _)
    | (with_reducible exact wristbandref02_From.mono _ _ _)
    | (with_reducible exact LeO.refl _)
    | (with_reducible exact LeO.none _)
    | (with_reducible refine LeO.ite ?_ ?_)
    | (with_reducible refine LeO.bind ?_ (fun _ => ?_))
    | exact wristbandref01_Bytes.mono _ _
    | exact wristbandref02_Fill.mono _ _ _
    | exact wristbandref02_From.mono _ _ _
    | exact LeO.none _
    | refine LeO.ite ?_ ?_
    | refine LeO.bind ?_ (fun _ => ?_)
set_option maxHeartbeats 8000000 in
set_option maxRecDepth 100000 in
theorem wristbandref02_Sum.calls (k : Nat) (A0 : Option Addr) (c0 : Nat) (l0 : List Int) (r : List Int) (w : World) (hr0 : Kd.C (Kd.int .u8) w A0 l0.length l0) (hc0 : l0.length ≤ c0) (h : wristbandref02_Sum.f k l0 = some r) :
   Calls Tryd.prog 15 #[.slice A0 l0.length c0] w fun e w' => ∃ v0_ : Value, e = .returned (v0_) ∧ Kd.R (Kd.int .u8) 5 w' w.heap.size (fun _ => True) v0_ r ∧ Below w.heap.size w w' := by
  have HR0 := Aside0.mk hr0; have HC0 := Aside0.mk hc0; clear hr0 hc0; have HB := Aside0.mk (Below.refl w.heap.size w); have H : ((wristbandref02_First.f).bind fun t292 => ((wristbandref02_Fill.f k l0 (IntKind.u64.wrap ((l0.length : Int)))).bind fun t295 => ((wristbandref02_From.f k t292 t295).bind fun t298 => ((wristbandref01_Bytes.f k t298).bind fun t301 => (some t301))))) = some r := h
  clear h; replace H := Option.bind_eq_some_iff.mp H
  obtain ⟨t292, A20, H⟩ := H
  replace H : ((wristbandref02_Fill.f k l0 (IntKind.u64.wrap ((l0.length : Int)))).bind fun t295 => ((wristbandref02_From.f k t292 t295).bind fun t298 => ((wristbandref01_Bytes.f k t298).bind fun t301 => (some t301)))) = some r := H
  have A2 := Aside0.mk A20; clear A20; replace H := Option.bind_eq_some_iff.mp H
  obtain ⟨t295, A30, H⟩ := H
  replace H : ((wristbandref02_From.f k t292 t295).bind fun t298 => ((wristbandref01_Bytes.f k t298).bind fun t301 => (some t301))) = some r := H
  have A3 := Aside0.mk A30; clear A30; replace H := Option.bind_eq_some_iff.mp H
  obtain ⟨t298, A40, H⟩ := H
  replace H : ((wristbandref01_Bytes.f k t298).bind fun t301 => (some t301)) = some r := H
  have A4 := Aside0.mk A40; clear A40; replace H := Option.bind_eq_some_iff.mp H
  obtain ⟨t301, A50, H⟩ := H
  replace H : (some t301) = some r := H
  have A5 := Aside0.mk A50; clear A50; obtain rfl := Option.some.inj H
  go_enter Tryd.func15, Tryd.ntmps15
  go_wp2_with (first | ((with_reducible refine gate_callee (f := 45) rfl ?_); refine goesL_ (some 3) rfl rfl Tryd.func45 (by kernel_rfl) rfl #[] rfl (by (try simp only [mT, mC, mN]); first | done | rfl | (simp only [List.length_drop, List.length_take]; rfl)) ?_; (with_reducible refine (wristbandref02_First.calls  t292 _ A2.out).mono ?_); rintro e w6 ⟨v293, rfl, ho0, hb⟩; refine ⟨_, rfl, ?_⟩; have n0_ := Aside0.mk (Kd.R_lower ho0 (below_size (by repeat (first | (with_reducible first | exact HB.out | apply bA | apply bN | apply bD) | exact HB.out)))); have n1_ := Aside0.mk (below_step (by repeat (first | (with_reducible first | exact HB.out | apply bA | apply bN | apply bD) | exact HB.out)) hb); clear HB; have HO294 := n0_; have HB := n1_; clear n0_ n1_; (try clear hb); (try clear hb2); (try clear hk); (try clear hi); (try clear ho0)) | ((with_reducible refine gate_callee (f := 22) rfl ?_); refine goesL_ (some 8) rfl rfl Tryd.func22 (by kernel_rfl) rfl #[.slice A0 l0.length c0, .int .u64 (IntKind.u64.wrap ((l0.length : Int)))] rfl (by (try simp only [mT, mC, mN]); first | done | rfl | (simp only [List.length_drop, List.length_take]; rfl)) ?_; (with_reducible refine (wristbandref02_Fill.calls k _ _ l0 (IntKind.u64.wrap ((l0.length : Int))) t295 _ ?side1 ?side2 A3.out).mono ?_); (case side1 => repeat (first | exact (Kd.C_below HR0.out HB.out) | (with_reducible refine Kd.C_alloc ?_ _) | (with_reducible refine Kd.C_drewN ?_ _) | (with_reducible refine Kd.C_drew ?_))); (case side2 => exact HC0.out); rintro e w7 ⟨v296, rfl, ho0, hb⟩; refine ⟨_, rfl, ?_⟩; have n0_ := Aside0.mk (Kd.R_below (by (with_reducible repeat (first | apply rL | apply rN | apply rW)); exact HO294.out) hb); have n1_ := Aside0.mk (Kd.R_lower ho0 (below_size (by repeat (first | (with_reducible first | exact HB.out | apply bA | apply bN | apply bD) | exact HB.out)))); have n2_ := Aside0.mk (below_step (by repeat (first | (with_reducible first | exact HB.out | apply bA | apply bN | apply bD) | exact HB.out)) hb); clear HO294; clear HB; have HO294 := n0_; have HO297 := n1_; have HB := n2_; clear n0_ n1_ n2_; (try clear hb); (try clear hb2); (try clear hk); (try clear hi); (try clear ho0); obtain ⟨Ao8, co8, eo8⟩ := Kd.R_slice HO294.out; subst eo8; obtain ⟨Ao9, co9, eo9⟩ := Kd.R_slice HO297.out; subst eo9) | ((with_reducible refine gate_callee (f := 23) rfl ?_); refine goesL_ (some 9) rfl rfl Tryd.func23 (by kernel_rfl) rfl #[.slice Ao8 t292.length co8, .slice Ao9 t295.length co9] rfl (by (try simp only [mT, mC, mN]); first | done | rfl | (simp only [List.length_drop, List.length_take]; rfl)) ?_; (with_reducible refine (wristbandref02_From.calls k (fun k_ => some k_ = (.slice Ao8 t292.length co8 : Value).ownBlock) _ _ t292 _ _ t295 t298 _ ?side1 ?side2 ?side3 A4.out).mono ?_); (case side1 => exact Kd.R_V (Kd.R_tight rfl (Kd.R_apart' (HO294.out) (Kd.R_typed HO297.out) (by decide)))); (case side2 => repeat (first | exact (Kd.R_reads' HO297.out).2.2 | (with_reducible refine Kd.C_alloc ?_ _) | (with_reducible refine Kd.C_drewN ?_ _) | (with_reducible refine Kd.C_drew ?_))); (case side3 => exact (Kd.R_reads' HO297.out).2.1); rintro e w10 ⟨v299, rfl, ho0, hb⟩; refine ⟨_, rfl, ?_⟩; have n0_ := Aside0.mk (Kd.R_below (by (with_reducible repeat (first | apply rL | apply rN | apply rW)); exact HO294.out) hb); have n1_ := Aside0.mk (Kd.R_below (by (with_reducible repeat (first | apply rL | apply rN | apply rW)); exact HO297.out) hb); have n2_ := Aside0.mk (Kd.V_lower (Kd.V_mono (ok' := fun k_ => some k_ ≠ (.slice Ao9 t295.length co9 : Value).ownBlock) ho0 (fun k_ hk_ => Or.elim hk_ (fun hs_ => ((Kd.R_apart' (HO294.out) (Kd.R_typed HO297.out) (by decide)).1 k_ hs_.symm).2) (fun hn_ => (Kd.fresh' (Kd.R_lt (by (with_reducible repeat (first | apply rL | apply rN | apply rW)); exact HO297.out)) k_ hn_)))) (below_size (by repeat (first | (with_reducible first | exact HB.out | apply bA | apply bN | apply bD) | exact HB.out)))); have n3_ := Aside0.mk (below_step (by repeat (first | (with_reducible first | exact HB.out | apply bA | apply bN | apply bD) | exact HB.out)) hb); clear HO294; clear HO297; clear HB; have HO294 := n0_; have HO297 := n1_; have HO300 := n2_; have HB := n3_; clear n0_ n1_ n2_ n3_; (try clear hb); (try clear hb2); (try clear hk); (try clear hi); (try clear ho0); obtain ⟨Ao11, co11, eo11⟩ := Kd.V_slice HO300.out; subst eo11) | ((with_reducible refine gate_callee (f := 44) rfl ?_); refine goesL_ (some 10) rfl rfl Tryd.func44 (by kernel_rfl) rfl #[.slice Ao11 t298.length co11] rfl (by (try simp only [mT, mC, mN]); first | done | rfl | (simp only [List.length_drop, List.length_take]; rfl)) ?_; (with_reducible refine (wristbandref01_Bytes.calls k _ _ t298 t301 _ ?side1 ?side2 A5.out).mono ?_); (case side1 => repeat (first | exact (Kd.V_reads' HO300.out).2.2 | (with_reducible refine Kd.C_alloc ?_ _) | (with_reducible refine Kd.C_drewN ?_ _) | (with_reducible refine Kd.C_drew ?_))); (case side2 => exact (Kd.V_reads' HO300.out).2.1); rintro e w12 ⟨v302, rfl, ho0, hb⟩; refine ⟨_, rfl, ?_⟩; have n0_ := Aside0.mk (Kd.R_below (by (with_reducible repeat (first | apply rL | apply rN | apply rW)); exact HO294.out) hb); have n1_ := Aside0.mk (Kd.R_elder' (by (with_reducible repeat (first | apply rL | apply rN | apply rW)); exact HO297.out) (Kd.R_base ho0) hb); have n2_ := Aside0.mk (Kd.V_elder' (by (with_reducible repeat (first | apply Kd.V_alloc | apply Kd.V_drewN | apply Kd.V_drew)); exact HO300.out) (Kd.R_base ho0) hb); have n3_ := Aside0.mk (Kd.R_lower (Kd.R_new' ho0 (Kd.R_lt (by (with_reducible repeat (first | apply rL | apply rN | apply rW)); exact HO297.out))) (below_size (by repeat (first | (with_reducible first | exact HB.out | apply bA | apply bN | apply bD) | exact HB.out)))); have n4_ := Aside0.mk (below_step (by repeat (first | (with_reducible first | exact HB.out | apply bA | apply bN | apply bD) | exact HB.out)) hb); clear HO294; clear HO297; clear HO300; clear HB; have HO294 := n0_; have HO297 := n1_; have HO300 := n2_; have HO303 := n3_; have HB := n4_; clear n0_ n1_ n2_ n3_ n4_; (try clear hb); (try clear hb2); (try clear hk); (try clear hi); (try clear ho0)))
  go_ret
  exact ⟨_, by first | rfl | (simp [errW_none, errW_some] <;> rfl) | (simp [*, errW_none, errW_some] <;> rfl), by (with_reducible repeat (first | apply rL | apply rN | apply rW)); exact Kd.R_mono HO303.out (fun _ hk => trivial), by repeat (first | (with_reducible first | exact HB.out | apply bA | apply bN | apply bD) | exact HB.out)⟩

/-! ### wristbandlaw02_same: function 17 -/
def wristbandlaw02_same.l0 : Nat → List Int → Int → Int → Int → Int → Int → Int → Int → Int → Int → Option (Bool)
  | 0, _, _, _, _, _, _, _, _, _, _ => none
  | k + 1, x1, x5, x305000, x305001, x305002, x305003, x305004, x305005, x305006, x305007 => if x5 < 8 then (if (x1.length : Int) = 8 then (if x5 = 0 then (if 0 ≤ x5 then (if x5 < (x1.length : Int) then (if x305000 = (rd x1 x5) then (wristbandlaw02_same.l0 k x1 (wrap64 (x5 + 1)) x305000 x305001 x305002 x305003 x305004 x305005 x305006 x305007) else (some false)) else (none)) else (none)) else (if x5 = 1 then (if 0 ≤ x5 then (if x5 < (x1.length : Int) then (if x305001 = (rd x1 x5) then (wristbandlaw02_same.l0 k x1 (wrap64 (x5 + 1)) x305000 x305001 x305002 x305003 x305004 x305005 x305006 x305007) else (some false)) else (none)) else (none)) else (if x5 = 2 then (if 0 ≤ x5 then (if x5 < (x1.length : Int) then (if x305002 = (rd x1 x5) then (wristbandlaw02_same.l0 k x1 (wrap64 (x5 + 1)) x305000 x305001 x305002 x305003 x305004 x305005 x305006 x305007) else (some false)) else (none)) else (none)) else (if x5 = 3 then (if 0 ≤ x5 then (if x5 < (x1.length : Int) then (if x305003 = (rd x1 x5) then (wristbandlaw02_same.l0 k x1 (wrap64 (x5 + 1)) x305000 x305001 x305002 x305003 x305004 x305005 x305006 x305007) else (some false)) else (none)) else (none)) else (if x5 = 4 then (if 0 ≤ x5 then (if x5 < (x1.length : Int) then (if x305004 = (rd x1 x5) then (wristbandlaw02_same.l0 k x1 (wrap64 (x5 + 1)) x305000 x305001 x305002 x305003 x305004 x305005 x305006 x305007) else (some false)) else (none)) else (none)) else (if x5 = 5 then (if 0 ≤ x5 then (if x5 < (x1.length : Int) then (if x305005 = (rd x1 x5) then (wristbandlaw02_same.l0 k x1 (wrap64 (x5 + 1)) x305000 x305001 x305002 x305003 x305004 x305005 x305006 x305007) else (some false)) else (none)) else (none)) else (if x5 = 6 then (if 0 ≤ x5 then (if x5 < (x1.length : Int) then (if x305006 = (rd x1 x5) then (wristbandlaw02_same.l0 k x1 (wrap64 (x5 + 1)) x305000 x305001 x305002 x305003 x305004 x305005 x305006 x305007) else (some false)) else (none)) else (none)) else (if x5 = 7 then (if 0 ≤ x5 then (if x5 < (x1.length : Int) then (if x305007 = (rd x1 x5) then (wristbandlaw02_same.l0 k x1 (wrap64 (x5 + 1)) x305000 x305001 x305002 x305003 x305004 x305005 x305006 x305007) else (some false)) else (none)) else (none)) else (none))))))))) else (some false)) else (some true)
def wristbandlaw02_same.f (k : Nat) (a0_0 : Int) (a0_1 : Int) (a0_2 : Int) (a0_3 : Int) (a0_4 : Int) (a0_5 : Int) (a0_6 : Int) (a0_7 : Int) (l1 : List Int) : Option (Bool) := wristbandlaw02_same.l0 k l1 0 a0_0 a0_1 a0_2 a0_3 a0_4 a0_5 a0_6 a0_7
theorem wristbandlaw02_same.mono_l : ∀ k, (∀ y0 y1 y2 y3 y4 y5 y6 y7 y8 y9, LeO (wristbandlaw02_same.l0 k y0 y1 y2 y3 y4 y5 y6 y7 y8 y9) (wristbandlaw02_same.l0 (k + 1) y0 y1 y2 y3 y4 y5 y6 y7 y8 y9))
  | 0 => fun _ _ _ _ _ _ _ _ _ _ r h => by simp [wristbandlaw02_same.l0] at h
  | k + 1 => by
   have ih0 := wristbandlaw02_same.mono_l k
   ·intro y0 y1 y2 y3 y4 y5 y6 y7 y8 y9
    unfold wristbandlaw02_same.l0
    repeat' first
    | (with_reducible exact ih0 _ _ _ _ _ _ _ _ _ _)
    | (with_reducible exact LeO.refl _)
    | (with_reducible exact LeO.none _)
    | (with_reducible refine LeO.ite ?_ ?_)
    | (with_reducible refine LeO.bind ?_ (fun _ => ?_))
    | exact ih0 _ _ _ _ _ _ _ _ _ _
    | exact LeO.none _
    | refine LeO.ite ?_ ?_
    | refine LeO.bind ?_ (fun _ => ?_)
theorem wristbandlaw02_same.mono : ∀ a0 a1 a2 a3 a4 a5 a6 a7 a8 k, LeO (wristbandlaw02_same.f k a0 a1 a2 a3 a4 a5 a6 a7 a8) (wristbandlaw02_same.f (k + 1) a0 a1 a2 a3 a4 a5 a6 a7 a8) := by
  intro a0 a1 a2 a3 a4 a5 a6 a7 a8 k; have ih0 := wristbandlaw02_same.mono_l k
  unfold wristbandlaw02_same.f
  repeat' first
    | (with_reducible exact ih0 _ _ _ _ _ _ _ _ _ _)
    | (with_reducible exact LeO.refl _)
    | (with_reducible exact LeO.none _)
    | (with_reducible refine LeO.ite ?_ ?_)
    | (with_reducible refine LeO.bind ?_ (fun _ => ?_))
    | exact ih0 _ _ _ _ _ _ _ _ _ _
    | exact LeO.none _
    | refine LeO.ite ?_ ?_
    | refine LeO.bind ?_ (fun _ => ?_)
set_option maxHeartbeats 8000000 in
set_option maxRecDepth 100000 in
theorem wristbandlaw02_same.calls (k : Nat) (a0_0 : Int) (a0_1 : Int) (a0_2 : Int) (a0_3 : Int) (a0_4 : Int) (a0_5 : Int) (a0_6 : Int) (a0_7 : Int) (A1 : Option Addr) (c1 : Nat) (l1 : List Int) (r : Bool) (w : World) (hr1 : Kd.C (Kd.int .u32) w A1 l1.length l1) (hc1 : l1.length ≤ c1) (h : wristbandlaw02_same.f k a0_0 a0_1 a0_2 a0_3 a0_4 a0_5 a0_6 a0_7 l1 = some r) :
   Calls Tryd.prog 17 #[.agg #[.int .u32 a0_0, .int .u32 a0_1, .int .u32 a0_2, .int .u32 a0_3, .int .u32 a0_4, .int .u32 a0_5, .int .u32 a0_6, .int .u32 a0_7], .slice A1 l1.length c1] w fun e w' => e = .returned (.bool r) ∧ Below w.heap.size w w' := by
  have hu23 := Tryd.underlying23
  have HR1 := Aside0.mk hr1; have HC1 := Aside0.mk hc1; clear hr1 hc1; have HB := Aside0.mk (Below.refl w.heap.size w); have H : (wristbandlaw02_same.l0 k l1 0 a0_0 a0_1 a0_2 a0_3 a0_4 a0_5 a0_6 a0_7) = some r := h
  clear h; have H' := Aside0.mk H; clear H; go_enter Tryd.func17, Tryd.ntmps17
  go_wp2_with (first | ((with_reducible refine gate_dst (N := 2) rfl ?_); refine box_event ?hg (N := 2) ?hd (cs := #[.int .u32 a0_0, .int .u32 a0_1, .int .u32 a0_2, .int .u32 a0_3, .int .u32 a0_4, .int .u32 a0_5, .int .u32 a0_6, .int .u32 a0_7]) (t := 23) ?hr ?_; (case hd => rfl); (case hg => rfl); (case hr => first | (go_simp; done) | (go_simp; rfl)); intro gb304 hg w3 hbox hb; have n0_ := Aside0.mk (below_step (by repeat (first | (with_reducible first | exact HB.out | apply bA | apply bN | apply bD) | exact HB.out)) hb); have n1_ := Aside0.mk (hbox); have n2_ := Aside0.mk ((by rw [hg]; exact (below_size (by repeat (first | (with_reducible first | exact HB.out | apply bA | apply bN | apply bD) | exact HB.out))) : w.heap.size ≤ gb304)); have n3_ := Aside0.mk ((by rw [hg]; exact (below_size (by repeat (first | (with_reducible first | exact HB.out | apply bA | apply bN | apply bD) | exact HB.out))) : w.heap.size ≤ gb304)); clear HB; have HB := n0_; have BK304 := n1_; have GW304 := n2_; have GE304 := n3_; clear n0_ n1_ n2_ n3_; clear hb hbox hg))
  repeat (go_quiet (fail); try go_wp2_with (first | ((with_reducible refine gate_dst (N := 2) rfl ?_); refine box_event ?hg (N := 2) ?hd (cs := #[.int .u32 a0_0, .int .u32 a0_1, .int .u32 a0_2, .int .u32 a0_3, .int .u32 a0_4, .int .u32 a0_5, .int .u32 a0_6, .int .u32 a0_7]) (t := 23) ?hr ?_; (case hd => rfl); (case hg => rfl); (case hr => first | (go_simp; done) | (go_simp; rfl)); intro gb304 hg w3 hbox hb; have n0_ := Aside0.mk (below_step (by repeat (first | (with_reducible first | exact HB.out | apply bA | apply bN | apply bD) | exact HB.out)) hb); have n1_ := Aside0.mk (hbox); have n2_ := Aside0.mk ((by rw [hg]; exact (below_size (by repeat (first | (with_reducible first | exact HB.out | apply bA | apply bN | apply bD) | exact HB.out))) : w.heap.size ≤ gb304)); have n3_ := Aside0.mk ((by rw [hg]; exact (below_size (by repeat (first | (with_reducible first | exact HB.out | apply bA | apply bN | apply bD) | exact HB.out))) : w.heap.size ≤ gb304)); clear HB; have HB := n0_; have BK304 := n1_; have GW304 := n2_; have GE304 := n3_; clear n0_ n1_ n2_ n3_; clear hb hbox hg)))
  go_loopg [5] k (fun kq v5 w' => ∃ (x5_1 : Int), v5 = .int .i64 x5_1 ∧ Aside0 (wristbandlaw02_same.l0 kq l1 x5_1 a0_0 a0_1 a0_2 a0_3 a0_4 a0_5 a0_6 a0_7 = some r) ∧ Aside0 (kq ≤ k) ∧ Aside0 (w'.heap[gb304]? = some (.cells #[.int .u32 a0_0, .int .u32 a0_1, .int .u32 a0_2, .int .u32 a0_3, .int .u32 a0_4, .int .u32 a0_5, .int .u32 a0_6, .int .u32 a0_7] 23 (0, 0))) ∧ Aside0 (Below w.heap.size w w'))
  case atStart => exact ⟨(0), (by first | rfl | (simp; done) | (simp [*]; done)), H', ⟨Nat.le_refl _⟩, ⟨by (with_reducible repeat (first | refine blk_drewN ?_ _ | refine blk_drew ?_ | refine blk_alloc ?_ _)); exact BK304.out⟩, ⟨by repeat (first | (with_reducible first | exact HB.out | apply bA | apply bN | apply bD | refine below_set ?_ GE304.out) | exact HB.out)⟩⟩
  case round =>
   clear H'; try clear c1
   try clear p2
   obtain ⟨x5_1, rfl, HA, HK1, BK304, HB⟩ := hrel
   cases gk with
   | zero => exact absurd HA.out (by simp [wristbandlaw02_same.l0])
   | succ k1 =>
    have H := HA.out
    clear HA; simp only [wristbandlaw02_same.l0] at H
    by_cases c4 : x5_1 < 8
    ·rw [if_pos c4] at H
     have c4b0 : decide (x5_1 < 8) = true := decide_eq_true c4
     clear c4; by_cases c5 : (l1.length : Int) = 8
     ·rw [if_pos c5] at H
      have c5b0 : ((l1.length : Int) == 8) = true := beq_iff_eq.mpr c5
      have c5b1 : ((l1.length : Int) != 8) = false := bne_eq_false_iff_eq.mpr c5
      clear c5; by_cases c6 : x5_1 = 0
      ·rw [if_pos c6] at H
       have c6b0 : (x5_1 == 0) = true := beq_iff_eq.mpr c6
       have c6b1 : (x5_1 != 0) = false := bne_eq_false_iff_eq.mpr c6
       clear c6; by_cases c7 : 0 ≤ x5_1
       ·rw [if_pos c7] at H
        have c7b0 : decide (0 ≤ x5_1) = true := decide_eq_true c7
        clear c7; by_cases c8 : x5_1 < (l1.length : Int)
        ·rw [if_pos c8] at H
         have c8b0 : decide (x5_1 < (l1.length : Int)) = true := decide_eq_true c8
         clear c8; by_cases c9 : a0_0 = (rd l1 x5_1)
         ·rw [if_pos c9] at H
          have c9b0 : (a0_0 == (rd l1 x5_1)) = true := beq_iff_eq.mpr c9
          have c9b1 : (a0_0 != (rd l1 x5_1)) = false := bne_eq_false_iff_eq.mpr c9
          clear c9; have H' := Aside0.mk H; clear H; have hia10 : ∀ W : World, (Instr.indexAt 23 (.pointer (some ⟨gb304, 0, none⟩)) (.int .i64 x5_1)).run Tryd.prog W = .ok (.pointer (some ⟨gb304, 0, none⟩)) W := by have e_ : x5_1 = 0 := (by first | assumption | exact beq_iff_eq.mp (show (x5_1 == 0) = true by assumption)); intro W; rw [e_]; first | (go_simp; done) | (go_simp; rfl)
          have hcz11_0 : wr.cell? ⟨gb304, 0, none⟩ = some (.int .u32 a0_0) := (blk_cell BK304.out 0).trans rfl
          have hcz11_1 : wr.cell? ⟨gb304, 1, none⟩ = some (.int .u32 a0_1) := (blk_cell BK304.out 1).trans rfl
          have hcz11_2 : wr.cell? ⟨gb304, 2, none⟩ = some (.int .u32 a0_2) := (blk_cell BK304.out 2).trans rfl
          have hcz11_3 : wr.cell? ⟨gb304, 3, none⟩ = some (.int .u32 a0_3) := (blk_cell BK304.out 3).trans rfl
          have hcz11_4 : wr.cell? ⟨gb304, 4, none⟩ = some (.int .u32 a0_4) := (blk_cell BK304.out 4).trans rfl
          have hcz11_5 : wr.cell? ⟨gb304, 5, none⟩ = some (.int .u32 a0_5) := (blk_cell BK304.out 5).trans rfl
          have hcz11_6 : wr.cell? ⟨gb304, 6, none⟩ = some (.int .u32 a0_6) := (blk_cell BK304.out 6).trans rfl
          have hcz11_7 : wr.cell? ⟨gb304, 7, none⟩ = some (.int .u32 a0_7) := (blk_cell BK304.out 7).trans rfl
          have hfz11_0 := blk_frozen BK304.out 0; have hfz11_1 := blk_frozen BK304.out 1; have hfz11_2 := blk_frozen BK304.out 2; have hfz11_3 := blk_frozen BK304.out 3; have hfz11_4 := blk_frozen BK304.out 4; have hfz11_5 := blk_frozen BK304.out 5; have hfz11_6 := blk_frozen BK304.out 6; have hfz11_7 := blk_frozen BK304.out 7; have p307 : 0 ≤ (x5_1 : Int) := of_decide_eq_true (by first | (with_reducible assumption) | assumption)
          have q307 : x5_1 < (l1.length : Int) := of_decide_eq_true (by first | (with_reducible assumption) | assumption)
          obtain ⟨ad307, e307, hx307_0⟩ := Kd.at_int HR1.out x5_1 p307 q307
          cases e307
          replace hx307_0 := (HB.out.cell (World.block_lt_of_cell? w _ hx307_0)).trans hx307_0
          replace p307 := eq_true p307
          replace q307 := eq_true q307
          go_wp2
          repeat (go_quiet (fail); try go_wp2)
          go_roundg k1
          case measure => have := HK1.out; omega
          case rel => exact ⟨(wrap64 (x5_1 + 1)), (by first | rfl | (simp; done) | (simp [*]; done)), H', ⟨by have := HK1.out; omega⟩, ⟨by (with_reducible repeat (first | refine blk_drewN ?_ _ | refine blk_drew ?_ | refine blk_alloc ?_ _)); exact BK304.out⟩, ⟨by repeat (first | (with_reducible first | exact HB.out | apply bA | apply bN | apply bD | refine below_set ?_ GE304.out) | exact HB.out)⟩⟩
         ·rw [if_neg c9] at H
          have c9b0 : (a0_0 == (rd l1 x5_1)) = false := beq_eq_false_iff_ne.mpr c9
          have c9b1 : (a0_0 != (rd l1 x5_1)) = true := bne_iff_ne.mpr c9
          obtain rfl := Option.some.inj H
          have hia12 : ∀ W : World, (Instr.indexAt 23 (.pointer (some ⟨gb304, 0, none⟩)) (.int .i64 x5_1)).run Tryd.prog W = .ok (.pointer (some ⟨gb304, 0, none⟩)) W := by have e_ : x5_1 = 0 := (by first | assumption | exact beq_iff_eq.mp (show (x5_1 == 0) = true by assumption)); intro W; rw [e_]; first | (go_simp; done) | (go_simp; rfl)
          have hcz13_0 : wr.cell? ⟨gb304, 0, none⟩ = some (.int .u32 a0_0) := (blk_cell BK304.out 0).trans rfl
          have hcz13_1 : wr.cell? ⟨gb304, 1, none⟩ = some (.int .u32 a0_1) := (blk_cell BK304.out 1).trans rfl
          have hcz13_2 : wr.cell? ⟨gb304, 2, none⟩ = some (.int .u32 a0_2) := (blk_cell BK304.out 2).trans rfl
          have hcz13_3 : wr.cell? ⟨gb304, 3, none⟩ = some (.int .u32 a0_3) := (blk_cell BK304.out 3).trans rfl
          have hcz13_4 : wr.cell? ⟨gb304, 4, none⟩ = some (.int .u32 a0_4) := (blk_cell BK304.out 4).trans rfl
          have hcz13_5 : wr.cell? ⟨gb304, 5, none⟩ = some (.int .u32 a0_5) := (blk_cell BK304.out 5).trans rfl
          have hcz13_6 : wr.cell? ⟨gb304, 6, none⟩ = some (.int .u32 a0_6) := (blk_cell BK304.out 6).trans rfl
          have hcz13_7 : wr.cell? ⟨gb304, 7, none⟩ = some (.int .u32 a0_7) := (blk_cell BK304.out 7).trans rfl
          have hfz13_0 := blk_frozen BK304.out 0; have hfz13_1 := blk_frozen BK304.out 1; have hfz13_2 := blk_frozen BK304.out 2; have hfz13_3 := blk_frozen BK304.out 3; have hfz13_4 := blk_frozen BK304.out 4; have hfz13_5 := blk_frozen BK304.out 5; have hfz13_6 := blk_frozen BK304.out 6; have hfz13_7 := blk_frozen BK304.out 7; have p307 : 0 ≤ (x5_1 : Int) := of_decide_eq_true (by first | (with_reducible assumption) | assumption)
          have q307 : x5_1 < (l1.length : Int) := of_decide_eq_true (by first | (with_reducible assumption) | assumption)
          obtain ⟨ad307, e307, hx307_0⟩ := Kd.at_int HR1.out x5_1 p307 q307
          cases e307
          replace hx307_0 := (HB.out.cell (World.block_lt_of_cell? w _ hx307_0)).trans hx307_0
          replace p307 := eq_true p307
          replace q307 := eq_true q307
          go_wp2
          repeat (go_quiet (fail); try go_wp2)
          go_ret
          exact ⟨by first | rfl | (simp [errW_none, errW_some] <;> rfl) | (simp [*, errW_none, errW_some] <;> rfl), by repeat (first | (with_reducible first | exact HB.out | apply bA | apply bN | apply bD | refine below_set ?_ GE304.out) | exact HB.out)⟩
        ·rw [if_neg c8] at H
         exact absurd H (by simp)
       ·rw [if_neg c7] at H
        exact absurd H (by simp)
      ·rw [if_neg c6] at H
       have c6b0 : (x5_1 == 0) = false := beq_eq_false_iff_ne.mpr c6
       have c6b1 : (x5_1 != 0) = true := bne_iff_ne.mpr c6
       by_cases c14 : x5_1 = 1
       ·rw [if_pos c14] at H
        have c14b0 : (x5_1 == 1) = true := beq_iff_eq.mpr c14
        have c14b1 : (x5_1 != 1) = false := bne_eq_false_iff_eq.mpr c14
        clear c14; by_cases c15 : 0 ≤ x5_1
        ·rw [if_pos c15] at H
         have c15b0 : decide (0 ≤ x5_1) = true := decide_eq_true c15
         clear c15; by_cases c16 : x5_1 < (l1.length : Int)
         ·rw [if_pos c16] at H
          have c16b0 : decide (x5_1 < (l1.length : Int)) = true := decide_eq_true c16
          clear c16; by_cases c17 : a0_1 = (rd l1 x5_1)
          ·rw [if_pos c17] at H
           have c17b0 : (a0_1 == (rd l1 x5_1)) = true := beq_iff_eq.mpr c17
           have c17b1 : (a0_1 != (rd l1 x5_1)) = false := bne_eq_false_iff_eq.mpr c17
           clear c17; have H' := Aside0.mk H; clear H; have hia18 : ∀ W : World, (Instr.indexAt 23 (.pointer (some ⟨gb304, 0, none⟩)) (.int .i64 x5_1)).run Tryd.prog W = .ok (.pointer (some ⟨gb304, 1, none⟩)) W := by have e_ : x5_1 = 1 := (by first | assumption | exact beq_iff_eq.mp (show (x5_1 == 1) = true by assumption)); intro W; rw [e_]; first | (go_simp; done) | (go_simp; rfl)
           have hcz19_0 : wr.cell? ⟨gb304, 0, none⟩ = some (.int .u32 a0_0) := (blk_cell BK304.out 0).trans rfl
           have hcz19_1 : wr.cell? ⟨gb304, 1, none⟩ = some (.int .u32 a0_1) := (blk_cell BK304.out 1).trans rfl
           have hcz19_2 : wr.cell? ⟨gb304, 2, none⟩ = some (.int .u32 a0_2) := (blk_cell BK304.out 2).trans rfl
           have hcz19_3 : wr.cell? ⟨gb304, 3, none⟩ = some (.int .u32 a0_3) := (blk_cell BK304.out 3).trans rfl
           have hcz19_4 : wr.cell? ⟨gb304, 4, none⟩ = some (.int .u32 a0_4) := (blk_cell BK304.out 4).trans rfl
           have hcz19_5 : wr.cell? ⟨gb304, 5, none⟩ = some (.int .u32 a0_5) := (blk_cell BK304.out 5).trans rfl
           have hcz19_6 : wr.cell? ⟨gb304, 6, none⟩ = some (.int .u32 a0_6) := (blk_cell BK304.out 6).trans rfl
           have hcz19_7 : wr.cell? ⟨gb304, 7, none⟩ = some (.int .u32 a0_7) := (blk_cell BK304.out 7).trans rfl
           have hfz19_0 := blk_frozen BK304.out 0; have hfz19_1 := blk_frozen BK304.out 1; have hfz19_2 := blk_frozen BK304.out 2; have hfz19_3 := blk_frozen BK304.out 3; have hfz19_4 := blk_frozen BK304.out 4; have hfz19_5 := blk_frozen BK304.out 5; have hfz19_6 := blk_frozen BK304.out 6; have hfz19_7 := blk_frozen BK304.out 7; have p310 : 0 ≤ (x5_1 : Int) := of_decide_eq_true (by first | (with_reducible assumption) | assumption)
           have q310 : x5_1 < (l1.length : Int) := of_decide_eq_true (by first | (with_reducible assumption) | assumption)
           obtain ⟨ad310, e310, hx310_0⟩ := Kd.at_int HR1.out x5_1 p310 q310
           cases e310
           replace hx310_0 := (HB.out.cell (World.block_lt_of_cell? w _ hx310_0)).trans hx310_0
           replace p310 := eq_true p310
           replace q310 := eq_true q310
           go_wp2
           repeat (go_quiet (fail); try go_wp2)
           go_roundg k1
           case measure => have := HK1.out; omega
           case rel => exact ⟨(wrap64 (x5_1 + 1)), (by first | rfl | (simp; done) | (simp [*]; done)), H', ⟨by have := HK1.out; omega⟩, ⟨by (with_reducible repeat (first | refine blk_drewN ?_ _ | refine blk_drew ?_ | refine blk_alloc ?_ _)); exact BK304.out⟩, ⟨by repeat (first | (with_reducible first | exact HB.out | apply bA | apply bN | apply bD | refine below_set ?_ GE304.out) | exact HB.out)⟩⟩
          ·rw [if_neg c17] at H
           have c17b0 : (a0_1 == (rd l1 x5_1)) = false := beq_eq_false_iff_ne.mpr c17
           have c17b1 : (a0_1 != (rd l1 x5_1)) = true := bne_iff_ne.mpr c17
           obtain rfl := Option.some.inj H
           have hia20 : ∀ W : World, (Instr.indexAt 23 (.pointer (some ⟨gb304, 0, none⟩)) (.int .i64 x5_1)).run Tryd.prog W = .ok (.pointer (some ⟨gb304, 1, none⟩)) W := by have e_ : x5_1 = 1 := (by first | assumption | exact beq_iff_eq.mp (show (x5_1 == 1) = true by assumption)); intro W; rw [e_]; first | (go_simp; done) | (go_simp; rfl)
           have hcz21_0 : wr.cell? ⟨gb304, 0, none⟩ = some (.int .u32 a0_0) := (blk_cell BK304.out 0).trans rfl
           have hcz21_1 : wr.cell? ⟨gb304, 1, none⟩ = some (.int .u32 a0_1) := (blk_cell BK304.out 1).trans rfl
           have hcz21_2 : wr.cell? ⟨gb304, 2, none⟩ = some (.int .u32 a0_2) := (blk_cell BK304.out 2).trans rfl
           have hcz21_3 : wr.cell? ⟨gb304, 3, none⟩ = some (.int .u32 a0_3) := (blk_cell BK304.out 3).trans rfl
           have hcz21_4 : wr.cell? ⟨gb304, 4, none⟩ = some (.int .u32 a0_4) := (blk_cell BK304.out 4).trans rfl
           have hcz21_5 : wr.cell? ⟨gb304, 5, none⟩ = some (.int .u32 a0_5) := (blk_cell BK304.out 5).trans rfl
           have hcz21_6 : wr.cell? ⟨gb304, 6, none⟩ = some (.int .u32 a0_6) := (blk_cell BK304.out 6).trans rfl
           have hcz21_7 : wr.cell? ⟨gb304, 7, none⟩ = some (.int .u32 a0_7) := (blk_cell BK304.out 7).trans rfl
           have hfz21_0 := blk_frozen BK304.out 0; have hfz21_1 := blk_frozen BK304.out 1; have hfz21_2 := blk_frozen BK304.out 2; have hfz21_3 := blk_frozen BK304.out 3; have hfz21_4 := blk_frozen BK304.out 4; have hfz21_5 := blk_frozen BK304.out 5; have hfz21_6 := blk_frozen BK304.out 6; have hfz21_7 := blk_frozen BK304.out 7; have p310 : 0 ≤ (x5_1 : Int) := of_decide_eq_true (by first | (with_reducible assumption) | assumption)
           have q310 : x5_1 < (l1.length : Int) := of_decide_eq_true (by first | (with_reducible assumption) | assumption)
           obtain ⟨ad310, e310, hx310_0⟩ := Kd.at_int HR1.out x5_1 p310 q310
           cases e310
           replace hx310_0 := (HB.out.cell (World.block_lt_of_cell? w _ hx310_0)).trans hx310_0
           replace p310 := eq_true p310
           replace q310 := eq_true q310
           go_wp2
           repeat (go_quiet (fail); try go_wp2)
           go_ret
           exact ⟨by first | rfl | (simp [errW_none, errW_some] <;> rfl) | (simp [*, errW_none, errW_some] <;> rfl), by repeat (first | (with_reducible first | exact HB.out | apply bA | apply bN | apply bD | refine below_set ?_ GE304.out) | exact HB.out)⟩
         ·rw [if_neg c16] at H
          exact absurd H (by simp)
        ·rw [if_neg c15] at H
         exact absurd H (by simp)
       ·rw [if_neg c14] at H
        have c14b0 : (x5_1 == 1) = false := beq_eq_false_iff_ne.mpr c14
        have c14b1 : (x5_1 != 1) = true := bne_iff_ne.mpr c14
        by_cases c22 : x5_1 = 2
        ·rw [if_pos c22] at H
         have c22b0 : (x5_1 == 2) = true := beq_iff_eq.mpr c22
         have c22b1 : (x5_1 != 2) = false := bne_eq_false_iff_eq.mpr c22
         clear c22; by_cases c23 : 0 ≤ x5_1
         ·rw [if_pos c23] at H
          have c23b0 : decide (0 ≤ x5_1) = true := decide_eq_true c23
          clear c23; by_cases c24 : x5_1 < (l1.length : Int)
          ·rw [if_pos c24] at H
           have c24b0 : decide (x5_1 < (l1.length : Int)) = true := decide_eq_true c24
           clear c24; by_cases c25 : a0_2 = (rd l1 x5_1)
           ·rw [if_pos c25] at H
            have c25b0 : (a0_2 == (rd l1 x5_1)) = true := beq_iff_eq.mpr c25
            have c25b1 : (a0_2 != (rd l1 x5_1)) = false := bne_eq_false_iff_eq.mpr c25
            clear c25; have H' := Aside0.mk H; clear H; have hia26 : ∀ W : World, (Instr.indexAt 23 (.pointer (some ⟨gb304, 0, none⟩)) (.int .i64 x5_1)).run Tryd.prog W = .ok (.pointer (some ⟨gb304, 2, none⟩)) W := by have e_ : x5_1 = 2 := (by first | assumption | exact beq_iff_eq.mp (show (x5_1 == 2) = true by assumption)); intro W; rw [e_]; first | (go_simp; done) | (go_simp; rfl)
            have hcz27_0 : wr.cell? ⟨gb304, 0, none⟩ = some (.int .u32 a0_0) := (blk_cell BK304.out 0).trans rfl
            have hcz27_1 : wr.cell? ⟨gb304, 1, none⟩ = some (.int .u32 a0_1) := (blk_cell BK304.out 1).trans rfl
            have hcz27_2 : wr.cell? ⟨gb304, 2, none⟩ = some (.int .u32 a0_2) := (blk_cell BK304.out 2).trans rfl
            have hcz27_3 : wr.cell? ⟨gb304, 3, none⟩ = some (.int .u32 a0_3) := (blk_cell BK304.out 3).trans rfl
            have hcz27_4 : wr.cell? ⟨gb304, 4, none⟩ = some (.int .u32 a0_4) := (blk_cell BK304.out 4).trans rfl
            have hcz27_5 : wr.cell? ⟨gb304, 5, none⟩ = some (.int .u32 a0_5) := (blk_cell BK304.out 5).trans rfl
            have hcz27_6 : wr.cell? ⟨gb304, 6, none⟩ = some (.int .u32 a0_6) := (blk_cell BK304.out 6).trans rfl
            have hcz27_7 : wr.cell? ⟨gb304, 7, none⟩ = some (.int .u32 a0_7) := (blk_cell BK304.out 7).trans rfl
            have hfz27_0 := blk_frozen BK304.out 0; have hfz27_1 := blk_frozen BK304.out 1; have hfz27_2 := blk_frozen BK304.out 2; have hfz27_3 := blk_frozen BK304.out 3; have hfz27_4 := blk_frozen BK304.out 4; have hfz27_5 := blk_frozen BK304.out 5; have hfz27_6 := blk_frozen BK304.out 6; have hfz27_7 := blk_frozen BK304.out 7; have p313 : 0 ≤ (x5_1 : Int) := of_decide_eq_true (by first | (with_reducible assumption) | assumption)
            have q313 : x5_1 < (l1.length : Int) := of_decide_eq_true (by first | (with_reducible assumption) | assumption)
            obtain ⟨ad313, e313, hx313_0⟩ := Kd.at_int HR1.out x5_1 p313 q313
            cases e313
            replace hx313_0 := (HB.out.cell (World.block_lt_of_cell? w _ hx313_0)).trans hx313_0
            replace p313 := eq_true p313
            replace q313 := eq_true q313
            go_wp2
            repeat (go_quiet (fail); try go_wp2)
            go_roundg k1
            case measure => have := HK1.out; omega
            case rel => exact ⟨(wrap64 (x5_1 + 1)), (by first | rfl | (simp; done) | (simp [*]; done)), H', ⟨by have := HK1.out; omega⟩, ⟨by (with_reducible repeat (first | refine blk_drewN ?_ _ | refine blk_drew ?_ | refine blk_alloc ?_ _)); exact BK304.out⟩, ⟨by repeat (first | (with_reducible first | exact HB.out | apply bA | apply bN | apply bD | refine below_set ?_ GE304.out) | exact HB.out)⟩⟩
           ·rw [if_neg c25] at H
            have c25b0 : (a0_2 == (rd l1 x5_1)) = false := beq_eq_false_iff_ne.mpr c25
            have c25b1 : (a0_2 != (rd l1 x5_1)) = true := bne_iff_ne.mpr c25
            obtain rfl := Option.some.inj H
            have hia28 : ∀ W : World, (Instr.indexAt 23 (.pointer (some ⟨gb304, 0, none⟩)) (.int .i64 x5_1)).run Tryd.prog W = .ok (.pointer (some ⟨gb304, 2, none⟩)) W := by have e_ : x5_1 = 2 := (by first | assumption | exact beq_iff_eq.mp (show (x5_1 == 2) = true by assumption)); intro W; rw [e_]; first | (go_simp; done) | (go_simp; rfl)
            have hcz29_0 : wr.cell? ⟨gb304, 0, none⟩ = some (.int .u32 a0_0) := (blk_cell BK304.out 0).trans rfl
            have hcz29_1 : wr.cell? ⟨gb304, 1, none⟩ = some (.int .u32 a0_1) := (blk_cell BK304.out 1).trans rfl
            have hcz29_2 : wr.cell? ⟨gb304, 2, none⟩ = some (.int .u32 a0_2) := (blk_cell BK304.out 2).trans rfl
            have hcz29_3 : wr.cell? ⟨gb304, 3, none⟩ = some (.int .u32 a0_3) := (blk_cell BK304.out 3).trans rfl
            have hcz29_4 : wr.cell? ⟨gb304, 4, none⟩ = some (.int .u32 a0_4) := (blk_cell BK304.out 4).trans rfl
            have hcz29_5 : wr.cell? ⟨gb304, 5, none⟩ = some (.int .u32 a0_5) := (blk_cell BK304.out 5).trans rfl
            have hcz29_6 : wr.cell? ⟨gb304, 6, none⟩ = some (.int .u32 a0_6) := (blk_cell BK304.out 6).trans rfl
            have hcz29_7 : wr.cell? ⟨gb304, 7, none⟩ = some (.int .u32 a0_7) := (blk_cell BK304.out 7).trans rfl
            have hfz29_0 := blk_frozen BK304.out 0; have hfz29_1 := blk_frozen BK304.out 1; have hfz29_2 := blk_frozen BK304.out 2; have hfz29_3 := blk_frozen BK304.out 3; have hfz29_4 := blk_frozen BK304.out 4; have hfz29_5 := blk_frozen BK304.out 5; have hfz29_6 := blk_frozen BK304.out 6; have hfz29_7 := blk_frozen BK304.out 7; have p313 : 0 ≤ (x5_1 : Int) := of_decide_eq_true (by first | (with_reducible assumption) | assumption)
            have q313 : x5_1 < (l1.length : Int) := of_decide_eq_true (by first | (with_reducible assumption) | assumption)
            obtain ⟨ad313, e313, hx313_0⟩ := Kd.at_int HR1.out x5_1 p313 q313
            cases e313
            replace hx313_0 := (HB.out.cell (World.block_lt_of_cell? w _ hx313_0)).trans hx313_0
            replace p313 := eq_true p313
            replace q313 := eq_true q313
            go_wp2
            repeat (go_quiet (fail); try go_wp2)
            go_ret
            exact ⟨by first | rfl | (simp [errW_none, errW_some] <;> rfl) | (simp [*, errW_none, errW_some] <;> rfl), by repeat (first | (with_reducible first | exact HB.out | apply bA | apply bN | apply bD | refine below_set ?_ GE304.out) | exact HB.out)⟩
          ·rw [if_neg c24] at H
           exact absurd H (by simp)
         ·rw [if_neg c23] at H
          exact absurd H (by simp)
        ·rw [if_neg c22] at H
         have c22b0 : (x5_1 == 2) = false := beq_eq_false_iff_ne.mpr c22
         have c22b1 : (x5_1 != 2) = true := bne_iff_ne.mpr c22
         by_cases c30 : x5_1 = 3
         ·rw [if_pos c30] at H
          have c30b0 : (x5_1 == 3) = true := beq_iff_eq.mpr c30
          have c30b1 : (x5_1 != 3) = false := bne_eq_false_iff_eq.mpr c30
          clear c30; by_cases c31 : 0 ≤ x5_1
          ·rw [if_pos c31] at H
           have c31b0 : decide (0 ≤ x5_1) = true := decide_eq_true c31
           clear c31; by_cases c32 : x5_1 < (l1.length : Int)
           ·rw [if_pos c32] at H
            have c32b0 : decide (x5_1 < (l1.length : Int)) = true := decide_eq_true c32
            clear c32; by_cases c33 : a0_3 = (rd l1 x5_1)
            ·rw [if_pos c33] at H
             have c33b0 : (a0_3 == (rd l1 x5_1)) = true := beq_iff_eq.mpr c33
             have c33b1 : (a0_3 != (rd l1 x5_1)) = false := bne_eq_false_iff_eq.mpr c33
             clear c33; have H' := Aside0.mk H; clear H; have hia34 : ∀ W : World, (Instr.indexAt 23 (.pointer (some ⟨gb304, 0, none⟩)) (.int .i64 x5_1)).run Tryd.prog W = .ok (.pointer (some ⟨gb304, 3, none⟩)) W := by have e_ : x5_1 = 3 := (by first | assumption | exact beq_iff_eq.mp (show (x5_1 == 3) = true by assumption)); intro W; rw [e_]; first | (go_simp; done) | (go_simp; rfl)
             have hcz35_0 : wr.cell? ⟨gb304, 0, none⟩ = some (.int .u32 a0_0) := (blk_cell BK304.out 0).trans rfl
             have hcz35_1 : wr.cell? ⟨gb304, 1, none⟩ = some (.int .u32 a0_1) := (blk_cell BK304.out 1).trans rfl
             have hcz35_2 : wr.cell? ⟨gb304, 2, none⟩ = some (.int .u32 a0_2) := (blk_cell BK304.out 2).trans rfl
             have hcz35_3 : wr.cell? ⟨gb304, 3, none⟩ = some (.int .u32 a0_3) := (blk_cell BK304.out 3).trans rfl
             have hcz35_4 : wr.cell? ⟨gb304, 4, none⟩ = some (.int .u32 a0_4) := (blk_cell BK304.out 4).trans rfl
             have hcz35_5 : wr.cell? ⟨gb304, 5, none⟩ = some (.int .u32 a0_5) := (blk_cell BK304.out 5).trans rfl
             have hcz35_6 : wr.cell? ⟨gb304, 6, none⟩ = some (.int .u32 a0_6) := (blk_cell BK304.out 6).trans rfl
             have hcz35_7 : wr.cell? ⟨gb304, 7, none⟩ = some (.int .u32 a0_7) := (blk_cell BK304.out 7).trans rfl
             have hfz35_0 := blk_frozen BK304.out 0; have hfz35_1 := blk_frozen BK304.out 1; have hfz35_2 := blk_frozen BK304.out 2; have hfz35_3 := blk_frozen BK304.out 3; have hfz35_4 := blk_frozen BK304.out 4; have hfz35_5 := blk_frozen BK304.out 5; have hfz35_6 := blk_frozen BK304.out 6; have hfz35_7 := blk_frozen BK304.out 7; have p316 : 0 ≤ (x5_1 : Int) := of_decide_eq_true (by first | (with_reducible assumption) | assumption)
             have q316 : x5_1 < (l1.length : Int) := of_decide_eq_true (by first | (with_reducible assumption) | assumption)
             obtain ⟨ad316, e316, hx316_0⟩ := Kd.at_int HR1.out x5_1 p316 q316
             cases e316
             replace hx316_0 := (HB.out.cell (World.block_lt_of_cell? w _ hx316_0)).trans hx316_0
             replace p316 := eq_true p316
             replace q316 := eq_true q316
             go_wp2
             repeat (go_quiet (fail); try go_wp2)
             go_roundg k1
             case measure => have := HK1.out; omega
             case rel => exact ⟨(wrap64 (x5_1 + 1)), (by first | rfl | (simp; done) | (simp [*]; done)), H', ⟨by have := HK1.out; omega⟩, ⟨by (with_reducible repeat (first | refine blk_drewN ?_ _ | refine blk_drew ?_ | refine blk_alloc ?_ _)); exact BK304.out⟩, ⟨by repeat (first | (with_reducible first | exact HB.out | apply bA | apply bN | apply bD | refine below_set ?_ GE304.out) | exact HB.out)⟩⟩
            ·rw [if_neg c33] at H
             have c33b0 : (a0_3 == (rd l1 x5_1)) = false := beq_eq_false_iff_ne.mpr c33
             have c33b1 : (a0_3 != (rd l1 x5_1)) = true := bne_iff_ne.mpr c33
             obtain rfl := Option.some.inj H
             have hia36 : ∀ W : World, (Instr.indexAt 23 (.pointer (some ⟨gb304, 0, none⟩)) (.int .i64 x5_1)).run Tryd.prog W = .ok (.pointer (some ⟨gb304, 3, none⟩)) W := by have e_ : x5_1 = 3 := (by first | assumption | exact beq_iff_eq.mp (show (x5_1 == 3) = true by assumption)); intro W; rw [e_]; first | (go_simp; done) | (go_simp; rfl)
             have hcz37_0 : wr.cell? ⟨gb304, 0, none⟩ = some (.int .u32 a0_0) := (blk_cell BK304.out 0).trans rfl
             have hcz37_1 : wr.cell? ⟨gb304, 1, none⟩ = some (.int .u32 a0_1) := (blk_cell BK304.out 1).trans rfl
             have hcz37_2 : wr.cell? ⟨gb304, 2, none⟩ = some (.int .u32 a0_2) := (blk_cell BK304.out 2).trans rfl
             have hcz37_3 : wr.cell? ⟨gb304, 3, none⟩ = some (.int .u32 a0_3) := (blk_cell BK304.out 3).trans rfl
             have hcz37_4 : wr.cell? ⟨gb304, 4, none⟩ = some (.int .u32 a0_4) := (blk_cell BK304.out 4).trans rfl
             have hcz37_5 : wr.cell? ⟨gb304, 5, none⟩ = some (.int .u32 a0_5) := (blk_cell BK304.out 5).trans rfl
             have hcz37_6 : wr.cell? ⟨gb304, 6, none⟩ = some (.int .u32 a0_6) := (blk_cell BK304.out 6).trans rfl
             have hcz37_7 : wr.cell? ⟨gb304, 7, none⟩ = some (.int .u32 a0_7) := (blk_cell BK304.out 7).trans rfl
             have hfz37_0 := blk_frozen BK304.out 0; have hfz37_1 := blk_frozen BK304.out 1; have hfz37_2 := blk_frozen BK304.out 2; have hfz37_3 := blk_frozen BK304.out 3; have hfz37_4 := blk_frozen BK304.out 4; have hfz37_5 := blk_frozen BK304.out 5; have hfz37_6 := blk_frozen BK304.out 6; have hfz37_7 := blk_frozen BK304.out 7; have p316 : 0 ≤ (x5_1 : Int) := of_decide_eq_true (by first | (with_reducible assumption) | assumption)
             have q316 : x5_1 < (l1.length : Int) := of_decide_eq_true (by first | (with_reducible assumption) | assumption)
             obtain ⟨ad316, e316, hx316_0⟩ := Kd.at_int HR1.out x5_1 p316 q316
             cases e316
             replace hx316_0 := (HB.out.cell (World.block_lt_of_cell? w _ hx316_0)).trans hx316_0
             replace p316 := eq_true p316
             replace q316 := eq_true q316
             go_wp2
             repeat (go_quiet (fail); try go_wp2)
             go_ret
             exact ⟨by first | rfl | (simp [errW_none, errW_some] <;> rfl) | (simp [*, errW_none, errW_some] <;> rfl), by repeat (first | (with_reducible first | exact HB.out | apply bA | apply bN | apply bD | refine below_set ?_ GE304.out) | exact HB.out)⟩
           ·rw [if_neg c32] at H
            exact absurd H (by simp)
          ·rw [if_neg c31] at H
           exact absurd H (by simp)
         ·rw [if_neg c30] at H
          have c30b0 : (x5_1 == 3) = false := beq_eq_false_iff_ne.mpr c30
          have c30b1 : (x5_1 != 3) = true := bne_iff_ne.mpr c30
          by_cases c38 : x5_1 = 4
          ·rw [if_pos c38] at H
           have c38b0 : (x5_1 == 4) = true := beq_iff_eq.mpr c38
           have c38b1 : (x5_1 != 4) = false := bne_eq_false_iff_eq.mpr c38
           clear c38; by_cases c39 : 0 ≤ x5_1
           ·rw [if_pos c39] at H
            have c39b0 : decide (0 ≤ x5_1) = true := decide_eq_true c39
            clear c39; by_cases c40 : x5_1 < (l1.length : Int)
            ·rw [if_pos c40] at H
             have c40b0 : decide (x5_1 < (l1.length : Int)) = true := decide_eq_true c40
             clear c40; by_cases c41 : a0_4 = (rd l1 x5_1)
             ·rw [if_pos c41] at H
              have c41b0 : (a0_4 == (rd l1 x5_1)) = true := beq_iff_eq.mpr c41
              have c41b1 : (a0_4 != (rd l1 x5_1)) = false := bne_eq_false_iff_eq.mpr c41
              clear c41; have H' := Aside0.mk H; clear H; have hia42 : ∀ W : World, (Instr.indexAt 23 (.pointer (some ⟨gb304, 0, none⟩)) (.int .i64 x5_1)).run Tryd.prog W = .ok (.pointer (some ⟨gb304, 4, none⟩)) W := by have e_ : x5_1 = 4 := (by first | assumption | exact beq_iff_eq.mp (show (x5_1 == 4) = true by assumption)); intro W; rw [e_]; first | (go_simp; done) | (go_simp; rfl)
              have hcz43_0 : wr.cell? ⟨gb304, 0, none⟩ = some (.int .u32 a0_0) := (blk_cell BK304.out 0).trans rfl
              have hcz43_1 : wr.cell? ⟨gb304, 1, none⟩ = some (.int .u32 a0_1) := (blk_cell BK304.out 1).trans rfl
              have hcz43_2 : wr.cell? ⟨gb304, 2, none⟩ = some (.int .u32 a0_2) := (blk_cell BK304.out 2).trans rfl
              have hcz43_3 : wr.cell? ⟨gb304, 3, none⟩ = some (.int .u32 a0_3) := (blk_cell BK304.out 3).trans rfl
              have hcz43_4 : wr.cell? ⟨gb304, 4, none⟩ = some (.int .u32 a0_4) := (blk_cell BK304.out 4).trans rfl
              have hcz43_5 : wr.cell? ⟨gb304, 5, none⟩ = some (.int .u32 a0_5) := (blk_cell BK304.out 5).trans rfl
              have hcz43_6 : wr.cell? ⟨gb304, 6, none⟩ = some (.int .u32 a0_6) := (blk_cell BK304.out 6).trans rfl
              have hcz43_7 : wr.cell? ⟨gb304, 7, none⟩ = some (.int .u32 a0_7) := (blk_cell BK304.out 7).trans rfl
              have hfz43_0 := blk_frozen BK304.out 0; have hfz43_1 := blk_frozen BK304.out 1; have hfz43_2 := blk_frozen BK304.out 2; have hfz43_3 := blk_frozen BK304.out 3; have hfz43_4 := blk_frozen BK304.out 4; have hfz43_5 := blk_frozen BK304.out 5; have hfz43_6 := blk_frozen BK304.out 6; have hfz43_7 := blk_frozen BK304.out 7; have p319 : 0 ≤ (x5_1 : Int) := of_decide_eq_true (by first | (with_reducible assumption) | assumption)
              have q319 : x5_1 < (l1.length : Int) := of_decide_eq_true (by first | (with_reducible assumption) | assumption)
              obtain ⟨ad319, e319, hx319_0⟩ := Kd.at_int HR1.out x5_1 p319 q319
              cases e319
              replace hx319_0 := (HB.out.cell (World.block_lt_of_cell? w _ hx319_0)).trans hx319_0
              replace p319 := eq_true p319
              replace q319 := eq_true q319
              go_wp2
              repeat (go_quiet (fail); try go_wp2)
              go_roundg k1
              case measure => have := HK1.out; omega
              case rel => exact ⟨(wrap64 (x5_1 + 1)), (by first | rfl | (simp; done) | (simp [*]; done)), H', ⟨by have := HK1.out; omega⟩, ⟨by (with_reducible repeat (first | refine blk_drewN ?_ _ | refine blk_drew ?_ | refine blk_alloc ?_ _)); exact BK304.out⟩, ⟨by repeat (first | (with_reducible first | exact HB.out | apply bA | apply bN | apply bD | refine below_set ?_ GE304.out) | exact HB.out)⟩⟩
             ·rw [if_neg c41] at H
              have c41b0 : (a0_4 == (rd l1 x5_1)) = false := beq_eq_false_iff_ne.mpr c41
              have c41b1 : (a0_4 != (rd l1 x5_1)) = true := bne_iff_ne.mpr c41
              obtain rfl := Option.some.inj H
              have hia44 : ∀ W : World, (Instr.indexAt 23 (.pointer (some ⟨gb304, 0, none⟩)) (.int .i64 x5_1)).run Tryd.prog W = .ok (.pointer (some ⟨gb304, 4, none⟩)) W := by have e_ : x5_1 = 4 := (by first | assumption | exact beq_iff_eq.mp (show (x5_1 == 4) = true by assumption)); intro W; rw [e_]; first | (go_simp; done) | (go_simp; rfl)
              have hcz45_0 : wr.cell? ⟨gb304, 0, none⟩ = some (.int .u32 a0_0) := (blk_cell BK304.out 0).trans rfl
              have hcz45_1 : wr.cell? ⟨gb304, 1, none⟩ = some (.int .u32 a0_1) := (blk_cell BK304.out 1).trans rfl
              have hcz45_2 : wr.cell? ⟨gb304, 2, none⟩ = some (.int .u32 a0_2) := (blk_cell BK304.out 2).trans rfl
              have hcz45_3 : wr.cell? ⟨gb304, 3, none⟩ = some (.int .u32 a0_3) := (blk_cell BK304.out 3).trans rfl
              have hcz45_4 : wr.cell? ⟨gb304, 4, none⟩ = some (.int .u32 a0_4) := (blk_cell BK304.out 4).trans rfl
              have hcz45_5 : wr.cell? ⟨gb304, 5, none⟩ = some (.int .u32 a0_5) := (blk_cell BK304.out 5).trans rfl
              have hcz45_6 : wr.cell? ⟨gb304, 6, none⟩ = some (.int .u32 a0_6) := (blk_cell BK304.out 6).trans rfl
              have hcz45_7 : wr.cell? ⟨gb304, 7, none⟩ = some (.int .u32 a0_7) := (blk_cell BK304.out 7).trans rfl
              have hfz45_0 := blk_frozen BK304.out 0; have hfz45_1 := blk_frozen BK304.out 1; have hfz45_2 := blk_frozen BK304.out 2; have hfz45_3 := blk_frozen BK304.out 3; have hfz45_4 := blk_frozen BK304.out 4; have hfz45_5 := blk_frozen BK304.out 5; have hfz45_6 := blk_frozen BK304.out 6; have hfz45_7 := blk_frozen BK304.out 7; have p319 : 0 ≤ (x5_1 : Int) := of_decide_eq_true (by first | (with_reducible assumption) | assumption)
              have q319 : x5_1 < (l1.length : Int) := of_decide_eq_true (by first | (with_reducible assumption) | assumption)
              obtain ⟨ad319, e319, hx319_0⟩ := Kd.at_int HR1.out x5_1 p319 q319
              cases e319
              replace hx319_0 := (HB.out.cell (World.block_lt_of_cell? w _ hx319_0)).trans hx319_0
              replace p319 := eq_true p319
              replace q319 := eq_true q319
              go_wp2
              repeat (go_quiet (fail); try go_wp2)
              go_ret
              exact ⟨by first | rfl | (simp [errW_none, errW_some] <;> rfl) | (simp [*, errW_none, errW_some] <;> rfl), by repeat (first | (with_reducible first | exact HB.out | apply bA | apply bN | apply bD | refine below_set ?_ GE304.out) | exact HB.out)⟩
            ·rw [if_neg c40] at H
             exact absurd H (by simp)
           ·rw [if_neg c39] at H
            exact absurd H (by simp)
          ·rw [if_neg c38] at H
           have c38b0 : (x5_1 == 4) = false := beq_eq_false_iff_ne.mpr c38
           have c38b1 : (x5_1 != 4) = true := bne_iff_ne.mpr c38
           by_cases c46 : x5_1 = 5
           ·rw [if_pos c46] at H
            have c46b0 : (x5_1 == 5) = true := beq_iff_eq.mpr c46
            have c46b1 : (x5_1 != 5) = false := bne_eq_false_iff_eq.mpr c46
            clear c46; by_cases c47 : 0 ≤ x5_1
            ·rw [if_pos c47] at H
             have c47b0 : decide (0 ≤ x5_1) = true := decide_eq_true c47
             clear c47; by_cases c48 : x5_1 < (l1.length : Int)
             ·rw [if_pos c48] at H
              have c48b0 : decide (x5_1 < (l1.length : Int)) = true := decide_eq_true c48
              clear c48; by_cases c49 : a0_5 = (rd l1 x5_1)
              ·rw [if_pos c49] at H
               have c49b0 : (a0_5 == (rd l1 x5_1)) = true := beq_iff_eq.mpr c49
               have c49b1 : (a0_5 != (rd l1 x5_1)) = false := bne_eq_false_iff_eq.mpr c49
               clear c49; have H' := Aside0.mk H; clear H; have hia50 : ∀ W : World, (Instr.indexAt 23 (.pointer (some ⟨gb304, 0, none⟩)) (.int .i64 x5_1)).run Tryd.prog W = .ok (.pointer (some ⟨gb304, 5, none⟩)) W := by have e_ : x5_1 = 5 := (by first | assumption | exact beq_iff_eq.mp (show (x5_1 == 5) = true by assumption)); intro W; rw [e_]; first | (go_simp; done) | (go_simp; rfl)
               have hcz51_0 : wr.cell? ⟨gb304, 0, none⟩ = some (.int .u32 a0_0) := (blk_cell BK304.out 0).trans rfl
               have hcz51_1 : wr.cell? ⟨gb304, 1, none⟩ = some (.int .u32 a0_1) := (blk_cell BK304.out 1).trans rfl
               have hcz51_2 : wr.cell? ⟨gb304, 2, none⟩ = some (.int .u32 a0_2) := (blk_cell BK304.out 2).trans rfl
               have hcz51_3 : wr.cell? ⟨gb304, 3, none⟩ = some (.int .u32 a0_3) := (blk_cell BK304.out 3).trans rfl
               have hcz51_4 : wr.cell? ⟨gb304, 4, none⟩ = some (.int .u32 a0_4) := (blk_cell BK304.out 4).trans rfl
               have hcz51_5 : wr.cell? ⟨gb304, 5, none⟩ = some (.int .u32 a0_5) := (blk_cell BK304.out 5).trans rfl
               have hcz51_6 : wr.cell? ⟨gb304, 6, none⟩ = some (.int .u32 a0_6) := (blk_cell BK304.out 6).trans rfl
               have hcz51_7 : wr.cell? ⟨gb304, 7, none⟩ = some (.int .u32 a0_7) := (blk_cell BK304.out 7).trans rfl
               have hfz51_0 := blk_frozen BK304.out 0; have hfz51_1 := blk_frozen BK304.out 1; have hfz51_2 := blk_frozen BK304.out 2; have hfz51_3 := blk_frozen BK304.out 3; have hfz51_4 := blk_frozen BK304.out 4; have hfz51_5 := blk_frozen BK304.out 5; have hfz51_6 := blk_frozen BK304.out 6; have hfz51_7 := blk_frozen BK304.out 7; have p322 : 0 ≤ (x5_1 : Int) := of_decide_eq_true (by first | (with_reducible assumption) | assumption)
               have q322 : x5_1 < (l1.length : Int) := of_decide_eq_true (by first | (with_reducible assumption) | assumption)
               obtain ⟨ad322, e322, hx322_0⟩ := Kd.at_int HR1.out x5_1 p322 q322
               cases e322
               replace hx322_0 := (HB.out.cell (World.block_lt_of_cell? w _ hx322_0)).trans hx322_0
               replace p322 := eq_true p322
               replace q322 := eq_true q322
               go_wp2
               repeat (go_quiet (fail); try go_wp2)
               go_roundg k1
               case measure => have := HK1.out; omega
               case rel => exact ⟨(wrap64 (x5_1 + 1)), (by first | rfl | (simp; done) | (simp [*]; done)), H', ⟨by have := HK1.out; omega⟩, ⟨by (with_reducible repeat (first | refine blk_drewN ?_ _ | refine blk_drew ?_ | refine blk_alloc ?_ _)); exact BK304.out⟩, ⟨by repeat (first | (with_reducible first | exact HB.out | apply bA | apply bN | apply bD | refine below_set ?_ GE304.out) | exact HB.out)⟩⟩
              ·rw [if_neg c49] at H
               have c49b0 : (a0_5 == (rd l1 x5_1)) = false := beq_eq_false_iff_ne.mpr c49
               have c49b1 : (a0_5 != (rd l1 x5_1)) = true := bne_iff_ne.mpr c49
               obtain rfl := Option.some.inj H
               have hia52 : ∀ W : World, (Instr.indexAt 23 (.pointer (some ⟨gb304, 0, none⟩)) (.int .i64 x5_1)).run Tryd.prog W = .ok (.pointer (some ⟨gb304, 5, none⟩)) W := by have e_ : x5_1 = 5 := (by first | assumption | exact beq_iff_eq.mp (show (x5_1 == 5) = true by assumption)); intro W; rw [e_]; first | (go_simp; done) | (go_simp; rfl)
               have hcz53_0 : wr.cell? ⟨gb304, 0, none⟩ = some (.int .u32 a0_0) := (blk_cell BK304.out 0).trans rfl
               have hcz53_1 : wr.cell? ⟨gb304, 1, none⟩ = some (.int .u32 a0_1) := (blk_cell BK304.out 1).trans rfl
               have hcz53_2 : wr.cell? ⟨gb304, 2, none⟩ = some (.int .u32 a0_2) := (blk_cell BK304.out 2).trans rfl
               have hcz53_3 : wr.cell? ⟨gb304, 3, none⟩ = some (.int .u32 a0_3) := (blk_cell BK304.out 3).trans rfl
               have hcz53_4 : wr.cell? ⟨gb304, 4, none⟩ = some (.int .u32 a0_4) := (blk_cell BK304.out 4).trans rfl
               have hcz53_5 : wr.cell? ⟨gb304, 5, none⟩ = some (.int .u32 a0_5) := (blk_cell BK304.out 5).trans rfl
               have hcz53_6 : wr.cell? ⟨gb304, 6, none⟩ = some (.int .u32 a0_6) := (blk_cell BK304.out 6).trans rfl
               have hcz53_7 : wr.cell? ⟨gb304, 7, none⟩ = some (.int .u32 a0_7) := (blk_cell BK304.out 7).trans rfl
               have hfz53_0 := blk_frozen BK304.out 0; have hfz53_1 := blk_frozen BK304.out 1; have hfz53_2 := blk_frozen BK304.out 2; have hfz53_3 := blk_frozen BK304.out 3; have hfz53_4 := blk_frozen BK304.out 4; have hfz53_5 := blk_frozen BK304.out 5; have hfz53_6 := blk_frozen BK304.out 6; have hfz53_7 := blk_frozen BK304.out 7; have p322 : 0 ≤ (x5_1 : Int) := of_decide_eq_true (by first | (with_reducible assumption) | assumption)
               have q322 : x5_1 < (l1.length : Int) := of_decide_eq_true (by first | (with_reducible assumption) | assumption)
               obtain ⟨ad322, e322, hx322_0⟩ := Kd.at_int HR1.out x5_1 p322 q322
               cases e322
               replace hx322_0 := (HB.out.cell (World.block_lt_of_cell? w _ hx322_0)).trans hx322_0
               replace p322 := eq_true p322
               replace q322 := eq_true q322
               go_wp2
               repeat (go_quiet (fail); try go_wp2)
               go_ret
               exact ⟨by first | rfl | (simp [errW_none, errW_some] <;> rfl) | (simp [*, errW_none, errW_some] <;> rfl), by repeat (first | (with_reducible first | exact HB.out | apply bA | apply bN | apply bD | refine below_set ?_ GE304.out) | exact HB.out)⟩
             ·rw [if_neg c48] at H
              exact absurd H (by simp)
            ·rw [if_neg c47] at H
             exact absurd H (by simp)
           ·rw [if_neg c46] at H
            have c46b0 : (x5_1 == 5) = false := beq_eq_false_iff_ne.mpr c46
            have c46b1 : (x5_1 != 5) = true := bne_iff_ne.mpr c46
            by_cases c54 : x5_1 = 6
            ·rw [if_pos c54] at H
             have c54b0 : (x5_1 == 6) = true := beq_iff_eq.mpr c54
             have c54b1 : (x5_1 != 6) = false := bne_eq_false_iff_eq.mpr c54
             clear c54; by_cases c55 : 0 ≤ x5_1
             ·rw [if_pos c55] at H
              have c55b0 : decide (0 ≤ x5_1) = true := decide_eq_true c55
              clear c55; by_cases c56 : x5_1 < (l1.length : Int)
              ·rw [if_pos c56] at H
               have c56b0 : decide (x5_1 < (l1.length : Int)) = true := decide_eq_true c56
               clear c56; by_cases c57 : a0_6 = (rd l1 x5_1)
               ·rw [if_pos c57] at H
                have c57b0 : (a0_6 == (rd l1 x5_1)) = true := beq_iff_eq.mpr c57
                have c57b1 : (a0_6 != (rd l1 x5_1)) = false := bne_eq_false_iff_eq.mpr c57
                clear c57; have H' := Aside0.mk H; clear H; have hia58 : ∀ W : World, (Instr.indexAt 23 (.pointer (some ⟨gb304, 0, none⟩)) (.int .i64 x5_1)).run Tryd.prog W = .ok (.pointer (some ⟨gb304, 6, none⟩)) W := by have e_ : x5_1 = 6 := (by first | assumption | exact beq_iff_eq.mp (show (x5_1 == 6) = true by assumption)); intro W; rw [e_]; first | (go_simp; done) | (go_simp; rfl)
                have hcz59_0 : wr.cell? ⟨gb304, 0, none⟩ = some (.int .u32 a0_0) := (blk_cell BK304.out 0).trans rfl
                have hcz59_1 : wr.cell? ⟨gb304, 1, none⟩ = some (.int .u32 a0_1) := (blk_cell BK304.out 1).trans rfl
                have hcz59_2 : wr.cell? ⟨gb304, 2, none⟩ = some (.int .u32 a0_2) := (blk_cell BK304.out 2).trans rfl
                have hcz59_3 : wr.cell? ⟨gb304, 3, none⟩ = some (.int .u32 a0_3) := (blk_cell BK304.out 3).trans rfl
                have hcz59_4 : wr.cell? ⟨gb304, 4, none⟩ = some (.int .u32 a0_4) := (blk_cell BK304.out 4).trans rfl
                have hcz59_5 : wr.cell? ⟨gb304, 5, none⟩ = some (.int .u32 a0_5) := (blk_cell BK304.out 5).trans rfl
                have hcz59_6 : wr.cell? ⟨gb304, 6, none⟩ = some (.int .u32 a0_6) := (blk_cell BK304.out 6).trans rfl
                have hcz59_7 : wr.cell? ⟨gb304, 7, none⟩ = some (.int .u32 a0_7) := (blk_cell BK304.out 7).trans rfl
                have hfz59_0 := blk_frozen BK304.out 0; have hfz59_1 := blk_frozen BK304.out 1; have hfz59_2 := blk_frozen BK304.out 2; have hfz59_3 := blk_frozen BK304.out 3; have hfz59_4 := blk_frozen BK304.out 4; have hfz59_5 := blk_frozen BK304.out 5; have hfz59_6 := blk_frozen BK304.out 6; have hfz59_7 := blk_frozen BK304.out 7; have p325 : 0 ≤ (x5_1 : Int) := of_decide_eq_true (by first | (with_reducible assumption) | assumption)
                have q325 : x5_1 < (l1.length : Int) := of_decide_eq_true (by first | (with_reducible assumption) | assumption)
                obtain ⟨ad325, e325, hx325_0⟩ := Kd.at_int HR1.out x5_1 p325 q325
                cases e325
                replace hx325_0 := (HB.out.cell (World.block_lt_of_cell? w _ hx325_0)).trans hx325_0
                replace p325 := eq_true p325
                replace q325 := eq_true q325
                go_wp2
                repeat (go_quiet (fail); try go_wp2)
                go_roundg k1
                case measure => have := HK1.out; omega
                case rel => exact ⟨(wrap64 (x5_1 + 1)), (by first | rfl | (simp; done) | (simp [*]; done)), H', ⟨by have := HK1.out; omega⟩, ⟨by (with_reducible repeat (first | refine blk_drewN ?_ _ | refine blk_drew ?_ | refine blk_alloc ?_ _)); exact BK304.out⟩, ⟨by repeat (first | (with_reducible first | exact HB.out | apply bA | apply bN | apply bD | refine below_set ?_ GE304.out) | exact HB.out)⟩⟩
               ·rw [if_neg c57] at H
                have c57b0 : (a0_6 == (rd l1 x5_1)) = false := beq_eq_false_iff_ne.mpr c57
                have c57b1 : (a0_6 != (rd l1 x5_1)) = true := bne_iff_ne.mpr c57
                obtain rfl := Option.some.inj H
                have hia60 : ∀ W : World, (Instr.indexAt 23 (.pointer (some ⟨gb304, 0, none⟩)) (.int .i64 x5_1)).run Tryd.prog W = .ok (.pointer (some ⟨gb304, 6, none⟩)) W := by have e_ : x5_1 = 6 := (by first | assumption | exact beq_iff_eq.mp (show (x5_1 == 6) = true by assumption)); intro W; rw [e_]; first | (go_simp; done) | (go_simp; rfl)
                have hcz61_0 : wr.cell? ⟨gb304, 0, none⟩ = some (.int .u32 a0_0) := (blk_cell BK304.out 0).trans rfl
                have hcz61_1 : wr.cell? ⟨gb304, 1, none⟩ = some (.int .u32 a0_1) := (blk_cell BK304.out 1).trans rfl
                have hcz61_2 : wr.cell? ⟨gb304, 2, none⟩ = some (.int .u32 a0_2) := (blk_cell BK304.out 2).trans rfl
                have hcz61_3 : wr.cell? ⟨gb304, 3, none⟩ = some (.int .u32 a0_3) := (blk_cell BK304.out 3).trans rfl
                have hcz61_4 : wr.cell? ⟨gb304, 4, none⟩ = some (.int .u32 a0_4) := (blk_cell BK304.out 4).trans rfl
                have hcz61_5 : wr.cell? ⟨gb304, 5, none⟩ = some (.int .u32 a0_5) := (blk_cell BK304.out 5).trans rfl
                have hcz61_6 : wr.cell? ⟨gb304, 6, none⟩ = some (.int .u32 a0_6) := (blk_cell BK304.out 6).trans rfl
                have hcz61_7 : wr.cell? ⟨gb304, 7, none⟩ = some (.int .u32 a0_7) := (blk_cell BK304.out 7).trans rfl
                have hfz61_0 := blk_frozen BK304.out 0; have hfz61_1 := blk_frozen BK304.out 1; have hfz61_2 := blk_frozen BK304.out 2; have hfz61_3 := blk_frozen BK304.out 3; have hfz61_4 := blk_frozen BK304.out 4; have hfz61_5 := blk_frozen BK304.out 5; have hfz61_6 := blk_frozen BK304.out 6; have hfz61_7 := blk_frozen BK304.out 7; have p325 : 0 ≤ (x5_1 : Int) := of_decide_eq_true (by first | (with_reducible assumption) | assumption)
                have q325 : x5_1 < (l1.length : Int) := of_decide_eq_true (by first | (with_reducible assumption) | assumption)
                obtain ⟨ad325, e325, hx325_0⟩ := Kd.at_int HR1.out x5_1 p325 q325
                cases e325
                replace hx325_0 := (HB.out.cell (World.block_lt_of_cell? w _ hx325_0)).trans hx325_0
                replace p325 := eq_true p325
                replace q325 := eq_true q325
                go_wp2
                repeat (go_quiet (fail); try go_wp2)
                go_ret
                exact ⟨by first | rfl | (simp [errW_none, errW_some] <;> rfl) | (simp [*, errW_none, errW_some] <;> rfl), by repeat (first | (with_reducible first | exact HB.out | apply bA | apply bN | apply bD | refine below_set ?_ GE304.out) | exact HB.out)⟩
              ·rw [if_neg c56] at H
               exact absurd H (by simp)
             ·rw [if_neg c55] at H
              exact absurd H (by simp)
            ·rw [if_neg c54] at H
             have c54b0 : (x5_1 == 6) = false := beq_eq_false_iff_ne.mpr c54
             have c54b1 : (x5_1 != 6) = true := bne_iff_ne.mpr c54
             by_cases c62 : x5_1 = 7
             ·rw [if_pos c62] at H
              have c62b0 : (x5_1 == 7) = true := beq_iff_eq.mpr c62
              have c62b1 : (x5_1 != 7) = false := bne_eq_false_iff_eq.mpr c62
              clear c62; by_cases c63 : 0 ≤ x5_1
              ·rw [if_pos c63] at H
               have c63b0 : decide (0 ≤ x5_1) = true := decide_eq_true c63
               clear c63; by_cases c64 : x5_1 < (l1.length : Int)
               ·rw [if_pos c64] at H
                have c64b0 : decide (x5_1 < (l1.length : Int)) = true := decide_eq_true c64
                clear c64; by_cases c65 : a0_7 = (rd l1 x5_1)
                ·rw [if_pos c65] at H
                 have c65b0 : (a0_7 == (rd l1 x5_1)) = true := beq_iff_eq.mpr c65
                 have c65b1 : (a0_7 != (rd l1 x5_1)) = false := bne_eq_false_iff_eq.mpr c65
                 clear c65; have H' := Aside0.mk H; clear H; have hia66 : ∀ W : World, (Instr.indexAt 23 (.pointer (some ⟨gb304, 0, none⟩)) (.int .i64 x5_1)).run Tryd.prog W = .ok (.pointer (some ⟨gb304, 7, none⟩)) W := by have e_ : x5_1 = 7 := (by first | assumption | exact beq_iff_eq.mp (show (x5_1 == 7) = true by assumption)); intro W; rw [e_]; first | (go_simp; done) | (go_simp; rfl)
                 have hcz67_0 : wr.cell? ⟨gb304, 0, none⟩ = some (.int .u32 a0_0) := (blk_cell BK304.out 0).trans rfl
                 have hcz67_1 : wr.cell? ⟨gb304, 1, none⟩ = some (.int .u32 a0_1) := (blk_cell BK304.out 1).trans rfl
                 have hcz67_2 : wr.cell? ⟨gb304, 2, none⟩ = some (.int .u32 a0_2) := (blk_cell BK304.out 2).trans rfl
                 have hcz67_3 : wr.cell? ⟨gb304, 3, none⟩ = some (.int .u32 a0_3) := (blk_cell BK304.out 3).trans rfl
                 have hcz67_4 : wr.cell? ⟨gb304, 4, none⟩ = some (.int .u32 a0_4) := (blk_cell BK304.out 4).trans rfl
                 have hcz67_5 : wr.cell? ⟨gb304, 5, none⟩ = some (.int .u32 a0_5) := (blk_cell BK304.out 5).trans rfl
                 have hcz67_6 : wr.cell? ⟨gb304, 6, none⟩ = some (.int .u32 a0_6) := (blk_cell BK304.out 6).trans rfl
                 have hcz67_7 : wr.cell? ⟨gb304, 7, none⟩ = some (.int .u32 a0_7) := (blk_cell BK304.out 7).trans rfl
                 have hfz67_0 := blk_frozen BK304.out 0; have hfz67_1 := blk_frozen BK304.out 1; have hfz67_2 := blk_frozen BK304.out 2; have hfz67_3 := blk_frozen BK304.out 3; have hfz67_4 := blk_frozen BK304.out 4; have hfz67_5 := blk_frozen BK304.out 5; have hfz67_6 := blk_frozen BK304.out 6; have hfz67_7 := blk_frozen BK304.out 7; have p328 : 0 ≤ (x5_1 : Int) := of_decide_eq_true (by first | (with_reducible assumption) | assumption)
                 have q328 : x5_1 < (l1.length : Int) := of_decide_eq_true (by first | (with_reducible assumption) | assumption)
                 obtain ⟨ad328, e328, hx328_0⟩ := Kd.at_int HR1.out x5_1 p328 q328
                 cases e328
                 replace hx328_0 := (HB.out.cell (World.block_lt_of_cell? w _ hx328_0)).trans hx328_0
                 replace p328 := eq_true p328
                 replace q328 := eq_true q328
                 go_wp2
                 repeat (go_quiet (fail); try go_wp2)
                 go_roundg k1
                 case measure => have := HK1.out; omega
                 case rel => exact ⟨(wrap64 (x5_1 + 1)), (by first | rfl | (simp; done) | (simp [*]; done)), H', ⟨by have := HK1.out; omega⟩, ⟨by (with_reducible repeat (first | refine blk_drewN ?_ _ | refine blk_drew ?_ | refine blk_alloc ?_ _)); exact BK304.out⟩, ⟨by repeat (first | (with_reducible first | exact HB.out | apply bA | apply bN | apply bD | refine below_set ?_ GE304.out) | exact HB.out)⟩⟩
                ·rw [if_neg c65] at H
                 have c65b0 : (a0_7 == (rd l1 x5_1)) = false := beq_eq_false_iff_ne.mpr c65
                 have c65b1 : (a0_7 != (rd l1 x5_1)) = true := bne_iff_ne.mpr c65
                 obtain rfl := Option.some.inj H
                 have hia68 : ∀ W : World, (Instr.indexAt 23 (.pointer (some ⟨gb304, 0, none⟩)) (.int .i64 x5_1)).run Tryd.prog W = .ok (.pointer (some ⟨gb304, 7, none⟩)) W := by have e_ : x5_1 = 7 := (by first | assumption | exact beq_iff_eq.mp (show (x5_1 == 7) = true by assumption)); intro W; rw [e_]; first | (go_simp; done) | (go_simp; rfl)
                 have hcz69_0 : wr.cell? ⟨gb304, 0, none⟩ = some (.int .u32 a0_0) := (blk_cell BK304.out 0).trans rfl
                 have hcz69_1 : wr.cell? ⟨gb304, 1, none⟩ = some (.int .u32 a0_1) := (blk_cell BK304.out 1).trans rfl
                 have hcz69_2 : wr.cell? ⟨gb304, 2, none⟩ = some (.int .u32 a0_2) := (blk_cell BK304.out 2).trans rfl
                 have hcz69_3 : wr.cell? ⟨gb304, 3, none⟩ = some (.int .u32 a0_3) := (blk_cell BK304.out 3).trans rfl
                 have hcz69_4 : wr.cell? ⟨gb304, 4, none⟩ = some (.int .u32 a0_4) := (blk_cell BK304.out 4).trans rfl
                 have hcz69_5 : wr.cell? ⟨gb304, 5, none⟩ = some (.int .u32 a0_5) := (blk_cell BK304.out 5).trans rfl
                 have hcz69_6 : wr.cell? ⟨gb304, 6, none⟩ = some (.int .u32 a0_6) := (blk_cell BK304.out 6).trans rfl
                 have hcz69_7 : wr.cell? ⟨gb304, 7, none⟩ = some (.int .u32 a0_7) := (blk_cell BK304.out 7).trans rfl
                 have hfz69_0 := blk_frozen BK304.out 0; have hfz69_1 := blk_frozen BK304.out 1; have hfz69_2 := blk_frozen BK304.out 2; have hfz69_3 := blk_frozen BK304.out 3; have hfz69_4 := blk_frozen BK304.out 4; have hfz69_5 := blk_frozen BK304.out 5; have hfz69_6 := blk_frozen BK304.out 6; have hfz69_7 := blk_frozen BK304.out 7; have p328 : 0 ≤ (x5_1 : Int) := of_decide_eq_true (by first | (with_reducible assumption) | assumption)
                 have q328 : x5_1 < (l1.length : Int) := of_decide_eq_true (by first | (with_reducible assumption) | assumption)
                 obtain ⟨ad328, e328, hx328_0⟩ := Kd.at_int HR1.out x5_1 p328 q328
                 cases e328
                 replace hx328_0 := (HB.out.cell (World.block_lt_of_cell? w _ hx328_0)).trans hx328_0
                 replace p328 := eq_true p328
                 replace q328 := eq_true q328
                 go_wp2
                 repeat (go_quiet (fail); try go_wp2)
                 go_ret
                 exact ⟨by first | rfl | (simp [errW_none, errW_some] <;> rfl) | (simp [*, errW_none, errW_some] <;> rfl), by repeat (first | (with_reducible first | exact HB.out | apply bA | apply bN | apply bD | refine below_set ?_ GE304.out) | exact HB.out)⟩
               ·rw [if_neg c64] at H
                exact absurd H (by simp)
              ·rw [if_neg c63] at H
               exact absurd H (by simp)
             ·rw [if_neg c62] at H
              exact absurd H (by simp)
     ·rw [if_neg c5] at H
      have c5b0 : ((l1.length : Int) == 8) = false := beq_eq_false_iff_ne.mpr c5
      have c5b1 : ((l1.length : Int) != 8) = true := bne_iff_ne.mpr c5
      obtain rfl := Option.some.inj H
      go_wp2
      repeat (go_quiet (fail); try go_wp2)
      go_ret
      exact ⟨by first | rfl | (simp [errW_none, errW_some] <;> rfl) | (simp [*, errW_none, errW_some] <;> rfl), by repeat (first | (with_reducible first | exact HB.out | apply bA | apply bN | apply bD | refine below_set ?_ GE304.out) | exact HB.out)⟩
    ·rw [if_neg c4] at H
     have c4b0 : decide (x5_1 < 8) = false := decide_eq_false c4
     clear c4; obtain rfl := Option.some.inj H
     go_wp2
     repeat (go_quiet (fail); try go_wp2)
     go_ret
     exact ⟨by first | rfl | (simp [errW_none, errW_some] <;> rfl) | (simp [*, errW_none, errW_some] <;> rfl), by repeat (first | (with_reducible first | exact HB.out | apply bA | apply bN | apply bD | refine below_set ?_ GE304.out) | exact HB.out)⟩

end Go.Proofs.YtnpkhkhlofkbhaaDoor.PShaRight
