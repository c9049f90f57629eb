-- made by a program of this session (its printer) out of what Lean prints of the given program
import Derived.Test.YtnpkhkhlofkbhaaDoorPSlipRightx0
import Derived.Test.YtnpkhkhlofkbhaaDoorPSlipRightx4
import Derived.Test.YtnpkhkhlofkbhaaDoorPSlipRightx5
namespace Go.Proofs.YtnpkhkhlofkbhaaDoor.PSlipRight
open Go.RowKit Go.Proofs.YtnpkhkhlofkbhaaDoorW.PrintWords Go.Proofs.YtnpkhkhlofkbhaaDoorW.PrintLast Go.Proofs.YtnpkhkhlofkbhaaDoorW.PrintMore
attribute [local go_sem] max2_int min2_int max_two min_two max_three min_three max_four min_four   -- for this text's walks alone
set_option linter.unusedVariables false
set_option linter.unusedSimpArgs false

/-! ### wristbandref02_From: function 23 -/
def wristbandref02_From.l0 : Nat → List Int → List Int → Int → Option (List Int)
  | 0, _, _, _ => none
  | k + 1, x0, x1, x5 => if (wrap64 (x5 + 63)) < (x1.length : Int) then (if 0 ≤ x5 then (if x5 ≤ (wrap64 (x5 + 64)) then (if (wrap64 (x5 + 64)) ≤ (x1.length : Int) then ((wristbandref02_Block.f k x0 ((x1.take ((wrap64 (x5 + 64)) : Int).toNat).drop (x5 : Int).toNat)).bind fun t323 => (wristbandref02_From.l0 k t323 x1 (wrap64 (x5 + 64)))) else (none)) else (none)) else (none)) else (some x0)
def wristbandref02_From.f (k : Nat) (l0 : List Int) (l1 : List Int) : Option (List Int) := wristbandref02_From.l0 k l0 l1 0
theorem wristbandref02_From.mono_l : ∀ k, (∀ y0 y1 y2, LeO (wristbandref02_From.l0 k y0 y1 y2) (wristbandref02_From.l0 (k + 1) y0 y1 y2))
  | 0 => fun _ _ _ r h => by simp [wristbandref02_From.l0] at h
  | k + 1 => by
   have ih0 := wristbandref02_From.mono_l k
   ·intro y0 y1 y2
    unfold wristbandref02_From.l0
    repeat' first
    | (with_reducible exact ih0 _ _ _)
    | (with_reducible exact wristbandref02_Block.mono _ _ _)
    | (with_reducible exact LeO.refl _)
    | (with_reducible exact LeO.none _)
    | (with_reducible refine LeO.ite ?_ ?_)
    | (with_reducible refine LeO.bind ?_ (fun _ => ?_))
    | exact ih0 _ _ _
    | exact wristbandref02_Block.mono _ _ _
    | exact LeO.none _
    | refine LeO.ite ?_ ?_
    | refine LeO.bind ?_ (fun _ => ?_)
theorem wristbandref02_From.mono : ∀ a0 a1 k, LeO (wristbandref02_From.f k a0 a1) (wristbandref02_From.f (k + 1) a0 a1) := by
  intro a0 a1 k; have ih0 := wristbandref02_From.mono_l k
  unfold wristbandref02_From.f
  repeat' first
    | (with_reducible exact ih0 _ _ _)
    | (with_reducible exact wristbandref02_Block.mono _ _ _)
    | (with_reducible exact LeO.refl _)
    | (with_reducible exact LeO.none _)
    | (with_reducible refine LeO.ite ?_ ?_)
    | (with_reducible refine LeO.bind ?_ (fun _ => ?_))
    | exact ih0 _ _ _
    | exact wristbandref02_Block.mono _ _ _
    | exact LeO.none _
    | refine LeO.ite ?_ ?_
    | refine LeO.bind ?_ (fun _ => ?_)
set_option maxHeartbeats 8000000 in
set_option maxRecDepth 100000 in
theorem wristbandref02_From.calls (k : Nat) (P0_ : Nat → Prop) (A0 : Option Addr) (c0 : Nat) (l0 : List Int) (A1 : Option Addr) (c1 : Nat) (l1 : List Int) (r : List Int) (w : World) (hs0 : Kd.V (Kd.int .u32) 22 w w.heap.size (fun k_ => P0_ k_) (.slice A0 l0.length c0) l0) (hr1 : Kd.C (Kd.int .u8) w A1 l1.length l1) (hc1 : l1.length ≤ c1) (h : wristbandref02_From.f k l0 l1 = some r) :
   Calls Tryd.prog 23 #[.slice A0 l0.length c0, .slice A1 l1.length c1] w fun e w' => ∃ v0_ : Value, e = .returned (v0_) ∧ Kd.V (Kd.int .u32) 22 w' w.heap.size (fun k_ => (P0_ k_ ∨ w.heap.size ≤ k_)) v0_ r ∧ Below w.heap.size w w' := by
  have HO0 := Aside0.mk (show Kd.V (Kd.int .u32) 22 w w.heap.size (fun k_ => (P0_ k_ ∨ w.heap.size ≤ k_)) (.slice A0 l0.length c0) l0 from Kd.V_mono hs0 (fun k_ hk => .inl hk)); have HR1 := Aside0.mk hr1; have HC1 := Aside0.mk hc1; clear hr1 hc1; have HB := Aside0.mk (Below.refl w.heap.size w); have H : (wristbandref02_From.l0 k l0 l1 0) = some r := h
  clear h; have H' := Aside0.mk H; clear H; go_enter Tryd.func23, Tryd.ntmps23
  go_wp2
  go_loopg [0, 5] k (fun kq v0 v5 w' => ∃ (x0_1 : List Int) (x5_1 : Int), v5 = .int .i64 x5_1 ∧ Aside0 (wristbandref02_From.l0 kq x0_1 l1 x5_1 = some r) ∧ Aside0 (kq ≤ k) ∧ Aside0 (Kd.V (Kd.int .u32) 22 w' w.heap.size (fun k_ => (P0_ k_ ∨ w.heap.size ≤ k_)) v0 x0_1) ∧ Aside0 (Below w.heap.size w w'))
  case atStart => exact ⟨(l0), (0), (by first | rfl | (simp; done) | (simp [*]; done)), H', ⟨Nat.le_refl _⟩, ⟨by (with_reducible repeat (first | apply Kd.V_alloc | apply Kd.V_drewN | apply Kd.V_drew)); exact HO0.out⟩, ⟨by repeat (first | (with_reducible first | exact HB.out | apply bA | apply bN | apply bD) | exact HB.out)⟩⟩
  case round =>
   clear H'; try clear c1
   try clear c2
   try clear p2
   obtain ⟨x0_1, x5_1, rfl, HA, HK1, HO_0, HB⟩ := hrel
   cases gk with
   | zero => exact absurd HA.out (by simp [wristbandref02_From.l0])
   | succ k1 =>
    have H := HA.out
    clear HA; simp only [wristbandref02_From.l0] at H
    by_cases c3 : (wrap64 (x5_1 + 63)) < (l1.length : Int)
    ·rw [if_pos c3] at H
     have c3b0 : decide ((wrap64 (x5_1 + 63)) < (l1.length : Int)) = true := decide_eq_true c3
     clear c3; by_cases c4 : 0 ≤ x5_1
     ·rw [if_pos c4] at H
      have c4b0 := eq_true c4
      have c4b1 : decide (0 ≤ x5_1) = true := decide_eq_true c4
      clear c4; by_cases c5 : x5_1 ≤ (wrap64 (x5_1 + 64))
      ·rw [if_pos c5] at H
       have c5b0 := eq_true c5
       have c5b1 : decide (x5_1 ≤ (wrap64 (x5_1 + 64))) = true := decide_eq_true c5
       by_cases c6 : (wrap64 (x5_1 + 64)) ≤ (l1.length : Int)
       ·rw [if_pos c6] at H
        have c6b0 := eq_true c6
        have c6b1 : decide ((wrap64 (x5_1 + 64)) ≤ (l1.length : Int)) = true := decide_eq_true c6
        replace H := Option.bind_eq_some_iff.mp H
        obtain ⟨t323, A70, H⟩ := H
        replace H : (wristbandref02_From.l0 k1 t323 l1 (wrap64 (x5_1 + 64))) = some r := H
        have A7 := Aside0.mk A70; clear A70; have H' := Aside0.mk H; clear H; obtain ⟨i08, hi08, _, hsz8, _⟩ := info_parts info5
        obtain ⟨A8, hcut8, hA8, hC8⟩ := print_mid_of (P := Tryd.prog) (Value.int .u8) 0 24 5 .i64 .i64 Tryd.underlying24 hi08 hsz8 A1 c1 l1 x5_1 (wrap64 (x5_1 + 64)) (of_decide_eq_true (by first | (with_reducible assumption) | assumption)) (by first | omega | exact of_decide_eq_true (by first | (with_reducible assumption) | assumption)) (of_decide_eq_true (by first | (with_reducible assumption) | assumption)) HC1.out
        have HR322 := Aside0.mk (Kd.C_of_reads (h1 := fun _ => rfl) (hA8 _ (Kd.reads_of_C HR1.out))); have HC322 := Aside0.mk hC8; clear hA8 hC8 hi08 hsz8; (try (have hsl8_ : Aside0 (((l1.take ((wrap64 (x5_1 + 64)) : Int).toNat).drop (x5_1 : Int).toNat).length = ((wrap64 (x5_1 + 64)).toNat - x5_1.toNat)) := ⟨(by rw [List.length_drop, List.length_take]; have h_ : ((wrap64 (x5_1 + 64)) : Int) ≤ (l1.length : Int) := of_decide_eq_true (by first | (with_reducible assumption) | assumption); omega)⟩))
        obtain ⟨Ao9, co9, eo9⟩ := Kd.V_slice HO_0.out
        subst eo9; go_wp2_with (first | ((with_reducible refine gate_callee (f := 18) rfl ?_); refine goesL_ (some 19) rfl rfl Tryd.func18 (by kernel_rfl) rfl #[.slice Ao9 x0_1.length co9, .slice A8 ((l1.take ((wrap64 (x5_1 + 64)) : Int).toNat).drop (x5_1 : Int).toNat).length (c1 - x5_1.toNat)] rfl (by (try simp only [mT, mC, mN]); first | done | (rw [hsl8_.out] <;> rfl) | (rw [show ((l1.take ((wrap64 (x5_1 + 64)) : Int).toNat).drop (x5_1 : Int).toNat).length = ((wrap64 (x5_1 + 64)).toNat - x5_1.toNat) from (by rw [List.length_drop, List.length_take]; have h_ : ((wrap64 (x5_1 + 64)) : Int) ≤ (l1.length : Int) := of_decide_eq_true (by first | (with_reducible assumption) | assumption); omega)] <;> rfl) | rfl | (simp only [List.length_drop, List.length_take]; rfl)) ?_; (with_reducible refine (wristbandref02_Block.calls k1 _ _ x0_1 _ _ ((l1.take ((wrap64 (x5_1 + 64)) : Int).toNat).drop (x5_1 : Int).toNat) t323 _ ?side1 ?side2 ?side3 ?side4 A7.out).mono ?_); (case side1 => repeat (first | exact (Kd.V_reads' HO_0.out).2.2 | (with_reducible refine Kd.C_alloc ?_ _) | (with_reducible refine Kd.C_drewN ?_ _) | (with_reducible refine Kd.C_drew ?_))); (case side2 => exact (Kd.V_reads' HO_0.out).2.1); (case side3 => repeat (first | exact (Kd.C_below HR322.out HB.out) | (with_reducible refine Kd.C_alloc ?_ _) | (with_reducible refine Kd.C_drewN ?_ _) | (with_reducible refine Kd.C_drew ?_))); (case side4 => exact HC322.out); rintro e w10 ⟨v324, rfl, ho0, hb⟩; refine ⟨_, rfl, ?_⟩; have n0_ := Aside0.mk (Kd.V_elder' (by (with_reducible repeat (first | apply Kd.V_alloc | apply Kd.V_drewN | apply Kd.V_drew)); exact HO_0.out) (Kd.R_base ho0) hb); have n1_ := Aside0.mk (Kd.R_lower (Kd.R_newM (M := fun k_ => (w.heap.size ≤ k_)) ho0 (below_size (by repeat (first | (with_reducible first | exact HB.out | apply bA | apply bN | apply bD) | exact HB.out))) (fun k_ h_ => h_)) (below_size (by repeat (first | (with_reducible first | exact HB.out | apply bA | apply bN | apply bD) | exact HB.out)))); have n2_ := Aside0.mk (below_step (by repeat (first | (with_reducible first | exact HB.out | apply bA | apply bN | apply bD) | exact HB.out)) hb); clear HO_0; clear HB; have HO_0 := n0_; have HO325 := n1_; have HB := n2_; clear n0_ n1_ n2_; (try clear hb); (try clear hb2); (try clear hk); (try clear hi); (try clear ho0)))
        go_roundg k1
        case measure => have := HK1.out; omega
        case rel => exact ⟨(t323), (wrap64 (x5_1 + 64)), (by first | rfl | (simp; done) | (simp [*]; done)), H', ⟨by have := HK1.out; omega⟩, ⟨Kd.V_mono (Kd.R_V (by (with_reducible repeat (first | apply rL | apply rN | apply rW)); exact Kd.R_mono HO325.out (fun _ hk => hk.1))) (fun k_ hk => by first | exact ⟨(.inr (hk.1)), hk.2⟩ | exact (.inr (hk)))⟩, ⟨by repeat (first | (with_reducible first | exact HB.out | apply bA | apply bN | apply bD) | exact HB.out)⟩⟩
       ·rw [if_neg c6] at H
        exact absurd H (by simp)
      ·rw [if_neg c5] at H
       exact absurd H (by simp)
     ·rw [if_neg c4] at H
      exact absurd H (by simp)
    ·rw [if_neg c3] at H
     have c3b0 : decide ((wrap64 (x5_1 + 63)) < (l1.length : Int)) = false := decide_eq_false c3
     (try (have c3h8 := c3b0; simp only [hsl8_.out, Int.ofNat_toNat] at c3h8))
     clear c3; obtain rfl := Option.some.inj H
     go_wp2
     go_ret
     exact ⟨_, by first | rfl | (simp [errW_none, errW_some] <;> rfl) | (simp [*, errW_none, errW_some] <;> rfl), by (with_reducible repeat (first | apply Kd.V_alloc | apply Kd.V_drewN | apply Kd.V_drew)); exact HO_0.out, by repeat (first | (with_reducible first | exact HB.out | apply bA | apply bN | apply bD) | exact HB.out)⟩

/-! ### wristbandref01_Bytes: function 44 -/
def wristbandref01_Bytes.l0 : Nat → List Int → List Int → Int → Option (List Int)
  | 0, _, _, _ => none
  | k + 1, x0, x3, x4 => if x4 < (x0.length : Int) then (if 0 ≤ x4 then ((some (([((Int.tdiv (rd x0 x4) 16777216) % 4294967296) % 256, ((Int.tdiv (rd x0 x4) 65536) % 4294967296) % 256, ((Int.tdiv (rd x0 x4) 256) % 4294967296) % 256, (Int.tmod (rd x0 x4) 256) % 256] : List Int) : List Int)).bind fun y327 => (if x3.length + y327.length < 140737488355328 then (wristbandref01_Bytes.l0 k x0 (x3 ++ y327) (wrap64 (x4 + 1))) else (none))) else (none)) else (some x3)
def wristbandref01_Bytes.f (k : Nat) (l0 : List Int) : Option (List Int) := wristbandref01_Bytes.l0 k l0 ([] : List Int) 0
theorem wristbandref01_Bytes.mono_l : ∀ k, (∀ y0 y1 y2, LeO (wristbandref01_Bytes.l0 k y0 y1 y2) (wristbandref01_Bytes.l0 (k + 1) y0 y1 y2))
  | 0 => fun _ _ _ r h => by simp [wristbandref01_Bytes.l0] at h
  | k + 1 => by
   have ih0 := wristbandref01_Bytes.mono_l k
   ·intro y0 y1 y2
    unfold wristbandref01_Bytes.l0
    repeat' first
    | (with_reducible exact ih0 _ _ _)
    | (with_reducible exact LeO.refl _)
    | (with_reducible exact LeO.none _)
    | (with_reducible refine LeO.ite ?_ ?_)
    | (with_reducible refine LeO.bind ?_ (fun _ => ?_))
    | exact ih0 _ _ _
    | exact LeO.none _
    | refine LeO.ite ?_ ?_
    | refine LeO.bind ?_ (fun _ => ?_)
theorem wristbandref01_Bytes.mono : ∀ a0 k, LeO (wristbandref01_Bytes.f k a0) (wristbandref01_Bytes.f (k + 1) a0) := by
  intro a0 k; have ih0 := wristbandref01_Bytes.mono_l k
  unfold wristbandref01_Bytes.f
  repeat' first
    | (with_reducible exact ih0 _ _ _)
    | (with_reducible exact LeO.refl _)
    | (with_reducible exact LeO.none _)
    | (with_reducible refine LeO.ite ?_ ?_)
    | (with_reducible refine LeO.bind ?_ (fun _ => ?_))
    | exact ih0 _ _ _
    | exact LeO.none _
    | refine LeO.ite ?_ ?_
    | refine LeO.bind ?_ (fun _ => ?_)
set_option maxHeartbeats 8000000 in
set_option maxRecDepth 100000 in
theorem wristbandref01_Bytes.calls (k : Nat) (A0 : Option Addr) (c0 : Nat) (l0 : List Int) (r : List Int) (w : World) (hr0 : Kd.C (Kd.int .u32) w A0 l0.length l0) (hc0 : l0.length ≤ c0) (h : wristbandref01_Bytes.f k l0 = some r) :
   Calls Tryd.prog 44 #[.slice A0 l0.length c0] w fun e w' => ∃ v0_ : Value, e = .returned (v0_) ∧ Kd.R (Kd.int .u8) 5 w' w.heap.size (fun _ => True) v0_ r ∧ Below w.heap.size w w' := by
  have HR0 := Aside0.mk hr0; have HC0 := Aside0.mk hc0; clear hr0 hc0; have HB := Aside0.mk (Below.refl w.heap.size w); have H : (wristbandref01_Bytes.l0 k l0 ([] : List Int) 0) = some r := h
  clear h; have H' := Aside0.mk H; clear H; go_enter Tryd.func44, Tryd.ntmps44
  go_wp2
  go_loopg [3, 4] k (fun kq v3 v4 w' => ∃ (x3_1 : List Int) (x4_1 : Int), v4 = .int .i64 x4_1 ∧ Aside0 (wristbandref01_Bytes.l0 kq l0 x3_1 x4_1 = some r) ∧ Aside0 (kq ≤ k) ∧ Aside0 (Kd.R (Kd.int .u8) 5 w' w.heap.size (fun _ => True) v3 x3_1) ∧ Aside0 (Below w.heap.size w w'))
  case atStart => exact ⟨(([] : List Int)), (0), (by first | rfl | (simp; done) | (simp [*]; done)), H', ⟨Nat.le_refl _⟩, ⟨by first | exact Kd.R_nil _ _ _ _ _ | exact Kd.N_nil _ _ _ _ _ | exact Kd.V_nil _ _ _ _ _ | exact Kd.Q_nil _ _ _ _ _ | exact Kd.S_nil _ _ _ _ _⟩, ⟨by repeat (first | (with_reducible first | exact HB.out | apply bA | apply bN | apply bD) | exact HB.out)⟩⟩
  case round =>
   clear H'; obtain ⟨x3_1, x4_1, rfl, HA, HK1, HO_3, HB⟩ := hrel
   cases gk with
   | zero => exact absurd HA.out (by simp [wristbandref01_Bytes.l0])
   | succ k1 =>
    have H := HA.out
    clear HA; simp only [wristbandref01_Bytes.l0] at H
    by_cases c2 : x4_1 < (l0.length : Int)
    ·rw [if_pos c2] at H
     have c2b0 : decide (x4_1 < (l0.length : Int)) = true := decide_eq_true c2
     clear c2; by_cases c3 : 0 ≤ x4_1
     ·rw [if_pos c3] at H
      have c3b0 : decide (0 ≤ x4_1) = true := decide_eq_true c3
      clear c3; obtain ⟨y327, hy327⟩ : ∃ y_ : List Int, y_ = (([((Int.tdiv (rd l0 x4_1) 16777216) % 4294967296) % 256, ((Int.tdiv (rd l0 x4_1) 65536) % 4294967296) % 256, ((Int.tdiv (rd l0 x4_1) 256) % 4294967296) % 256, (Int.tmod (rd l0 x4_1) 256) % 256] : List Int)) := ⟨_, rfl⟩
      replace H : (if x3_1.length + y327.length < 140737488355328 then (wristbandref01_Bytes.l0 k1 l0 (x3_1 ++ y327) (wrap64 (x4_1 + 1))) else (none)) = some r := by first | (rw [hy327]; with_reducible exact H) | (have H2_ := (Option.bind_some _ _).symm.trans H; rw [hy327]; with_reducible exact H2_) | (have H2_ := (Option.bind_some _ _).symm.trans H; with_reducible exact H2_) | with_reducible exact H | (rw [hy327]; exact H) | exact H
      have Ny327 := Aside0.mk hy327; clear hy327; by_cases c4 : x3_1.length + y327.length < 140737488355328
      ·rw [if_pos c4] at H
       have LMc4 := Aside0.mk c4; clear c4; obtain ⟨y330, hy330⟩ : ∃ y_ : List Int, y_ = (x3_1 ++ y327) := ⟨_, rfl⟩
       replace H : (wristbandref01_Bytes.l0 k1 l0 y330 (wrap64 (x4_1 + 1))) = some r := by first | (rw [hy330]; with_reducible exact H) | (have H2_ := (Option.bind_some _ _).symm.trans H; rw [hy330]; with_reducible exact H2_) | (have H2_ := (Option.bind_some _ _).symm.trans H; with_reducible exact H2_) | with_reducible exact H | (rw [hy330]; exact H) | exact H
       have Ny330 := Aside0.mk hy330; clear hy330; have H' := Aside0.mk H; clear H; have p326 : 0 ≤ (x4_1 : Int) := of_decide_eq_true (by first | (with_reducible assumption) | assumption)
       have q326 : x4_1 < (l0.length : Int) := of_decide_eq_true (by first | (with_reducible assumption) | assumption)
       obtain ⟨ad326, e326, hx326_0⟩ := Kd.at_int HR0.out x4_1 p326 q326
       cases e326
       replace hx326_0 := (HB.out.cell (World.block_lt_of_cell? w _ hx326_0)).trans hx326_0
       replace p326 := eq_true p326
       replace q326 := eq_true q326
       go_wp2_with (first | ((with_reducible refine gate_dst (N := 31) rfl ?_); refine Kd.R_lit (Kd.int .u8) _ 5 ?hg (N := 31) ?hd (xs := ([((Int.tdiv (rd l0 x4_1) 16777216) % 4294967296) % 256, ((Int.tdiv (rd l0 x4_1) 65536) % 4294967296) % 256, ((Int.tdiv (rd l0 x4_1) 256) % 4294967296) % 256, (Int.tmod (rd l0 x4_1) 256) % 256] : List Int)) (inner := [.int .u8 (((Int.tdiv (rd l0 x4_1) 16777216) % 4294967296) % 256), .int .u8 (((Int.tdiv (rd l0 x4_1) 65536) % 4294967296) % 256), .int .u8 (((Int.tdiv (rd l0 x4_1) 256) % 4294967296) % 256), .int .u8 ((Int.tmod (rd l0 x4_1) 256) % 256)]) (ok := fun _ => True) (okp := fun _ => True) ?hr ?hp (fun _ hk => hk) trivial (Below.refl _ _) (Nat.le_refl _) (by simp) ?_; (case hd => rfl); (case hg => rfl); (case hr => first | (go_simp; done) | (go_simp; rfl)); (case hp => exact (Reps.one (show Kd.M (Kd.int .u8) _ _ _ (((Int.tdiv (rd l0 x4_1) 16777216) % 4294967296) % 256) [.int .u8 (((Int.tdiv (rd l0 x4_1) 16777216) % 4294967296) % 256)] from rfl) (Reps.one (show Kd.M (Kd.int .u8) _ _ _ (((Int.tdiv (rd l0 x4_1) 65536) % 4294967296) % 256) [.int .u8 (((Int.tdiv (rd l0 x4_1) 65536) % 4294967296) % 256)] from rfl) (Reps.one (show Kd.M (Kd.int .u8) _ _ _ (((Int.tdiv (rd l0 x4_1) 256) % 4294967296) % 256) [.int .u8 (((Int.tdiv (rd l0 x4_1) 256) % 4294967296) % 256)] from rfl) (Reps.one (show Kd.M (Kd.int .u8) _ _ _ ((Int.tmod (rd l0 x4_1) 256) % 256) [.int .u8 ((Int.tmod (rd l0 x4_1) 256) % 256)] from rfl) (Reps.none _ _)))))); intro v328 w5 ho6 hb hg_ hnew_; clear hg_ hnew_; (first | rw [← Ny327.out] at ho6 | (simp only [Int.reduceToNat] at ho6; rw [← Ny327.out] at ho6)); have n0_ := Aside0.mk (Kd.R_elder' (by (with_reducible repeat (first | apply rL | apply rN | apply rW)); exact HO_3.out) (Kd.R_base ho6) hb); have n1_ := Aside0.mk (Kd.R_lower (Kd.R_new' ho6 (Kd.R_lt (by (with_reducible repeat (first | apply rL | apply rN | apply rW)); exact HO_3.out))) (below_size (by repeat (first | (with_reducible first | exact HB.out | apply bA | apply bN | apply bD) | exact HB.out)))); have n2_ := Aside0.mk (below_step (by repeat (first | (with_reducible first | exact HB.out | apply bA | apply bN | apply bD) | exact HB.out)) hb); clear HO_3; clear HB; have HO_3 := n0_; have HO329 := n1_; have HB := n2_; clear n0_ n1_ n2_; clear hb ho6; obtain ⟨Ao8, co8, eo8⟩ := Kd.R_slice HO329.out; subst eo8) | ((with_reducible refine gate_builtin (b := .append) (xs := #[.tmp 16, .tmp 31]) rfl ?_); at_builtin; refine Kd.R_append_rows (Kd.int .u8) (w0 := w) w.heap.size rfl (.tmp 16) (.tmp 31) 24 5 (.int .u8 0) 1 rfl Tryd.underlying24 info5 rfl (by decide) (by omega) u3 x3_1 y327 _ _ _ (fun k_ => some k_ ≠ (.slice Ao8 y327.length co8 : Value).ownBlock) (fun _ => False) rfl rfl ?aO ?aR (fun _ _ h => h) (fun _ h => h.elim) ?aF ?aB ?aS ?aL ?_; (case aR => repeat (first | exact (Kd.R_reads' HO329.out).2.2 | (with_reducible refine Kd.C_alloc ?_ _) | (with_reducible refine Kd.C_drewN ?_ _) | (with_reducible refine Kd.C_drew ?_))); (case aB => exact (by repeat (first | (with_reducible first | exact HB.out | apply bA | apply bN | apply bD) | exact HB.out))); (case aF => exact (fun k_ hk => Kd.fresh' (Kd.R_lt (by (with_reducible repeat (first | apply rL | apply rN | apply rW)); exact HO329.out)) k_ hk)); (case aO => exact (by (with_reducible repeat (first | apply rL | apply rN | apply rW)); exact Kd.R_mono HO_3.out (fun _ hk => hk.2))); (case aS => exact (below_size (by repeat (first | (with_reducible first | exact HB.out | apply bA | apply bN | apply bD) | exact HB.out)))); (case aL => have := LMc4.out; omega); intro v331 w7 ho hb hg hat; rw [← Ny330.out] at ho; have n0_ := Aside0.mk (Kd.R_after (ok := (fun _ => True)) (by (with_reducible repeat (first | apply rL | apply rN | apply rW)); exact HO329.out) hg hat); have n1_ := Aside0.mk (hb); have n2_ := Aside0.mk (ho); clear HO329; clear HB; clear HO_3; have HO329 := n0_; have HB := n1_; have HO332 := n2_; clear n0_ n1_ n2_; clear ho hb hg hat))
       go_roundg k1
       case measure => have := HK1.out; omega
       case rel => exact ⟨(y330), (wrap64 (x4_1 + 1)), (by first | rfl | (simp; done) | (simp [*]; done)), H', ⟨by have := HK1.out; omega⟩, ⟨by (with_reducible repeat (first | apply rL | apply rN | apply rW)); exact Kd.R_mono HO332.out (fun _ hk => trivial)⟩, ⟨by repeat (first | (with_reducible first | exact HB.out | apply bA | apply bN | apply bD) | exact HB.out)⟩⟩
      ·rw [if_neg c4] at H
       exact absurd H (by simp)
     ·rw [if_neg c3] at H
      exact absurd H (by simp)
    ·rw [if_neg c2] at H
     have c2b0 : decide (x4_1 < (l0.length : Int)) = false := decide_eq_false c2
     clear c2; obtain rfl := Option.some.inj H
     go_wp2
     go_ret
     exact ⟨_, by first | rfl | (simp [errW_none, errW_some] <;> rfl) | (simp [*, errW_none, errW_some] <;> rfl), by (with_reducible repeat (first | apply rL | apply rN | apply rW)); exact HO_3.out, by repeat (first | (with_reducible first | exact HB.out | apply bA | apply bN | apply bD) | exact HB.out)⟩

/-! ### wristbandref02_First: function 45 -/
def wristbandref02_First.f  : Option (List Int) := some (([1779033703, 3144134277, 1013904242, 2773480762, 1359893119, 2600822924, 528734635, 1541459225] : List Int))
set_option maxHeartbeats 8000000 in
set_option maxRecDepth 100000 in
theorem wristbandref02_First.calls  (r : List Int) (w : World) (h : wristbandref02_First.f  = some r) :
   Calls Tryd.prog 45 #[] w fun e w' => ∃ v0_ : Value, e = .returned (v0_) ∧ Kd.R (Kd.int .u32) 22 w' w.heap.size (fun _ => True) v0_ r ∧ Below w.heap.size w w' := by
  have HB := Aside0.mk (Below.refl w.heap.size w); have H : (some (([1779033703, 3144134277, 1013904242, 2773480762, 1359893119, 2600822924, 528734635, 1541459225] : List Int))) = some r := h
  clear h; obtain ⟨y333, hy333⟩ : ∃ y_ : List Int, y_ = (([1779033703, 3144134277, 1013904242, 2773480762, 1359893119, 2600822924, 528734635, 1541459225] : List Int)) := ⟨_, rfl⟩
  replace H : (some y333) = some r := by first | (rw [hy333]; with_reducible exact H) | (have H2_ := (Option.bind_some _ _).symm.trans H; rw [hy333]; with_reducible exact H2_) | (have H2_ := (Option.bind_some _ _).symm.trans H; with_reducible exact H2_) | with_reducible exact H | (rw [hy333]; exact H) | exact H
  have Ny333 := Aside0.mk hy333; clear hy333; obtain rfl := Option.some.inj H
  go_enter Tryd.func45, Tryd.ntmps45
  go_wp2_with (first | ((with_reducible refine gate_dst (N := 1) rfl ?_); refine Kd.R_lit (Kd.int .u32) _ 22 ?hg (N := 1) ?hd (xs := ([1779033703, 3144134277, 1013904242, 2773480762, 1359893119, 2600822924, 528734635, 1541459225] : List Int)) (inner := [.int .u32 1779033703, .int .u32 3144134277, .int .u32 1013904242, .int .u32 2773480762, .int .u32 1359893119, .int .u32 2600822924, .int .u32 528734635, .int .u32 1541459225]) (ok := fun _ => True) (okp := fun _ => True) ?hr ?hp (fun _ hk => hk) trivial (Below.refl _ _) (Nat.le_refl _) (by simp) ?_; (case hd => rfl); (case hg => rfl); (case hr => first | (go_simp; done) | (go_simp; rfl)); (case hp => exact (Reps.one (show Kd.M (Kd.int .u32) _ _ _ 1779033703 [.int .u32 1779033703] from rfl) (Reps.one (show Kd.M (Kd.int .u32) _ _ _ 3144134277 [.int .u32 3144134277] from rfl) (Reps.one (show Kd.M (Kd.int .u32) _ _ _ 1013904242 [.int .u32 1013904242] from rfl) (Reps.one (show Kd.M (Kd.int .u32) _ _ _ 2773480762 [.int .u32 2773480762] from rfl) (Reps.one (show Kd.M (Kd.int .u32) _ _ _ 1359893119 [.int .u32 1359893119] from rfl) (Reps.one (show Kd.M (Kd.int .u32) _ _ _ 2600822924 [.int .u32 2600822924] from rfl) (Reps.one (show Kd.M (Kd.int .u32) _ _ _ 528734635 [.int .u32 528734635] from rfl) (Reps.one (show Kd.M (Kd.int .u32) _ _ _ 1541459225 [.int .u32 1541459225] from rfl) (Reps.none _ _)))))))))); intro v334 w1 ho2 hb hg_ hnew_; clear hg_ hnew_; (first | rw [← Ny333.out] at ho2 | (simp only [Int.reduceToNat] at ho2; rw [← Ny333.out] at ho2)); have n0_ := Aside0.mk (Kd.R_lower ho2 (below_size (by repeat (first | (with_reducible first | exact HB.out | apply bA | apply bN | apply bD) | exact HB.out)))); have n1_ := Aside0.mk (below_step (by repeat (first | (with_reducible first | exact HB.out | apply bA | apply bN | apply bD) | exact HB.out)) hb); clear HB; have HO335 := n0_; have HB := n1_; clear n0_ n1_; clear hb ho2))
  go_ret
  exact ⟨_, by first | rfl | (simp [errW_none, errW_some] <;> rfl) | (simp [*, errW_none, errW_some] <;> rfl), by (with_reducible repeat (first | apply rL | apply rN | apply rW)); exact HO335.out, by repeat (first | (with_reducible first | exact HB.out | apply bA | apply bN | apply bD) | exact HB.out)⟩

/-! ### wristbandref02_Sum: function 15 -/
def wristbandref02_Sum.f (k : Nat) (l0 : List Int) : Option (List Int) := (wristbandref02_First.f).bind fun t336 => ((wristbandref02_Fill.f k l0 (IntKind.u64.wrap ((l0.length : Int)))).bind fun t339 => ((wristbandref02_From.f k t336 t339).bind fun t342 => ((wristbandref01_Bytes.f k t342).bind fun t345 => (some t345))))
theorem wristbandref02_Sum.mono : ∀ a0 k, LeO (wristbandref02_Sum.f k a0) (wristbandref02_Sum.f (k + 1) a0) := by
  intro a0 k; unfold wristbandref02_Sum.f
  repeat' first
    | (with_reducible exact wristbandref01_Bytes.mono _ _)
    | (with_reducible exact wristbandref02_Fill.mono _ _ _)
    | (with_reducible exact wristbandref02_From.mono _ _ _)
    | (with_reducible exact LeO.refl _)
    | (with_reducible exact LeO.none _)
    | (with_reducible refine LeO.ite ?_ ?_)
    | (with_reducible refine LeO.bind ?_ (fun _ => ?_))
    | exact wristbandref01_Bytes.mono _ _
    | exact wristbandref02_Fill.mono _ _ _
    | exact wristbandref02_From.mono _ _ _
    | exact LeO.none _
    | refine LeO.ite ?_ ?_
    | refine LeO.bind ?_ (fun _ => ?_)
set_option maxHeartbeats 8000000 in
set_option maxRecDepth 100000 in
theorem wristbandref02_Sum.calls (k : Nat) (A0 : Option Addr) (c0 : Nat) (l0 : List Int) (r : List Int) (w : World) (hr0 : Kd.C (Kd.int .u8) w A0 l0.length l0) (hc0 : l0.length ≤ c0) (h : wristbandref02_Sum.f k l0 = some r) :
   Calls Tryd.prog 15 #[.slice A0 l0.length c0] w fun e w' => ∃ v0_ : Value, e = .returned (v0_) ∧ Kd.R (Kd.int .u8) 5 w' w.heap.size (fun _ => True) v0_ r ∧ Below w.heap.size w w' := by
  have HR0 := Aside0.mk hr0; have HC0 := Aside0.mk hc0; clear hr0 hc0; have HB := Aside0.mk (Below.refl w.heap.size w); have H : ((wristbandref02_First.f).bind fun t336 => ((wristbandref02_Fill.f k l0 (IntKind.u64.wrap ((l0.length : Int)))).bind fun t339 => ((wristbandref02_From.f k t336 t339).bind fun t342 => ((wristbandref01_Bytes.f k t342).bind fun t345 => (some t345))))) = some r := h
  clear h; replace H := Option.bind_eq_some_iff.mp H
  obtain ⟨t336, A20, H⟩ := H
  replace H : ((wristbandref02_Fill.f k l0 (IntKind.u64.wrap ((l0.length : Int)))).bind fun t339 => ((wristbandref02_From.f k t336 t339).bind fun t342 => ((wristbandref01_Bytes.f k t342).bind fun t345 => (some t345)))) = some r := H
  have A2 := Aside0.mk A20; clear A20; replace H := Option.bind_eq_some_iff.mp H
  obtain ⟨t339, A30, H⟩ := H
  replace H : ((wristbandref02_From.f k t336 t339).bind fun t342 => ((wristbandref01_Bytes.f k t342).bind fun t345 => (some t345))) = some r := H
  have A3 := Aside0.mk A30; clear A30; replace H := Option.bind_eq_some_iff.mp H
  obtain ⟨t342, A40, H⟩ := H
  replace H : ((wristbandref01_Bytes.f k t342).bind fun t345 => (some t345)) = some r := H
  have A4 := Aside0.mk A40; clear A40; replace H := Option.bind_eq_some_iff.mp H
  obtain ⟨t345, A50, H⟩ := H
  replace H : (some t345) = some r := H
  have A5 := Aside0.mk A50; clear A50; obtain rfl := Option.some.inj H
  go_enter Tryd.func15, Tryd.ntmps15
  go_wp2_with (first | ((with_reducible refine gate_callee (f := 45) rfl ?_); refine goesL_ (some 3) rfl rfl Tryd.func45 (by kernel_rfl) rfl #[] rfl (by (try simp only [mT, mC, mN]); first | done | rfl | (simp only [List.length_drop, List.length_take]; rfl)) ?_; (with_reducible refine (wristbandref02_First.calls  t336 _ A2.out).mono ?_); rintro e w6 ⟨v337, rfl, ho0, hb⟩; refine ⟨_, rfl, ?_⟩; have n0_ := Aside0.mk (Kd.R_lower ho0 (below_size (by repeat (first | (with_reducible first | exact HB.out | apply bA | apply bN | apply bD) | exact HB.out)))); have n1_ := Aside0.mk (below_step (by repeat (first | (with_reducible first | exact HB.out | apply bA | apply bN | apply bD) | exact HB.out)) hb); clear HB; have HO338 := n0_; have HB := n1_; clear n0_ n1_; (try clear hb); (try clear hb2); (try clear hk); (try clear hi); (try clear ho0)) | ((with_reducible refine gate_callee (f := 22) rfl ?_); refine goesL_ (some 8) rfl rfl Tryd.func22 (by kernel_rfl) rfl #[.slice A0 l0.length c0, .int .u64 (IntKind.u64.wrap ((l0.length : Int)))] rfl (by (try simp only [mT, mC, mN]); first | done | rfl | (simp only [List.length_drop, List.length_take]; rfl)) ?_; (with_reducible refine (wristbandref02_Fill.calls k _ _ l0 (IntKind.u64.wrap ((l0.length : Int))) t339 _ ?side1 ?side2 A3.out).mono ?_); (case side1 => repeat (first | exact (Kd.C_below HR0.out HB.out) | (with_reducible refine Kd.C_alloc ?_ _) | (with_reducible refine Kd.C_drewN ?_ _) | (with_reducible refine Kd.C_drew ?_))); (case side2 => exact HC0.out); rintro e w7 ⟨v340, rfl, ho0, hb⟩; refine ⟨_, rfl, ?_⟩; have n0_ := Aside0.mk (Kd.R_below (by (with_reducible repeat (first | apply rL | apply rN | apply rW)); exact HO338.out) hb); have n1_ := Aside0.mk (Kd.R_lower ho0 (below_size (by repeat (first | (with_reducible first | exact HB.out | apply bA | apply bN | apply bD) | exact HB.out)))); have n2_ := Aside0.mk (below_step (by repeat (first | (with_reducible first | exact HB.out | apply bA | apply bN | apply bD) | exact HB.out)) hb); clear HO338; clear HB; have HO338 := n0_; have HO341 := n1_; have HB := n2_; clear n0_ n1_ n2_; (try clear hb); (try clear hb2); (try clear hk); (try clear hi); (try clear ho0); obtain ⟨Ao8, co8, eo8⟩ := Kd.R_slice HO338.out; subst eo8; obtain ⟨Ao9, co9, eo9⟩ := Kd.R_slice HO341.out; subst eo9) | ((with_reducible refine gate_callee (f := 23) rfl ?_); refine goesL_ (some 9) rfl rfl Tryd.func23 (by kernel_rfl) rfl #[.slice Ao8 t336.length co8, .slice Ao9 t339.length co9] rfl (by (try simp only [mT, mC, mN]); first | done | rfl | (simp only [List.length_drop, List.length_take]; rfl)) ?_; (with_reducible refine (wristbandref02_From.calls k (fun k_ => some k_ = (.slice Ao8 t336.length co8 : Value).ownBlock) _ _ t336 _ _ t339 t342 _ ?side1 ?side2 ?side3 A4.out).mono ?_); (case side1 => exact Kd.R_V (Kd.R_tight rfl (Kd.R_apart' (HO338.out) (Kd.R_typed HO341.out) (by decide)))); (case side2 => repeat (first | exact (Kd.R_reads' HO341.out).2.2 | (with_reducible refine Kd.C_alloc ?_ _) | (with_reducible refine Kd.C_drewN ?_ _) | (with_reducible refine Kd.C_drew ?_))); (case side3 => exact (Kd.R_reads' HO341.out).2.1); rintro e w10 ⟨v343, rfl, ho0, hb⟩; refine ⟨_, rfl, ?_⟩; have n0_ := Aside0.mk (Kd.R_below (by (with_reducible repeat (first | apply rL | apply rN | apply rW)); exact HO338.out) hb); have n1_ := Aside0.mk (Kd.R_below (by (with_reducible repeat (first | apply rL | apply rN | apply rW)); exact HO341.out) hb); have n2_ := Aside0.mk (Kd.V_lower (Kd.V_mono (ok' := fun k_ => some k_ ≠ (.slice Ao9 t339.length co9 : Value).ownBlock) ho0 (fun k_ hk_ => Or.elim hk_ (fun hs_ => ((Kd.R_apart' (HO338.out) (Kd.R_typed HO341.out) (by decide)).1 k_ hs_.symm).2) (fun hn_ => (Kd.fresh' (Kd.R_lt (by (with_reducible repeat (first | apply rL | apply rN | apply rW)); exact HO341.out)) k_ hn_)))) (below_size (by repeat (first | (with_reducible first | exact HB.out | apply bA | apply bN | apply bD) | exact HB.out)))); have n3_ := Aside0.mk (below_step (by repeat (first | (with_reducible first | exact HB.out | apply bA | apply bN | apply bD) | exact HB.out)) hb); clear HO338; clear HO341; clear HB; have HO338 := n0_; have HO341 := n1_; have HO344 := n2_; have HB := n3_; clear n0_ n1_ n2_ n3_; (try clear hb); (try clear hb2); (try clear hk); (try clear hi); (try clear ho0); obtain ⟨Ao11, co11, eo11⟩ := Kd.V_slice HO344.out; subst eo11) | ((with_reducible refine gate_callee (f := 44) rfl ?_); refine goesL_ (some 10) rfl rfl Tryd.func44 (by kernel_rfl) rfl #[.slice Ao11 t342.length co11] rfl (by (try simp only [mT, mC, mN]); first | done | rfl | (simp only [List.length_drop, List.length_take]; rfl)) ?_; (with_reducible refine (wristbandref01_Bytes.calls k _ _ t342 t345 _ ?side1 ?side2 A5.out).mono ?_); (case side1 => repeat (first | exact (Kd.V_reads' HO344.out).2.2 | (with_reducible refine Kd.C_alloc ?_ _) | (with_reducible refine Kd.C_drewN ?_ _) | (with_reducible refine Kd.C_drew ?_))); (case side2 => exact (Kd.V_reads' HO344.out).2.1); rintro e w12 ⟨v346, rfl, ho0, hb⟩; refine ⟨_, rfl, ?_⟩; have n0_ := Aside0.mk (Kd.R_below (by (with_reducible repeat (first | apply rL | apply rN | apply rW)); exact HO338.out) hb); have n1_ := Aside0.mk (Kd.R_elder' (by (with_reducible repeat (first | apply rL | apply rN | apply rW)); exact HO341.out) (Kd.R_base ho0) hb); have n2_ := Aside0.mk (Kd.V_elder' (by (with_reducible repeat (first | apply Kd.V_alloc | apply Kd.V_drewN | apply Kd.V_drew)); exact HO344.out) (Kd.R_base ho0) hb); have n3_ := Aside0.mk (Kd.R_lower (Kd.R_new' ho0 (Kd.R_lt (by (with_reducible repeat (first | apply rL | apply rN | apply rW)); exact HO341.out))) (below_size (by repeat (first | (with_reducible first | exact HB.out | apply bA | apply bN | apply bD) | exact HB.out)))); have n4_ := Aside0.mk (below_step (by repeat (first | (with_reducible first | exact HB.out | apply bA | apply bN | apply bD) | exact HB.out)) hb); clear HO338; clear HO341; clear HO344; clear HB; have HO338 := n0_; have HO341 := n1_; have HO344 := n2_; have HO347 := n3_; have HB := n4_; clear n0_ n1_ n2_ n3_ n4_; (try clear hb); (try clear hb2); (try clear hk); (try clear hi); (try clear ho0)))
  go_ret
  exact ⟨_, by first | rfl | (simp [errW_none, errW_some] <;> rfl) | (simp [*, errW_none, errW_some] <;> rfl), by (with_reducible repeat (first | apply rL | apply rN | apply rW)); exact Kd.R_mono HO347.out (fun _ hk => trivial), by repeat (first | (with_reducible first | exact HB.out | apply bA | apply bN | apply bD) | exact HB.out)⟩

/-! ### wristbandref18_Put: function 36 -/
def wristbandref18_Put.f (k : Nat) (l0 : List Int) : Option (List Int) := (some (([(wrap64 ((l0.length : Int) / 256)) % 256, (l0.length : Int) % 256] : List Int) : List Int)).bind fun y348 => (if y348.length + l0.length < 140737488355328 then ((some (y348 ++ l0 : List Int)).bind fun y351 => ((wristbandref02_Sum.f k y351).bind fun t354 => (if 4 ≤ (t354.length : Int) then ((some (t354.take 4 : List Int)).bind fun y357 => (if y351.length + y357.length < 140737488355328 then (some (y351 ++ y357)) else (none))) else (none)))) else (none))
theorem wristbandref18_Put.mono : ∀ a0 k, LeO (wristbandref18_Put.f k a0) (wristbandref18_Put.f (k + 1) a0) := by
  intro a0 k; unfold wristbandref18_Put.f
  repeat' first
    | (with_reducible exact wristbandref02_Sum.mono _ _)
    | (with_reducible exact LeO.refl _)
    | (with_reducible exact LeO.none _)
    | (with_reducible refine LeO.ite ?_ ?_)
    | (with_reducible refine LeO.bind ?_ (fun _ => ?_))
    | exact wristbandref02_Sum.mono _ _
    | exact LeO.none _
    | refine LeO.ite ?_ ?_
    | refine LeO.bind ?_ (fun _ => ?_)
set_option maxHeartbeats 8000000 in
set_option maxRecDepth 100000 in
theorem wristbandref18_Put.calls (k : Nat) (A0 : Option Addr) (c0 : Nat) (l0 : List Int) (r : List Int) (w : World) (hr0 : Kd.C (Kd.int .u8) w A0 l0.length l0) (hc0 : l0.length ≤ c0) (h : wristbandref18_Put.f k l0 = some r) :
   Calls Tryd.prog 36 #[.slice A0 l0.length c0] w fun e w' => ∃ v0_ : Value, e = .returned (v0_) ∧ Kd.R (Kd.int .u8) 5 w' w.heap.size (fun _ => True) v0_ r ∧ Below w.heap.size w w' := by
  have HR0 := Aside0.mk hr0; have HC0 := Aside0.mk hc0; clear hr0 hc0; have HB := Aside0.mk (Below.refl w.heap.size w); have H : ((some (([(wrap64 ((l0.length : Int) / 256)) % 256, (l0.length : Int) % 256] : List Int) : List Int)).bind fun y348 => (if y348.length + l0.length < 140737488355328 then ((some (y348 ++ l0 : List Int)).bind fun y351 => ((wristbandref02_Sum.f k y351).bind fun t354 => (if 4 ≤ (t354.length : Int) then ((some (t354.take 4 : List Int)).bind fun y357 => (if y351.length + y357.length < 140737488355328 then (some (y351 ++ y357)) else (none))) else (none)))) else (none))) = some r := h
  clear h; obtain ⟨y348, hy348⟩ : ∃ y_ : List Int, y_ = (([(wrap64 ((l0.length : Int) / 256)) % 256, (l0.length : Int) % 256] : List Int)) := ⟨_, rfl⟩
  replace H : (if y348.length + l0.length < 140737488355328 then ((some (y348 ++ l0 : List Int)).bind fun y351 => ((wristbandref02_Sum.f k y351).bind fun t354 => (if 4 ≤ (t354.length : Int) then ((some (t354.take 4 : List Int)).bind fun y357 => (if y351.length + y357.length < 140737488355328 then (some (y351 ++ y357)) else (none))) else (none)))) else (none)) = some r := by first | (rw [hy348]; with_reducible exact H) | (have H2_ := (Option.bind_some _ _).symm.trans H; rw [hy348]; with_reducible exact H2_) | (have H2_ := (Option.bind_some _ _).symm.trans H; with_reducible exact H2_) | with_reducible exact H | (rw [hy348]; exact H) | exact H
  have Ny348 := Aside0.mk hy348; clear hy348; by_cases c2 : y348.length + l0.length < 140737488355328
  ·rw [if_pos c2] at H
   have LMc2 := Aside0.mk c2; clear c2; obtain ⟨y351, hy351⟩ : ∃ y_ : List Int, y_ = (y348 ++ l0) := ⟨_, rfl⟩
   replace H : ((wristbandref02_Sum.f k y351).bind fun t354 => (if 4 ≤ (t354.length : Int) then ((some (t354.take 4 : List Int)).bind fun y357 => (if y351.length + y357.length < 140737488355328 then (some (y351 ++ y357)) else (none))) else (none))) = some r := by first | (rw [hy351]; with_reducible exact H) | (have H2_ := (Option.bind_some _ _).symm.trans H; rw [hy351]; with_reducible exact H2_) | (have H2_ := (Option.bind_some _ _).symm.trans H; with_reducible exact H2_) | with_reducible exact H | (rw [hy351]; exact H) | exact H
   have Ny351 := Aside0.mk hy351; clear hy351; replace H := Option.bind_eq_some_iff.mp H
   obtain ⟨t354, A30, H⟩ := H
   replace H : (if 4 ≤ (t354.length : Int) then ((some (t354.take 4 : List Int)).bind fun y357 => (if y351.length + y357.length < 140737488355328 then (some (y351 ++ y357)) else (none))) else (none)) = some r := H
   have A3 := Aside0.mk A30; clear A30; by_cases c4 : 4 ≤ (t354.length : Int)
   ·rw [if_pos c4] at H
    have c4b0 := eq_true c4
    have c4b1 : decide (4 ≤ (t354.length : Int)) = true := decide_eq_true c4
    clear c4; obtain ⟨y357, hy357⟩ : ∃ y_ : List Int, y_ = (t354.take 4) := ⟨_, rfl⟩
    replace H : (if y351.length + y357.length < 140737488355328 then (some (y351 ++ y357)) else (none)) = some r := by first | (rw [hy357]; with_reducible exact H) | (have H2_ := (Option.bind_some _ _).symm.trans H; rw [hy357]; with_reducible exact H2_) | (have H2_ := (Option.bind_some _ _).symm.trans H; with_reducible exact H2_) | with_reducible exact H | (rw [hy357]; exact H) | exact H
    have Ny357 := Aside0.mk hy357; clear hy357; by_cases c5 : y351.length + y357.length < 140737488355328
    ·rw [if_pos c5] at H
     have LMc5 := Aside0.mk c5; clear c5; obtain ⟨y361, hy361⟩ : ∃ y_ : List Int, y_ = (y351 ++ y357) := ⟨_, rfl⟩
     replace H : (some y361) = some r := by first | (rw [hy361]; with_reducible exact H) | (have H2_ := (Option.bind_some _ _).symm.trans H; rw [hy361]; with_reducible exact H2_) | (have H2_ := (Option.bind_some _ _).symm.trans H; with_reducible exact H2_) | with_reducible exact H | (rw [hy361]; exact H) | exact H
     have Ny361 := Aside0.mk hy361; clear hy361; obtain rfl := Option.some.inj H
     go_enter Tryd.func36, Tryd.ntmps36
     go_wp2_with (first | ((with_reducible refine gate_dst (N := 12) rfl ?_); refine Kd.R_lit (Kd.int .u8) _ 5 ?hg (N := 12) ?hd (xs := ([(wrap64 ((l0.length : Int) / 256)) % 256, (l0.length : Int) % 256] : List Int)) (inner := [.int .u8 ((wrap64 ((l0.length : Int) / 256)) % 256), .int .u8 ((l0.length : Int) % 256)]) (ok := fun _ => True) (okp := fun _ => True) ?hr ?hp (fun _ hk => hk) trivial (Below.refl _ _) (Nat.le_refl _) (by simp) ?_; (case hd => rfl); (case hg => rfl); (case hr => first | (go_simp; done) | (go_simp; rfl)); (case hp => exact (Reps.one (show Kd.M (Kd.int .u8) _ _ _ ((wrap64 ((l0.length : Int) / 256)) % 256) [.int .u8 ((wrap64 ((l0.length : Int) / 256)) % 256)] from rfl) (Reps.one (show Kd.M (Kd.int .u8) _ _ _ ((l0.length : Int) % 256) [.int .u8 ((l0.length : Int) % 256)] from rfl) (Reps.none _ _)))); intro v349 w6 ho7 hb hg_ hnew_; clear hg_ hnew_; (first | rw [← Ny348.out] at ho7 | (simp only [Int.reduceToNat] at ho7; rw [← Ny348.out] at ho7)); have n0_ := Aside0.mk (Kd.R_lower ho7 (below_size (by repeat (first | (with_reducible first | exact HB.out | apply bA | apply bN | apply bD) | exact HB.out)))); have n1_ := Aside0.mk (below_step (by repeat (first | (with_reducible first | exact HB.out | apply bA | apply bN | apply bD) | exact HB.out)) hb); clear HB; have HO350 := n0_; have HB := n1_; clear n0_ n1_; clear hb ho7) | ((with_reducible refine gate_builtin (b := .append) (xs := #[.tmp 12, .tmp 13]) rfl ?_); at_builtin; refine Kd.R_append_rows (Kd.int .u8) (w0 := w) w.heap.size rfl (.tmp 12) (.tmp 13) 24 5 (.int .u8 0) 1 rfl Tryd.underlying24 info5 rfl (by decide) (by omega) v349 y348 l0 _ _ _ (fun _ => True) (fun _ => False) rfl rfl ?aO ?aR (fun _ _ h => h) (fun _ h => h.elim) ?aF ?aB ?aS ?aL ?_; (case aR => repeat (first | exact (Kd.C_below HR0.out HB.out) | (with_reducible refine Kd.C_alloc ?_ _) | (with_reducible refine Kd.C_drewN ?_ _) | (with_reducible refine Kd.C_drew ?_))); (case aB => exact (by repeat (first | (with_reducible first | exact HB.out | apply bA | apply bN | apply bD) | exact HB.out))); (case aF => exact (fun _ _ => trivial)); (case aO => exact (by (with_reducible repeat (first | apply rL | apply rN | apply rW)); exact HO350.out)); (case aS => exact (below_size (by repeat (first | (with_reducible first | exact HB.out | apply bA | apply bN | apply bD) | exact HB.out)))); (case aL => have := LMc2.out; omega); intro v352 w8 ho hb hg hat; rw [← Ny351.out] at ho; have n0_ := Aside0.mk (hb); have n1_ := Aside0.mk (ho); clear HB; clear HO350; have HB := n0_; have HO353 := n1_; clear n0_ n1_; clear ho hb hg hat; obtain ⟨Ao9, co9, eo9⟩ := Kd.R_slice HO353.out; subst eo9) | ((with_reducible refine gate_callee (f := 15) rfl ?_); refine goesL_ (some 17) rfl rfl Tryd.func15 (by kernel_rfl) rfl #[.slice Ao9 y351.length co9] rfl (by (try simp only [mT, mC, mN]); first | done | rfl | (simp only [List.length_drop, List.length_take]; rfl)) ?_; (with_reducible refine (wristbandref02_Sum.calls k _ _ y351 t354 _ ?side1 ?side2 A3.out).mono ?_); (case side1 => repeat (first | exact (Kd.R_reads' HO353.out).2.2 | (with_reducible refine Kd.C_alloc ?_ _) | (with_reducible refine Kd.C_drewN ?_ _) | (with_reducible refine Kd.C_drew ?_))); (case side2 => exact (Kd.R_reads' HO353.out).2.1); rintro e w10 ⟨v355, rfl, ho0, hb⟩; refine ⟨_, rfl, ?_⟩; have n0_ := Aside0.mk (Kd.R_elder' (by (with_reducible repeat (first | apply rL | apply rN | apply rW)); exact HO353.out) (Kd.R_base ho0) hb); have n1_ := Aside0.mk (Kd.R_lower (Kd.R_new' ho0 (Kd.R_lt (by (with_reducible repeat (first | apply rL | apply rN | apply rW)); exact HO353.out))) (below_size (by repeat (first | (with_reducible first | exact HB.out | apply bA | apply bN | apply bD) | exact HB.out)))); have n2_ := Aside0.mk (below_step (by repeat (first | (with_reducible first | exact HB.out | apply bA | apply bN | apply bD) | exact HB.out)) hb); clear HO353; clear HB; have HO353 := n0_; have HO356 := n1_; have HB := n2_; clear n0_ n1_ n2_; (try clear hb); (try clear hb2); (try clear hk); (try clear hi); (try clear ho0); obtain ⟨Ao12, co12, eo12⟩ := Kd.R_slice HO356.out; subst eo12; have q11 : (4 : Int) ≤ ((t354.length : Int) : Int) := of_decide_eq_true (by first | (with_reducible assumption) | assumption); obtain ⟨i011, hi011, _, hsz11, _⟩ := info_parts info5; have hroom11 : t354.length ≤ co12 := (Kd.R_reads' HO356.out).2.1; have hC11 : Kd.C (Kd.int .u8) _ Ao12 t354.length t354 := (Kd.R_reads' HO356.out).2.2; have hcut11 := cut_to (P := Tryd.prog) 24 5 .i64 Tryd.underlying24 hi011 Ao12 t354.length co12 4 (by omega) q11 hroom11; have hr11 := Kd.C_take (m := 4) hC11 (by omega); have hy11 : y357.length = (4 : Int).toNat := (by rw [Ny357.out, List.length_take]; omega); rw [← Ny357.out] at hr11; rw [← hy11] at hcut11; have HR360 := Aside0.mk hr11; have HC360 := Aside0.mk (show y357.length ≤ co12 from by omega); clear hr11 hC11 hroom11 hi011 hsz11; have KY11 := Aside0.mk hy11; clear hy11; have KL11 := Aside0.mk (show 4 ≤ t354.length from by omega); replace q11 := eq_true q11) | ((with_reducible refine gate_builtin (b := .append) (xs := #[.tmp 15, .tmp 18]) rfl ?_); at_builtin; refine Kd.R_append_rows (Kd.int .u8) (w0 := w) w.heap.size rfl (.tmp 15) (.tmp 18) 24 5 (.int .u8 0) 1 rfl Tryd.underlying24 info5 rfl (by decide) (by omega) (.slice Ao9 y351.length co9) y351 y357 _ _ _ (fun k_ => some k_ ≠ (.slice Ao12 t354.length co12 : Value).ownBlock) (fun _ => False) rfl rfl ?aO ?aR (fun _ _ h => h) (fun _ h => h.elim) ?aF ?aB ?aS ?aL ?_; (case aR => repeat (first | exact (by repeat (first | (with_reducible exact HR360.out) | (with_reducible refine Kd.C_alloc ?_ _) | (with_reducible refine Kd.C_drewN ?_ _) | (with_reducible refine Kd.C_drew ?_) | exact HR360.out)) | (with_reducible refine Kd.C_alloc ?_ _) | (with_reducible refine Kd.C_drewN ?_ _) | (with_reducible refine Kd.C_drew ?_))); (case aB => exact (by repeat (first | (with_reducible first | exact HB.out | apply bA | apply bN | apply bD) | exact HB.out))); (case aF => exact (fun k_ hk => Kd.fresh' (Kd.R_lt (by (with_reducible repeat (first | apply rL | apply rN | apply rW)); exact HO356.out)) k_ hk)); (case aO => exact (by (with_reducible repeat (first | apply rL | apply rN | apply rW)); exact Kd.R_mono HO353.out (fun _ hk => hk.2))); (case aS => exact (below_size (by repeat (first | (with_reducible first | exact HB.out | apply bA | apply bN | apply bD) | exact HB.out)))); (case aL => have := LMc5.out; omega); intro v362 w13 ho hb hg hat; rw [← Ny361.out] at ho; have n0_ := Aside0.mk (Kd.R_after (ok := (fun _ => True)) (by (with_reducible repeat (first | apply rL | apply rN | apply rW)); exact HO356.out) hg hat); have n1_ := Aside0.mk (hb); have n2_ := Aside0.mk ((show Kd.C (Kd.int .u8) w13 Ao12 y357.length y357 from by rw [Ny357.out]; exact Kd.C_take (m := 4) ((Kd.R_reads' (Kd.R_after (ok := (fun _ => True)) (by (with_reducible repeat (first | apply rL | apply rN | apply rW)); exact HO356.out) hg hat)).2.2) KL11.out)); have n3_ := Aside0.mk (ho); clear HO356; clear HB; clear HR360; clear HO353; have HO356 := n0_; have HB := n1_; have HR360 := n2_; have HO363 := n3_; clear n0_ n1_ n2_ n3_; clear ho hb hg hat))
     go_ret
     exact ⟨_, by first | rfl | (simp [errW_none, errW_some] <;> rfl) | (simp [*, errW_none, errW_some] <;> rfl), by (with_reducible repeat (first | apply rL | apply rN | apply rW)); exact Kd.R_mono HO363.out (fun _ hk => trivial), by repeat (first | (with_reducible first | exact HB.out | apply bA | apply bN | apply bD) | exact HB.out)⟩
    ·rw [if_neg c5] at H
     exact absurd H (by simp)
   ·rw [if_neg c4] at H
    exact absurd H (by simp)
  ·rw [if_neg c2] at H
   exact absurd H (by simp)

/-! ### wristbandref18_Row: function 35 -/
mutual
def wristbandref18_Row.l0 : Nat → List Int → List (List Int) → Int → Option ((List (List Int)) × Int)
  | 0, _, _, _ => none
  | k + 1, x0, x4, x5 => if (wrap64 ((x0.length : Int) - x5)) ≥ 6 then (if 0 ≤ x5 then (if x5 < (x0.length : Int) then (if 0 ≤ (wrap64 (x5 + 1)) then (if (wrap64 (x5 + 1)) < (x0.length : Int) then (if (wrap64 ((wrap64 (256 * (wrap64 (rd x0 x5)))) + (wrap64 (rd x0 (wrap64 (x5 + 1)))))) > 60000 then (wristbandref18_Row.j1 k x0 x4 x5 (wrap64 ((wrap64 (256 * (wrap64 (rd x0 x5)))) + (wrap64 (rd x0 (wrap64 (x5 + 1)))))) true) else (wristbandref18_Row.j1 k x0 x4 x5 (wrap64 ((wrap64 (256 * (wrap64 (rd x0 x5)))) + (wrap64 (rd x0 (wrap64 (x5 + 1)))))) (decide ((wrap64 ((wrap64 ((x0.length : Int) - x5)) - 6)) < (wrap64 ((wrap64 (256 * (wrap64 (rd x0 x5)))) + (wrap64 (rd x0 (wrap64 (x5 + 1)))))))))) else (none)) else (none)) else (none)) else (none)) else (some (x4, x5))
def wristbandref18_Row.j1 : Nat → List Int → List (List Int) → Int → Int → Bool → Option ((List (List Int)) × Int)
  | 0, _, _, _, _, _ => none
  | k + 1, x0, x4, x5, x6, x36 => if x36 = true then (some (x4, x5)) else (if 0 ≤ (wrap64 (x5 + 2)) then (if (wrap64 (x5 + 2)) ≤ (wrap64 ((wrap64 (x5 + 2)) + x6)) then (if (wrap64 ((wrap64 (x5 + 2)) + x6)) ≤ (x0.length : Int) then ((wristbandref18_Put.f k ((x0.take ((wrap64 ((wrap64 (x5 + 2)) + x6)) : Int).toNat).drop ((wrap64 (x5 + 2)) : Int).toNat)).bind fun t367 => (if 0 ≤ x5 then (if x5 ≤ (wrap64 ((wrap64 (x5 + 6)) + x6)) then (if (wrap64 ((wrap64 (x5 + 6)) + x6)) ≤ (x0.length : Int) then (if (strOfNums t367).toList = (strOfNums ((x0.take ((wrap64 ((wrap64 (x5 + 6)) + x6)) : Int).toNat).drop (x5 : Int).toNat)).toList then ((some (([] : List Int) : List Int)).bind fun y371 => (if y371.length + ((x0.take ((wrap64 ((wrap64 (x5 + 2)) + x6)) : Int).toNat).drop ((wrap64 (x5 + 2)) : Int).toNat).length < 140737488355328 then (if x4.length < 5864062014805 then (wristbandref18_Row.l0 k x0 (x4 ++ [(y371 ++ ((x0.take ((wrap64 ((wrap64 (x5 + 2)) + x6)) : Int).toNat).drop ((wrap64 (x5 + 2)) : Int).toNat))]) (wrap64 ((wrap64 (x5 + 6)) + x6))) else (none)) else (none))) else (some (x4, x5))) else (none)) else (none)) else (none))) else (none)) else (none)) else (none))
end
def wristbandref18_Row.f (k : Nat) (l0 : List Int) : Option ((List (List Int)) × Int) := wristbandref18_Row.l0 k l0 ([] : List (List Int)) 0
theorem wristbandref18_Row.mono_l : ∀ k, (∀ y0 y1 y2, LeO (wristbandref18_Row.l0 k y0 y1 y2) (wristbandref18_Row.l0 (k + 1) y0 y1 y2)) ∧ (∀ y0 y1 y2 y3 y4, LeO (wristbandref18_Row.j1 k y0 y1 y2 y3 y4) (wristbandref18_Row.j1 (k + 1) y0 y1 y2 y3 y4))
  | 0 => ⟨fun _ _ _ r h => by simp [wristbandref18_Row.l0] at h, fun _ _ _ _ _ r h => by simp [wristbandref18_Row.j1] at h⟩
  | k + 1 => by
   obtain ⟨ih0, ih1⟩ := wristbandref18_Row.mono_l k
   refine ⟨?_, ?_⟩
   ·intro y0 y1 y2
    unfold wristbandref18_Row.l0
    repeat' first
    | (with_reducible exact ih0 _ _ _)
    | (with_reducible exact ih1 _ _ _ _ _)
    | (with_reducible exact wristbandref18_Put.mono _ _)
    | (with_reducible exact LeO.refl _)
    | (with_reducible exact LeO.none _)
    | (with_reducible refine LeO.ite ?_ ?_)
    | (with_reducible refine LeO.bind ?_ (fun _ => ?_))
    | exact ih0 _ _ _
    | exact ih1 _ _ _ _ _
    | exact wristbandref18_Put.mono _ _
    | exact LeO.none _
    | refine LeO.ite ?_ ?_
    | refine LeO.bind ?_ (fun _ => ?_)
   ·intro y0 y1 y2 y3 y4
    unfold wristbandref18_Row.j1
    repeat' first
    | (with_reducible exact ih0 _ _ _)
    | (with_reducible exact ih1 _ _ _ _ _)
    | (with_reducible exact wristbandref18_Put.mono _ _)
    | (with_reducible exact LeO.refl _)
    | (with_reducible exact LeO.none _)
    | (with_reducible refine LeO.ite ?_ ?_)
    | (with_reducible refine LeO.bind ?_ (fun _ => ?_))
    | exact ih0 _ _ _
    | exact ih1 _ _ _ _ _
    | exact wristbandref18_Put.mono _ _
    | exact LeO.none _
    | refine LeO.ite ?_ ?_
    | refine LeO.bind ?_ (fun _ => ?_)
theorem wristbandref18_Row.mono : ∀ a0 k, LeO (wristbandref18_Row.f k a0) (wristbandref18_Row.f (k + 1) a0) := by
  intro a0 k; obtain ⟨ih0, ih1⟩ := wristbandref18_Row.mono_l k
  unfold wristbandref18_Row.f
  repeat' first
    | (with_reducible exact ih0 _ _ _)
    | (with_reducible exact ih1 _ _ _ _ _)
    | (with_reducible exact wristbandref18_Put.mono _ _)
    | (with_reducible exact LeO.refl _)
    | (with_reducible exact LeO.none _)
    | (with_reducible refine LeO.ite ?_ ?_)
    | (with_reducible refine LeO.bind ?_ (fun _ => ?_))
    | exact ih0 _ _ _
    | exact ih1 _ _ _ _ _
    | exact wristbandref18_Put.mono _ _
    | exact LeO.none _
    | refine LeO.ite ?_ ?_
    | refine LeO.bind ?_ (fun _ => ?_)
def wristbandref18_Row.T4 : Bool × List (List Nat × List Nat) := (true, [([], []), ([], []), ([0, 1], [0, 1]), ([2], [2]), ([3], [3]), ([4], [4]), ([], []), ([], []), ([7], [7]), ([6, 8], [6, 8]), ([9], [9]), ([10], [10]), ([5, 11], [5, 11]), ([12, 0, 1, 2, 3, 4, 5, 6, 7, 8, 9, 10, 11, 12], [12])])
def wristbandref18_Row.B4 : List Nat := [0, 0, 3, 7, 15, 31, 0, 0, 128, 448, 960, 1984, 4095, 8191]
theorem wristbandref18_Row.tab4 : rtab .any (opsOf Tryd.f35 4) = wristbandref18_Row.T4 := by kernel_rfl
theorem wristbandref18_Row.bits4 : waitsOk wristbandref18_Row.T4.2 wristbandref18_Row.B4 = true := by kernel_rfl
def wristbandref18_Row.T7 : Bool × List (List Nat × List Nat) := (true, [([], []), ([0], [0]), ([1], [1]), ([], []), ([], []), ([], []), ([5], [5]), ([], []), ([6, 7], [6, 7]), ([3, 4, 8], [3, 4, 8]), ([9], [9]), ([2, 10], [2, 10])])
def wristbandref18_Row.B7 : List Nat := [0, 1, 3, 0, 0, 0, 32, 0, 224, 504, 1016, 2047]
theorem wristbandref18_Row.tab7 : rtab .any (opsOf Tryd.f35 7) = wristbandref18_Row.T7 := by kernel_rfl
theorem wristbandref18_Row.bits7 : waitsOk wristbandref18_Row.T7.2 wristbandref18_Row.B7 = true := by kernel_rfl
set_option maxHeartbeats 8000000 in
set_option maxRecDepth 100000 in
theorem wristbandref18_Row.calls (k : Nat) (A0 : Option Addr) (c0 : Nat) (l0 : List Int) (r1 : List (List Int)) (r2 : Int) (w : World) (hr0 : Kd.C (Kd.int .u8) w A0 l0.length l0) (hc0 : l0.length ≤ c0) (h : wristbandref18_Row.f k l0 = some (r1, r2)) :
   Calls Tryd.prog 35 #[.slice A0 l0.length c0] w fun e w' => ∃ v0_ : Value, e = .returned (.tuple #[v0_, .int .i64 r2]) ∧ Kd.S (Kd.slice 5 (Kd.int .u8)) 24 w' w.heap.size (fun _ => True) v0_ r1 ∧ Below w.heap.size w w' := by
  have HR0 := Aside0.mk hr0; have HC0 := Aside0.mk hc0; clear hr0 hc0; have HB := Aside0.mk (Below.refl w.heap.size w); have H : (wristbandref18_Row.l0 k l0 ([] : List (List Int)) 0) = some (r1, r2) := h
  clear h; have H' := Aside0.mk H; clear H; go_enter Tryd.func35, Tryd.ntmps35
  go_wp2
  go_loopg [4, 5] k (fun kq v4 v5 w' => ∃ (x4_1 : List (List Int)) (x5_1 : Int), v5 = .int .i64 x5_1 ∧ Aside0 (wristbandref18_Row.l0 kq l0 x4_1 x5_1 = some (r1, r2)) ∧ Aside0 (kq ≤ k) ∧ Aside0 (Kd.S (Kd.slice 5 (Kd.int .u8)) 24 w' w.heap.size (fun _ => True) v4 x4_1) ∧ Aside0 (Below w.heap.size w w'))
  case atStart => exact ⟨(([] : List (List Int))), (0), (by first | rfl | (simp; done) | (simp [*]; done)), H', ⟨Nat.le_refl _⟩, ⟨by first | exact Kd.S_nil _ _ _ _ _ | exact Kd.N_nil _ _ _ _ _ | exact Kd.V_nil _ _ _ _ _ | exact Kd.Q_nil _ _ _ _ _ | exact Kd.R_nil _ _ _ _ _⟩, ⟨by repeat (first | (with_reducible first | exact HB.out | apply bA | apply bN | apply bD) | exact HB.out)⟩⟩
  case round =>
   clear H'; obtain ⟨x4_1, x5_1, rfl, HA, HK1, HO_4, HB⟩ := hrel
   cases gk with
   | zero => exact absurd HA.out (by simp [wristbandref18_Row.l0])
   | succ k1 =>
    have H := HA.out
    clear HA; simp only [wristbandref18_Row.l0] at H
    by_cases c2 : (wrap64 ((l0.length : Int) - x5_1)) ≥ 6
    ·rw [if_pos c2] at H
     have c2b0 : decide (6 ≤ (wrap64 ((l0.length : Int) - x5_1))) = true := decide_eq_true c2
     clear c2; by_cases c3 : 0 ≤ x5_1
     ·rw [if_pos c3] at H
      have c3b0 : decide (0 ≤ x5_1) = true := decide_eq_true c3
      clear c3; by_cases c4 : x5_1 < (l0.length : Int)
      ·rw [if_pos c4] at H
       have c4b0 : decide (x5_1 < (l0.length : Int)) = true := decide_eq_true c4
       clear c4; obtain ⟨ji5, hji5⟩ : ∃ j_ : Int, (wrap64 (x5_1 + 1)) = j_ := ⟨_, rfl⟩
       replace H : (if 0 ≤ (ji5) then (if (ji5) < (l0.length : Int) then (if (wrap64 ((wrap64 (256 * (wrap64 (rd l0 x5_1)))) + (wrap64 (rd l0 (ji5))))) > 60000 then (wristbandref18_Row.j1 k1 l0 x4_1 x5_1 (wrap64 ((wrap64 (256 * (wrap64 (rd l0 x5_1)))) + (wrap64 (rd l0 (ji5))))) true) else (wristbandref18_Row.j1 k1 l0 x4_1 x5_1 (wrap64 ((wrap64 (256 * (wrap64 (rd l0 x5_1)))) + (wrap64 (rd l0 (ji5))))) (decide ((wrap64 ((wrap64 ((l0.length : Int) - x5_1)) - 6)) < (wrap64 ((wrap64 (256 * (wrap64 (rd l0 x5_1)))) + (wrap64 (rd l0 (ji5))))))))) else (none)) else (none)) = some (r1, r2) := by first | (rw [hji5] at H; exact H) | (simp only [hji5] at H ⊢; exact H)
       have hji5w : (IntKind.i64.wrap (x5_1 + 1)) = ji5 := (i64_w _).trans hji5
       by_cases c6 : 0 ≤ (ji5)
       ·rw [if_pos c6] at H
        have c6b0 : decide (0 ≤ (ji5)) = true := decide_eq_true c6
        clear c6; by_cases c7 : (ji5) < (l0.length : Int)
        ·rw [if_pos c7] at H
         have c7b0 : decide ((ji5) < (l0.length : Int)) = true := decide_eq_true c7
         clear c7; have HC8 := Aside0.mk H; clear H; try go_wp2
         have n0_ := Aside0.mk (Kd.S_drew HO_4.out); have n1_ := Aside0.mk (below_drew1 HB.out); clear HO_4; clear HB; have HO_4 := n0_; have HB := n1_; clear n0_ n1_; have p364 : 0 ≤ (x5_1 : Int) := of_decide_eq_true (by first | (with_reducible assumption) | assumption)
         have q364 : x5_1 < (l0.length : Int) := of_decide_eq_true (by first | (with_reducible assumption) | assumption)
         obtain ⟨ad364, e364, hx364_0⟩ := Kd.at_int HR0.out x5_1 p364 q364
         have hw364_0 := hx364_0
         cases e364
         replace hx364_0 := (HB.out.cell (World.block_lt_of_cell? w _ hx364_0)).trans hx364_0
         replace p364 := eq_true p364
         replace q364 := eq_true q364
         have p365 : 0 ≤ ((ji5) : Int) := of_decide_eq_true (by first | (with_reducible assumption) | assumption)
         have q365 : (ji5) < (l0.length : Int) := of_decide_eq_true (by first | (with_reducible assumption) | assumption)
         obtain ⟨ad365, e365, hx365_0⟩ := Kd.at_int HR0.out (ji5) p365 q365
         have hw365_0 := hx365_0
         obtain rfl : ad364 = ad365 := (by injection e365)
         replace hx365_0 := (HB.out.cell (World.block_lt_of_cell? w _ hx365_0)).trans hx365_0
         replace p365 := eq_true p365
         replace q365 := eq_true q365
         refine start_ (n := 14) (S := fun w' => w'.cell? (ad364.add (x5_1).toNat) = some (.int .u8 (rd l0 x5_1)) ∧ w'.cell? (ad364.add ((ji5)).toNat) = some (.int .u8 (rd l0 (ji5)))) (ds := []) #[false, false, false, false, false, false, false, false, false, false, false, false, false, false] (by kernel_rfl) rfl rfl ⟨((HB.out.cell (World.block_lt_of_cell? w _ hw364_0)).trans hw364_0), ((HB.out.cell (World.block_lt_of_cell? w _ hw365_0)).trans hw365_0)⟩ (fun hHeld => ?_); refine with_tabW wristbandref18_Row.tab4 wristbandref18_Row.bits4 (fun HT_ HW_ => ?_)
         generalize wr.drew = w9 at HO_4 HB hx364_0 hx365_0 hHeld ⊢
         refine pu_ 0 13 (rA [1,13]) HT_ (by kernel_rfl) rfl rfl (fun _ _ _ => id) (.inl ⟨by rfl, fun w' => by go_simp; with_reducible rfl⟩) (by simp only [Act.put, sA, s0, sS, i64_w, i32_w]; rfl) ?_
         refine pu_ 1 14 (rA [2,12]) HT_ (by kernel_rfl) rfl rfl (fun _ _ _ => id) (.inl ⟨by rfl, fun w' => by go_simp; with_reducible rfl⟩) (by simp only [Act.put, sA, s0, sS, i64_w, i32_w]; rfl) ?_
         refine pu_ 2 15 (rA [3,11]) HT_ (by kernel_rfl) rfl rfl (fun _ _ _ => id) (.inl ⟨by rfl, fun w' => by go_simp; with_reducible rfl⟩) (by simp only [Act.put, sA, s0, sS, i64_w, i32_w]; rfl) ?_
         refine pu_ 6 19 (rA [3,3,1,7]) HT_ (by kernel_rfl) rfl rfl (fun _ _ _ => id) (.inl ⟨by rfl, fun w' => by go_simp; with_reducible rfl⟩) (by simp only [Act.put, sA, s0, sS, i64_w, i32_w]; rfl) ?_
         refine pu_ 7 20 (rA [3,3,2,6]) HT_ (by kernel_rfl) rfl rfl (fun _ _ _ => id) (.inl ⟨by rfl, fun w' => by go_simp; with_reducible rfl⟩) (by simp only [Act.put, sA, s0, sS, i64_w, i32_w]; rfl) ?_
         refine pu_ 8 21 (rA [3,3,3,5]) HT_ (by kernel_rfl) rfl rfl (fun _ _ _ => id) (.inl ⟨by rfl, fun w' => by go_simp; with_reducible rfl⟩) (by simp only [Act.put, sA, s0, sS, i64_w, i32_w]; rfl) ?_
         refine pu_ 9 22 (rA [3,3,4,4]) HT_ (by kernel_rfl) rfl rfl (fun _ _ _ => id) (.inl ⟨by rfl, fun w' => by go_simp; with_reducible rfl⟩) (by simp only [Act.put, sA, s0, sS, i64_w, i32_w]; rfl) ?_
         refine take_ (i := 3) (N := some 16) (v := ?_) (a' := ?_) #[true, true, true, true, false, false, true, true, true, true, false, false, false, false] rfl rfl (take_ofW HT_.out HW_.out (by kernel_rfl)) (fun _ _ _ h => h) (Or.inl ⟨by rfl, ?_⟩) hHeld ?_ ?_
         rotate_left
         ·rintro w' ⟨s0, s1⟩
          go_simp
          with_reducible rfl
         rotate_left
         ·simp only [Act.put, sA, s0, sS, i64_w, i32_w]
          rfl
         refine pu_ 4 17 (rA [5,1,4,4]) HT_ (by kernel_rfl) rfl rfl (fun _ _ _ => id) (.inl ⟨by rfl, fun w' => by go_simp; with_reducible rfl⟩) (by simp only [Act.put, sA, s0, sS, i64_w, i32_w]; rfl) ?_
         refine pu_ 5 18 (rA [10,4]) HT_ (by kernel_rfl) rfl rfl (fun _ _ _ => id) (.inl ⟨by rfl, fun w' => by go_simp; with_reducible rfl⟩) (by simp only [Act.put, sA, s0, sS, i64_w, i32_w]; rfl) ?_
         refine take_ (i := 10) (N := some 23) (v := ?_) (a' := ?_) #[true, true, true, true, true, true, true, true, true, true, true, false, false, false] rfl rfl (take_ofW HT_.out HW_.out (by kernel_rfl)) (fun _ _ _ h => h) (Or.inl ⟨by rfl, ?_⟩) hHeld ?_ ?_
         rotate_left
         ·rintro w' ⟨s0, s1⟩
          go_simp
          with_reducible rfl
         rotate_left
         ·simp only [Act.put, sA, s0, sS, i64_w, i32_w]
          rfl
         refine pu_ 11 24 (rA [12,2]) HT_ (by kernel_rfl) rfl rfl (fun _ _ _ => id) (.inl ⟨by rfl, fun w' => by go_simp; with_reducible rfl⟩) (by simp only [Act.put, sA, s0, sS, i64_w, i32_w]; rfl) ?_
         refine pu_ 12 25 (rA [13,1]) HT_ (by kernel_rfl) rfl rfl (fun _ _ _ => id) (.inl ⟨by rfl, fun w' => by go_simp; with_reducible rfl⟩) (by simp only [Act.put, sA, s0, sS, i64_w, i32_w]; rfl) ?_
         refine pu_ 13 6 (rA [14]) HT_ (by kernel_rfl) rfl rfl (fun _ _ _ => id) (.inl ⟨by rfl, fun w' => by go_simp; with_reducible rfl⟩) (by simp only [Act.put, sA, s0, sS, i64_w, i32_w]; rfl) ?_
         refine done_ (done_of HT_.out (by kernel_rfl)) ?_
         go_upto_region 5 with (fail)
         go_cut [36] (fun v36 wc => ∃ (kq : Nat) (x36_7 : Bool), v36 = .bool x36_7 ∧ Aside0 (wristbandref18_Row.j1 kq l0 x4_1 x5_1 (wrap64 ((wrap64 (256 * (wrap64 (rd l0 x5_1)))) + (wrap64 (rd l0 (ji5))))) x36_7 = some (r1, r2)) ∧ Aside0 (kq ≤ k1) ∧ Aside0 (Kd.S (Kd.slice 5 (Kd.int .u8)) 24 wc w.heap.size (fun _ => True) u4 x4_1) ∧ Aside0 (Below w.heap.size w wc))
         case first =>
          have H := HC8.out
          clear HC8; by_cases c10 : (wrap64 ((wrap64 (256 * (wrap64 (rd l0 x5_1)))) + (wrap64 (rd l0 (ji5))))) > 60000
          ·rw [if_pos c10] at H
           have c10b0 : decide (60000 < (wrap64 ((wrap64 (256 * (wrap64 (rd l0 x5_1)))) + (wrap64 (rd l0 (ji5)))))) = true := decide_eq_true c10
           clear c10; (first | rw [c10b0] | (simp only [i64_w, i32_w]; rw [c10b0]) | skip); have H' := Aside0.mk H; clear H; go_wp2
           go_meet
           case rel => exact ⟨_, (true), (by first | rfl | (simp; done) | (simp [*]; done)), H', ⟨by have := HK1.out; first | omega | exact Nat.le_refl _⟩, ⟨by (with_reducible repeat (first | apply Kd.S_alloc | apply Kd.S_drewN | apply Kd.S_drew)); exact HO_4.out⟩, ⟨by repeat (first | (with_reducible first | exact HB.out | apply bA | apply bN | apply bD) | exact HB.out)⟩⟩
          ·rw [if_neg c10] at H
           have c10b0 : decide (60000 < (wrap64 ((wrap64 (256 * (wrap64 (rd l0 x5_1)))) + (wrap64 (rd l0 (ji5)))))) = false := decide_eq_false c10
           clear c10; (first | rw [c10b0] | (simp only [i64_w, i32_w]; rw [c10b0]) | skip); have H' := Aside0.mk H; clear H; go_wp2
           go_meet
           case rel => exact ⟨_, (decide ((wrap64 ((wrap64 ((l0.length : Int) - x5_1)) - 6)) < (wrap64 ((wrap64 (256 * (wrap64 (rd l0 x5_1)))) + (wrap64 (rd l0 (ji5))))))), (by first | rfl | (simp; done) | (simp only [← hji5] <;> (first | rfl | simp)) | (simp [*]; done)), H', ⟨by have := HK1.out; first | omega | exact Nat.le_refl _⟩, ⟨by (with_reducible repeat (first | apply Kd.S_alloc | apply Kd.S_drewN | apply Kd.S_drew)); exact HO_4.out⟩, ⟨by repeat (first | (with_reducible first | exact HB.out | apply bA | apply bN | apply bD) | exact HB.out)⟩⟩
         case rest =>
          clear HC8; try clear c1
          try clear c2
          try clear c2b0
          try clear p2
          try clear c3
          try clear c3b0
          try clear p3
          try clear q3
          try clear hx3
          try clear c4
          try clear c4b0
          try clear c6
          try clear c6b0
          try clear p6
          try clear c7
          try clear c7b0
          try clear c10
          try clear c10b0
          try clear hx364_0
          try clear hx365_0
          try clear p364
          try clear p365
          try clear q364
          try clear q365
          obtain ⟨kq, x36_7, rfl, HA, HJ7, HO_4, HB⟩ := hcut
          cases kq with
          | zero => exact absurd HA.out (by simp [wristbandref18_Row.j1])
          | succ kj7 =>
           have H := HA.out
           clear HA; simp only [wristbandref18_Row.j1] at H
           by_cases c11 : x36_7 = true
           ·subst c11
            have H1 : (some (x4_1, x5_1)) = some (r1, r2) := by rw [if_pos rfl] at H; exact H
            clear H; have H := H1; clear H1; simp only [Option.some.injEq, Prod.mk.injEq] at H
            obtain ⟨rfl, rfl⟩ := H
            go_wp2
            go_ret2
            exact ⟨_, by first | rfl | (simp [errW_none, errW_some] <;> rfl) | (simp only [← hji5]; first | rfl | (simp [errW_none, errW_some] <;> rfl)) | (simp [*, errW_none, errW_some] <;> rfl), by (with_reducible repeat (first | apply Kd.S_alloc | apply Kd.S_drewN | apply Kd.S_drew)); exact HO_4.out, by repeat (first | (with_reducible first | exact HB.out | apply bA | apply bN | apply bD) | exact HB.out)⟩
           ·replace c11 := Bool.eq_false_iff.mpr c11
            subst c11; have H1 : (if 0 ≤ (wrap64 (x5_1 + 2)) then (if (wrap64 (x5_1 + 2)) ≤ (wrap64 ((wrap64 (x5_1 + 2)) + (wrap64 ((wrap64 (256 * (wrap64 (rd l0 x5_1)))) + (wrap64 (rd l0 (ji5))))))) then (if (wrap64 ((wrap64 (x5_1 + 2)) + (wrap64 ((wrap64 (256 * (wrap64 (rd l0 x5_1)))) + (wrap64 (rd l0 (ji5))))))) ≤ (l0.length : Int) then ((wristbandref18_Put.f kj7 ((l0.take ((wrap64 ((wrap64 (x5_1 + 2)) + (wrap64 ((wrap64 (256 * (wrap64 (rd l0 x5_1)))) + (wrap64 (rd l0 (ji5))))))) : Int).toNat).drop ((wrap64 (x5_1 + 2)) : Int).toNat)).bind fun t367 => (if 0 ≤ x5_1 then (if x5_1 ≤ (wrap64 ((wrap64 (x5_1 + 6)) + (wrap64 ((wrap64 (256 * (wrap64 (rd l0 x5_1)))) + (wrap64 (rd l0 (ji5))))))) then (if (wrap64 ((wrap64 (x5_1 + 6)) + (wrap64 ((wrap64 (256 * (wrap64 (rd l0 x5_1)))) + (wrap64 (rd l0 (ji5))))))) ≤ (l0.length : Int) then (if (strOfNums t367).toList = (strOfNums ((l0.take ((wrap64 ((wrap64 (x5_1 + 6)) + (wrap64 ((wrap64 (256 * (wrap64 (rd l0 x5_1)))) + (wrap64 (rd l0 (ji5))))))) : Int).toNat).drop (x5_1 : Int).toNat)).toList then ((some (([] : List Int) : List Int)).bind fun y371 => (if y371.length + ((l0.take ((wrap64 ((wrap64 (x5_1 + 2)) + (wrap64 ((wrap64 (256 * (wrap64 (rd l0 x5_1)))) + (wrap64 (rd l0 (ji5))))))) : Int).toNat).drop ((wrap64 (x5_1 + 2)) : Int).toNat).length < 140737488355328 then (if x4_1.length < 5864062014805 then (wristbandref18_Row.l0 kj7 l0 (x4_1 ++ [(y371 ++ ((l0.take ((wrap64 ((wrap64 (x5_1 + 2)) + (wrap64 ((wrap64 (256 * (wrap64 (rd l0 x5_1)))) + (wrap64 (rd l0 (ji5))))))) : Int).toNat).drop ((wrap64 (x5_1 + 2)) : Int).toNat))]) (wrap64 ((wrap64 (x5_1 + 6)) + (wrap64 ((wrap64 (256 * (wrap64 (rd l0 x5_1)))) + (wrap64 (rd l0 (ji5)))))))) else (none)) else (none))) else (some (x4_1, x5_1))) else (none)) else (none)) else (none))) else (none)) else (none)) else (none)) = some (r1, r2) := by rw [if_neg (show ¬ (false = true) by decide)] at H; exact H
            clear H; have H := H1; clear H1; obtain ⟨ji12, hji12⟩ : ∃ j_ : Int, (wrap64 (x5_1 + 2)) = j_ := ⟨_, rfl⟩
            replace H : (if 0 ≤ (ji12) then (if (ji12) ≤ (wrap64 ((ji12) + (wrap64 ((wrap64 (256 * (wrap64 (rd l0 x5_1)))) + (wrap64 (rd l0 (ji5))))))) then (if (wrap64 ((ji12) + (wrap64 ((wrap64 (256 * (wrap64 (rd l0 x5_1)))) + (wrap64 (rd l0 (ji5))))))) ≤ (l0.length : Int) then ((wristbandref18_Put.f kj7 ((l0.take ((wrap64 ((ji12) + (wrap64 ((wrap64 (256 * (wrap64 (rd l0 x5_1)))) + (wrap64 (rd l0 (ji5))))))) : Int).toNat).drop ((ji12) : Int).toNat)).bind fun t367 => (if 0 ≤ x5_1 then (if x5_1 ≤ (wrap64 ((wrap64 (x5_1 + 6)) + (wrap64 ((wrap64 (256 * (wrap64 (rd l0 x5_1)))) + (wrap64 (rd l0 (ji5))))))) then (if (wrap64 ((wrap64 (x5_1 + 6)) + (wrap64 ((wrap64 (256 * (wrap64 (rd l0 x5_1)))) + (wrap64 (rd l0 (ji5))))))) ≤ (l0.length : Int) then (if (strOfNums t367).toList = (strOfNums ((l0.take ((wrap64 ((wrap64 (x5_1 + 6)) + (wrap64 ((wrap64 (256 * (wrap64 (rd l0 x5_1)))) + (wrap64 (rd l0 (ji5))))))) : Int).toNat).drop (x5_1 : Int).toNat)).toList then ((some (([] : List Int) : List Int)).bind fun y371 => (if y371.length + ((l0.take ((wrap64 ((ji12) + (wrap64 ((wrap64 (256 * (wrap64 (rd l0 x5_1)))) + (wrap64 (rd l0 (ji5))))))) : Int).toNat).drop ((ji12) : Int).toNat).length < 140737488355328 then (if x4_1.length < 5864062014805 then (wristbandref18_Row.l0 kj7 l0 (x4_1 ++ [(y371 ++ ((l0.take ((wrap64 ((ji12) + (wrap64 ((wrap64 (256 * (wrap64 (rd l0 x5_1)))) + (wrap64 (rd l0 (ji5))))))) : Int).toNat).drop ((ji12) : Int).toNat))]) (wrap64 ((wrap64 (x5_1 + 6)) + (wrap64 ((wrap64 (256 * (wrap64 (rd l0 x5_1)))) + (wrap64 (rd l0 (ji5)))))))) else (none)) else (none))) else (some (x4_1, x5_1))) else (none)) else (none)) else (none))) else (none)) else (none)) else (none)) = some (r1, r2) := by first | (rw [hji12] at H; exact H) | (simp only [hji12] at H ⊢; exact H)
            have hji12w : (IntKind.i64.wrap (x5_1 + 2)) = ji12 := (i64_w _).trans hji12
            by_cases c13 : 0 ≤ (ji12)
            ·rw [if_pos c13] at H
             have c13b0 := eq_true c13
             have c13b1 : decide (0 ≤ (ji12)) = true := decide_eq_true c13
             clear c13; by_cases c14 : (ji12) ≤ (wrap64 ((ji12) + (wrap64 ((wrap64 (256 * (wrap64 (rd l0 x5_1)))) + (wrap64 (rd l0 (ji5)))))))
             ·rw [if_pos c14] at H
              have c14b0 := eq_true c14
              have c14b1 : decide ((ji12) ≤ (wrap64 ((ji12) + (wrap64 ((wrap64 (256 * (wrap64 (rd l0 x5_1)))) + (wrap64 (rd l0 (ji5)))))))) = true := decide_eq_true c14
              by_cases c15 : (wrap64 ((ji12) + (wrap64 ((wrap64 (256 * (wrap64 (rd l0 x5_1)))) + (wrap64 (rd l0 (ji5))))))) ≤ (l0.length : Int)
              ·rw [if_pos c15] at H
               have c15b0 := eq_true c15
               have c15b1 : decide ((wrap64 ((ji12) + (wrap64 ((wrap64 (256 * (wrap64 (rd l0 x5_1)))) + (wrap64 (rd l0 (ji5))))))) ≤ (l0.length : Int)) = true := decide_eq_true c15
               replace H := Option.bind_eq_some_iff.mp H
               obtain ⟨t367, A160, H⟩ := H
               replace H : (if 0 ≤ x5_1 then (if x5_1 ≤ (wrap64 ((wrap64 (x5_1 + 6)) + (wrap64 ((wrap64 (256 * (wrap64 (rd l0 x5_1)))) + (wrap64 (rd l0 (ji5))))))) then (if (wrap64 ((wrap64 (x5_1 + 6)) + (wrap64 ((wrap64 (256 * (wrap64 (rd l0 x5_1)))) + (wrap64 (rd l0 (ji5))))))) ≤ (l0.length : Int) then (if (strOfNums t367).toList = (strOfNums ((l0.take ((wrap64 ((wrap64 (x5_1 + 6)) + (wrap64 ((wrap64 (256 * (wrap64 (rd l0 x5_1)))) + (wrap64 (rd l0 (ji5))))))) : Int).toNat).drop (x5_1 : Int).toNat)).toList then ((some (([] : List Int) : List Int)).bind fun y371 => (if y371.length + ((l0.take ((wrap64 ((ji12) + (wrap64 ((wrap64 (256 * (wrap64 (rd l0 x5_1)))) + (wrap64 (rd l0 (ji5))))))) : Int).toNat).drop ((ji12) : Int).toNat).length < 140737488355328 then (if x4_1.length < 5864062014805 then (wristbandref18_Row.l0 kj7 l0 (x4_1 ++ [(y371 ++ ((l0.take ((wrap64 ((ji12) + (wrap64 ((wrap64 (256 * (wrap64 (rd l0 x5_1)))) + (wrap64 (rd l0 (ji5))))))) : Int).toNat).drop ((ji12) : Int).toNat))]) (wrap64 ((wrap64 (x5_1 + 6)) + (wrap64 ((wrap64 (256 * (wrap64 (rd l0 x5_1)))) + (wrap64 (rd l0 (ji5)))))))) else (none)) else (none))) else (some (x4_1, x5_1))) else (none)) else (none)) else (none)) = some (r1, r2) := H
               have A16 := Aside0.mk A160; clear A160; by_cases c17 : 0 ≤ x5_1
               ·rw [if_pos c17] at H
                have c17b0 := eq_true c17
                have c17b1 : decide (0 ≤ x5_1) = true := decide_eq_true c17
                clear c17; by_cases c18 : x5_1 ≤ (wrap64 ((wrap64 (x5_1 + 6)) + (wrap64 ((wrap64 (256 * (wrap64 (rd l0 x5_1)))) + (wrap64 (rd l0 (ji5)))))))
                ·rw [if_pos c18] at H
                 have c18b0 := eq_true c18
                 have c18b1 : decide (x5_1 ≤ (wrap64 ((wrap64 (x5_1 + 6)) + (wrap64 ((wrap64 (256 * (wrap64 (rd l0 x5_1)))) + (wrap64 (rd l0 (ji5)))))))) = true := decide_eq_true c18
                 by_cases c19 : (wrap64 ((wrap64 (x5_1 + 6)) + (wrap64 ((wrap64 (256 * (wrap64 (rd l0 x5_1)))) + (wrap64 (rd l0 (ji5))))))) ≤ (l0.length : Int)
                 ·rw [if_pos c19] at H
                  have c19b0 := eq_true c19
                  have c19b1 : decide ((wrap64 ((wrap64 (x5_1 + 6)) + (wrap64 ((wrap64 (256 * (wrap64 (rd l0 x5_1)))) + (wrap64 (rd l0 (ji5))))))) ≤ (l0.length : Int)) = true := decide_eq_true c19
                  by_cases c20 : (strOfNums t367).toList = (strOfNums ((l0.take ((wrap64 ((wrap64 (x5_1 + 6)) + (wrap64 ((wrap64 (256 * (wrap64 (rd l0 x5_1)))) + (wrap64 (rd l0 (ji5))))))) : Int).toNat).drop (x5_1 : Int).toNat)).toList
                  ·rw [if_pos c20] at H
                   have c20b0 : ((strOfNums t367).toList == (strOfNums ((l0.take ((wrap64 ((wrap64 (x5_1 + 6)) + (wrap64 ((wrap64 (256 * (wrap64 (rd l0 x5_1)))) + (wrap64 (rd l0 (ji5))))))) : Int).toNat).drop (x5_1 : Int).toNat)).toList) = true := beq_iff_eq.mpr c20
                   have c20b1 : ((strOfNums t367).toList != (strOfNums ((l0.take ((wrap64 ((wrap64 (x5_1 + 6)) + (wrap64 ((wrap64 (256 * (wrap64 (rd l0 x5_1)))) + (wrap64 (rd l0 (ji5))))))) : Int).toNat).drop (x5_1 : Int).toNat)).toList) = false := bne_eq_false_iff_eq.mpr c20
                   clear c20; obtain ⟨y371, hy371⟩ : ∃ y_ : List Int, y_ = (([] : List Int)) := ⟨_, rfl⟩
                   replace H : (if y371.length + ((l0.take ((wrap64 ((ji12) + (wrap64 ((wrap64 (256 * (wrap64 (rd l0 x5_1)))) + (wrap64 (rd l0 (ji5))))))) : Int).toNat).drop ((ji12) : Int).toNat).length < 140737488355328 then (if x4_1.length < 5864062014805 then (wristbandref18_Row.l0 kj7 l0 (x4_1 ++ [(y371 ++ ((l0.take ((wrap64 ((ji12) + (wrap64 ((wrap64 (256 * (wrap64 (rd l0 x5_1)))) + (wrap64 (rd l0 (ji5))))))) : Int).toNat).drop ((ji12) : Int).toNat))]) (wrap64 ((wrap64 (x5_1 + 6)) + (wrap64 ((wrap64 (256 * (wrap64 (rd l0 x5_1)))) + (wrap64 (rd l0 (ji5)))))))) else (none)) else (none)) = some (r1, r2) := by first | (rw [hy371]; with_reducible exact H) | (have H2_ := (Option.bind_some _ _).symm.trans H; rw [hy371]; with_reducible exact H2_) | (have H2_ := (Option.bind_some _ _).symm.trans H; with_reducible exact H2_) | with_reducible exact H | (rw [hy371]; exact H) | exact H
                   have Ny371 := Aside0.mk hy371; clear hy371; by_cases c21 : y371.length + ((l0.take ((wrap64 ((ji12) + (wrap64 ((wrap64 (256 * (wrap64 (rd l0 x5_1)))) + (wrap64 (rd l0 (ji5))))))) : Int).toNat).drop ((ji12) : Int).toNat).length < 140737488355328
                   ·rw [if_pos c21] at H
                    have LMc21 := Aside0.mk c21; clear c21; obtain ⟨y374, hy374⟩ : ∃ y_ : List Int, y_ = (y371 ++ ((l0.take ((wrap64 ((ji12) + (wrap64 ((wrap64 (256 * (wrap64 (rd l0 x5_1)))) + (wrap64 (rd l0 (ji5))))))) : Int).toNat).drop ((ji12) : Int).toNat)) := ⟨_, rfl⟩
                    replace H : (if x4_1.length < 5864062014805 then (wristbandref18_Row.l0 kj7 l0 (x4_1 ++ [y374]) (wrap64 ((wrap64 (x5_1 + 6)) + (wrap64 ((wrap64 (256 * (wrap64 (rd l0 x5_1)))) + (wrap64 (rd l0 (ji5)))))))) else (none)) = some (r1, r2) := by first | (rw [hy374]; with_reducible exact H) | (have H2_ := (Option.bind_some _ _).symm.trans H; rw [hy374]; with_reducible exact H2_) | (have H2_ := (Option.bind_some _ _).symm.trans H; with_reducible exact H2_) | with_reducible exact H | (rw [hy374]; exact H) | exact H
                    have Ny374 := Aside0.mk hy374; clear hy374; by_cases c22 : x4_1.length < 5864062014805
                    ·rw [if_pos c22] at H
                     have LMc22 := Aside0.mk c22; clear c22; obtain ⟨y377, hy377⟩ : ∃ y_ : List (List Int), y_ = (x4_1 ++ [y374]) := ⟨_, rfl⟩
                     replace H : (wristbandref18_Row.l0 kj7 l0 y377 (wrap64 ((wrap64 (x5_1 + 6)) + (wrap64 ((wrap64 (256 * (wrap64 (rd l0 x5_1)))) + (wrap64 (rd l0 (ji5)))))))) = some (r1, r2) := by first | (rw [hy377]; with_reducible exact H) | (have H2_ := (Option.bind_some _ _).symm.trans H; rw [hy377]; with_reducible exact H2_) | (have H2_ := (Option.bind_some _ _).symm.trans H; with_reducible exact H2_) | with_reducible exact H | (rw [hy377]; exact H) | exact H
                     have Ny377 := Aside0.mk hy377; clear hy377; have H' := Aside0.mk H; clear H; obtain ⟨i023, hi023, _, hsz23, _⟩ := info_parts info5
                     obtain ⟨A23, hcut23, hA23, hC23⟩ := print_mid_of (P := Tryd.prog) (Value.int .u8) 0 24 5 .i64 .i64 Tryd.underlying24 hi023 hsz23 (some ad364) c0 l0 (ji12) (wrap64 ((ji12) + (wrap64 ((wrap64 (256 * (wrap64 (rd l0 x5_1)))) + (wrap64 (rd l0 (ji5))))))) (of_decide_eq_true (by first | (with_reducible assumption) | assumption)) (by first | omega | exact of_decide_eq_true (by first | (with_reducible assumption) | assumption)) (of_decide_eq_true (by first | (with_reducible assumption) | assumption)) HC0.out
                     have HR366 := Aside0.mk (Kd.C_of_reads (h1 := fun _ => rfl) (hA23 _ (Kd.reads_of_C HR0.out))); have HC366 := Aside0.mk hC23; clear hA23 hC23 hi023 hsz23; (try (have hsl23_ : Aside0 (((l0.take ((wrap64 ((ji12) + (wrap64 ((wrap64 (256 * (wrap64 (rd l0 x5_1)))) + (wrap64 (rd l0 (ji5))))))) : Int).toNat).drop ((ji12) : Int).toNat).length = ((wrap64 ((ji12) + (wrap64 ((wrap64 (256 * (wrap64 (rd l0 x5_1)))) + (wrap64 (rd l0 (ji5))))))).toNat - (ji12).toNat)) := ⟨(by rw [List.length_drop, List.length_take]; have h_ : ((wrap64 ((ji12) + (wrap64 ((wrap64 (256 * (wrap64 (rd l0 x5_1)))) + (wrap64 (rd l0 (ji5))))))) : Int) ≤ (l0.length : Int) := of_decide_eq_true (by first | (with_reducible assumption) | assumption); omega)⟩))
                     obtain ⟨i024, hi024, _, hsz24, _⟩ := info_parts info5
                     obtain ⟨A24, hcut24, hA24, hC24⟩ := print_mid_of (P := Tryd.prog) (Value.int .u8) 0 24 5 .i64 .i64 Tryd.underlying24 hi024 hsz24 (some ad364) c0 l0 x5_1 (wrap64 ((wrap64 (x5_1 + 6)) + (wrap64 ((wrap64 (256 * (wrap64 (rd l0 x5_1)))) + (wrap64 (rd l0 (ji5))))))) (of_decide_eq_true (by first | (with_reducible assumption) | assumption)) (by first | omega | exact of_decide_eq_true (by first | (with_reducible assumption) | assumption)) (of_decide_eq_true (by first | (with_reducible assumption) | assumption)) HC0.out
                     have HR370 := Aside0.mk (Kd.C_of_reads (h1 := fun _ => rfl) (hA24 _ (Kd.reads_of_C HR0.out))); have HC370 := Aside0.mk hC24; clear hA24 hC24 hi024 hsz24; (try (have hsl24_ : Aside0 (((l0.take ((wrap64 ((wrap64 (x5_1 + 6)) + (wrap64 ((wrap64 (256 * (wrap64 (rd l0 x5_1)))) + (wrap64 (rd l0 (ji5))))))) : Int).toNat).drop (x5_1 : Int).toNat).length = ((wrap64 ((wrap64 (x5_1 + 6)) + (wrap64 ((wrap64 (256 * (wrap64 (rd l0 x5_1)))) + (wrap64 (rd l0 (ji5))))))).toNat - x5_1.toNat)) := ⟨(by rw [List.length_drop, List.length_take]; have h_ : ((wrap64 ((wrap64 (x5_1 + 6)) + (wrap64 ((wrap64 (256 * (wrap64 (rd l0 x5_1)))) + (wrap64 (rd l0 (ji5))))))) : Int) ≤ (l0.length : Int) := of_decide_eq_true (by first | (with_reducible assumption) | assumption); omega)⟩))
                     try go_wp2
                     have n0_ := Aside0.mk (Kd.S_drew HO_4.out); have n1_ := Aside0.mk (below_drew1 HB.out); clear HO_4; clear HB; have HO_4 := n0_; have HB := n1_; clear n0_ n1_; refine start_ (n := 12) (S := fun w' => True) (ds := []) #[false, false, false, false, false, false, false, false, false, false, false, false] (by kernel_rfl) rfl rfl trivial (fun hHeld => ?_); refine with_tabW wristbandref18_Row.tab7 wristbandref18_Row.bits7 (fun HT_ HW_ => ?_)
                     generalize wc.drew = w25 at HO_4 HB hHeld ⊢
                     refine pu_ 0 45 (rA [1,11]) HT_ (by kernel_rfl) rfl rfl (fun _ _ _ => id) (.inl ⟨by rfl, fun w' => by go_simp; with_reducible rfl⟩) (by simp only [Act.put, sA, s0, sS, i64_w, i32_w]; rfl) ?_
                     refine pu_ 3 48 (rA [1,2,1,8]) HT_ (by kernel_rfl) rfl rfl (fun _ _ _ => id) (.inl ⟨by rfl, fun w' => by go_simp; with_reducible rfl⟩) (by simp only [Act.put, sA, s0, sS, i64_w, i32_w]; rfl) ?_
                     refine pu_ 4 49 (rA [1,2,2,7]) HT_ (by kernel_rfl) rfl rfl (fun _ _ _ => id) (.inl ⟨by rfl, fun w' => by go_simp; with_reducible rfl⟩) (by simp only [Act.put, sA, s0, sS, i64_w, i32_w]; rfl) ?_
                     refine pu_ 5 50 (rA [1,2,3,6]) HT_ (by kernel_rfl) rfl rfl (fun _ _ _ => id) (.inl ⟨by rfl, fun w' => by go_simp; with_reducible rfl⟩) (by simp only [Act.put, sA, s0, sS, i64_w, i32_w]; rfl) ?_
                     refine pu_ 7 52 (rA [1,2,3,1,1,4]) HT_ (by kernel_rfl) rfl rfl (fun _ _ _ => id) (.inl ⟨by rfl, fun w' => by go_simp; with_reducible rfl⟩) (by simp only [Act.put, sA, s0, sS, i64_w, i32_w]; rfl) ?_
                     refine inv_at [1, 2, 6, 8, 9, 10, 11] (fun a0_ b a w' => ∃ (v368 : Value), a = putSel a0_ b [(1, 46, v368), (2, 47, .string (strOfNums t367)), (6, 51, .int .i64 (wrap64 (x5_1 + 6))), (8, 53, .int .i64 (wrap64 ((wrap64 (x5_1 + 6)) + (wrap64 ((wrap64 (256 * (wrap64 (rd l0 x5_1)))) + (wrap64 (rd l0 (ji5)))))))), (9, 54, .slice A24 ((l0.take ((wrap64 ((wrap64 (x5_1 + 6)) + (wrap64 ((wrap64 (256 * (wrap64 (rd l0 x5_1)))) + (wrap64 (rd l0 (ji5))))))) : Int).toNat).drop (x5_1 : Int).toNat).length (c0 - x5_1.toNat)), (10, 55, .string (strOfNums ((l0.take ((wrap64 ((wrap64 (x5_1 + 6)) + (wrap64 ((wrap64 (256 * (wrap64 (rd l0 x5_1)))) + (wrap64 (rd l0 (ji5))))))) : Int).toNat).drop (x5_1 : Int).toNat))), (11, 56, .bool ((strOfNums t367).toList != (strOfNums ((l0.take ((wrap64 ((wrap64 (x5_1 + 6)) + (wrap64 ((wrap64 (256 * (wrap64 (rd l0 x5_1)))) + (wrap64 (rd l0 (ji5))))))) : Int).toNat).drop (x5_1 : Int).toNat)).toList))] ∧ (Kd.S (Kd.slice 5 (Kd.int .u8)) 24 w' w.heap.size (fun _ => True) u4 x4_1) ∧ (Below w.heap.size w w') ∧ (b 1 = true → Kd.R (Kd.int .u8) 5 w' w.heap.size (fun _ => True) v368 t367)) HT_.out HW_.out (by kernel_rfl) (by kernel_rfl) ?_ ?_ ?_
                     ·exact ⟨.bool false, by simp only [putSel, Bool.false_eq_true, if_false], HO_4.out, HB.out, fun h_ => absurd h_ (by decide)⟩
                     ·skip
                      clear HB HO_4; refine steps_cons ?_ ?_
                      ·rintro b a w' ⟨v368, ha, Q_HO_4, Q_HB, Q_HO369⟩ hb_ hon hoff
                       refine ⟨_, rfl, fun K hK => ?_⟩; have e45 : a.tmps[45]? = some (.slice A23 ((l0.take ((wrap64 ((ji12) + (wrap64 ((wrap64 (256 * (wrap64 (rd l0 x5_1)))) + (wrap64 (rd l0 (ji5))))))) : Int).toNat).drop ((ji12) : Int).toNat).length (c0 - (ji12).toNat)) := by rw [ha]; first | exact (putSel_off rfl).trans rfl | (rw [hsl23_.out]; exact (putSel_off rfl).trans rfl)
                       replace ha := Aside0.mk ha; have HO_4 := Aside0.mk Q_HO_4; have HB := Aside0.mk Q_HB; refine goes_ Tryd.func36 (by kernel_rfl) rfl #[.slice A23 ((l0.take ((wrap64 ((ji12) + (wrap64 ((wrap64 (256 * (wrap64 (rd l0 x5_1)))) + (wrap64 (rd l0 (ji5))))))) : Int).toNat).drop ((ji12) : Int).toNat).length (c0 - (ji12).toNat)] (by first | rfl | (simp [Region.wanted, yielded, *]; done)) rfl rfl (by (try simp only [mT, mC, mN]); first | done | (rw [hsl23_.out] <;> rfl) | (rw [show ((l0.take ((wrap64 ((ji12) + (wrap64 ((wrap64 (256 * (wrap64 (rd l0 x5_1)))) + (wrap64 (rd l0 (ji5))))))) : Int).toNat).drop ((ji12) : Int).toNat).length = ((wrap64 ((ji12) + (wrap64 ((wrap64 (256 * (wrap64 (rd l0 x5_1)))) + (wrap64 (rd l0 (ji5))))))).toNat - (ji12).toNat) from (by rw [List.length_drop, List.length_take]; have h_ : ((wrap64 ((ji12) + (wrap64 ((wrap64 (256 * (wrap64 (rd l0 x5_1)))) + (wrap64 (rd l0 (ji5))))))) : Int) ≤ (l0.length : Int) := of_decide_eq_true (by first | (with_reducible assumption) | assumption); omega)] <;> rfl) | (simp only [hji12, hji5]; rfl) | rfl | (simp only [Act.eval, gD, oG, e45]; done) | (simp only [List.length_drop, List.length_take]; rfl)) ?_
                       with_reducible refine (wristbandref18_Put.calls kj7 _ _ ((l0.take ((wrap64 ((ji12) + (wrap64 ((wrap64 (256 * (wrap64 (rd l0 x5_1)))) + (wrap64 (rd l0 (ji5))))))) : Int).toNat).drop ((ji12) : Int).toNat) t367 _ ?side1 ?side2 A16.out).mono ?_
                       (case side1 => repeat (first | exact (Kd.C_below HR366.out HB.out) | (with_reducible refine Kd.C_alloc ?_ _) | (with_reducible refine Kd.C_drewN ?_ _) | (with_reducible refine Kd.C_drew ?_)))
                       (case side2 => exact HC366.out)
                       rintro e w25 ⟨v368, rfl, ho0, hb⟩
                       refine ⟨_, rfl, ?_⟩; have n0_ := Aside0.mk (Kd.S_elder' (by (with_reducible repeat (first | apply Kd.S_alloc | apply Kd.S_drewN | apply Kd.S_drew)); exact HO_4.out) (Kd.R_base ho0) hb); have n1_ := Aside0.mk (Kd.R_lower ho0 (below_size (by repeat (first | (with_reducible first | exact HB.out | apply bA | apply bN | apply bD) | exact HB.out)))); have n2_ := Aside0.mk (below_step (by repeat (first | (with_reducible first | exact HB.out | apply bA | apply bN | apply bD) | exact HB.out)) hb); clear HO_4; clear HB; have HO_4 := n0_; have HO369 := n1_; have HB := n2_; clear n0_ n1_ n2_; (try clear hb); (try clear hb2); (try clear hk); (try clear hi); (try clear ho0); refine hK.out _ _ ⟨v368, (by rw [ha.out]; exact putSel_upk 0 hb_ rfl rfl rfl), (by (with_reducible repeat (first | apply Kd.S_alloc | apply Kd.S_drewN | apply Kd.S_drew)); first | exact Kd.S_mono HO_4.out (fun _ hk => hk.2) | exact Kd.S_mono (HO_4.out) (fun _ hk => by first | trivial | exact hk | exact hk.1 | ((repeat' apply And.intro) <;> first | exact hk.2 | exact hk.1.2 | exact hk.1.1.2))), (by repeat (first | (with_reducible first | exact HB.out | apply bA | apply bN | apply bD) | exact HB.out)), fun _ => (by (with_reducible repeat (first | apply rL | apply rN | apply rW)); exact HO369.out)⟩
                      refine steps_cons ?_ ?_
                      ·rintro b a w' ⟨v368, ha, Q_HO_4, Q_HB, Q_HO369⟩ hb_ hon hoff
                       refine ⟨_, rfl, fun K hK => ?_⟩; have e46 : a.tmps[46]? = some (v368) := by rw [ha]; exact putSel_on (e := (1, 46, v368)) 0 rfl rfl (hon 1 (by kernel_rfl)) rfl
                       replace ha := Aside0.mk ha; have HO_4 := Aside0.mk Q_HO_4; have HB := Aside0.mk Q_HB; have HO369 := Aside0.mk (Q_HO369 (hon 1 (by kernel_rfl))); refine str_step (src := 24) (dst := 9) (x := .tmp 46) ?hw ?ho ?hx (v := v368) (s := strOfNums t367) (by obtain ⟨A_, c_, rfl⟩ := Kd.R_slice HO369.out; exact Kd.C_string (P := Tryd.prog) (A := A_) (c := c_) Tryd.underlying24 Tryd.underlying5 Tryd.underlying9 (Kd.R_reads' (by (with_reducible repeat (first | apply rL | apply rN | apply rW)); exact HO369.out)).2.2) ?_
                       case ho => rfl
                       case hw => first | rfl | (simp [Region.wanted, yielded, *]; done)
                       case hx => first | rfl | (simp only [Act.eval, gD, oG, e46]; done)
                       intro w27 hb; have n0_ := Aside0.mk (Kd.S_below (by (with_reducible repeat (first | apply Kd.S_alloc | apply Kd.S_drewN | apply Kd.S_drew)); exact HO_4.out) hb)
                       have n1_ := Aside0.mk (Kd.R_below (by (with_reducible repeat (first | apply rL | apply rN | apply rW)); exact HO369.out) hb); have n2_ := Aside0.mk (below_step (by repeat (first | (with_reducible first | exact HB.out | apply bA | apply bN | apply bD) | exact HB.out)) hb); clear HO_4; clear HO369; clear HB; have HO_4 := n0_; have HO369 := n1_; have HB := n2_; clear n0_ n1_ n2_; (try clear hb); refine hK.out _ _ ⟨v368, (by rw [ha.out]; exact putSel_upk 1 hb_ rfl rfl rfl), (by (with_reducible repeat (first | apply Kd.S_alloc | apply Kd.S_drewN | apply Kd.S_drew)); first | exact HO_4.out | exact Kd.S_mono (HO_4.out) (fun _ hk => by first | trivial | exact hk | exact hk.1 | ((repeat' apply And.intro) <;> first | exact hk.2 | exact hk.1.2 | exact hk.1.1.2))), (by repeat (first | (with_reducible first | exact HB.out | apply bA | apply bN | apply bD) | exact HB.out)), fun _ => (by (with_reducible repeat (first | apply rL | apply rN | apply rW)); exact HO369.out)⟩
                      refine steps_cons ?_ ?_
                      ·rintro b a w' ⟨v368, ha, Q_HO_4, Q_HB, Q_HO369⟩ hb_ hon hoff
                       refine ⟨_, rfl, fun K hK => ?_⟩; have e50 : a.tmps[50]? = some (.int .i64 x5_1) := by rw [ha]; exact (putSel_off rfl).trans rfl
                       replace ha := Aside0.mk ha; have HO_4 := Aside0.mk Q_HO_4; have HB := Aside0.mk Q_HB; refine value_ (w1 := w') (v := .int .i64 (wrap64 (x5_1 + 6))) (by rfl) rfl ?_ ?_
                       ·go_simp
                        (try simp only [i64_w])
                        try first | rfl | (simp [bne]; done)
                       refine hK.out _ _ ⟨v368, (by rw [ha.out]; exact putSel_upk 2 hb_ rfl rfl rfl), Q_HO_4, Q_HB, Q_HO369⟩
                      refine steps_cons ?_ ?_
                      ·rintro b a w' ⟨v368, ha, Q_HO_4, Q_HB, Q_HO369⟩ hb_ hon hoff
                       refine ⟨_, rfl, fun K hK => ?_⟩; have e51 : a.tmps[51]? = some (.int .i64 (wrap64 (x5_1 + 6))) := by rw [ha]; exact putSel_on (e := (6, 51, .int .i64 (wrap64 (x5_1 + 6)))) 2 rfl rfl (hon 6 (by kernel_rfl)) rfl
                       have e52 : a.tmps[52]? = some (.int .i64 (wrap64 ((wrap64 (256 * (wrap64 (rd l0 x5_1)))) + (wrap64 (rd l0 (ji5)))))) := by rw [ha]; exact (putSel_off rfl).trans rfl
                       replace ha := Aside0.mk ha; have HO_4 := Aside0.mk Q_HO_4; have HB := Aside0.mk Q_HB; refine value_ (w1 := w') (v := .int .i64 (wrap64 ((wrap64 (x5_1 + 6)) + (wrap64 ((wrap64 (256 * (wrap64 (rd l0 x5_1)))) + (wrap64 (rd l0 (ji5)))))))) (by rfl) rfl ?_ ?_
                       ·go_simp
                        (try simp only [i64_w])
                        try first | rfl | (simp [bne]; done)
                       refine hK.out _ _ ⟨v368, (by rw [ha.out]; exact putSel_upk 3 hb_ rfl rfl rfl), Q_HO_4, Q_HB, Q_HO369⟩
                      refine steps_cons ?_ ?_
                      ·rintro b a w' ⟨v368, ha, Q_HO_4, Q_HB, Q_HO369⟩ hb_ hon hoff
                       refine ⟨_, rfl, fun K hK => ?_⟩; have e48 : a.tmps[48]? = some (.slice (some ad364) l0.length c0) := by rw [ha]; exact (putSel_off rfl).trans rfl
                       have e49 : a.tmps[49]? = some (.int .i64 x5_1) := by rw [ha]; exact (putSel_off rfl).trans rfl
                       have e53 : a.tmps[53]? = some (.int .i64 (wrap64 ((wrap64 (x5_1 + 6)) + (wrap64 ((wrap64 (256 * (wrap64 (rd l0 x5_1)))) + (wrap64 (rd l0 (ji5)))))))) := by rw [ha]; exact putSel_on (e := (8, 53, .int .i64 (wrap64 ((wrap64 (x5_1 + 6)) + (wrap64 ((wrap64 (256 * (wrap64 (rd l0 x5_1)))) + (wrap64 (rd l0 (ji5))))))))) 3 rfl rfl (hon 8 (by kernel_rfl)) rfl
                       replace ha := Aside0.mk ha; have HO_4 := Aside0.mk Q_HO_4; have HB := Aside0.mk Q_HB; refine value_ (w1 := w') (v := .slice A24 ((l0.take ((wrap64 ((wrap64 (x5_1 + 6)) + (wrap64 ((wrap64 (256 * (wrap64 (rd l0 x5_1)))) + (wrap64 (rd l0 (ji5))))))) : Int).toNat).drop (x5_1 : Int).toNat).length (c0 - x5_1.toNat)) (by rfl) rfl ?_ ?_
                       ·go_simp
                        (try simp only [i64_w])
                        try first | rfl | (simp [bne]; done)
                       refine hK.out _ _ ⟨v368, (by rw [ha.out]; exact putSel_upk 4 hb_ rfl rfl rfl), Q_HO_4, Q_HB, Q_HO369⟩
                      refine steps_cons ?_ ?_
                      ·rintro b a w' ⟨v368, ha, Q_HO_4, Q_HB, Q_HO369⟩ hb_ hon hoff
                       refine ⟨_, rfl, fun K hK => ?_⟩; have e54 : a.tmps[54]? = some (.slice A24 ((l0.take ((wrap64 ((wrap64 (x5_1 + 6)) + (wrap64 ((wrap64 (256 * (wrap64 (rd l0 x5_1)))) + (wrap64 (rd l0 (ji5))))))) : Int).toNat).drop (x5_1 : Int).toNat).length (c0 - x5_1.toNat)) := by rw [ha]; exact putSel_on (e := (9, 54, .slice A24 ((l0.take ((wrap64 ((wrap64 (x5_1 + 6)) + (wrap64 ((wrap64 (256 * (wrap64 (rd l0 x5_1)))) + (wrap64 (rd l0 (ji5))))))) : Int).toNat).drop (x5_1 : Int).toNat).length (c0 - x5_1.toNat))) 4 rfl rfl (hon 9 (by kernel_rfl)) rfl
                       replace ha := Aside0.mk ha; have HO_4 := Aside0.mk Q_HO_4; have HB := Aside0.mk Q_HB; refine str_step (src := 24) (dst := 9) (x := .tmp 54) ?hw ?ho ?hx (Kd.C_string (P := Tryd.prog) (A := A24) (c := (c0 - x5_1.toNat)) Tryd.underlying24 Tryd.underlying5 Tryd.underlying9 (Kd.C_below HR370.out HB.out)) ?_
                       case ho => rfl
                       case hw => first | rfl | (simp [Region.wanted, yielded, *]; done)
                       case hx => first | rfl | (simp only [Act.eval, gD, oG, e54]; done)
                       intro w25 hb; have n0_ := Aside0.mk (Kd.S_below (by (with_reducible repeat (first | apply Kd.S_alloc | apply Kd.S_drewN | apply Kd.S_drew)); exact HO_4.out) hb)
                       have n1_ := Aside0.mk (below_step (by repeat (first | (with_reducible first | exact HB.out | apply bA | apply bN | apply bD) | exact HB.out)) hb); have z_HO369 := fun (h0_ : b 1 = true) => (show Kd.R (Kd.int .u8) 5 w25 w.heap.size (fun _ => True) v368 t367 from by first | exact (Kd.R_below (by (with_reducible repeat (first | apply rL | apply rN | apply rW)); exact (Q_HO369 h0_)) hb) | exact Kd.R_mono (Kd.R_below (by (with_reducible repeat (first | apply rL | apply rN | apply rW)); exact (Q_HO369 h0_)) hb) (fun _ h_ => by first | trivial | exact h_ | exact h_.1))
                       clear HO_4; clear HB; have HO_4 := n0_; have HB := n1_; clear n0_ n1_; (try clear hb); refine hK.out _ _ ⟨v368, (by rw [ha.out]; exact putSel_upk 5 hb_ rfl rfl rfl), (by (with_reducible repeat (first | apply Kd.S_alloc | apply Kd.S_drewN | apply Kd.S_drew)); exact HO_4.out), (by repeat (first | (with_reducible first | exact HB.out | apply bA | apply bN | apply bD) | exact HB.out)), z_HO369⟩
                      refine steps_cons ?_ ?_
                      ·rintro b a w' ⟨v368, ha, Q_HO_4, Q_HB, Q_HO369⟩ hb_ hon hoff
                       refine ⟨_, rfl, fun K hK => ?_⟩; have e47 : a.tmps[47]? = some (.string (strOfNums t367)) := by rw [ha]; exact putSel_on (e := (2, 47, .string (strOfNums t367))) 1 rfl rfl (hon 2 (by kernel_rfl)) rfl
                       have e55 : a.tmps[55]? = some (.string (strOfNums ((l0.take ((wrap64 ((wrap64 (x5_1 + 6)) + (wrap64 ((wrap64 (256 * (wrap64 (rd l0 x5_1)))) + (wrap64 (rd l0 (ji5))))))) : Int).toNat).drop (x5_1 : Int).toNat))) := by rw [ha]; exact putSel_on (e := (10, 55, .string (strOfNums ((l0.take ((wrap64 ((wrap64 (x5_1 + 6)) + (wrap64 ((wrap64 (256 * (wrap64 (rd l0 x5_1)))) + (wrap64 (rd l0 (ji5))))))) : Int).toNat).drop (x5_1 : Int).toNat)))) 5 rfl rfl (hon 10 (by kernel_rfl)) rfl
                       replace ha := Aside0.mk ha; have HO_4 := Aside0.mk Q_HO_4; have HB := Aside0.mk Q_HB; have HO369 := Aside0.mk (Q_HO369 (hon 1 (by kernel_rfl))); refine value_ (w1 := w') (v := .bool ((strOfNums t367).toList != (strOfNums ((l0.take ((wrap64 ((wrap64 (x5_1 + 6)) + (wrap64 ((wrap64 (256 * (wrap64 (rd l0 x5_1)))) + (wrap64 (rd l0 (ji5))))))) : Int).toNat).drop (x5_1 : Int).toNat)).toList)) (by rfl) rfl ?_ ?_
                       ·go_simp
                        (try simp only [i64_w])
                        try first | rfl | (simp [bne]; done)
                       refine hK.out _ _ ⟨v368, (by rw [ha.out]; exact putSel_upk 6 hb_ rfl rfl rfl), Q_HO_4, Q_HB, Q_HO369⟩
                      exact steps_nil
                     rintro b a w29 hall ⟨v368, ha, Q_HO_4, Q_HB, Q_HO369⟩
                     clear HB HO_4; have hb1_ := hall 1 (by kernel_rfl); have hb2_ := hall 2 (by kernel_rfl); have hb6_ := hall 6 (by kernel_rfl); have hb8_ := hall 8 (by kernel_rfl); have hb9_ := hall 9 (by kernel_rfl); have hb10_ := hall 10 (by kernel_rfl); have hb11_ := hall 11 (by kernel_rfl); subst ha; simp only [putSel, hb1_, hb2_, hb6_, hb8_, hb9_, hb10_, hb11_, if_true, Act.put, sA, s0, sS]; (try simp only [c20b0, c20b1])
                     have HO_4 := Aside0.mk Q_HO_4; clear Q_HO_4; have HB := Aside0.mk Q_HB; clear Q_HB; have HO369 := Aside0.mk (Q_HO369 hb1_); clear Q_HO369; clear hall hb1_ hb2_ hb6_ hb8_ hb9_ hb10_ hb11_; try go_wp2_with (first | ((with_reducible refine gate_dst (N := 58) rfl ?_); (try (refine gate_guard (by rfl) ?_; dsimp only)); refine Kd.R_lit (Kd.int .u8) _ 5 ?hg (N := 58) ?hd (xs := ([] : List Int)) (inner := []) (ok := fun _ => True) (okp := fun _ => True) ?hr ?hp (fun _ hk => hk) trivial (Below.refl _ _) (Nat.le_refl _) (by simp) ?_; (case hd => rfl); (case hg => rfl); (case hr => first | (go_simp; done) | (go_simp; rfl)); (case hp => exact (Reps.none _ _)); intro v372 w30 ho31 hb hg_ hnew_; clear hg_ hnew_; (first | rw [← Ny371.out] at ho31 | (simp only [Int.reduceToNat] at ho31; rw [← Ny371.out] at ho31)); have n0_ := Aside0.mk (Kd.S_elder' (by (with_reducible repeat (first | apply Kd.S_alloc | apply Kd.S_drewN | apply Kd.S_drew)); exact HO_4.out) (Kd.R_base ho31) hb); have n1_ := Aside0.mk (Kd.R_elder' (by (with_reducible repeat (first | apply rL | apply rN | apply rW)); exact HO369.out) (Kd.R_base ho31) hb); have n2_ := Aside0.mk (Kd.R_lower (Kd.R_new' ho31 (Kd.R_lt (by (with_reducible repeat (first | apply rL | apply rN | apply rW)); exact HO369.out))) (below_size (by repeat (first | (with_reducible first | exact HB.out | apply bA | apply bN | apply bD) | exact HB.out)))); have n3_ := Aside0.mk (below_step (by repeat (first | (with_reducible first | exact HB.out | apply bA | apply bN | apply bD) | exact HB.out)) hb); clear HO_4; clear HO369; clear HB; have HO_4 := n0_; have HO369 := n1_; have HO373 := n2_; have HB := n3_; clear n0_ n1_ n2_ n3_; clear hb ho31) | ((with_reducible refine gate_builtin (b := .append) (xs := #[.tmp 58, .tmp 59]) rfl ?_); (try (refine gate_guard (by rfl) ?_; dsimp only)); at_builtin; refine Kd.R_append_rows (Kd.int .u8) (w0 := w) w.heap.size rfl (.tmp 58) (.tmp 59) 24 5 (.int .u8 0) 1 rfl Tryd.underlying24 info5 rfl (by decide) (by omega) v372 y371 ((l0.take ((wrap64 ((ji12) + (wrap64 ((wrap64 (256 * (wrap64 (rd l0 x5_1)))) + (wrap64 (rd l0 (ji5))))))) : Int).toNat).drop ((ji12) : Int).toNat) _ _ _ (fun k_ => some k_ ≠ (v368 : Value).ownBlock) (fun _ => False) rfl rfl ?aO ?aR (fun _ _ h => h) (fun _ h => h.elim) ?aF ?aB ?aS ?aL ?_; (case aR => first | (rw [← show ((l0.take ((wrap64 ((ji12) + (wrap64 ((wrap64 (256 * (wrap64 (rd l0 x5_1)))) + (wrap64 (rd l0 (ji5))))))) : Int).toNat).drop ((ji12) : Int).toNat).length = ((wrap64 ((ji12) + (wrap64 ((wrap64 (256 * (wrap64 (rd l0 x5_1)))) + (wrap64 (rd l0 (ji5))))))).toNat - (ji12).toNat) from (by rw [List.length_drop, List.length_take]; have h_ : ((wrap64 ((ji12) + (wrap64 ((wrap64 (256 * (wrap64 (rd l0 x5_1)))) + (wrap64 (rd l0 (ji5))))))) : Int) ≤ (l0.length : Int) := of_decide_eq_true (by first | (with_reducible assumption) | assumption); omega)]; repeat (first | exact (Kd.C_below HR366.out HB.out) | (with_reducible refine Kd.C_alloc ?_ _) | (with_reducible refine Kd.C_drewN ?_ _) | (with_reducible refine Kd.C_drew ?_))) | (repeat (first | exact (Kd.C_below HR366.out HB.out) | (with_reducible refine Kd.C_alloc ?_ _) | (with_reducible refine Kd.C_drewN ?_ _) | (with_reducible refine Kd.C_drew ?_)))); (case aB => exact (by repeat (first | (with_reducible first | exact HB.out | apply bA | apply bN | apply bD) | exact HB.out))); (case aF => exact (fun k_ hk => Kd.fresh' (Kd.R_lt (by (with_reducible repeat (first | apply rL | apply rN | apply rW)); exact HO369.out)) k_ hk)); (case aO => exact (by (with_reducible repeat (first | apply rL | apply rN | apply rW)); exact Kd.R_mono HO373.out (fun _ hk => hk.2))); (case aS => exact (below_size (by repeat (first | (with_reducible first | exact HB.out | apply bA | apply bN | apply bD) | exact HB.out)))); (case aL => have := LMc21.out; have hlx_ := (show ((l0.take ((wrap64 ((ji12) + (wrap64 ((wrap64 (256 * (wrap64 (rd l0 x5_1)))) + (wrap64 (rd l0 (ji5))))))) : Int).toNat).drop ((ji12) : Int).toNat).length = ((wrap64 ((ji12) + (wrap64 ((wrap64 (256 * (wrap64 (rd l0 x5_1)))) + (wrap64 (rd l0 (ji5))))))).toNat - (ji12).toNat) from (by rw [List.length_drop, List.length_take]; have h_ : ((wrap64 ((ji12) + (wrap64 ((wrap64 (256 * (wrap64 (rd l0 x5_1)))) + (wrap64 (rd l0 (ji5))))))) : Int) ≤ (l0.length : Int) := of_decide_eq_true (by first | (with_reducible assumption) | assumption); omega)); omega); intro v375 w32 ho hb hg hat; rw [← Ny374.out] at ho; have n0_ := Aside0.mk (Kd.S_after (ok := (fun _ => True)) (by (with_reducible repeat (first | apply Kd.S_alloc | apply Kd.S_drewN | apply Kd.S_drew)); exact HO_4.out) hg hat); have n1_ := Aside0.mk (Kd.R_after (ok := (fun _ => True)) (by (with_reducible repeat (first | apply rL | apply rN | apply rW)); exact HO369.out) hg hat); have n2_ := Aside0.mk (hb); have n3_ := Aside0.mk (ho); clear HO_4; clear HO369; clear HB; clear HO373; have HO_4 := n0_; have HO369 := n1_; have HB := n2_; have HO376 := n3_; clear n0_ n1_ n2_ n3_; clear ho hb hg hat; obtain ⟨Ao34, co34, eo34⟩ := Kd.R_slice HO376.out; subst eo34) | ((with_reducible refine gate_builtin (b := .append) (xs := #[.tmp 57, .tmp 61]) rfl ?_); (try (refine gate_guard (by rfl) ?_; dsimp only)); at_builtin; refine Kd.S_append (Kd.slice 5 (Kd.int .u8)) (w0 := w) w.heap.size rfl (.tmp 57) (.tmp 61) 45 24 (.slice none 0 0) 24 rfl Tryd.underlying45 info24 rfl (by decide) (by omega) u4 x4_1 y374 [.slice Ao34 y374.length co34] (fun _ => True) (fun k_ => some k_ = (.slice Ao34 y374.length co34 : Value).ownBlock) rfl rfl ?aP (fun k_ hk_ => ((Kd.R_mono (ok' := fun k_ => ((fun _ => True)) k_ ∧ some k_ ≠ (u4 : Value).ownBlock) (Kd.R_apart' (HO376.out) (Kd.S_typed HO_4.out) (by decide)) (fun k_ hk => ⟨trivial, hk.2⟩))).1 k_ hk_.symm) ?aF ?aO ?aB ?aS ?aL ?_; (case aP => exact Kd.M_row (Kd.R_mono (Kd.R_tight rfl (Kd.R_mono (ok' := fun k_ => ((fun _ => True)) k_ ∧ some k_ ≠ (u4 : Value).ownBlock) (Kd.R_apart' (HO376.out) (Kd.S_typed HO_4.out) (by decide)) (fun k_ hk => ⟨trivial, hk.2⟩))) (fun _ h_ => h_))); (case aB => exact (by repeat (first | (with_reducible first | exact HB.out | apply bA | apply bN | apply bD) | exact HB.out))); (case aF => exact (fun _ _ => trivial)); (case aO => exact (by (with_reducible repeat (first | apply Kd.S_alloc | apply Kd.S_drewN | apply Kd.S_drew)); exact Kd.S_mono HO_4.out (fun k_ hk => ⟨trivial, fun e_ => hk.2 e_⟩))); (case aS => exact (below_size (by repeat (first | (with_reducible first | exact HB.out | apply bA | apply bN | apply bD) | exact HB.out)))); (case aL => have := LMc22.out; omega); intro v378 w33 ho hb hg hat; rw [← Ny377.out] at ho; have n0_ := Aside0.mk (Kd.R_over' (by (with_reducible repeat (first | apply rL | apply rN | apply rW)); exact HO369.out) (Kd.S_typed (by (with_reducible repeat (first | apply Kd.S_alloc | apply Kd.S_drewN | apply Kd.S_drew)); exact HO_4.out)) (by decide) hg); have n1_ := Aside0.mk (hb); have n2_ := Aside0.mk (ho); clear HO369; clear HB; clear HO_4; clear HO376; have HO369 := n0_; have HB := n1_; have HO379 := n2_; clear n0_ n1_ n2_; clear ho hb hg hat))
                     go_roundg kj7
                     case measure => have := HK1.out; have := HJ7.out; omega
                     case rel => exact ⟨(y377), (wrap64 ((wrap64 (x5_1 + 6)) + (wrap64 ((wrap64 (256 * (wrap64 (rd l0 x5_1)))) + (wrap64 (rd l0 (ji5))))))), (by first | rfl | (simp; done) | (simp only [← hji5] <;> (first | rfl | simp)) | (simp [*]; done)), H', ⟨by have := HK1.out; have := HJ7.out; omega⟩, ⟨by (with_reducible repeat (first | apply Kd.S_alloc | apply Kd.S_drewN | apply Kd.S_drew)); exact HO379.out⟩, ⟨by repeat (first | (with_reducible first | exact HB.out | apply bA | apply bN | apply bD) | exact HB.out)⟩⟩
                    ·rw [if_neg c22] at H
                     exact absurd H (by simp)
                   ·rw [if_neg c21] at H
                    exact absurd H (by simp)
                  ·rw [if_neg c20] at H
                   have c20b0 : ((strOfNums t367).toList == (strOfNums ((l0.take ((wrap64 ((wrap64 (x5_1 + 6)) + (wrap64 ((wrap64 (256 * (wrap64 (rd l0 x5_1)))) + (wrap64 (rd l0 (ji5))))))) : Int).toNat).drop (x5_1 : Int).toNat)).toList) = false := beq_eq_false_iff_ne.mpr c20
                   have c20b1 : ((strOfNums t367).toList != (strOfNums ((l0.take ((wrap64 ((wrap64 (x5_1 + 6)) + (wrap64 ((wrap64 (256 * (wrap64 (rd l0 x5_1)))) + (wrap64 (rd l0 (ji5))))))) : Int).toNat).drop (x5_1 : Int).toNat)).toList) = true := bne_iff_ne.mpr c20
                   (try (have c20h23 := c20b0; simp only [hsl23_.out, Int.ofNat_toNat] at c20h23))
                   (try (have c20h24 := c20b0; simp only [hsl24_.out, Int.ofNat_toNat] at c20h24))
                   (try (have c20h23 := c20b0; simp only [hsl23_.out, Int.ofNat_toNat] at c20h23))
                   (try (have c20h23 := c20b0; simp only [hsl23_.out, Int.ofNat_toNat] at c20h23))
                   (try (have c20h23 := c20b0; simp only [hsl23_.out, Int.ofNat_toNat] at c20h23))
                   (try (have c20h23 := c20b0; simp only [hsl23_.out, Int.ofNat_toNat] at c20h23))
                   (try (have c20h23 := c20b0; simp only [hsl23_.out, Int.ofNat_toNat] at c20h23))
                   (try (have c20h23 := c20b0; simp only [hsl23_.out, Int.ofNat_toNat] at c20h23))
                   (try (have c20h23 := c20b0; simp only [hsl23_.out, Int.ofNat_toNat] at c20h23))
                   simp only [Option.some.injEq, Prod.mk.injEq] at H
                   obtain ⟨rfl, rfl⟩ := H
                   obtain ⟨i035, hi035, _, hsz35, _⟩ := info_parts info5
                   obtain ⟨A35, hcut35, hA35, hC35⟩ := print_mid_of (P := Tryd.prog) (Value.int .u8) 0 24 5 .i64 .i64 Tryd.underlying24 hi035 hsz35 (some ad364) c0 l0 (ji12) (wrap64 ((ji12) + (wrap64 ((wrap64 (256 * (wrap64 (rd l0 x5_1)))) + (wrap64 (rd l0 (ji5))))))) (of_decide_eq_true (by first | (with_reducible assumption) | assumption)) (by first | omega | exact of_decide_eq_true (by first | (with_reducible assumption) | assumption)) (of_decide_eq_true (by first | (with_reducible assumption) | assumption)) HC0.out
                   have HR366 := Aside0.mk (Kd.C_of_reads (h1 := fun _ => rfl) (hA35 _ (Kd.reads_of_C HR0.out))); have HC366 := Aside0.mk hC35; clear hA35 hC35 hi035 hsz35; (try (have hsl35_ : Aside0 (((l0.take ((wrap64 ((ji12) + (wrap64 ((wrap64 (256 * (wrap64 (rd l0 x5_1)))) + (wrap64 (rd l0 (ji5))))))) : Int).toNat).drop ((ji12) : Int).toNat).length = ((wrap64 ((ji12) + (wrap64 ((wrap64 (256 * (wrap64 (rd l0 x5_1)))) + (wrap64 (rd l0 (ji5))))))).toNat - (ji12).toNat)) := ⟨(by rw [List.length_drop, List.length_take]; have h_ : ((wrap64 ((ji12) + (wrap64 ((wrap64 (256 * (wrap64 (rd l0 x5_1)))) + (wrap64 (rd l0 (ji5))))))) : Int) ≤ (l0.length : Int) := of_decide_eq_true (by first | (with_reducible assumption) | assumption); omega)⟩))
                   obtain ⟨i036, hi036, _, hsz36, _⟩ := info_parts info5
                   obtain ⟨A36, hcut36, hA36, hC36⟩ := print_mid_of (P := Tryd.prog) (Value.int .u8) 0 24 5 .i64 .i64 Tryd.underlying24 hi036 hsz36 (some ad364) c0 l0 x5_1 (wrap64 ((wrap64 (x5_1 + 6)) + (wrap64 ((wrap64 (256 * (wrap64 (rd l0 x5_1)))) + (wrap64 (rd l0 (ji5))))))) (of_decide_eq_true (by first | (with_reducible assumption) | assumption)) (by first | omega | exact of_decide_eq_true (by first | (with_reducible assumption) | assumption)) (of_decide_eq_true (by first | (with_reducible assumption) | assumption)) HC0.out
                   have HR370 := Aside0.mk (Kd.C_of_reads (h1 := fun _ => rfl) (hA36 _ (Kd.reads_of_C HR0.out))); have HC370 := Aside0.mk hC36; clear hA36 hC36 hi036 hsz36; (try (have hsl36_ : Aside0 (((l0.take ((wrap64 ((wrap64 (x5_1 + 6)) + (wrap64 ((wrap64 (256 * (wrap64 (rd l0 x5_1)))) + (wrap64 (rd l0 (ji5))))))) : Int).toNat).drop (x5_1 : Int).toNat).length = ((wrap64 ((wrap64 (x5_1 + 6)) + (wrap64 ((wrap64 (256 * (wrap64 (rd l0 x5_1)))) + (wrap64 (rd l0 (ji5))))))).toNat - x5_1.toNat)) := ⟨(by rw [List.length_drop, List.length_take]; have h_ : ((wrap64 ((wrap64 (x5_1 + 6)) + (wrap64 ((wrap64 (256 * (wrap64 (rd l0 x5_1)))) + (wrap64 (rd l0 (ji5))))))) : Int) ≤ (l0.length : Int) := of_decide_eq_true (by first | (with_reducible assumption) | assumption); omega)⟩))
                   try go_wp2
                   have n0_ := Aside0.mk (Kd.S_drew HO_4.out); have n1_ := Aside0.mk (below_drew1 HB.out); clear HO_4; clear HB; have HO_4 := n0_; have HB := n1_; clear n0_ n1_; refine start_ (n := 12) (S := fun w' => True) (ds := []) #[false, false, false, false, false, false, false, false, false, false, false, false] (by kernel_rfl) rfl rfl trivial (fun hHeld => ?_); refine with_tabW wristbandref18_Row.tab7 wristbandref18_Row.bits7 (fun HT_ HW_ => ?_)
                   generalize wc.drew = w37 at HO_4 HB hHeld ⊢
                   refine pu_ 0 45 (rA [1,11]) HT_ (by kernel_rfl) rfl rfl (fun _ _ _ => id) (.inl ⟨by rfl, fun w' => by go_simp; with_reducible rfl⟩) (by simp only [Act.put, sA, s0, sS, i64_w, i32_w]; rfl) ?_
                   refine pu_ 3 48 (rA [1,2,1,8]) HT_ (by kernel_rfl) rfl rfl (fun _ _ _ => id) (.inl ⟨by rfl, fun w' => by go_simp; with_reducible rfl⟩) (by simp only [Act.put, sA, s0, sS, i64_w, i32_w]; rfl) ?_
                   refine pu_ 4 49 (rA [1,2,2,7]) HT_ (by kernel_rfl) rfl rfl (fun _ _ _ => id) (.inl ⟨by rfl, fun w' => by go_simp; with_reducible rfl⟩) (by simp only [Act.put, sA, s0, sS, i64_w, i32_w]; rfl) ?_
                   refine pu_ 5 50 (rA [1,2,3,6]) HT_ (by kernel_rfl) rfl rfl (fun _ _ _ => id) (.inl ⟨by rfl, fun w' => by go_simp; with_reducible rfl⟩) (by simp only [Act.put, sA, s0, sS, i64_w, i32_w]; rfl) ?_
                   refine pu_ 7 52 (rA [1,2,3,1,1,4]) HT_ (by kernel_rfl) rfl rfl (fun _ _ _ => id) (.inl ⟨by rfl, fun w' => by go_simp; with_reducible rfl⟩) (by simp only [Act.put, sA, s0, sS, i64_w, i32_w]; rfl) ?_
                   refine inv_at [1, 2, 6, 8, 9, 10, 11] (fun a0_ b a w' => ∃ (v368 : Value), a = putSel a0_ b [(1, 46, v368), (2, 47, .string (strOfNums t367)), (6, 51, .int .i64 (wrap64 (x5_1 + 6))), (8, 53, .int .i64 (wrap64 ((wrap64 (x5_1 + 6)) + (wrap64 ((wrap64 (256 * (wrap64 (rd l0 x5_1)))) + (wrap64 (rd l0 (ji5)))))))), (9, 54, .slice A36 ((l0.take ((wrap64 ((wrap64 (x5_1 + 6)) + (wrap64 ((wrap64 (256 * (wrap64 (rd l0 x5_1)))) + (wrap64 (rd l0 (ji5))))))) : Int).toNat).drop (x5_1 : Int).toNat).length (c0 - x5_1.toNat)), (10, 55, .string (strOfNums ((l0.take ((wrap64 ((wrap64 (x5_1 + 6)) + (wrap64 ((wrap64 (256 * (wrap64 (rd l0 x5_1)))) + (wrap64 (rd l0 (ji5))))))) : Int).toNat).drop (x5_1 : Int).toNat))), (11, 56, .bool ((strOfNums t367).toList != (strOfNums ((l0.take ((wrap64 ((wrap64 (x5_1 + 6)) + (wrap64 ((wrap64 (256 * (wrap64 (rd l0 x5_1)))) + (wrap64 (rd l0 (ji5))))))) : Int).toNat).drop (x5_1 : Int).toNat)).toList))] ∧ (Kd.S (Kd.slice 5 (Kd.int .u8)) 24 w' w.heap.size (fun _ => True) u4 x4_1) ∧ (Below w.heap.size w w') ∧ (b 1 = true → Kd.R (Kd.int .u8) 5 w' w.heap.size (fun _ => True) v368 t367)) HT_.out HW_.out (by kernel_rfl) (by kernel_rfl) ?_ ?_ ?_
                   ·exact ⟨.bool false, by simp only [putSel, Bool.false_eq_true, if_false], HO_4.out, HB.out, fun h_ => absurd h_ (by decide)⟩
                   ·skip
                    clear HB HO_4; refine steps_cons ?_ ?_
                    ·rintro b a w' ⟨v368, ha, Q_HO_4, Q_HB, Q_HO369⟩ hb_ hon hoff
                     refine ⟨_, rfl, fun K hK => ?_⟩; have e45 : a.tmps[45]? = some (.slice A35 ((l0.take ((wrap64 ((ji12) + (wrap64 ((wrap64 (256 * (wrap64 (rd l0 x5_1)))) + (wrap64 (rd l0 (ji5))))))) : Int).toNat).drop ((ji12) : Int).toNat).length (c0 - (ji12).toNat)) := by rw [ha]; first | exact (putSel_off rfl).trans rfl | (rw [hsl35_.out]; exact (putSel_off rfl).trans rfl)
                     replace ha := Aside0.mk ha; have HO_4 := Aside0.mk Q_HO_4; have HB := Aside0.mk Q_HB; refine goes_ Tryd.func36 (by kernel_rfl) rfl #[.slice A35 ((l0.take ((wrap64 ((ji12) + (wrap64 ((wrap64 (256 * (wrap64 (rd l0 x5_1)))) + (wrap64 (rd l0 (ji5))))))) : Int).toNat).drop ((ji12) : Int).toNat).length (c0 - (ji12).toNat)] (by first | rfl | (simp [Region.wanted, yielded, *]; done)) rfl rfl (by (try simp only [mT, mC, mN]); first | done | (rw [hsl35_.out] <;> rfl) | (rw [show ((l0.take ((wrap64 ((ji12) + (wrap64 ((wrap64 (256 * (wrap64 (rd l0 x5_1)))) + (wrap64 (rd l0 (ji5))))))) : Int).toNat).drop ((ji12) : Int).toNat).length = ((wrap64 ((ji12) + (wrap64 ((wrap64 (256 * (wrap64 (rd l0 x5_1)))) + (wrap64 (rd l0 (ji5))))))).toNat - (ji12).toNat) from (by rw [List.length_drop, List.length_take]; have h_ : ((wrap64 ((ji12) + (wrap64 ((wrap64 (256 * (wrap64 (rd l0 x5_1)))) + (wrap64 (rd l0 (ji5))))))) : Int) ≤ (l0.length : Int) := of_decide_eq_true (by first | (with_reducible assumption) | assumption); omega)] <;> rfl) | (simp only [hji12, hji5]; rfl) | rfl | (simp only [Act.eval, gD, oG, e45]; done) | (simp only [List.length_drop, List.length_take]; rfl)) ?_
                     with_reducible refine (wristbandref18_Put.calls kj7 _ _ ((l0.take ((wrap64 ((ji12) + (wrap64 ((wrap64 (256 * (wrap64 (rd l0 x5_1)))) + (wrap64 (rd l0 (ji5))))))) : Int).toNat).drop ((ji12) : Int).toNat) t367 _ ?side1 ?side2 A16.out).mono ?_
                     (case side1 => repeat (first | exact (Kd.C_below HR366.out HB.out) | (with_reducible refine Kd.C_alloc ?_ _) | (with_reducible refine Kd.C_drewN ?_ _) | (with_reducible refine Kd.C_drew ?_)))
                     (case side2 => exact HC366.out)
                     rintro e w37 ⟨v368, rfl, ho0, hb⟩
                     refine ⟨_, rfl, ?_⟩; have n0_ := Aside0.mk (Kd.S_elder' (by (with_reducible repeat (first | apply Kd.S_alloc | apply Kd.S_drewN | apply Kd.S_drew)); exact HO_4.out) (Kd.R_base ho0) hb); have n1_ := Aside0.mk (Kd.R_lower ho0 (below_size (by repeat (first | (with_reducible first | exact HB.out | apply bA | apply bN | apply bD) | exact HB.out)))); have n2_ := Aside0.mk (below_step (by repeat (first | (with_reducible first | exact HB.out | apply bA | apply bN | apply bD) | exact HB.out)) hb); clear HO_4; clear HB; have HO_4 := n0_; have HO369 := n1_; have HB := n2_; clear n0_ n1_ n2_; (try clear hb); (try clear hb2); (try clear hk); (try clear hi); (try clear ho0); refine hK.out _ _ ⟨v368, (by rw [ha.out]; exact putSel_upk 0 hb_ rfl rfl rfl), (by (with_reducible repeat (first | apply Kd.S_alloc | apply Kd.S_drewN | apply Kd.S_drew)); first | exact Kd.S_mono HO_4.out (fun _ hk => hk.2) | exact Kd.S_mono (HO_4.out) (fun _ hk => by first | trivial | exact hk | exact hk.1 | ((repeat' apply And.intro) <;> first | exact hk.2 | exact hk.1.2 | exact hk.1.1.2))), (by repeat (first | (with_reducible first | exact HB.out | apply bA | apply bN | apply bD) | exact HB.out)), fun _ => (by (with_reducible repeat (first | apply rL | apply rN | apply rW)); exact HO369.out)⟩
                    refine steps_cons ?_ ?_
                    ·rintro b a w' ⟨v368, ha, Q_HO_4, Q_HB, Q_HO369⟩ hb_ hon hoff
                     refine ⟨_, rfl, fun K hK => ?_⟩; have e46 : a.tmps[46]? = some (v368) := by rw [ha]; exact putSel_on (e := (1, 46, v368)) 0 rfl rfl (hon 1 (by kernel_rfl)) rfl
                     replace ha := Aside0.mk ha; have HO_4 := Aside0.mk Q_HO_4; have HB := Aside0.mk Q_HB; have HO369 := Aside0.mk (Q_HO369 (hon 1 (by kernel_rfl))); refine str_step (src := 24) (dst := 9) (x := .tmp 46) ?hw ?ho ?hx (v := v368) (s := strOfNums t367) (by obtain ⟨A_, c_, rfl⟩ := Kd.R_slice HO369.out; exact Kd.C_string (P := Tryd.prog) (A := A_) (c := c_) Tryd.underlying24 Tryd.underlying5 Tryd.underlying9 (Kd.R_reads' (by (with_reducible repeat (first | apply rL | apply rN | apply rW)); exact HO369.out)).2.2) ?_
                     case ho => rfl
                     case hw => first | rfl | (simp [Region.wanted, yielded, *]; done)
                     case hx => first | rfl | (simp only [Act.eval, gD, oG, e46]; done)
                     intro w39 hb; have n0_ := Aside0.mk (Kd.S_below (by (with_reducible repeat (first | apply Kd.S_alloc | apply Kd.S_drewN | apply Kd.S_drew)); exact HO_4.out) hb)
                     have n1_ := Aside0.mk (Kd.R_below (by (with_reducible repeat (first | apply rL | apply rN | apply rW)); exact HO369.out) hb); have n2_ := Aside0.mk (below_step (by repeat (first | (with_reducible first | exact HB.out | apply bA | apply bN | apply bD) | exact HB.out)) hb); clear HO_4; clear HO369; clear HB; have HO_4 := n0_; have HO369 := n1_; have HB := n2_; clear n0_ n1_ n2_; (try clear hb); refine hK.out _ _ ⟨v368, (by rw [ha.out]; exact putSel_upk 1 hb_ rfl rfl rfl), (by (with_reducible repeat (first | apply Kd.S_alloc | apply Kd.S_drewN | apply Kd.S_drew)); first | exact HO_4.out | exact Kd.S_mono (HO_4.out) (fun _ hk => by first | trivial | exact hk | exact hk.1 | ((repeat' apply And.intro) <;> first | exact hk.2 | exact hk.1.2 | exact hk.1.1.2))), (by repeat (first | (with_reducible first | exact HB.out | apply bA | apply bN | apply bD) | exact HB.out)), fun _ => (by (with_reducible repeat (first | apply rL | apply rN | apply rW)); exact HO369.out)⟩
                    refine steps_cons ?_ ?_
                    ·rintro b a w' ⟨v368, ha, Q_HO_4, Q_HB, Q_HO369⟩ hb_ hon hoff
                     refine ⟨_, rfl, fun K hK => ?_⟩; have e50 : a.tmps[50]? = some (.int .i64 x5_1) := by rw [ha]; exact (putSel_off rfl).trans rfl
                     replace ha := Aside0.mk ha; have HO_4 := Aside0.mk Q_HO_4; have HB := Aside0.mk Q_HB; refine value_ (w1 := w') (v := .int .i64 (wrap64 (x5_1 + 6))) (by rfl) rfl ?_ ?_
                     ·go_simp
                      (try simp only [i64_w])
                      try first | rfl | (simp [bne]; done)
                     refine hK.out _ _ ⟨v368, (by rw [ha.out]; exact putSel_upk 2 hb_ rfl rfl rfl), Q_HO_4, Q_HB, Q_HO369⟩
                    refine steps_cons ?_ ?_
                    ·rintro b a w' ⟨v368, ha, Q_HO_4, Q_HB, Q_HO369⟩ hb_ hon hoff
                     refine ⟨_, rfl, fun K hK => ?_⟩; have e51 : a.tmps[51]? = some (.int .i64 (wrap64 (x5_1 + 6))) := by rw [ha]; exact putSel_on (e := (6, 51, .int .i64 (wrap64 (x5_1 + 6)))) 2 rfl rfl (hon 6 (by kernel_rfl)) rfl
                     have e52 : a.tmps[52]? = some (.int .i64 (wrap64 ((wrap64 (256 * (wrap64 (rd l0 x5_1)))) + (wrap64 (rd l0 (ji5)))))) := by rw [ha]; exact (putSel_off rfl).trans rfl
                     replace ha := Aside0.mk ha; have HO_4 := Aside0.mk Q_HO_4; have HB := Aside0.mk Q_HB; refine value_ (w1 := w') (v := .int .i64 (wrap64 ((wrap64 (x5_1 + 6)) + (wrap64 ((wrap64 (256 * (wrap64 (rd l0 x5_1)))) + (wrap64 (rd l0 (ji5)))))))) (by rfl) rfl ?_ ?_
                     ·go_simp
                      (try simp only [i64_w])
                      try first | rfl | (simp [bne]; done)
                     refine hK.out _ _ ⟨v368, (by rw [ha.out]; exact putSel_upk 3 hb_ rfl rfl rfl), Q_HO_4, Q_HB, Q_HO369⟩
                    refine steps_cons ?_ ?_
                    ·rintro b a w' ⟨v368, ha, Q_HO_4, Q_HB, Q_HO369⟩ hb_ hon hoff
                     refine ⟨_, rfl, fun K hK => ?_⟩; have e48 : a.tmps[48]? = some (.slice (some ad364) l0.length c0) := by rw [ha]; exact (putSel_off rfl).trans rfl
                     have e49 : a.tmps[49]? = some (.int .i64 x5_1) := by rw [ha]; exact (putSel_off rfl).trans rfl
                     have e53 : a.tmps[53]? = some (.int .i64 (wrap64 ((wrap64 (x5_1 + 6)) + (wrap64 ((wrap64 (256 * (wrap64 (rd l0 x5_1)))) + (wrap64 (rd l0 (ji5)))))))) := by rw [ha]; exact putSel_on (e := (8, 53, .int .i64 (wrap64 ((wrap64 (x5_1 + 6)) + (wrap64 ((wrap64 (256 * (wrap64 (rd l0 x5_1)))) + (wrap64 (rd l0 (ji5))))))))) 3 rfl rfl (hon 8 (by kernel_rfl)) rfl
                     replace ha := Aside0.mk ha; have HO_4 := Aside0.mk Q_HO_4; have HB := Aside0.mk Q_HB; refine value_ (w1 := w') (v := .slice A36 ((l0.take ((wrap64 ((wrap64 (x5_1 + 6)) + (wrap64 ((wrap64 (256 * (wrap64 (rd l0 x5_1)))) + (wrap64 (rd l0 (ji5))))))) : Int).toNat).drop (x5_1 : Int).toNat).length (c0 - x5_1.toNat)) (by rfl) rfl ?_ ?_
                     ·go_simp
                      (try simp only [i64_w])
                      try first | rfl | (simp [bne]; done)
                     refine hK.out _ _ ⟨v368, (by rw [ha.out]; exact putSel_upk 4 hb_ rfl rfl rfl), Q_HO_4, Q_HB, Q_HO369⟩
                    refine steps_cons ?_ ?_
                    ·rintro b a w' ⟨v368, ha, Q_HO_4, Q_HB, Q_HO369⟩ hb_ hon hoff
                     refine ⟨_, rfl, fun K hK => ?_⟩; have e54 : a.tmps[54]? = some (.slice A36 ((l0.take ((wrap64 ((wrap64 (x5_1 + 6)) + (wrap64 ((wrap64 (256 * (wrap64 (rd l0 x5_1)))) + (wrap64 (rd l0 (ji5))))))) : Int).toNat).drop (x5_1 : Int).toNat).length (c0 - x5_1.toNat)) := by rw [ha]; exact putSel_on (e := (9, 54, .slice A36 ((l0.take ((wrap64 ((wrap64 (x5_1 + 6)) + (wrap64 ((wrap64 (256 * (wrap64 (rd l0 x5_1)))) + (wrap64 (rd l0 (ji5))))))) : Int).toNat).drop (x5_1 : Int).toNat).length (c0 - x5_1.toNat))) 4 rfl rfl (hon 9 (by kernel_rfl)) rfl
                     replace ha := Aside0.mk ha; have HO_4 := Aside0.mk Q_HO_4; have HB := Aside0.mk Q_HB; refine str_step (src := 24) (dst := 9) (x := .tmp 54) ?hw ?ho ?hx (Kd.C_string (P := Tryd.prog) (A := A36) (c := (c0 - x5_1.toNat)) Tryd.underlying24 Tryd.underlying5 Tryd.underlying9 (Kd.C_below HR370.out HB.out)) ?_
                     case ho => rfl
                     case hw => first | rfl | (simp [Region.wanted, yielded, *]; done)
                     case hx => first | rfl | (simp only [Act.eval, gD, oG, e54]; done)
                     intro w37 hb; have n0_ := Aside0.mk (Kd.S_below (by (with_reducible repeat (first | apply Kd.S_alloc | apply Kd.S_drewN | apply Kd.S_drew)); exact HO_4.out) hb)
                     have n1_ := Aside0.mk (below_step (by repeat (first | (with_reducible first | exact HB.out | apply bA | apply bN | apply bD) | exact HB.out)) hb); have z_HO369 := fun (h0_ : b 1 = true) => (show Kd.R (Kd.int .u8) 5 w37 w.heap.size (fun _ => True) v368 t367 from by first | exact (Kd.R_below (by (with_reducible repeat (first | apply rL | apply rN | apply rW)); exact (Q_HO369 h0_)) hb) | exact Kd.R_mono (Kd.R_below (by (with_reducible repeat (first | apply rL | apply rN | apply rW)); exact (Q_HO369 h0_)) hb) (fun _ h_ => by first | trivial | exact h_ | exact h_.1))
                     clear HO_4; clear HB; have HO_4 := n0_; have HB := n1_; clear n0_ n1_; (try clear hb); refine hK.out _ _ ⟨v368, (by rw [ha.out]; exact putSel_upk 5 hb_ rfl rfl rfl), (by (with_reducible repeat (first | apply Kd.S_alloc | apply Kd.S_drewN | apply Kd.S_drew)); exact HO_4.out), (by repeat (first | (with_reducible first | exact HB.out | apply bA | apply bN | apply bD) | exact HB.out)), z_HO369⟩
                    refine steps_cons ?_ ?_
                    ·rintro b a w' ⟨v368, ha, Q_HO_4, Q_HB, Q_HO369⟩ hb_ hon hoff
                     refine ⟨_, rfl, fun K hK => ?_⟩; have e47 : a.tmps[47]? = some (.string (strOfNums t367)) := by rw [ha]; exact putSel_on (e := (2, 47, .string (strOfNums t367))) 1 rfl rfl (hon 2 (by kernel_rfl)) rfl
                     have e55 : a.tmps[55]? = some (.string (strOfNums ((l0.take ((wrap64 ((wrap64 (x5_1 + 6)) + (wrap64 ((wrap64 (256 * (wrap64 (rd l0 x5_1)))) + (wrap64 (rd l0 (ji5))))))) : Int).toNat).drop (x5_1 : Int).toNat))) := by rw [ha]; exact putSel_on (e := (10, 55, .string (strOfNums ((l0.take ((wrap64 ((wrap64 (x5_1 + 6)) + (wrap64 ((wrap64 (256 * (wrap64 (rd l0 x5_1)))) + (wrap64 (rd l0 (ji5))))))) : Int).toNat).drop (x5_1 : Int).toNat)))) 5 rfl rfl (hon 10 (by kernel_rfl)) rfl
                     replace ha := Aside0.mk ha; have HO_4 := Aside0.mk Q_HO_4; have HB := Aside0.mk Q_HB; have HO369 := Aside0.mk (Q_HO369 (hon 1 (by kernel_rfl))); refine value_ (w1 := w') (v := .bool ((strOfNums t367).toList != (strOfNums ((l0.take ((wrap64 ((wrap64 (x5_1 + 6)) + (wrap64 ((wrap64 (256 * (wrap64 (rd l0 x5_1)))) + (wrap64 (rd l0 (ji5))))))) : Int).toNat).drop (x5_1 : Int).toNat)).toList)) (by rfl) rfl ?_ ?_
                     ·go_simp
                      (try simp only [i64_w])
                      try first | rfl | (simp [bne]; done)
                     refine hK.out _ _ ⟨v368, (by rw [ha.out]; exact putSel_upk 6 hb_ rfl rfl rfl), Q_HO_4, Q_HB, Q_HO369⟩
                    exact steps_nil
                   rintro b a w41 hall ⟨v368, ha, Q_HO_4, Q_HB, Q_HO369⟩
                   clear HB HO_4; have hb1_ := hall 1 (by kernel_rfl); have hb2_ := hall 2 (by kernel_rfl); have hb6_ := hall 6 (by kernel_rfl); have hb8_ := hall 8 (by kernel_rfl); have hb9_ := hall 9 (by kernel_rfl); have hb10_ := hall 10 (by kernel_rfl); have hb11_ := hall 11 (by kernel_rfl); subst ha; simp only [putSel, hb1_, hb2_, hb6_, hb8_, hb9_, hb10_, hb11_, if_true, Act.put, sA, s0, sS]; (try simp only [c20b0, c20b1])
                   have HO_4 := Aside0.mk Q_HO_4; clear Q_HO_4; have HB := Aside0.mk Q_HB; clear Q_HB; have HO369 := Aside0.mk (Q_HO369 hb1_); clear Q_HO369; clear hall hb1_ hb2_ hb6_ hb8_ hb9_ hb10_ hb11_; try go_wp2
                   go_ret2
                   exact ⟨_, by first | rfl | (simp [errW_none, errW_some] <;> rfl) | (simp only [← hji5, ← hji12]; first | rfl | (simp [errW_none, errW_some] <;> rfl)) | (simp [*, errW_none, errW_some] <;> rfl), by (with_reducible repeat (first | apply Kd.S_alloc | apply Kd.S_drewN | apply Kd.S_drew)); exact HO_4.out, by repeat (first | (with_reducible first | exact HB.out | apply bA | apply bN | apply bD) | exact HB.out)⟩
                 ·rw [if_neg c19] at H
                  exact absurd H (by simp)
                ·rw [if_neg c18] at H
                 exact absurd H (by simp)
               ·rw [if_neg c17] at H
                exact absurd H (by simp)
              ·rw [if_neg c15] at H
               exact absurd H (by simp)
             ·rw [if_neg c14] at H
              exact absurd H (by simp)
            ·rw [if_neg c13] at H
             exact absurd H (by simp)
        ·rw [if_neg c7] at H
         exact absurd H (by simp)
       ·rw [if_neg c6] at H
        exact absurd H (by simp)
      ·rw [if_neg c4] at H
       exact absurd H (by simp)
     ·rw [if_neg c3] at H
      exact absurd H (by simp)
    ·rw [if_neg c2] at H
     have c2b0 : decide (6 ≤ (wrap64 ((l0.length : Int) - x5_1))) = false := decide_eq_false c2
     (try (have c2h23 := c2b0; simp only [hsl23_.out, Int.ofNat_toNat] at c2h23))
     (try (have c2h24 := c2b0; simp only [hsl24_.out, Int.ofNat_toNat] at c2h24))
     (try (have c2h23 := c2b0; simp only [hsl23_.out, Int.ofNat_toNat] at c2h23))
     (try (have c2h23 := c2b0; simp only [hsl23_.out, Int.ofNat_toNat] at c2h23))
     (try (have c2h23 := c2b0; simp only [hsl23_.out, Int.ofNat_toNat] at c2h23))
     (try (have c2h23 := c2b0; simp only [hsl23_.out, Int.ofNat_toNat] at c2h23))
     (try (have c2h23 := c2b0; simp only [hsl23_.out, Int.ofNat_toNat] at c2h23))
     (try (have c2h23 := c2b0; simp only [hsl23_.out, Int.ofNat_toNat] at c2h23))
     (try (have c2h23 := c2b0; simp only [hsl23_.out, Int.ofNat_toNat] at c2h23))
     (try (have c2h35 := c2b0; simp only [hsl35_.out, Int.ofNat_toNat] at c2h35))
     (try (have c2h36 := c2b0; simp only [hsl36_.out, Int.ofNat_toNat] at c2h36))
     (try (have c2h35 := c2b0; simp only [hsl35_.out, Int.ofNat_toNat] at c2h35))
     (try (have c2h35 := c2b0; simp only [hsl35_.out, Int.ofNat_toNat] at c2h35))
     (try (have c2h35 := c2b0; simp only [hsl35_.out, Int.ofNat_toNat] at c2h35))
     (try (have c2h35 := c2b0; simp only [hsl35_.out, Int.ofNat_toNat] at c2h35))
     (try (have c2h35 := c2b0; simp only [hsl35_.out, Int.ofNat_toNat] at c2h35))
     (try (have c2h35 := c2b0; simp only [hsl35_.out, Int.ofNat_toNat] at c2h35))
     (try (have c2h35 := c2b0; simp only [hsl35_.out, Int.ofNat_toNat] at c2h35))
     clear c2; simp only [Option.some.injEq, Prod.mk.injEq] at H
     obtain ⟨rfl, rfl⟩ := H
     go_wp2
     go_ret2
     exact ⟨_, by first | rfl | (simp [errW_none, errW_some] <;> rfl) | (simp [*, errW_none, errW_some] <;> rfl), by (with_reducible repeat (first | apply Kd.S_alloc | apply Kd.S_drewN | apply Kd.S_drew)); exact HO_4.out, by repeat (first | (with_reducible first | exact HB.out | apply bA | apply bN | apply bD) | exact HB.out)⟩

end Go.Proofs.YtnpkhkhlofkbhaaDoor.PSlipRight
