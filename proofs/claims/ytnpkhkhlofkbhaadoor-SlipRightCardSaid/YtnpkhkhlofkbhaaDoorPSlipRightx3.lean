-- made by a program of this session (its printer) out of what Lean prints of the given program
import Derived.Test.YtnpkhkhlofkbhaaDoorPSlipRightx0
import Derived.Test.YtnpkhkhlofkbhaaDoorPSlipRightx1
import Derived.Test.YtnpkhkhlofkbhaaDoorPSlipRightx2
namespace Go.Proofs.YtnpkhkhlofkbhaaDoor.PSlipRight
open Go.RowKit Go.Proofs.YtnpkhkhlofkbhaaDoorW.PrintWords Go.Proofs.YtnpkhkhlofkbhaaDoorW.PrintLast Go.Proofs.YtnpkhkhlofkbhaaDoorW.PrintMore
attribute [local go_sem] max2_int min2_int max_two min_two max_three min_three max_four min_four   -- for this text's walks alone
set_option linter.unusedVariables false
set_option linter.unusedSimpArgs false

/-! ### slip_Put: function 33 -/
def slip_Put.f (k : Nat) (l0 : List Int) : Option (List Int × Int) := if (l0.length : Int) > 60000 then (some (([] : List Int), 4)) else ((word_Put.f k (IntKind.u64.wrap ((l0.length : Int)))).bind fun t147 => (if 0 ≤ (wrap64 ((t147.length : Int) - 2)) then (if (wrap64 ((t147.length : Int) - 2)) ≤ (t147.length : Int) then ((slices_Concat_byte_byte.f (([(t147.drop ((wrap64 ((t147.length : Int) - 2)) : Int).toNat), l0] : List (List Int)))).bind fun t158 => ((slip_sealed.f k t158).bind fun t161 => (some (t161, 0)))) else (none)) else (none)))
theorem slip_Put.mono : ∀ a0 k, LeO (slip_Put.f k a0) (slip_Put.f (k + 1) a0) := by
  intro a0 k; unfold slip_Put.f
  repeat' first
    | (with_reducible exact slip_sealed.mono _ _)
    | (with_reducible exact word_Put.mono _ _)
    | (with_reducible exact LeO.refl _)
    | (with_reducible exact LeO.none _)
    | (with_reducible refine LeO.ite ?_ ?_)
    | (with_reducible refine LeO.bind ?_ (fun _ => ?_))
    | exact slip_sealed.mono _ _
    | exact word_Put.mono _ _
    | exact LeO.none _
    | refine LeO.ite ?_ ?_
    | refine LeO.bind ?_ (fun _ => ?_)
set_option maxHeartbeats 8000000 in
set_option maxRecDepth 100000 in
theorem slip_Put.calls (k : Nat) (P0_ : Nat → Prop) (A0 : Option Addr) (c0 : Nat) (l0 : List Int) (r1 : List Int) (r2 : Int) (w : World) (hs0 : Kd.V (Kd.int .u8) 5 w w.heap.size (fun k_ => P0_ k_) (.slice A0 l0.length c0) l0) (hL0_ : Kd.C (Kd.int .u32) w (some ⟨0, 0, none⟩) 64 shaK) (hL1_ : Kd.C (Kd.int .u32) w (some ⟨1, 0, none⟩) 8 shaF) (h : slip_Put.f k l0 = some (r1, r2)) :
   Calls Tryd.prog 33 #[.slice A0 l0.length c0] w fun e w' => ∃ v0_ : Value, e = .returned (.tuple #[v0_, .int .i64 r2]) ∧ Kd.R (Kd.int .u8) 5 w' w.heap.size (fun k_ => (w.heap.size ≤ k_)) v0_ r1 ∧ Below w.heap.size w w' := by
  have HO0 := Aside0.mk (show Kd.V (Kd.int .u8) 5 w w.heap.size (fun k_ => (P0_ k_ ∨ w.heap.size ≤ k_)) (.slice A0 l0.length c0) l0 from Kd.V_mono hs0 (fun k_ hk => .inl hk)); have HRL0_ := Aside0.mk hL0_; have HRL1_ := Aside0.mk hL1_; clear hL0_ hL1_; have HB := Aside0.mk (Below.refl w.heap.size w); have H : (if (l0.length : Int) > 60000 then (some (([] : List Int), 4)) else ((word_Put.f k (IntKind.u64.wrap ((l0.length : Int)))).bind fun t147 => (if 0 ≤ (wrap64 ((t147.length : Int) - 2)) then (if (wrap64 ((t147.length : Int) - 2)) ≤ (t147.length : Int) then ((slices_Concat_byte_byte.f (([(t147.drop ((wrap64 ((t147.length : Int) - 2)) : Int).toNat), l0] : List (List Int)))).bind fun t158 => ((slip_sealed.f k t158).bind fun t161 => (some (t161, 0)))) else (none)) else (none)))) = some (r1, r2) := h
  clear h; by_cases c2 : (l0.length : Int) > 60000
  ·rw [if_pos c2] at H
   have c2b0 : decide (60000 < (l0.length : Int)) = true := decide_eq_true c2
   have c2b1 : decide (60000 < l0.length) = true := decide_eq_true (by omega)
   clear c2; simp only [Option.some.injEq, Prod.mk.injEq] at H
   obtain ⟨rfl, rfl⟩ := H
   go_enter Tryd.func33, Tryd.ntmps33
   go_wp2
   go_ret2
   exact ⟨_, by first | rfl | (simp [errW_none, errW_some] <;> rfl) | (simp [*, errW_none, errW_some] <;> rfl), by first | exact Kd.R_nil _ _ _ _ _ | exact Kd.N_nil _ _ _ _ _ | exact Kd.V_nil _ _ _ _ _ | exact Kd.Q_nil _ _ _ _ _ | exact Kd.S_nil _ _ _ _ _, by repeat (first | (with_reducible first | exact HB.out | apply bA | apply bN | apply bD) | exact HB.out)⟩
  ·rw [if_neg c2] at H
   have c2b0 : decide (60000 < (l0.length : Int)) = false := decide_eq_false c2
   have c2b1 : decide (60000 < l0.length) = false := decide_eq_false (by omega)
   clear c2; replace H := Option.bind_eq_some_iff.mp H
   obtain ⟨t147, A30, H⟩ := H
   replace H : (if 0 ≤ (wrap64 ((t147.length : Int) - 2)) then (if (wrap64 ((t147.length : Int) - 2)) ≤ (t147.length : Int) then ((slices_Concat_byte_byte.f (([(t147.drop ((wrap64 ((t147.length : Int) - 2)) : Int).toNat), l0] : List (List Int)))).bind fun t158 => ((slip_sealed.f k t158).bind fun t161 => (some (t161, 0)))) else (none)) else (none)) = some (r1, r2) := H
   have A3 := Aside0.mk A30; clear A30; obtain ⟨ji4, hji4⟩ : ∃ j_ : Int, (wrap64 ((t147.length : Int) - 2)) = j_ := ⟨_, rfl⟩
   replace H : (if 0 ≤ (ji4) then (if (ji4) ≤ (t147.length : Int) then ((slices_Concat_byte_byte.f (([(t147.drop ((ji4) : Int).toNat), l0] : List (List Int)))).bind fun t158 => ((slip_sealed.f k t158).bind fun t161 => (some (t161, 0)))) else (none)) else (none)) = some (r1, r2) := by first | (rw [hji4] at H; exact H) | (simp only [hji4] at H ⊢; exact H)
   (try rw [hji4] at A3)
   have hji4w : (IntKind.i64.wrap ((t147.length : Int) - 2)) = ji4 := (i64_w _).trans hji4
   by_cases c5 : 0 ≤ (ji4)
   ·rw [if_pos c5] at H
    have c5b0 := eq_true c5
    have c5b1 : decide (0 ≤ (ji4)) = true := decide_eq_true c5
    clear c5; by_cases c6 : (ji4) ≤ (t147.length : Int)
    ·rw [if_pos c6] at H
     have c6b0 := eq_true c6
     have c6b1 : decide ((ji4) ≤ (t147.length : Int)) = true := decide_eq_true c6
     clear c6; obtain ⟨y150, hy150⟩ : ∃ y_ : List Int, y_ = (t147.drop ((ji4) : Int).toNat) := ⟨_, rfl⟩
     replace H : ((slices_Concat_byte_byte.f (([y150, l0] : List (List Int)))).bind fun t158 => ((slip_sealed.f k t158).bind fun t161 => (some (t161, 0)))) = some (r1, r2) := by first | (rw [hy150]; with_reducible exact H) | (have H2_ := (Option.bind_some _ _).symm.trans H; rw [hy150]; with_reducible exact H2_) | (have H2_ := (Option.bind_some _ _).symm.trans H; with_reducible exact H2_) | with_reducible exact H | (rw [hy150]; exact H) | exact H
     have Ny150 := Aside0.mk hy150; clear hy150; obtain ⟨y155, hy155⟩ : ∃ y_ : List (List Int), y_ = (([y150, l0] : List (List Int))) := ⟨_, rfl⟩
     replace H : ((slices_Concat_byte_byte.f y155).bind fun t158 => ((slip_sealed.f k t158).bind fun t161 => (some (t161, 0)))) = some (r1, r2) := by first | (rw [hy155]; with_reducible exact H) | (have H2_ := (Option.bind_some _ _).symm.trans H; rw [hy155]; with_reducible exact H2_) | (have H2_ := (Option.bind_some _ _).symm.trans H; with_reducible exact H2_) | with_reducible exact H | (rw [hy155]; exact H) | exact H
     have Ny155 := Aside0.mk hy155; clear hy155; replace H := Option.bind_eq_some_iff.mp H
     obtain ⟨t158, A70, H⟩ := H
     replace H : ((slip_sealed.f k t158).bind fun t161 => (some (t161, 0))) = some (r1, r2) := H
     have A7 := Aside0.mk A70; clear A70; replace H := Option.bind_eq_some_iff.mp H
     obtain ⟨t161, A80, H⟩ := H
     replace H : (some (t161, 0)) = some (r1, r2) := H
     have A8 := Aside0.mk A80; clear A80; simp only [Option.some.injEq, Prod.mk.injEq] at H
     obtain ⟨rfl, rfl⟩ := H
     go_enter Tryd.func33, Tryd.ntmps33
     go_wp2_with (first | ((with_reducible refine gate_callee (f := 54) rfl ?_); refine goesL_ (some 11) rfl rfl Tryd.func54 (by kernel_rfl) rfl #[.int .u64 (IntKind.u64.wrap ((l0.length : Int)))] rfl (by (try simp only [mT, mC, mN]); first | done | rfl | (simp only [List.length_drop, List.length_take]; rfl)) ?_; (with_reducible refine (word_Put.calls k (IntKind.u64.wrap ((l0.length : Int))) t147 _ A3.out).mono ?_); rintro e w9 ⟨v148, rfl, ho0, hb⟩; refine ⟨_, rfl, ?_⟩; have n0_ := Aside0.mk (Kd.V_elder' (by (with_reducible repeat (first | apply Kd.V_alloc | apply Kd.V_drewN | apply Kd.V_drew)); exact HO0.out) (Kd.R_base ho0) hb); have n1_ := Aside0.mk (Kd.R_lower (Kd.R_newM (M := fun k_ => (w.heap.size ≤ k_)) ho0 (below_size (by repeat (first | (with_reducible first | exact HB.out | apply bA | apply bN | apply bD) | exact HB.out))) (fun k_ h_ => h_)) (below_size (by repeat (first | (with_reducible first | exact HB.out | apply bA | apply bN | apply bD) | exact HB.out)))); have n2_ := Aside0.mk (below_step (by repeat (first | (with_reducible first | exact HB.out | apply bA | apply bN | apply bD) | exact HB.out)) hb); clear HO0; clear HB; have HO0 := n0_; have HO149 := n1_; have HB := n2_; clear n0_ n1_ n2_; (try clear hb); (try clear hb2); (try clear hk); (try clear hi); (try clear ho0); obtain ⟨Ao10, co10, eo10⟩ := Kd.R_slice HO149.out; subst eo10; have q11 : ((ji4) : Int) ≤ ((t147.length : Int) : Int) := of_decide_eq_true (by first | (with_reducible assumption) | assumption); obtain ⟨i011, hi011, _, hsz11, _⟩ := info_parts info5; have hroom11 : t147.length ≤ co10 := (Kd.R_reads' HO149.out).2.1; have hC11 : Kd.F (Kd.int .u8) _ _ Ao10 t147.length t147 := (Kd.V_at (base := w.heap.size) (Kd.V_mono (ok' := (fun k_ => ((P0_ k_ ∨ w.heap.size ≤ k_) ∧ True))) (Kd.R_V HO149.out) (fun k_ hk => ⟨(.inr (hk.1)), trivial⟩))).2.2; have q011 : (0 : Int) ≤ ((ji4) : Int) := of_decide_eq_true (by first | (with_reducible assumption) | assumption); have hcut11 := cut_from (P := Tryd.prog) 24 5 .i64 Tryd.underlying24 hi011 1 hsz11 Ao10 t147.length co10 (ji4) q011 q11; have hr11 := Kd.F_cut (m := ((ji4) : Int).toNat) (c := co10) hC11 (by omega) hroom11; obtain ⟨A11, hA11⟩ : ∃ A1, A1 = (if co10 = ((ji4) : Int).toNat then Ao10 else (Ao10 : Option Addr).map (·.add (((ji4) : Int).toNat * 1))) := ⟨_, rfl⟩; obtain ⟨c11, hc11⟩ : ∃ c1, c1 = co10 - ((ji4) : Int).toNat := ⟨_, rfl⟩; have hy11 : y150.length = t147.length - ((ji4) : Int).toNat := (by rw [Ny150.out, List.length_drop] <;> omega); rw [show (t147).drop ((ji4) : Int).toNat = y150 from Ny150.out.symm] at hr11; replace hr11 : Kd.F (Kd.int .u8) _ _ A11 y150.length y150 := (by rw [hA11]; exact hr11); rw [← hy11, ← hA11, ← hc11] at hcut11; have HO154 := Aside0.mk (show Kd.V (Kd.int .u8) 5 _ w.heap.size _ (.slice A11 y150.length c11) y150 from Kd.V_mk (by rw [hy11, hc11]; exact Nat.sub_le_sub_right hroom11 _) hr11); have HC154 := Aside0.mk (show y150.length ≤ c11 from by rw [hy11, hc11]; exact Nat.sub_le_sub_right hroom11 _); clear hr11 hC11 hroom11 hi011 hsz11 hc11; have KY11 := Aside0.mk hy11; have KA11 := Aside0.mk hA11; clear hy11 hA11; replace q11 := eq_true q11) | ((with_reducible refine gate_dst (N := 18) rfl ?_); refine Kd.N_lit (Kd.slice 5 (Kd.int .u8)) _ 24 ?hg (N' := 18) ?hd (xs := ([y150, l0] : List (List Int))) (inner := [.slice A11 y150.length c11, .slice A0 l0.length c0]) (ok := (fun k_ => (P0_ k_ ∨ w.heap.size ≤ k_))) (okp := (fun k_ => (P0_ k_ ∨ w.heap.size ≤ k_))) ?hr ?hp (fun _ hk => hk) (fresh_at (ok := (fun k_ => (P0_ k_ ∨ w.heap.size ≤ k_))) (fun k_ hk => (.inr (Nat.le_trans (below_size (by repeat (first | (with_reducible first | exact HB.out | apply bA | apply bN | apply bD) | exact HB.out))) hk)))) (Below.refl _ _) (Nat.le_refl _) (by simp) ?_; (case hd => rfl); (case hg => rfl); (case hr => first | (go_simp; done) | (go_simp; rfl)); (case hp => exact (Reps.one (show Kd.FK (Kd.slice 5 (Kd.int .u8)) _ _ y150 [.slice A11 y150.length c11] from (Kd.FK_slice_mk (Kd.V_reads' (Kd.V_mono (ok' := (fun k_ => (P0_ k_ ∨ w.heap.size ≤ k_))) (HO154.out) (fun k_ hk => hk.1))).2.1 (Kd.V_F (Kd.V_mono (ok' := (fun k_ => (P0_ k_ ∨ w.heap.size ≤ k_))) (HO154.out) (fun k_ hk => hk.1))))) (Reps.one (show Kd.FK (Kd.slice 5 (Kd.int .u8)) _ _ l0 [.slice A0 l0.length c0] from (Kd.FK_slice_mk (Kd.V_reads' (Kd.V_mono (ok' := (fun k_ => (P0_ k_ ∨ w.heap.size ≤ k_))) (HO0.out) (fun k_ hk => hk.1))).2.1 (Kd.V_F (Kd.V_mono (ok' := (fun k_ => (P0_ k_ ∨ w.heap.size ≤ k_))) (HO0.out) (fun k_ hk => hk.1))))) (Reps.none _ _)))); intro v156 w12 ho13 hb hg_ hnew_; clear hg_ hnew_; (first | rw [← Ny155.out] at ho13 | (simp only [Int.reduceToNat] at ho13; rw [← Ny155.out] at ho13)); have n0_ := Aside0.mk (Kd.V_elder' (by (with_reducible repeat (first | apply Kd.V_alloc | apply Kd.V_drewN | apply Kd.V_drew)); exact HO0.out) (Kd.N_base ho13) hb); have n1_ := Aside0.mk (Kd.R_below (by (with_reducible repeat (first | apply rL | apply rN | apply rW)); exact HO149.out) hb); have n2_ := Aside0.mk (Kd.V_elder' (by (with_reducible repeat (first | apply Kd.V_alloc | apply Kd.V_drewN | apply Kd.V_drew)); exact HO154.out) (Kd.N_base ho13) hb); have n3_ := Aside0.mk (Kd.N_lower ho13 (below_size (by repeat (first | (with_reducible first | exact HB.out | apply bA | apply bN | apply bD) | exact HB.out)))); have n4_ := Aside0.mk (below_step (by repeat (first | (with_reducible first | exact HB.out | apply bA | apply bN | apply bD) | exact HB.out)) hb); clear HO0; clear HO149; clear HO154; clear HB; have HO0 := n0_; have HO149 := n1_; have HO154 := n2_; have HO157 := n3_; have HB := n4_; clear n0_ n1_ n2_ n3_ n4_; clear hb ho13; obtain ⟨Ao14, co14, eo14⟩ := Kd.N_slice HO157.out; subst eo14) | ((with_reducible refine gate_callee (f := 52) rfl ?_); refine goesL_ (some 19) rfl rfl Tryd.func52 (by kernel_rfl) rfl #[.slice Ao14 y155.length co14] rfl (by (try simp only [mT, mC, mN]); first | done | rfl | (simp only [List.length_drop, List.length_take]; rfl)) ?_; (with_reducible refine (slices_Concat_byte_byte.calls _ _ y155 t158 _ ?side1 ?side2 A7.out).mono ?_); (case side1 => repeat (first | exact (Kd.N_reads' HO157.out).2.2 | (with_reducible refine Kd.C_alloc ?_ _) | (with_reducible refine Kd.C_drewN ?_ _) | (with_reducible refine Kd.C_drew ?_))); (case side2 => exact (Kd.N_reads' HO157.out).2.1); rintro e w15 ⟨v159, rfl, ho0, hb⟩; refine ⟨_, rfl, ?_⟩; have n0_ := Aside0.mk (Kd.V_elder' (by (with_reducible repeat (first | apply Kd.V_alloc | apply Kd.V_drewN | apply Kd.V_drew)); exact HO0.out) (Kd.R_base ho0) hb); have n1_ := Aside0.mk (Kd.R_elder' (by (with_reducible repeat (first | apply rL | apply rN | apply rW)); exact HO149.out) (Kd.R_base ho0) hb); have n2_ := Aside0.mk (Kd.V_elder' (by (with_reducible repeat (first | apply Kd.V_alloc | apply Kd.V_drewN | apply Kd.V_drew)); exact HO154.out) (Kd.R_base ho0) hb); have n3_ := Aside0.mk (Kd.N_elder' (by (with_reducible repeat (first | apply Kd.N_alloc | apply Kd.N_drewN | apply Kd.N_drew)); exact HO157.out) (Kd.R_base ho0) hb); have n4_ := Aside0.mk (Kd.R_lower (Kd.R_new' (Kd.R_newM (M := fun k_ => (w.heap.size ≤ k_)) ho0 (below_size (by repeat (first | (with_reducible first | exact HB.out | apply bA | apply bN | apply bD) | exact HB.out))) (fun k_ h_ => h_)) (Kd.R_lt (by (with_reducible repeat (first | apply rL | apply rN | apply rW)); exact HO149.out))) (below_size (by repeat (first | (with_reducible first | exact HB.out | apply bA | apply bN | apply bD) | exact HB.out)))); have n5_ := Aside0.mk (below_step (by repeat (first | (with_reducible first | exact HB.out | apply bA | apply bN | apply bD) | exact HB.out)) hb); clear HO0; clear HO149; clear HO154; clear HO157; clear HB; have HO0 := n0_; have HO149 := n1_; have HO154 := n2_; have HO157 := n3_; have HO160 := n4_; have HB := n5_; clear n0_ n1_ n2_ n3_ n4_ n5_; (try clear hb); (try clear hb2); (try clear hk); (try clear hi); (try clear ho0); obtain ⟨Ao16, co16, eo16⟩ := Kd.R_slice HO160.out; subst eo16) | ((with_reducible refine gate_callee (f := 58) rfl ?_); refine goesL_ (some 20) rfl rfl Tryd.func58 (by kernel_rfl) rfl #[.slice Ao16 t158.length co16] rfl (by (try simp only [mT, mC, mN]); first | done | rfl | (simp only [List.length_drop, List.length_take]; rfl)) ?_; (with_reducible refine (slip_sealed.calls k _ _ t158 t161 _ ?side1 ?side2 ?side3 ?side4 A8.out).mono ?_); (case side1 => repeat (first | exact (Kd.R_reads' HO160.out).2.2 | (with_reducible refine Kd.C_alloc ?_ _) | (with_reducible refine Kd.C_drewN ?_ _) | (with_reducible refine Kd.C_drew ?_))); (case side2 => exact (Kd.R_reads' HO160.out).2.1); (case side3 => repeat (first | exact (Kd.C_below HRL0_.out HB.out) | (with_reducible refine Kd.C_alloc ?_ _) | (with_reducible refine Kd.C_drewN ?_ _) | (with_reducible refine Kd.C_drew ?_))); (case side4 => repeat (first | exact (Kd.C_below HRL1_.out HB.out) | (with_reducible refine Kd.C_alloc ?_ _) | (with_reducible refine Kd.C_drewN ?_ _) | (with_reducible refine Kd.C_drew ?_))); rintro e w17 ⟨v162, rfl, ho0, hb⟩; refine ⟨_, rfl, ?_⟩; have n0_ := Aside0.mk (Kd.V_elder' (by (with_reducible repeat (first | apply Kd.V_alloc | apply Kd.V_drewN | apply Kd.V_drew)); exact HO0.out) (Kd.R_base ho0) hb); have n1_ := Aside0.mk (Kd.R_elder' (by (with_reducible repeat (first | apply rL | apply rN | apply rW)); exact HO149.out) (Kd.R_base ho0) hb); have n2_ := Aside0.mk (Kd.V_elder' (by (with_reducible repeat (first | apply Kd.V_alloc | apply Kd.V_drewN | apply Kd.V_drew)); exact HO154.out) (Kd.R_base ho0) hb); have n3_ := Aside0.mk (Kd.N_elder' (by (with_reducible repeat (first | apply Kd.N_alloc | apply Kd.N_drewN | apply Kd.N_drew)); exact HO157.out) (Kd.R_base ho0) hb); have n4_ := Aside0.mk (Kd.R_elder' (by (with_reducible repeat (first | apply rL | apply rN | apply rW)); exact HO160.out) (Kd.R_base ho0) hb); have n5_ := Aside0.mk (Kd.R_lower (Kd.R_new' (Kd.R_new' (Kd.R_newM (M := fun k_ => (w.heap.size ≤ k_)) ho0 (below_size (by repeat (first | (with_reducible first | exact HB.out | apply bA | apply bN | apply bD) | exact HB.out))) (fun k_ h_ => h_)) (Kd.R_lt (by (with_reducible repeat (first | apply rL | apply rN | apply rW)); exact HO149.out))) (Kd.R_lt (by (with_reducible repeat (first | apply rL | apply rN | apply rW)); exact HO160.out))) (below_size (by repeat (first | (with_reducible first | exact HB.out | apply bA | apply bN | apply bD) | exact HB.out)))); have n6_ := Aside0.mk (below_step (by repeat (first | (with_reducible first | exact HB.out | apply bA | apply bN | apply bD) | exact HB.out)) hb); clear HO0; clear HO149; clear HO154; clear HO157; clear HO160; clear HB; have HO0 := n0_; have HO149 := n1_; have HO154 := n2_; have HO157 := n3_; have HO160 := n4_; have HO163 := n5_; have HB := n6_; clear n0_ n1_ n2_ n3_ n4_ n5_ n6_; (try clear hb); (try clear hb2); (try clear hk); (try clear hi); (try clear ho0)))
     go_ret2
     exact ⟨_, by first | rfl | (simp [errW_none, errW_some] <;> rfl) | (simp only [← hji4]; first | rfl | (simp [errW_none, errW_some] <;> rfl)) | (simp [*, errW_none, errW_some] <;> rfl), by (with_reducible repeat (first | apply rL | apply rN | apply rW)); exact Kd.R_mono HO163.out (fun _ hk => hk.1.1.1), by repeat (first | (with_reducible first | exact HB.out | apply bA | apply bN | apply bD) | exact HB.out)⟩
    ·rw [if_neg c6] at H
     exact absurd H (by simp)
   ·rw [if_neg c5] at H
    exact absurd H (by simp)

/-! ### bytes_Equal: function 66 -/
def bytes_Equal.f (l0 : List Int) (l1 : List Int) : Option (Bool) := some ((strOfNums l0).toList == (strOfNums l1).toList)
set_option maxHeartbeats 8000000 in
set_option maxRecDepth 100000 in
theorem bytes_Equal.calls (A0 : Option Addr) (c0 : Nat) (l0 : List Int) (A1 : Option Addr) (c1 : Nat) (l1 : List Int) (r : Bool) (w : World) (hr0 : Kd.C (Kd.int .u8) w A0 l0.length l0) (hc0 : l0.length ≤ c0) (hr1 : Kd.C (Kd.int .u8) w A1 l1.length l1) (hc1 : l1.length ≤ c1) (h : bytes_Equal.f l0 l1 = some r) :
   Calls Tryd.prog 66 #[.slice A0 l0.length c0, .slice A1 l1.length c1] w fun e w' => e = .returned (.bool r) ∧ Drawn0 w w' := by
  have HR0 := Aside0.mk hr0; have HC0 := Aside0.mk hc0; clear hr0 hc0; have HR1 := Aside0.mk hr1; have HC1 := Aside0.mk hc1; clear hr1 hc1; have H : (some ((strOfNums l0).toList == (strOfNums l1).toList)) = some r := h
  clear h; obtain rfl := Option.some.inj H
  have hcv3 := Kd.C_string (P := Tryd.prog) (A := A0) (c := c0) Tryd.underlying24 Tryd.underlying5 Tryd.underlying9 HR0.out
  have hcv4 := Kd.C_string (P := Tryd.prog) (A := A1) (c := c1) Tryd.underlying24 Tryd.underlying5 Tryd.underlying9 HR1.out
  go_enter Tryd.func66, Tryd.ntmps66
  go_wp2
  go_ret
  exact ⟨by first | rfl | (simp; done) | (simp [*]; done), by repeat (first | exact Drawn0.refl _ | apply Drawn0.step)⟩

/-! ### slip_first: function 59 -/
def slip_first.f (k : Nat) (l0 : List Int) : Option (List Int × Int) := if (l0.length : Int) < 2 then (some (([] : List Int), 0)) else (if 0 < (l0.length : Int) then (if 1 < (l0.length : Int) then (if (Go.bits .or .i64 (wrap64 ((wrap64 (rd l0 0)) * 256)) (wrap64 (rd l0 1))) > 60000 then (some (([] : List Int), 0)) else (if (l0.length : Int) < (wrap64 ((wrap64 (2 + (Go.bits .or .i64 (wrap64 ((wrap64 (rd l0 0)) * 256)) (wrap64 (rd l0 1))))) + 4)) then (some (([] : List Int), 0)) else (if 0 ≤ (wrap64 (2 + (Go.bits .or .i64 (wrap64 ((wrap64 (rd l0 0)) * 256)) (wrap64 (rd l0 1))))) then (if (wrap64 (2 + (Go.bits .or .i64 (wrap64 ((wrap64 (rd l0 0)) * 256)) (wrap64 (rd l0 1))))) ≤ (l0.length : Int) then ((slip_sealed.f k (l0.take ((wrap64 (2 + (Go.bits .or .i64 (wrap64 ((wrap64 (rd l0 0)) * 256)) (wrap64 (rd l0 1))))) : Int).toNat)).bind fun t171 => (if 0 ≤ (wrap64 ((wrap64 (2 + (Go.bits .or .i64 (wrap64 ((wrap64 (rd l0 0)) * 256)) (wrap64 (rd l0 1))))) + 4)) then (if (wrap64 ((wrap64 (2 + (Go.bits .or .i64 (wrap64 ((wrap64 (rd l0 0)) * 256)) (wrap64 (rd l0 1))))) + 4)) ≤ (l0.length : Int) then ((bytes_Equal.f t171 (l0.take ((wrap64 ((wrap64 (2 + (Go.bits .or .i64 (wrap64 ((wrap64 (rd l0 0)) * 256)) (wrap64 (rd l0 1))))) + 4)) : Int).toNat)).bind fun t179 => (if t179 = true then (if 2 ≤ (wrap64 (2 + (Go.bits .or .i64 (wrap64 ((wrap64 (rd l0 0)) * 256)) (wrap64 (rd l0 1))))) then (some (((l0.take ((wrap64 (2 + (Go.bits .or .i64 (wrap64 ((wrap64 (rd l0 0)) * 256)) (wrap64 (rd l0 1))))) : Int).toNat).drop 2), wrap64 ((wrap64 (2 + (Go.bits .or .i64 (wrap64 ((wrap64 (rd l0 0)) * 256)) (wrap64 (rd l0 1))))) + 4))) else (none)) else (some (([] : List Int), 0)))) else (none)) else (none))) else (none)) else (none)))) else (none)) else (none))
theorem slip_first.mono : ∀ a0 k, LeO (slip_first.f k a0) (slip_first.f (k + 1) a0) := by
  intro a0 k; unfold slip_first.f
  repeat' first
    | (with_reducible exact slip_sealed.mono _ _)
    | (with_reducible exact LeO.refl _)
    | (with_reducible exact LeO.none _)
    | (with_reducible refine LeO.ite ?_ ?_)
    | (with_reducible refine LeO.bind ?_ (fun _ => ?_))
    | exact slip_sealed.mono _ _
    | exact LeO.none _
    | refine LeO.ite ?_ ?_
    | refine LeO.bind ?_ (fun _ => ?_)
def slip_first.T3 : Bool × List (List Nat × List Nat) := (true, [([], []), ([0], [0]), ([1], [1]), ([2], [2]), ([3], [3]), ([], []), ([5], [5]), ([6], [6]), ([7], [7]), ([4, 8], [4, 8]), ([9, 0, 1, 2, 3, 4, 5, 6, 7, 8, 9], [9])])
def slip_first.B3 : List Nat := [0, 1, 3, 7, 15, 0, 32, 96, 224, 511, 1023]
theorem slip_first.tab3 : rtab .any (opsOf Tryd.f59 3) = slip_first.T3 := by kernel_rfl
theorem slip_first.bits3 : waitsOk slip_first.T3.2 slip_first.B3 = true := by kernel_rfl
def slip_first.T5 : Bool × List (List Nat × List Nat) := (true, [([], []), ([0], [0]), ([1], [1]), ([2], [2]), ([3, 2], [2, 3]), ([2], [2]), ([4, 5, 2], [2, 4, 5]), ([2, 6], [2, 6]), ([7, 2], [7]), ([8], [8]), ([8], [8]), ([10, 8], [8, 10]), ([9, 11, 8], [8, 9, 11]), ([12, 8, 8], [8, 12]), ([8], [8]), ([8], [8]), ([14, 15, 8], [8, 14, 15]), ([13, 16, 13, 8], [8, 13, 16]), ([17, 8], [8, 17]), ([8, 18], [8, 18])])
def slip_first.B5 : List Nat := [0, 1, 3, 7, 15, 7, 63, 127, 255, 511, 511, 1535, 4095, 8191, 511, 511, 49663, 131071, 262143, 524287]
theorem slip_first.tab5 : rtab .any (opsOf Tryd.f59 5) = slip_first.T5 := by kernel_rfl
theorem slip_first.bits5 : waitsOk slip_first.T5.2 slip_first.B5 = true := by kernel_rfl
set_option maxHeartbeats 8000000 in
set_option maxRecDepth 100000 in
theorem slip_first.calls (k : Nat) (P0_ : Nat → Prop) (A0 : Option Addr) (c0 : Nat) (l0 : List Int) (r1 : List Int) (r2 : Int) (w : World) (hs0 : Kd.V (Kd.int .u8) 5 w w.heap.size (fun k_ => P0_ k_) (.slice A0 l0.length c0) l0) (hL0_ : Kd.C (Kd.int .u32) w (some ⟨0, 0, none⟩) 64 shaK) (hL1_ : Kd.C (Kd.int .u32) w (some ⟨1, 0, none⟩) 8 shaF) (h : slip_first.f k l0 = some (r1, r2)) :
   Calls Tryd.prog 59 #[.slice A0 l0.length c0] w fun e w' => ∃ v0_ : Value, e = .returned (.tuple #[v0_, .int .i64 r2]) ∧ Kd.V (Kd.int .u8) 5 w' w.heap.size (fun k_ => (P0_ k_ ∨ w.heap.size ≤ k_)) v0_ r1 ∧ Below w.heap.size w w' := by
  have HO0 := Aside0.mk (show Kd.V (Kd.int .u8) 5 w w.heap.size (fun k_ => (P0_ k_ ∨ w.heap.size ≤ k_)) (.slice A0 l0.length c0) l0 from Kd.V_mono hs0 (fun k_ hk => .inl hk)); have HRL0_ := Aside0.mk hL0_; have HRL1_ := Aside0.mk hL1_; clear hL0_ hL1_; have HB := Aside0.mk (Below.refl w.heap.size w); have H : (if (l0.length : Int) < 2 then (some (([] : List Int), 0)) else (if 0 < (l0.length : Int) then (if 1 < (l0.length : Int) then (if (Go.bits .or .i64 (wrap64 ((wrap64 (rd l0 0)) * 256)) (wrap64 (rd l0 1))) > 60000 then (some (([] : List Int), 0)) else (if (l0.length : Int) < (wrap64 ((wrap64 (2 + (Go.bits .or .i64 (wrap64 ((wrap64 (rd l0 0)) * 256)) (wrap64 (rd l0 1))))) + 4)) then (some (([] : List Int), 0)) else (if 0 ≤ (wrap64 (2 + (Go.bits .or .i64 (wrap64 ((wrap64 (rd l0 0)) * 256)) (wrap64 (rd l0 1))))) then (if (wrap64 (2 + (Go.bits .or .i64 (wrap64 ((wrap64 (rd l0 0)) * 256)) (wrap64 (rd l0 1))))) ≤ (l0.length : Int) then ((slip_sealed.f k (l0.take ((wrap64 (2 + (Go.bits .or .i64 (wrap64 ((wrap64 (rd l0 0)) * 256)) (wrap64 (rd l0 1))))) : Int).toNat)).bind fun t171 => (if 0 ≤ (wrap64 ((wrap64 (2 + (Go.bits .or .i64 (wrap64 ((wrap64 (rd l0 0)) * 256)) (wrap64 (rd l0 1))))) + 4)) then (if (wrap64 ((wrap64 (2 + (Go.bits .or .i64 (wrap64 ((wrap64 (rd l0 0)) * 256)) (wrap64 (rd l0 1))))) + 4)) ≤ (l0.length : Int) then ((bytes_Equal.f t171 (l0.take ((wrap64 ((wrap64 (2 + (Go.bits .or .i64 (wrap64 ((wrap64 (rd l0 0)) * 256)) (wrap64 (rd l0 1))))) + 4)) : Int).toNat)).bind fun t179 => (if t179 = true then (if 2 ≤ (wrap64 (2 + (Go.bits .or .i64 (wrap64 ((wrap64 (rd l0 0)) * 256)) (wrap64 (rd l0 1))))) then (some (((l0.take ((wrap64 (2 + (Go.bits .or .i64 (wrap64 ((wrap64 (rd l0 0)) * 256)) (wrap64 (rd l0 1))))) : Int).toNat).drop 2), wrap64 ((wrap64 (2 + (Go.bits .or .i64 (wrap64 ((wrap64 (rd l0 0)) * 256)) (wrap64 (rd l0 1))))) + 4))) else (none)) else (some (([] : List Int), 0)))) else (none)) else (none))) else (none)) else (none)))) else (none)) else (none))) = some (r1, r2) := h
  clear h; by_cases c2 : (l0.length : Int) < 2
  ·rw [if_pos c2] at H
   have c2b0 : decide ((l0.length : Int) < 2) = true := decide_eq_true c2
   have c2b1 : decide (l0.length < 2) = true := decide_eq_true (by omega)
   clear c2; simp only [Option.some.injEq, Prod.mk.injEq] at H
   obtain ⟨rfl, rfl⟩ := H
   go_enter Tryd.func59, Tryd.ntmps59
   go_wp2
   go_ret2
   exact ⟨_, by first | rfl | (simp [errW_none, errW_some] <;> rfl) | (simp [*, errW_none, errW_some] <;> rfl), Kd.V_nil _ _ _ _ _, by repeat (first | (with_reducible first | exact HB.out | apply bA | apply bN | apply bD) | exact HB.out)⟩
  ·rw [if_neg c2] at H
   have c2b0 : decide ((l0.length : Int) < 2) = false := decide_eq_false c2
   have c2b1 : decide (l0.length < 2) = false := decide_eq_false (by omega)
   clear c2; by_cases c3 : 0 < (l0.length : Int)
   ·rw [if_pos c3] at H
    have c3b0 : decide (0 < (l0.length : Int)) = true := decide_eq_true c3
    have c3b1 : decide (0 < l0.length) = true := decide_eq_true (by omega)
    clear c3; by_cases c4 : 1 < (l0.length : Int)
    ·rw [if_pos c4] at H
     have c4b0 : decide (1 < (l0.length : Int)) = true := decide_eq_true c4
     have c4b1 : decide (1 < l0.length) = true := decide_eq_true (by omega)
     clear c4; by_cases c5 : (Go.bits .or .i64 (wrap64 ((wrap64 (rd l0 0)) * 256)) (wrap64 (rd l0 1))) > 60000
     ·rw [if_pos c5] at H
      have c5b0 : decide (60000 < (Go.bits .or .i64 (wrap64 ((wrap64 (rd l0 0)) * 256)) (wrap64 (rd l0 1)))) = true := decide_eq_true c5
      clear c5; simp only [Option.some.injEq, Prod.mk.injEq] at H
      obtain ⟨rfl, rfl⟩ := H
      go_enter Tryd.func59, Tryd.ntmps59
      try go_wp2
      have n0_ := Aside0.mk (Kd.V_drew HO0.out); have n1_ := Aside0.mk (below_drew1 HB.out); clear HO0; clear HB; have HO0 := n0_; have HB := n1_; clear n0_ n1_; have p164 : 0 ≤ (0 : Int) := (by omega)
      have q164 : 0 < (l0.length : Int) := of_decide_eq_true (by first | (with_reducible assumption) | assumption)
      obtain ⟨ad164, e164, hx164_0⟩ := Kd.at_int (Kd.V_reads' HO0.out).2.2 0 p164 q164
      cases e164
      have qi164 : (0 < l0.length) = True := eq_true (by omega)
      (try rw [show ((0 : Int)).toNat = 0 from rfl] at hx164_0)
      (try rw [Addr.add_zero'] at hx164_0)
      replace p164 := eq_true p164
      replace q164 := eq_true q164
      have p165 : 0 ≤ (1 : Int) := (by omega)
      have q165 : 1 < (l0.length : Int) := of_decide_eq_true (by first | (with_reducible assumption) | assumption)
      obtain ⟨ad165, e165, hx165_0⟩ := Kd.at_int (Kd.V_reads' HO0.out).2.2 1 p165 q165
      obtain rfl : ad164 = ad165 := (by injection e165)
      (try simp only [show (1 : Int).toNat = 1 from rfl, Nat.reduceMul, Nat.reduceEqDiff, Go.Addr.add, ↓reduceIte] at hx165_0)
      have qi165 : (1 < l0.length) = True := eq_true (by omega)
      (try rw [show ((1 : Int)).toNat = 1 from rfl] at hx165_0)
      replace p165 := eq_true p165
      replace q165 := eq_true q165
      refine start_ (n := 11) (S := fun w' => w'.cell? ad164 = some (.int .u8 (rd l0 0)) ∧ w'.cell? ⟨ad164.block, ad164.off + 1, none⟩ = some (.int .u8 (rd l0 1))) (ds := []) #[false, false, false, false, false, false, false, false, false, false, false] (by kernel_rfl) rfl rfl ⟨hx164_0, hx165_0⟩ (fun hHeld => ?_); refine with_tabW slip_first.tab3 slip_first.bits3 (fun HT_ HW_ => ?_)
      generalize w.drew = w6 at HO0 HB hx164_0 hx165_0 hHeld ⊢
      refine pu_ 0 9 (rA [1,10]) HT_ (by kernel_rfl) rfl rfl (fun _ _ _ => id) (.inl ⟨by rfl, fun w' => by go_simp; with_reducible rfl⟩) (by simp only [Act.put, sA, s0, sS, i64_w, i32_w]; rfl) ?_
      refine pu_ 1 10 (rA [2,9]) HT_ (by kernel_rfl) rfl rfl (fun _ _ _ => id) (.inl ⟨by rfl, fun w' => by go_simp; with_reducible rfl⟩) (by simp only [Act.put, sA, s0, sS, i64_w, i32_w]; rfl) ?_
      refine pu_ 5 14 (rA [2,3,1,5]) HT_ (by kernel_rfl) rfl rfl (fun _ _ _ => id) (.inl ⟨by rfl, fun w' => by go_simp; with_reducible rfl⟩) (by simp only [Act.put, sA, s0, sS, i64_w, i32_w]; rfl) ?_
      refine pu_ 6 15 (rA [2,3,2,4]) HT_ (by kernel_rfl) rfl rfl (fun _ _ _ => id) (.inl ⟨by rfl, fun w' => by go_simp; with_reducible rfl⟩) (by simp only [Act.put, sA, s0, sS, i64_w, i32_w]; rfl) ?_
      refine take_ (i := 2) (N := some 11) (v := ?_) (a' := ?_) #[true, true, true, false, false, true, true, false, false, false, false] rfl rfl (take_ofW HT_.out HW_.out (by kernel_rfl)) (fun _ _ _ h => h) (Or.inl ⟨by rfl, ?_⟩) hHeld ?_ ?_
      rotate_left
      ·rintro w' ⟨s0, s1⟩
       go_simp
       with_reducible rfl
      rotate_left
      ·simp only [Act.put, sA, s0, sS, i64_w, i32_w]
       rfl
      refine pu_ 3 12 (rA [4,1,2,4]) HT_ (by kernel_rfl) rfl rfl (fun _ _ _ => id) (.inl ⟨by rfl, fun w' => by go_simp; with_reducible rfl⟩) (by simp only [Act.put, sA, s0, sS, i64_w, i32_w]; rfl) ?_
      refine pu_ 4 13 (rA [7,4]) HT_ (by kernel_rfl) rfl rfl (fun _ _ _ => id) (.inl ⟨by rfl, fun w' => by go_simp; with_reducible rfl⟩) (by simp only [Act.put, sA, s0, sS, i64_w, i32_w]; rfl) ?_
      refine take_ (i := 7) (N := some 16) (v := ?_) (a' := ?_) #[true, true, true, true, true, true, true, true, false, false, false] rfl rfl (take_ofW HT_.out HW_.out (by kernel_rfl)) (fun _ _ _ h => h) (Or.inl ⟨by rfl, ?_⟩) hHeld ?_ ?_
      rotate_left
      ·rintro w' ⟨s0, s1⟩
       go_simp
       with_reducible rfl
      rotate_left
      ·simp only [Act.put, sA, s0, sS, i64_w, i32_w]
       rfl
      refine pu_ 8 17 (rA [9,2]) HT_ (by kernel_rfl) rfl rfl (fun _ _ _ => id) (.inl ⟨by rfl, fun w' => by go_simp; with_reducible rfl⟩) (by simp only [Act.put, sA, s0, sS, i64_w, i32_w]; rfl) ?_
      refine pu_ 9 18 (rA [10,1]) HT_ (by kernel_rfl) rfl rfl (fun _ _ _ => id) (.inl ⟨by rfl, fun w' => by go_simp; with_reducible rfl⟩) (by simp only [Act.put, sA, s0, sS, i64_w, i32_w]; rfl) ?_
      refine pu_ 10 4 (rA [11]) HT_ (by kernel_rfl) rfl rfl (fun _ _ _ => id) (.inl ⟨by rfl, fun w' => by go_simp; with_reducible rfl⟩) (by simp only [Act.put, sA, s0, sS, i64_w, i32_w]; rfl) ?_
      refine done_ (done_of HT_.out (by kernel_rfl)) ?_
      try go_wp2
      have n0_ := Aside0.mk (Kd.V_drew HO0.out); have n1_ := Aside0.mk (below_drew1 HB.out); clear HO0; clear HB; have HO0 := n0_; have HB := n1_; clear n0_ n1_; refine start_ (n := 20) (S := fun w' => True) (ds := []) #[false, false, false, false, false, false, false, false, false, false, false, false, false, false, false, false, false, false, false, false] (by kernel_rfl) rfl rfl trivial (fun hHeld => ?_); refine with_tabW slip_first.tab5 slip_first.bits5 (fun HT_ HW_ => ?_)
      generalize w6.drew = w7 at HO0 HB hHeld ⊢
      refine pu_ 0 22 (rA [1,19]) HT_ (by kernel_rfl) rfl rfl (fun _ _ _ => id) (.inl ⟨by rfl, fun w' => by go_simp; with_reducible rfl⟩) (by simp only [Act.put, sA, s0, sS, i64_w, i32_w]; rfl) ?_
      refine pu_ 1 23 (rA [2,18]) HT_ (by kernel_rfl) rfl rfl (fun _ _ _ => id) (.inl ⟨by rfl, fun w' => by go_simp; with_reducible rfl⟩) (by simp only [Act.put, sA, s0, sS, i64_w, i32_w]; rfl) ?_
      refine pu_ 2 24 (rA [3,17]) HT_ (by kernel_rfl) rfl rfl (fun _ _ _ => id) (.inl ⟨by rfl, fun w' => by go_simp; with_reducible rfl⟩) (by simp only [Act.put, sA, s0, sS, i64_w, i32_w]; rfl) ?_
      refine pu_ 3 25 (rA [4,16]) HT_ (by kernel_rfl) rfl rfl (fun _ _ _ => id) (.inr ⟨by rfl, rfl⟩) (by simp only [Act.put, sA, s0, sS, i64_w, i32_w]; rfl) ?_
      refine pu_ 4 26 (rA [5,15]) HT_ (by kernel_rfl) rfl rfl (fun _ _ _ => id) (.inr ⟨by rfl, rfl⟩) (by simp only [Act.put, sA, s0, sS, i64_w, i32_w]; rfl) ?_
      refine pu_ 5 27 (rA [6,14]) HT_ (by kernel_rfl) rfl rfl (fun _ _ _ => id) (.inr ⟨by rfl, rfl⟩) (by simp only [Act.put, sA, s0, sS, i64_w, i32_w]; rfl) ?_
      refine pu_ 6 28 (rA [7,13]) HT_ (by kernel_rfl) rfl rfl (fun _ _ _ => id) (.inr ⟨by rfl, rfl⟩) (by simp only [Act.put, sA, s0, sS, i64_w, i32_w]; rfl) ?_
      refine pu_ 7 29 (rA [8,12]) HT_ (by kernel_rfl) rfl rfl (fun _ _ _ => id) (.inl ⟨by rfl, fun w' => by go_simp; with_reducible rfl⟩) (by simp only [Act.put, sA, s0, sS, i64_w, i32_w]; rfl) ?_
      refine pu_ 8 30 (rA [9,11]) HT_ (by kernel_rfl) rfl rfl (fun _ _ _ => id) (.inl ⟨by rfl, fun w' => by go_simp; with_reducible rfl⟩) (by simp only [Act.put, sA, s0, sS, i64_w, i32_w]; rfl) ?_
      refine pu_ 9 31 (rA [10,10]) HT_ (by kernel_rfl) rfl rfl (fun _ _ _ => id) (.inr ⟨by rfl, rfl⟩) (by simp only [Act.put, sA, s0, sS, i64_w, i32_w]; rfl) ?_
      refine pu_ 10 32 (rA [11,9]) HT_ (by kernel_rfl) rfl rfl (fun _ _ _ => id) (.inr ⟨by rfl, rfl⟩) (by simp only [Act.put, sA, s0, sS, i64_w, i32_w]; rfl) ?_
      refine pu_ 11 33 (rA [12,8]) HT_ (by kernel_rfl) rfl rfl (fun _ _ _ => id) (.inr ⟨by rfl, rfl⟩) (by simp only [Act.put, sA, s0, sS, i64_w, i32_w]; rfl) ?_
      refine pu_ 12 34 (rA [13,7]) HT_ (by kernel_rfl) rfl rfl (fun _ _ _ => id) (.inr ⟨by rfl, rfl⟩) (by simp only [Act.put, sA, s0, sS, i64_w, i32_w]; rfl) ?_
      refine pu_ 13 35 (rA [14,6]) HT_ (by kernel_rfl) rfl rfl (fun _ _ _ => id) (.inr ⟨by rfl, rfl⟩) (by simp only [Act.put, sA, s0, sS, i64_w, i32_w]; rfl) ?_
      refine pu_ 14 36 (rA [15,5]) HT_ (by kernel_rfl) rfl rfl (fun _ _ _ => id) (.inr ⟨by rfl, rfl⟩) (by simp only [Act.put, sA, s0, sS, i64_w, i32_w]; rfl) ?_
      refine pu_ 15 37 (rA [16,4]) HT_ (by kernel_rfl) rfl rfl (fun _ _ _ => id) (.inr ⟨by rfl, rfl⟩) (by simp only [Act.put, sA, s0, sS, i64_w, i32_w]; rfl) ?_
      refine pu_ 16 38 (rA [17,3]) HT_ (by kernel_rfl) rfl rfl (fun _ _ _ => id) (.inr ⟨by rfl, rfl⟩) (by simp only [Act.put, sA, s0, sS, i64_w, i32_w]; rfl) ?_
      refine pu_ 17 39 (rA [18,2]) HT_ (by kernel_rfl) rfl rfl (fun _ _ _ => id) (.inr ⟨by rfl, rfl⟩) (by simp only [Act.put, sA, s0, sS, i64_w, i32_w]; rfl) ?_
      refine pu_ 18 40 (rA [19,1]) HT_ (by kernel_rfl) rfl rfl (fun _ _ _ => id) (.inr ⟨by rfl, rfl⟩) (by simp only [Act.put, sA, s0, sS, i64_w, i32_w]; rfl) ?_
      refine pu_ 19 41 (rA [20]) HT_ (by kernel_rfl) rfl rfl (fun _ _ _ => id) (.inl ⟨by rfl, fun w' => by go_simp; with_reducible rfl⟩) (by simp only [Act.put, sA, s0, sS, i64_w, i32_w]; rfl) ?_
      refine done_ (done_of HT_.out (by kernel_rfl)) ?_
      try go_wp2
      go_ret2
      exact ⟨_, by first | rfl | (simp [errW_none, errW_some] <;> rfl) | (simp [*, errW_none, errW_some] <;> rfl), Kd.V_nil _ _ _ _ _, by repeat (first | (with_reducible first | exact HB.out | apply bA | apply bN | apply bD) | exact HB.out)⟩
     ·rw [if_neg c5] at H
      have c5b0 : decide (60000 < (Go.bits .or .i64 (wrap64 ((wrap64 (rd l0 0)) * 256)) (wrap64 (rd l0 1)))) = false := decide_eq_false c5
      clear c5; by_cases c8 : (l0.length : Int) < (wrap64 ((wrap64 (2 + (Go.bits .or .i64 (wrap64 ((wrap64 (rd l0 0)) * 256)) (wrap64 (rd l0 1))))) + 4))
      ·rw [if_pos c8] at H
       have c8b0 : decide ((l0.length : Int) < (wrap64 ((wrap64 (2 + (Go.bits .or .i64 (wrap64 ((wrap64 (rd l0 0)) * 256)) (wrap64 (rd l0 1))))) + 4))) = true := decide_eq_true c8
       clear c8; simp only [Option.some.injEq, Prod.mk.injEq] at H
       obtain ⟨rfl, rfl⟩ := H
       go_enter Tryd.func59, Tryd.ntmps59
       try go_wp2
       have n0_ := Aside0.mk (Kd.V_drew HO0.out); have n1_ := Aside0.mk (below_drew1 HB.out); clear HO0; clear HB; have HO0 := n0_; have HB := n1_; clear n0_ n1_; have p164 : 0 ≤ (0 : Int) := (by omega)
       have q164 : 0 < (l0.length : Int) := of_decide_eq_true (by first | (with_reducible assumption) | assumption)
       obtain ⟨ad164, e164, hx164_0⟩ := Kd.at_int (Kd.V_reads' HO0.out).2.2 0 p164 q164
       cases e164
       have qi164 : (0 < l0.length) = True := eq_true (by omega)
       (try rw [show ((0 : Int)).toNat = 0 from rfl] at hx164_0)
       (try rw [Addr.add_zero'] at hx164_0)
       replace p164 := eq_true p164
       replace q164 := eq_true q164
       have p165 : 0 ≤ (1 : Int) := (by omega)
       have q165 : 1 < (l0.length : Int) := of_decide_eq_true (by first | (with_reducible assumption) | assumption)
       obtain ⟨ad165, e165, hx165_0⟩ := Kd.at_int (Kd.V_reads' HO0.out).2.2 1 p165 q165
       obtain rfl : ad164 = ad165 := (by injection e165)
       (try simp only [show (1 : Int).toNat = 1 from rfl, Nat.reduceMul, Nat.reduceEqDiff, Go.Addr.add, ↓reduceIte] at hx165_0)
       have qi165 : (1 < l0.length) = True := eq_true (by omega)
       (try rw [show ((1 : Int)).toNat = 1 from rfl] at hx165_0)
       replace p165 := eq_true p165
       replace q165 := eq_true q165
       refine start_ (n := 11) (S := fun w' => w'.cell? ad164 = some (.int .u8 (rd l0 0)) ∧ w'.cell? ⟨ad164.block, ad164.off + 1, none⟩ = some (.int .u8 (rd l0 1))) (ds := []) #[false, false, false, false, false, false, false, false, false, false, false] (by kernel_rfl) rfl rfl ⟨hx164_0, hx165_0⟩ (fun hHeld => ?_); refine with_tabW slip_first.tab3 slip_first.bits3 (fun HT_ HW_ => ?_)
       generalize w.drew = w9 at HO0 HB hx164_0 hx165_0 hHeld ⊢
       refine pu_ 0 9 (rA [1,10]) HT_ (by kernel_rfl) rfl rfl (fun _ _ _ => id) (.inl ⟨by rfl, fun w' => by go_simp; with_reducible rfl⟩) (by simp only [Act.put, sA, s0, sS, i64_w, i32_w]; rfl) ?_
       refine pu_ 1 10 (rA [2,9]) HT_ (by kernel_rfl) rfl rfl (fun _ _ _ => id) (.inl ⟨by rfl, fun w' => by go_simp; with_reducible rfl⟩) (by simp only [Act.put, sA, s0, sS, i64_w, i32_w]; rfl) ?_
       refine pu_ 5 14 (rA [2,3,1,5]) HT_ (by kernel_rfl) rfl rfl (fun _ _ _ => id) (.inl ⟨by rfl, fun w' => by go_simp; with_reducible rfl⟩) (by simp only [Act.put, sA, s0, sS, i64_w, i32_w]; rfl) ?_
       refine pu_ 6 15 (rA [2,3,2,4]) HT_ (by kernel_rfl) rfl rfl (fun _ _ _ => id) (.inl ⟨by rfl, fun w' => by go_simp; with_reducible rfl⟩) (by simp only [Act.put, sA, s0, sS, i64_w, i32_w]; rfl) ?_
       refine take_ (i := 2) (N := some 11) (v := ?_) (a' := ?_) #[true, true, true, false, false, true, true, false, false, false, false] rfl rfl (take_ofW HT_.out HW_.out (by kernel_rfl)) (fun _ _ _ h => h) (Or.inl ⟨by rfl, ?_⟩) hHeld ?_ ?_
       rotate_left
       ·rintro w' ⟨s0, s1⟩
        go_simp
        with_reducible rfl
       rotate_left
       ·simp only [Act.put, sA, s0, sS, i64_w, i32_w]
        rfl
       refine pu_ 3 12 (rA [4,1,2,4]) HT_ (by kernel_rfl) rfl rfl (fun _ _ _ => id) (.inl ⟨by rfl, fun w' => by go_simp; with_reducible rfl⟩) (by simp only [Act.put, sA, s0, sS, i64_w, i32_w]; rfl) ?_
       refine pu_ 4 13 (rA [7,4]) HT_ (by kernel_rfl) rfl rfl (fun _ _ _ => id) (.inl ⟨by rfl, fun w' => by go_simp; with_reducible rfl⟩) (by simp only [Act.put, sA, s0, sS, i64_w, i32_w]; rfl) ?_
       refine take_ (i := 7) (N := some 16) (v := ?_) (a' := ?_) #[true, true, true, true, true, true, true, true, false, false, false] rfl rfl (take_ofW HT_.out HW_.out (by kernel_rfl)) (fun _ _ _ h => h) (Or.inl ⟨by rfl, ?_⟩) hHeld ?_ ?_
       rotate_left
       ·rintro w' ⟨s0, s1⟩
        go_simp
        with_reducible rfl
       rotate_left
       ·simp only [Act.put, sA, s0, sS, i64_w, i32_w]
        rfl
       refine pu_ 8 17 (rA [9,2]) HT_ (by kernel_rfl) rfl rfl (fun _ _ _ => id) (.inl ⟨by rfl, fun w' => by go_simp; with_reducible rfl⟩) (by simp only [Act.put, sA, s0, sS, i64_w, i32_w]; rfl) ?_
       refine pu_ 9 18 (rA [10,1]) HT_ (by kernel_rfl) rfl rfl (fun _ _ _ => id) (.inl ⟨by rfl, fun w' => by go_simp; with_reducible rfl⟩) (by simp only [Act.put, sA, s0, sS, i64_w, i32_w]; rfl) ?_
       refine pu_ 10 4 (rA [11]) HT_ (by kernel_rfl) rfl rfl (fun _ _ _ => id) (.inl ⟨by rfl, fun w' => by go_simp; with_reducible rfl⟩) (by simp only [Act.put, sA, s0, sS, i64_w, i32_w]; rfl) ?_
       refine done_ (done_of HT_.out (by kernel_rfl)) ?_
       try go_wp2
       have n0_ := Aside0.mk (Kd.V_drew HO0.out); have n1_ := Aside0.mk (below_drew1 HB.out); clear HO0; clear HB; have HO0 := n0_; have HB := n1_; clear n0_ n1_; refine start_ (n := 20) (S := fun w' => True) (ds := []) #[false, false, false, false, false, false, false, false, false, false, false, false, false, false, false, false, false, false, false, false] (by kernel_rfl) rfl rfl trivial (fun hHeld => ?_); refine with_tabW slip_first.tab5 slip_first.bits5 (fun HT_ HW_ => ?_)
       generalize w9.drew = w10 at HO0 HB hHeld ⊢
       refine pu_ 0 22 (rA [1,19]) HT_ (by kernel_rfl) rfl rfl (fun _ _ _ => id) (.inl ⟨by rfl, fun w' => by go_simp; with_reducible rfl⟩) (by simp only [Act.put, sA, s0, sS, i64_w, i32_w]; rfl) ?_
       refine pu_ 1 23 (rA [2,18]) HT_ (by kernel_rfl) rfl rfl (fun _ _ _ => id) (.inl ⟨by rfl, fun w' => by go_simp; with_reducible rfl⟩) (by simp only [Act.put, sA, s0, sS, i64_w, i32_w]; rfl) ?_
       refine pu_ 2 24 (rA [3,17]) HT_ (by kernel_rfl) rfl rfl (fun _ _ _ => id) (.inl ⟨by rfl, fun w' => by go_simp; with_reducible rfl⟩) (by simp only [Act.put, sA, s0, sS, i64_w, i32_w]; rfl) ?_
       refine pu_ 3 25 (rA [4,16]) HT_ (by kernel_rfl) rfl rfl (fun _ _ _ => id) (.inl ⟨by rfl, fun w' => by go_simp; with_reducible rfl⟩) (by simp only [Act.put, sA, s0, sS, i64_w, i32_w]; rfl) ?_
       refine pu_ 4 26 (rA [5,15]) HT_ (by kernel_rfl) rfl rfl (fun _ _ _ => id) (.inl ⟨by rfl, fun w' => by go_simp; with_reducible rfl⟩) (by simp only [Act.put, sA, s0, sS, i64_w, i32_w]; rfl) ?_
       refine pu_ 5 27 (rA [6,14]) HT_ (by kernel_rfl) rfl rfl (fun _ _ _ => id) (.inl ⟨by rfl, fun w' => by go_simp; with_reducible rfl⟩) (by simp only [Act.put, sA, s0, sS, i64_w, i32_w]; rfl) ?_
       refine pu_ 6 28 (rA [7,13]) HT_ (by kernel_rfl) rfl rfl (fun _ _ _ => id) (.inl ⟨by rfl, fun w' => by go_simp; with_reducible rfl⟩) (by simp only [Act.put, sA, s0, sS, i64_w, i32_w]; rfl) ?_
       refine pu_ 7 29 (rA [8,12]) HT_ (by kernel_rfl) rfl rfl (fun _ _ _ => id) (.inl ⟨by rfl, fun w' => by go_simp; with_reducible rfl⟩) (by simp only [Act.put, sA, s0, sS, i64_w, i32_w]; rfl) ?_
       refine pu_ 8 30 (rA [9,11]) HT_ (by kernel_rfl) rfl rfl (fun _ _ _ => id) (.inl ⟨by rfl, fun w' => by go_simp; with_reducible rfl⟩) (by simp only [Act.put, sA, s0, sS, i64_w, i32_w]; rfl) ?_
       refine pu_ 9 31 (rA [10,10]) HT_ (by kernel_rfl) rfl rfl (fun _ _ _ => id) (.inr ⟨by rfl, rfl⟩) (by simp only [Act.put, sA, s0, sS, i64_w, i32_w]; rfl) ?_
       refine pu_ 10 32 (rA [11,9]) HT_ (by kernel_rfl) rfl rfl (fun _ _ _ => id) (.inr ⟨by rfl, rfl⟩) (by simp only [Act.put, sA, s0, sS, i64_w, i32_w]; rfl) ?_
       refine pu_ 11 33 (rA [12,8]) HT_ (by kernel_rfl) rfl rfl (fun _ _ _ => id) (.inr ⟨by rfl, rfl⟩) (by simp only [Act.put, sA, s0, sS, i64_w, i32_w]; rfl) ?_
       refine pu_ 12 34 (rA [13,7]) HT_ (by kernel_rfl) rfl rfl (fun _ _ _ => id) (.inr ⟨by rfl, rfl⟩) (by simp only [Act.put, sA, s0, sS, i64_w, i32_w]; rfl) ?_
       refine pu_ 13 35 (rA [14,6]) HT_ (by kernel_rfl) rfl rfl (fun _ _ _ => id) (.inr ⟨by rfl, rfl⟩) (by simp only [Act.put, sA, s0, sS, i64_w, i32_w]; rfl) ?_
       refine pu_ 14 36 (rA [15,5]) HT_ (by kernel_rfl) rfl rfl (fun _ _ _ => id) (.inr ⟨by rfl, rfl⟩) (by simp only [Act.put, sA, s0, sS, i64_w, i32_w]; rfl) ?_
       refine pu_ 15 37 (rA [16,4]) HT_ (by kernel_rfl) rfl rfl (fun _ _ _ => id) (.inr ⟨by rfl, rfl⟩) (by simp only [Act.put, sA, s0, sS, i64_w, i32_w]; rfl) ?_
       refine pu_ 16 38 (rA [17,3]) HT_ (by kernel_rfl) rfl rfl (fun _ _ _ => id) (.inr ⟨by rfl, rfl⟩) (by simp only [Act.put, sA, s0, sS, i64_w, i32_w]; rfl) ?_
       refine pu_ 17 39 (rA [18,2]) HT_ (by kernel_rfl) rfl rfl (fun _ _ _ => id) (.inr ⟨by rfl, rfl⟩) (by simp only [Act.put, sA, s0, sS, i64_w, i32_w]; rfl) ?_
       refine pu_ 18 40 (rA [19,1]) HT_ (by kernel_rfl) rfl rfl (fun _ _ _ => id) (.inr ⟨by rfl, rfl⟩) (by simp only [Act.put, sA, s0, sS, i64_w, i32_w]; rfl) ?_
       refine pu_ 19 41 (rA [20]) HT_ (by kernel_rfl) rfl rfl (fun _ _ _ => id) (.inl ⟨by rfl, fun w' => by go_simp; with_reducible rfl⟩) (by simp only [Act.put, sA, s0, sS, i64_w, i32_w]; rfl) ?_
       refine done_ (done_of HT_.out (by kernel_rfl)) ?_
       try go_wp2
       go_ret2
       exact ⟨_, by first | rfl | (simp [errW_none, errW_some] <;> rfl) | (simp [*, errW_none, errW_some] <;> rfl), Kd.V_nil _ _ _ _ _, by repeat (first | (with_reducible first | exact HB.out | apply bA | apply bN | apply bD) | exact HB.out)⟩
      ·rw [if_neg c8] at H
       have c8b0 : decide ((l0.length : Int) < (wrap64 ((wrap64 (2 + (Go.bits .or .i64 (wrap64 ((wrap64 (rd l0 0)) * 256)) (wrap64 (rd l0 1))))) + 4))) = false := decide_eq_false c8
       clear c8; obtain ⟨ji11, hji11⟩ : ∃ j_ : Int, (wrap64 (2 + (Go.bits .or .i64 (wrap64 ((wrap64 (rd l0 0)) * 256)) (wrap64 (rd l0 1))))) = j_ := ⟨_, rfl⟩
       replace H : (if 0 ≤ (ji11) then (if (ji11) ≤ (l0.length : Int) then ((slip_sealed.f k (l0.take ((ji11) : Int).toNat)).bind fun t171 => (if 0 ≤ (wrap64 ((ji11) + 4)) then (if (wrap64 ((ji11) + 4)) ≤ (l0.length : Int) then ((bytes_Equal.f t171 (l0.take ((wrap64 ((ji11) + 4)) : Int).toNat)).bind fun t179 => (if t179 = true then (if 2 ≤ (ji11) then (some (((l0.take ((ji11) : Int).toNat).drop 2), wrap64 ((ji11) + 4))) else (none)) else (some (([] : List Int), 0)))) else (none)) else (none))) else (none)) else (none)) = some (r1, r2) := by first | (rw [hji11] at H; exact H) | (simp only [hji11] at H ⊢; exact H)
       (try rw [hji11] at c8b0)
       have hji11w : (IntKind.i64.wrap (2 + (Go.bits .or .i64 (wrap64 ((wrap64 (rd l0 0)) * 256)) (wrap64 (rd l0 1))))) = ji11 := (i64_w _).trans hji11
       by_cases c12 : 0 ≤ (ji11)
       ·rw [if_pos c12] at H
        have c12b0 := eq_true c12
        have c12b1 : decide (0 ≤ (ji11)) = true := decide_eq_true c12
        clear c12; by_cases c13 : (ji11) ≤ (l0.length : Int)
        ·rw [if_pos c13] at H
         have c13b0 := eq_true c13
         have c13b1 : decide ((ji11) ≤ (l0.length : Int)) = true := decide_eq_true c13
         clear c13; obtain ⟨y166, hy166⟩ : ∃ y_ : List Int, y_ = (l0.take ((ji11) : Int).toNat) := ⟨_, rfl⟩
         replace H : ((slip_sealed.f k y166).bind fun t171 => (if 0 ≤ (wrap64 ((ji11) + 4)) then (if (wrap64 ((ji11) + 4)) ≤ (l0.length : Int) then ((bytes_Equal.f t171 (l0.take ((wrap64 ((ji11) + 4)) : Int).toNat)).bind fun t179 => (if t179 = true then (if 2 ≤ (ji11) then (some (((l0.take ((ji11) : Int).toNat).drop 2), wrap64 ((ji11) + 4))) else (none)) else (some (([] : List Int), 0)))) else (none)) else (none))) = some (r1, r2) := by first | (rw [hy166]; with_reducible exact H) | (have H2_ := (Option.bind_some _ _).symm.trans H; rw [hy166]; with_reducible exact H2_) | (have H2_ := (Option.bind_some _ _).symm.trans H; with_reducible exact H2_) | with_reducible exact H | (rw [hy166]; exact H) | exact H
         have Ny166 := Aside0.mk hy166; clear hy166; replace H := Option.bind_eq_some_iff.mp H
         obtain ⟨t171, A140, H⟩ := H
         replace H : (if 0 ≤ (wrap64 ((ji11) + 4)) then (if (wrap64 ((ji11) + 4)) ≤ (l0.length : Int) then ((bytes_Equal.f t171 (l0.take ((wrap64 ((ji11) + 4)) : Int).toNat)).bind fun t179 => (if t179 = true then (if 2 ≤ (ji11) then (some (((l0.take ((ji11) : Int).toNat).drop 2), wrap64 ((ji11) + 4))) else (none)) else (some (([] : List Int), 0)))) else (none)) else (none)) = some (r1, r2) := H
         have A14 := Aside0.mk A140; clear A140; obtain ⟨ji15, hji15⟩ : ∃ j_ : Int, (wrap64 ((ji11) + 4)) = j_ := ⟨_, rfl⟩
         replace H : (if 0 ≤ (ji15) then (if (ji15) ≤ (l0.length : Int) then ((bytes_Equal.f t171 (l0.take ((ji15) : Int).toNat)).bind fun t179 => (if t179 = true then (if 2 ≤ (ji11) then (some (((l0.take ((ji11) : Int).toNat).drop 2), ji15)) else (none)) else (some (([] : List Int), 0)))) else (none)) else (none)) = some (r1, r2) := by first | (rw [hji15] at H; exact H) | (simp only [hji15] at H ⊢; exact H)
         (try rw [hji15] at c8b0)
         (try rw [hji15] at A14)
         have hji15w : (IntKind.i64.wrap ((ji11) + 4)) = ji15 := (i64_w _).trans hji15
         by_cases c16 : 0 ≤ (ji15)
         ·rw [if_pos c16] at H
          have c16b0 := eq_true c16
          have c16b1 : decide (0 ≤ (ji15)) = true := decide_eq_true c16
          clear c16; by_cases c17 : (ji15) ≤ (l0.length : Int)
          ·rw [if_pos c17] at H
           have c17b0 := eq_true c17
           have c17b1 : decide ((ji15) ≤ (l0.length : Int)) = true := decide_eq_true c17
           clear c17; obtain ⟨y174, hy174⟩ : ∃ y_ : List Int, y_ = (l0.take ((ji15) : Int).toNat) := ⟨_, rfl⟩
           replace H : ((bytes_Equal.f t171 y174).bind fun t179 => (if t179 = true then (if 2 ≤ (ji11) then (some (((l0.take ((ji11) : Int).toNat).drop 2), ji15)) else (none)) else (some (([] : List Int), 0)))) = some (r1, r2) := by first | (rw [hy174]; with_reducible exact H) | (have H2_ := (Option.bind_some _ _).symm.trans H; rw [hy174]; with_reducible exact H2_) | (have H2_ := (Option.bind_some _ _).symm.trans H; with_reducible exact H2_) | with_reducible exact H | (rw [hy174]; exact H) | exact H
           have Ny174 := Aside0.mk hy174; clear hy174; replace H := Option.bind_eq_some_iff.mp H
           obtain ⟨t179, A180, H⟩ := H
           replace H : (if t179 = true then (if 2 ≤ (ji11) then (some (((l0.take ((ji11) : Int).toNat).drop 2), ji15)) else (none)) else (some (([] : List Int), 0))) = some (r1, r2) := H
           have A18 := Aside0.mk A180; clear A180; by_cases c19 : t179 = true
           ·subst c19
            have H1 : (if 2 ≤ (ji11) then (some (((l0.take ((ji11) : Int).toNat).drop 2), ji15)) else (none)) = some (r1, r2) := by rw [if_pos rfl] at H; exact H
            clear H; have H := H1; clear H1; by_cases c20 : 2 ≤ (ji11)
            ·rw [if_pos c20] at H
             have c20b0 := eq_true c20
             have c20b1 : decide (2 ≤ (ji11)) = true := decide_eq_true c20
             clear c20; have c21b0 := eq_true (of_decide_eq_true (by first | (with_reducible assumption) | assumption) : (ji11) ≤ (l0.length : Int))
             obtain ⟨y180, hy180⟩ : ∃ y_ : List Int, y_ = ((l0.take ((ji11) : Int).toNat).drop 2) := ⟨_, rfl⟩
             replace H : (some (y180, ji15)) = some (r1, r2) := by first | (rw [hy180]; with_reducible exact H) | (have H2_ := (Option.bind_some _ _).symm.trans H; rw [hy180]; with_reducible exact H2_) | (have H2_ := (Option.bind_some _ _).symm.trans H; with_reducible exact H2_) | with_reducible exact H | (rw [hy180]; exact H) | exact H
             have Ny180 := Aside0.mk hy180; clear hy180; simp only [Option.some.injEq, Prod.mk.injEq] at H
             obtain ⟨rfl, rfl⟩ := H
             go_enter Tryd.func59, Tryd.ntmps59
             try go_wp2
             have n0_ := Aside0.mk (Kd.V_drew HO0.out); have n1_ := Aside0.mk (below_drew1 HB.out); clear HO0; clear HB; have HO0 := n0_; have HB := n1_; clear n0_ n1_; have p164 : 0 ≤ (0 : Int) := (by omega)
             have q164 : 0 < (l0.length : Int) := of_decide_eq_true (by first | (with_reducible assumption) | assumption)
             obtain ⟨ad164, e164, hx164_0⟩ := Kd.at_int (Kd.V_reads' HO0.out).2.2 0 p164 q164
             cases e164
             have qi164 : (0 < l0.length) = True := eq_true (by omega)
             (try rw [show ((0 : Int)).toNat = 0 from rfl] at hx164_0)
             (try rw [Addr.add_zero'] at hx164_0)
             replace p164 := eq_true p164
             replace q164 := eq_true q164
             have p165 : 0 ≤ (1 : Int) := (by omega)
             have q165 : 1 < (l0.length : Int) := of_decide_eq_true (by first | (with_reducible assumption) | assumption)
             obtain ⟨ad165, e165, hx165_0⟩ := Kd.at_int (Kd.V_reads' HO0.out).2.2 1 p165 q165
             obtain rfl : ad164 = ad165 := (by injection e165)
             (try simp only [show (1 : Int).toNat = 1 from rfl, Nat.reduceMul, Nat.reduceEqDiff, Go.Addr.add, ↓reduceIte] at hx165_0)
             have qi165 : (1 < l0.length) = True := eq_true (by omega)
             (try rw [show ((1 : Int)).toNat = 1 from rfl] at hx165_0)
             replace p165 := eq_true p165
             replace q165 := eq_true q165
             refine start_ (n := 11) (S := fun w' => w'.cell? ad164 = some (.int .u8 (rd l0 0)) ∧ w'.cell? ⟨ad164.block, ad164.off + 1, none⟩ = some (.int .u8 (rd l0 1))) (ds := []) #[false, false, false, false, false, false, false, false, false, false, false] (by kernel_rfl) rfl rfl ⟨hx164_0, hx165_0⟩ (fun hHeld => ?_); refine with_tabW slip_first.tab3 slip_first.bits3 (fun HT_ HW_ => ?_)
             generalize w.drew = w22 at HO0 HB hx164_0 hx165_0 hHeld ⊢
             refine pu_ 0 9 (rA [1,10]) HT_ (by kernel_rfl) rfl rfl (fun _ _ _ => id) (.inl ⟨by rfl, fun w' => by go_simp; with_reducible rfl⟩) (by simp only [Act.put, sA, s0, sS, i64_w, i32_w]; rfl) ?_
             refine pu_ 1 10 (rA [2,9]) HT_ (by kernel_rfl) rfl rfl (fun _ _ _ => id) (.inl ⟨by rfl, fun w' => by go_simp; with_reducible rfl⟩) (by simp only [Act.put, sA, s0, sS, i64_w, i32_w]; rfl) ?_
             refine pu_ 5 14 (rA [2,3,1,5]) HT_ (by kernel_rfl) rfl rfl (fun _ _ _ => id) (.inl ⟨by rfl, fun w' => by go_simp; with_reducible rfl⟩) (by simp only [Act.put, sA, s0, sS, i64_w, i32_w]; rfl) ?_
             refine pu_ 6 15 (rA [2,3,2,4]) HT_ (by kernel_rfl) rfl rfl (fun _ _ _ => id) (.inl ⟨by rfl, fun w' => by go_simp; with_reducible rfl⟩) (by simp only [Act.put, sA, s0, sS, i64_w, i32_w]; rfl) ?_
             refine take_ (i := 2) (N := some 11) (v := ?_) (a' := ?_) #[true, true, true, false, false, true, true, false, false, false, false] rfl rfl (take_ofW HT_.out HW_.out (by kernel_rfl)) (fun _ _ _ h => h) (Or.inl ⟨by rfl, ?_⟩) hHeld ?_ ?_
             rotate_left
             ·rintro w' ⟨s0, s1⟩
              go_simp
              with_reducible rfl
             rotate_left
             ·simp only [Act.put, sA, s0, sS, i64_w, i32_w]
              rfl
             refine pu_ 3 12 (rA [4,1,2,4]) HT_ (by kernel_rfl) rfl rfl (fun _ _ _ => id) (.inl ⟨by rfl, fun w' => by go_simp; with_reducible rfl⟩) (by simp only [Act.put, sA, s0, sS, i64_w, i32_w]; rfl) ?_
             refine pu_ 4 13 (rA [7,4]) HT_ (by kernel_rfl) rfl rfl (fun _ _ _ => id) (.inl ⟨by rfl, fun w' => by go_simp; with_reducible rfl⟩) (by simp only [Act.put, sA, s0, sS, i64_w, i32_w]; rfl) ?_
             refine take_ (i := 7) (N := some 16) (v := ?_) (a' := ?_) #[true, true, true, true, true, true, true, true, false, false, false] rfl rfl (take_ofW HT_.out HW_.out (by kernel_rfl)) (fun _ _ _ h => h) (Or.inl ⟨by rfl, ?_⟩) hHeld ?_ ?_
             rotate_left
             ·rintro w' ⟨s0, s1⟩
              go_simp
              with_reducible rfl
             rotate_left
             ·simp only [Act.put, sA, s0, sS, i64_w, i32_w]
              rfl
             refine pu_ 8 17 (rA [9,2]) HT_ (by kernel_rfl) rfl rfl (fun _ _ _ => id) (.inl ⟨by rfl, fun w' => by go_simp; with_reducible rfl⟩) (by simp only [Act.put, sA, s0, sS, i64_w, i32_w]; rfl) ?_
             refine pu_ 9 18 (rA [10,1]) HT_ (by kernel_rfl) rfl rfl (fun _ _ _ => id) (.inl ⟨by rfl, fun w' => by go_simp; with_reducible rfl⟩) (by simp only [Act.put, sA, s0, sS, i64_w, i32_w]; rfl) ?_
             refine pu_ 10 4 (rA [11]) HT_ (by kernel_rfl) rfl rfl (fun _ _ _ => id) (.inl ⟨by rfl, fun w' => by go_simp; with_reducible rfl⟩) (by simp only [Act.put, sA, s0, sS, i64_w, i32_w]; rfl) ?_
             refine done_ (done_of HT_.out (by kernel_rfl)) ?_
             try go_wp2
             have n0_ := Aside0.mk (Kd.V_drew HO0.out); have n1_ := Aside0.mk (below_drew1 HB.out); clear HO0; clear HB; have HO0 := n0_; have HB := n1_; clear n0_ n1_; have q24 : ((ji11) : Int) ≤ ((l0.length : Int) : Int) := of_decide_eq_true (by first | (with_reducible assumption) | assumption)
             obtain ⟨i024, hi024, _, hsz24, _⟩ := info_parts info5
             have hroom24 : l0.length ≤ c0 := (Kd.V_reads' HO0.out).2.1
             have hC24 : Kd.F (Kd.int .u8) _ _ (some ad164) l0.length l0 := (Kd.V_at (base := w.heap.size) HO0.out).2.2
             have hcut24 := cut_to (P := Tryd.prog) 24 5 .i64 Tryd.underlying24 hi024 (some ad164) l0.length c0 (ji11) (of_decide_eq_true (by first | (with_reducible assumption) | assumption)) q24 hroom24
             have hr24 := Kd.F_take (m := ((ji11) : Int).toNat) hC24 (by omega)
             have hy24 : y166.length = ((ji11) : Int).toNat := (by rw [Ny166.out, List.length_take]; omega)
             rw [← Ny166.out] at hr24; rw [← hy24] at hcut24
             have HO170 := Aside0.mk (show Kd.V (Kd.int .u8) 5 _ w.heap.size _ (.slice (some ad164) y166.length c0) y166 from Kd.V_mk (by omega) hr24); have HC170 := Aside0.mk (show y166.length ≤ c0 from by omega); clear hr24 hC24 hroom24 hi024 hsz24; have KY24 := Aside0.mk hy24; clear hy24; replace q24 := eq_true q24
             have q25 : ((ji15) : Int) ≤ ((l0.length : Int) : Int) := of_decide_eq_true (by first | (with_reducible assumption) | assumption)
             obtain ⟨i025, hi025, _, hsz25, _⟩ := info_parts info5
             have hroom25 : l0.length ≤ c0 := (Kd.V_reads' HO0.out).2.1
             have hC25 : Kd.F (Kd.int .u8) _ _ (some ad164) l0.length l0 := (Kd.V_at (base := w.heap.size) HO0.out).2.2
             have hcut25 := cut_to (P := Tryd.prog) 24 5 .i64 Tryd.underlying24 hi025 (some ad164) l0.length c0 (ji15) (of_decide_eq_true (by first | (with_reducible assumption) | assumption)) q25 hroom25
             have hr25 := Kd.F_take (m := ((ji15) : Int).toNat) hC25 (by omega)
             have hy25 : y174.length = ((ji15) : Int).toNat := (by rw [Ny174.out, List.length_take]; omega)
             rw [← Ny174.out] at hr25; rw [← hy25] at hcut25
             have HO178 := Aside0.mk (show Kd.V (Kd.int .u8) 5 _ w.heap.size _ (.slice (some ad164) y174.length c0) y174 from Kd.V_mk (by omega) hr25); have HC178 := Aside0.mk (show y174.length ≤ c0 from by omega); clear hr25 hC25 hroom25 hi025 hsz25; have KY25 := Aside0.mk hy25; clear hy25; replace q25 := eq_true q25
             refine start_ (n := 20) (S := fun w' => True) (ds := []) #[false, false, false, false, false, false, false, false, false, false, false, false, false, false, false, false, false, false, false, false] (by kernel_rfl) rfl rfl trivial (fun hHeld => ?_); refine with_tabW slip_first.tab5 slip_first.bits5 (fun HT_ HW_ => ?_)
             generalize w22.drew = w23 at HO0 HB HO170 HO178 hHeld ⊢
             refine pu_ 0 22 (rA [1,19]) HT_ (by kernel_rfl) rfl rfl (fun _ _ _ => id) (.inl ⟨by rfl, fun w' => by go_simp; with_reducible rfl⟩) (by simp only [Act.put, sA, s0, sS, i64_w, i32_w]; rfl) ?_
             refine pu_ 1 23 (rA [2,18]) HT_ (by kernel_rfl) rfl rfl (fun _ _ _ => id) (.inl ⟨by rfl, fun w' => by go_simp; with_reducible rfl⟩) (by simp only [Act.put, sA, s0, sS, i64_w, i32_w]; rfl) ?_
             refine pu_ 2 24 (rA [3,17]) HT_ (by kernel_rfl) rfl rfl (fun _ _ _ => id) (.inl ⟨by rfl, fun w' => by go_simp; with_reducible rfl⟩) (by simp only [Act.put, sA, s0, sS, i64_w, i32_w]; rfl) ?_
             refine pu_ 3 25 (rA [4,16]) HT_ (by kernel_rfl) rfl rfl (fun _ _ _ => id) (.inl ⟨by rfl, fun w' => by go_simp; with_reducible rfl⟩) (by simp only [Act.put, sA, s0, sS, i64_w, i32_w]; rfl) ?_
             refine pu_ 4 26 (rA [5,15]) HT_ (by kernel_rfl) rfl rfl (fun _ _ _ => id) (.inl ⟨by rfl, fun w' => by go_simp; with_reducible rfl⟩) (by simp only [Act.put, sA, s0, sS, i64_w, i32_w]; rfl) ?_
             refine pu_ 5 27 (rA [6,14]) HT_ (by kernel_rfl) rfl rfl (fun _ _ _ => id) (.inl ⟨by rfl, fun w' => by go_simp; with_reducible rfl⟩) (by simp only [Act.put, sA, s0, sS, i64_w, i32_w]; rfl) ?_
             refine pu_ 6 28 (rA [7,13]) HT_ (by kernel_rfl) rfl rfl (fun _ _ _ => id) (.inl ⟨by rfl, fun w' => by go_simp; with_reducible rfl⟩) (by simp only [Act.put, sA, s0, sS, i64_w, i32_w]; rfl) ?_
             refine pu_ 7 29 (rA [8,12]) HT_ (by kernel_rfl) rfl rfl (fun _ _ _ => id) (.inl ⟨by rfl, fun w' => by go_simp; with_reducible rfl⟩) (by simp only [Act.put, sA, s0, sS, i64_w, i32_w]; rfl) ?_
             refine pu_ 8 30 (rA [9,11]) HT_ (by kernel_rfl) rfl rfl (fun _ _ _ => id) (.inl ⟨by rfl, fun w' => by go_simp; with_reducible rfl⟩) (by simp only [Act.put, sA, s0, sS, i64_w, i32_w]; rfl) ?_
             refine pu_ 9 31 (rA [10,10]) HT_ (by kernel_rfl) rfl rfl (fun _ _ _ => id) (.inl ⟨by rfl, fun w' => by go_simp; with_reducible rfl⟩) (by simp only [Act.put, sA, s0, sS, i64_w, i32_w]; rfl) ?_
             refine pu_ 10 32 (rA [11,9]) HT_ (by kernel_rfl) rfl rfl (fun _ _ _ => id) (.inl ⟨by rfl, fun w' => by go_simp; with_reducible rfl⟩) (by simp only [Act.put, sA, s0, sS, i64_w, i32_w]; rfl) ?_
             refine pu_ 11 33 (rA [12,8]) HT_ (by kernel_rfl) rfl rfl (fun _ _ _ => id) (.inl ⟨by rfl, fun w' => by go_simp; with_reducible rfl⟩) (by simp only [Act.put, sA, s0, sS, i64_w, i32_w]; rfl) ?_
             refine pu_ 12 34 (rA [13,7]) HT_ (by kernel_rfl) rfl rfl (fun _ _ _ => id) (.inl ⟨by rfl, fun w' => by go_simp; with_reducible rfl⟩) (by simp only [Act.put, sA, s0, sS, i64_w, i32_w]; rfl) ?_
             refine pu_ 14 36 (rA [13,1,1,5]) HT_ (by kernel_rfl) rfl rfl (fun _ _ _ => id) (.inl ⟨by rfl, fun w' => by go_simp; with_reducible rfl⟩) (by simp only [Act.put, sA, s0, sS, i64_w, i32_w]; rfl) ?_
             refine pu_ 15 37 (rA [13,1,2,4]) HT_ (by kernel_rfl) rfl rfl (fun _ _ _ => id) (.inl ⟨by rfl, fun w' => by go_simp; with_reducible rfl⟩) (by simp only [Act.put, sA, s0, sS, i64_w, i32_w]; rfl) ?_
             refine pu_ 16 38 (rA [13,1,3,3]) HT_ (by kernel_rfl) rfl rfl (fun _ _ _ => id) (.inl ⟨by rfl, fun w' => by go_simp; with_reducible rfl⟩) (by simp only [Act.put, sA, s0, sS, i64_w, i32_w]; rfl) ?_
             refine one_ (i := 13) (N := some 35) (rA [17,3]) rfl rfl (one_of HT_.out (by kernel_rfl)) (by decide) (fun K hK => ?_)
             refine goes_ Tryd.func58 (by kernel_rfl) rfl #[.slice (some ad164) y166.length c0] (by first | rfl | (simp [Region.wanted, yielded, *]; done)) rfl rfl (by (try simp only [mT, mC, mN]); first | done | rfl | (simp only [Act.eval, gD, oG, e34]; done) | (simp only [List.length_drop, List.length_take]; rfl)) ?_
             with_reducible refine (slip_sealed.calls k _ _ y166 t171 _ ?side1 ?side2 ?side3 ?side4 A14.out).mono ?_
             (case side1 => repeat (first | exact (Kd.V_reads' HO170.out).2.2 | (with_reducible refine Kd.C_alloc ?_ _) | (with_reducible refine Kd.C_drewN ?_ _) | (with_reducible refine Kd.C_drew ?_)))
             (case side2 => exact (Kd.V_reads' HO170.out).2.1)
             (case side3 => repeat (first | exact (Kd.C_below HRL0_.out HB.out) | (with_reducible refine Kd.C_alloc ?_ _) | (with_reducible refine Kd.C_drewN ?_ _) | (with_reducible refine Kd.C_drew ?_)))
             (case side4 => repeat (first | exact (Kd.C_below HRL1_.out HB.out) | (with_reducible refine Kd.C_alloc ?_ _) | (with_reducible refine Kd.C_drewN ?_ _) | (with_reducible refine Kd.C_drew ?_)))
             rintro e w26 ⟨v172, rfl, ho0, hb⟩
             refine ⟨_, rfl, ?_⟩; have n0_ := Aside0.mk (Kd.V_elder' (by (with_reducible repeat (first | apply Kd.V_alloc | apply Kd.V_drewN | apply Kd.V_drew)); exact HO0.out) (Kd.R_base ho0) hb); have n1_ := Aside0.mk (Kd.V_elder' (by (with_reducible repeat (first | apply Kd.V_alloc | apply Kd.V_drewN | apply Kd.V_drew)); exact HO170.out) (Kd.R_base ho0) hb); have n2_ := Aside0.mk (Kd.V_elder' (by (with_reducible repeat (first | apply Kd.V_alloc | apply Kd.V_drewN | apply Kd.V_drew)); exact HO178.out) (Kd.R_base ho0) hb); have n3_ := Aside0.mk (Kd.R_lower (Kd.R_newM (M := fun k_ => (w.heap.size ≤ k_)) ho0 (below_size (by repeat (first | (with_reducible first | exact HB.out | apply bA | apply bN | apply bD) | exact HB.out))) (fun k_ h_ => h_)) (below_size (by repeat (first | (with_reducible first | exact HB.out | apply bA | apply bN | apply bD) | exact HB.out)))); have n4_ := Aside0.mk (below_step (by repeat (first | (with_reducible first | exact HB.out | apply bA | apply bN | apply bD) | exact HB.out)) hb); clear HO0; clear HO170; clear HO178; clear HB; have HO0 := n0_; have HO170 := n1_; have HO178 := n2_; have HO173 := n3_; have HB := n4_; clear n0_ n1_ n2_ n3_ n4_; (try clear hb); (try clear hb2); (try clear hk); (try clear hi); (try clear ho0); obtain ⟨Ao27, co27, eo27⟩ := Kd.R_slice HO173.out
             (first | subst eo27 | (injection eo27 with f1_ f2_ f3_; have f4_ := f1_.symm; have f5_ := f3_.symm; clear f1_ f2_ f3_; subst f4_; subst f5_)); refine hK.out _ _ trivial (fun hHeld => ?_)
             clear hK K; refine norm_ (a' := ?_) ?_ ?_
             rotate_left
             ·show Act.put _ (some 35) _ = _
              simp only [Act.put, sA, s0, sS, i64_w, i32_w]
              rfl
             refine one_ (i := 17) (N := some 39) (rA [18,2]) rfl rfl (one_of HT_.out (by kernel_rfl)) (by decide) (fun K hK => ?_)
             refine goes_ Tryd.func66 (by kernel_rfl) rfl #[.slice Ao27 t171.length co27, .slice (some ad164) y174.length c0] (by first | rfl | (simp [Region.wanted, yielded, *]; done)) rfl rfl (by (try simp only [mT, mC, mN]); first | done | rfl | (simp only [Act.eval, gD, oG, e35, e38]; done) | (simp only [List.length_drop, List.length_take]; rfl)) ?_
             with_reducible refine (bytes_Equal.calls _ _ t171 _ _ y174 true _ ?side1 ?side2 ?side3 ?side4 A18.out).mono ?_
             (case side1 => repeat (first | exact (Kd.R_reads' HO173.out).2.2 | (with_reducible refine Kd.C_alloc ?_ _) | (with_reducible refine Kd.C_drewN ?_ _) | (with_reducible refine Kd.C_drew ?_)))
             (case side2 => exact (Kd.R_reads' HO173.out).2.1)
             (case side3 => repeat (first | exact (Kd.V_reads' HO178.out).2.2 | (with_reducible refine Kd.C_alloc ?_ _) | (with_reducible refine Kd.C_drewN ?_ _) | (with_reducible refine Kd.C_drew ?_)))
             (case side4 => exact (Kd.V_reads' HO178.out).2.1)
             rintro e w' ⟨rfl, ⟨nd, rfl⟩⟩
             refine ⟨_, rfl, ?_⟩; refine hK.out _ _ trivial (fun hHeld => ?_)
             clear hK K; refine norm_ (a' := ?_) ?_ ?_
             rotate_left
             ·show Act.put _ (some 39) _ = _
              simp only [Act.put, sA, s0, sS, i64_w, i32_w]
              rfl
             refine pu_ 18 40 (rA [19,1]) HT_ (by kernel_rfl) rfl rfl (fun _ _ _ => id) (.inl ⟨by rfl, fun w' => by go_simp; with_reducible rfl⟩) (by simp only [Act.put, sA, s0, sS, i64_w, i32_w]; rfl) ?_
             refine pu_ 19 41 (rA [20]) HT_ (by kernel_rfl) rfl rfl (fun _ _ _ => id) (.inl ⟨by rfl, fun w' => by go_simp; with_reducible rfl⟩) (by simp only [Act.put, sA, s0, sS, i64_w, i32_w]; rfl) ?_
             refine done_ (done_of HT_.out (by kernel_rfl)) ?_
             have q28 : ((ji11) : Int) ≤ ((l0.length : Int) : Int) := of_decide_eq_true (by first | (with_reducible assumption) | assumption)
             obtain ⟨i028, hi028, _, hsz28, _⟩ := info_parts info5
             have hroom28 : l0.length ≤ c0 := (Kd.V_reads' HO0.out).2.1
             have hC28 : Kd.F (Kd.int .u8) _ _ (some ad164) l0.length l0 := (Kd.V_at (base := w.heap.size) HO0.out).2.2
             have ql28 : (2 : Int) ≤ ((ji11) : Int) := of_decide_eq_true (by first | (with_reducible assumption) | assumption)
             have hcut28 := cut_mid3 (P := Tryd.prog) 24 5 .i64 .i64 .i64 Tryd.underlying24 hi028 1 hsz28 (some ad164) l0.length c0 2 (ji11) (by omega) ql28 q28 hroom28
             have hr28 := Kd.F_cut (m := (2 : Int).toNat) (c := ((ji11) : Int).toNat) (Kd.F_take (m := ((ji11) : Int).toNat) hC28 (by omega)) (by rw [List.length_take]; omega) (by rw [List.length_take]; omega)
             obtain ⟨A28, hA28⟩ : ∃ A1, A1 = (if ((ji11) : Int).toNat = (2 : Int).toNat then (some ad164) else ((some ad164) : Option Addr).map (·.add ((2 : Int).toNat * 1))) := ⟨_, rfl⟩
             have hy28 : y180.length = ((ji11) : Int).toNat - (2 : Int).toNat := (by rw [Ny180.out, List.length_drop, List.length_take] <;> omega)
             rw [show ((l0).take ((ji11) : Int).toNat).drop (2 : Int).toNat = y180 from Ny180.out.symm] at hr28; replace hr28 : Kd.F (Kd.int .u8) _ _ A28 y180.length y180 := (by rw [hA28]; exact hr28)
             rw [← hy28, ← hA28] at hcut28; have HO184 := Aside0.mk (show Kd.V (Kd.int .u8) 5 _ w.heap.size _ (.slice A28 y180.length y180.length) y180 from Kd.V_mk (Nat.le_refl _) hr28)
             have HC184 := Aside0.mk (show y180.length ≤ y180.length from Nat.le_refl _); clear hr28 hC28 hroom28 hi028 hsz28; have KY28 := Aside0.mk hy28; have KA28 := Aside0.mk hA28; clear hy28 hA28; replace q28 := eq_true q28
             try go_wp2
             go_ret2
             exact ⟨_, by first | rfl | (simp [errW_none, errW_some] <;> rfl) | (simp only [← hji11, ← hji15]; first | rfl | (simp [errW_none, errW_some] <;> rfl)) | (simp [*, errW_none, errW_some] <;> rfl), by (with_reducible repeat (first | apply Kd.V_alloc | apply Kd.V_drewN | apply Kd.V_drew)); exact Kd.V_mono HO184.out (fun _ hk => hk.1), by repeat (first | (with_reducible first | exact HB.out | apply bA | apply bN | apply bD) | exact HB.out)⟩
            ·rw [if_neg c20] at H
             exact absurd H (by simp)
           ·replace c19 := Bool.eq_false_iff.mpr c19
            subst c19; have H1 : (some (([] : List Int), 0)) = some (r1, r2) := by rw [if_neg (show ¬ (false = true) by decide)] at H; exact H
            clear H; have H := H1; clear H1; simp only [Option.some.injEq, Prod.mk.injEq] at H
            obtain ⟨rfl, rfl⟩ := H
            go_enter Tryd.func59, Tryd.ntmps59
            try go_wp2
            have n0_ := Aside0.mk (Kd.V_drew HO0.out); have n1_ := Aside0.mk (below_drew1 HB.out); clear HO0; clear HB; have HO0 := n0_; have HB := n1_; clear n0_ n1_; have p164 : 0 ≤ (0 : Int) := (by omega)
            have q164 : 0 < (l0.length : Int) := of_decide_eq_true (by first | (with_reducible assumption) | assumption)
            obtain ⟨ad164, e164, hx164_0⟩ := Kd.at_int (Kd.V_reads' HO0.out).2.2 0 p164 q164
            cases e164
            have qi164 : (0 < l0.length) = True := eq_true (by omega)
            (try rw [show ((0 : Int)).toNat = 0 from rfl] at hx164_0)
            (try rw [Addr.add_zero'] at hx164_0)
            replace p164 := eq_true p164
            replace q164 := eq_true q164
            have p165 : 0 ≤ (1 : Int) := (by omega)
            have q165 : 1 < (l0.length : Int) := of_decide_eq_true (by first | (with_reducible assumption) | assumption)
            obtain ⟨ad165, e165, hx165_0⟩ := Kd.at_int (Kd.V_reads' HO0.out).2.2 1 p165 q165
            obtain rfl : ad164 = ad165 := (by injection e165)
            (try simp only [show (1 : Int).toNat = 1 from rfl, Nat.reduceMul, Nat.reduceEqDiff, Go.Addr.add, ↓reduceIte] at hx165_0)
            have qi165 : (1 < l0.length) = True := eq_true (by omega)
            (try rw [show ((1 : Int)).toNat = 1 from rfl] at hx165_0)
            replace p165 := eq_true p165
            replace q165 := eq_true q165
            refine start_ (n := 11) (S := fun w' => w'.cell? ad164 = some (.int .u8 (rd l0 0)) ∧ w'.cell? ⟨ad164.block, ad164.off + 1, none⟩ = some (.int .u8 (rd l0 1))) (ds := []) #[false, false, false, false, false, false, false, false, false, false, false] (by kernel_rfl) rfl rfl ⟨hx164_0, hx165_0⟩ (fun hHeld => ?_); refine with_tabW slip_first.tab3 slip_first.bits3 (fun HT_ HW_ => ?_)
            generalize w.drew = w29 at HO0 HB hx164_0 hx165_0 hHeld ⊢
            refine pu_ 0 9 (rA [1,10]) HT_ (by kernel_rfl) rfl rfl (fun _ _ _ => id) (.inl ⟨by rfl, fun w' => by go_simp; with_reducible rfl⟩) (by simp only [Act.put, sA, s0, sS, i64_w, i32_w]; rfl) ?_
            refine pu_ 1 10 (rA [2,9]) HT_ (by kernel_rfl) rfl rfl (fun _ _ _ => id) (.inl ⟨by rfl, fun w' => by go_simp; with_reducible rfl⟩) (by simp only [Act.put, sA, s0, sS, i64_w, i32_w]; rfl) ?_
            refine pu_ 5 14 (rA [2,3,1,5]) HT_ (by kernel_rfl) rfl rfl (fun _ _ _ => id) (.inl ⟨by rfl, fun w' => by go_simp; with_reducible rfl⟩) (by simp only [Act.put, sA, s0, sS, i64_w, i32_w]; rfl) ?_
            refine pu_ 6 15 (rA [2,3,2,4]) HT_ (by kernel_rfl) rfl rfl (fun _ _ _ => id) (.inl ⟨by rfl, fun w' => by go_simp; with_reducible rfl⟩) (by simp only [Act.put, sA, s0, sS, i64_w, i32_w]; rfl) ?_
            refine take_ (i := 2) (N := some 11) (v := ?_) (a' := ?_) #[true, true, true, false, false, true, true, false, false, false, false] rfl rfl (take_ofW HT_.out HW_.out (by kernel_rfl)) (fun _ _ _ h => h) (Or.inl ⟨by rfl, ?_⟩) hHeld ?_ ?_
            rotate_left
            ·rintro w' ⟨s0, s1⟩
             go_simp
             with_reducible rfl
            rotate_left
            ·simp only [Act.put, sA, s0, sS, i64_w, i32_w]
             rfl
            refine pu_ 3 12 (rA [4,1,2,4]) HT_ (by kernel_rfl) rfl rfl (fun _ _ _ => id) (.inl ⟨by rfl, fun w' => by go_simp; with_reducible rfl⟩) (by simp only [Act.put, sA, s0, sS, i64_w, i32_w]; rfl) ?_
            refine pu_ 4 13 (rA [7,4]) HT_ (by kernel_rfl) rfl rfl (fun _ _ _ => id) (.inl ⟨by rfl, fun w' => by go_simp; with_reducible rfl⟩) (by simp only [Act.put, sA, s0, sS, i64_w, i32_w]; rfl) ?_
            refine take_ (i := 7) (N := some 16) (v := ?_) (a' := ?_) #[true, true, true, true, true, true, true, true, false, false, false] rfl rfl (take_ofW HT_.out HW_.out (by kernel_rfl)) (fun _ _ _ h => h) (Or.inl ⟨by rfl, ?_⟩) hHeld ?_ ?_
            rotate_left
            ·rintro w' ⟨s0, s1⟩
             go_simp
             with_reducible rfl
            rotate_left
            ·simp only [Act.put, sA, s0, sS, i64_w, i32_w]
             rfl
            refine pu_ 8 17 (rA [9,2]) HT_ (by kernel_rfl) rfl rfl (fun _ _ _ => id) (.inl ⟨by rfl, fun w' => by go_simp; with_reducible rfl⟩) (by simp only [Act.put, sA, s0, sS, i64_w, i32_w]; rfl) ?_
            refine pu_ 9 18 (rA [10,1]) HT_ (by kernel_rfl) rfl rfl (fun _ _ _ => id) (.inl ⟨by rfl, fun w' => by go_simp; with_reducible rfl⟩) (by simp only [Act.put, sA, s0, sS, i64_w, i32_w]; rfl) ?_
            refine pu_ 10 4 (rA [11]) HT_ (by kernel_rfl) rfl rfl (fun _ _ _ => id) (.inl ⟨by rfl, fun w' => by go_simp; with_reducible rfl⟩) (by simp only [Act.put, sA, s0, sS, i64_w, i32_w]; rfl) ?_
            refine done_ (done_of HT_.out (by kernel_rfl)) ?_
            try go_wp2
            have n0_ := Aside0.mk (Kd.V_drew HO0.out); have n1_ := Aside0.mk (below_drew1 HB.out); clear HO0; clear HB; have HO0 := n0_; have HB := n1_; clear n0_ n1_; have q31 : ((ji11) : Int) ≤ ((l0.length : Int) : Int) := of_decide_eq_true (by first | (with_reducible assumption) | assumption)
            obtain ⟨i031, hi031, _, hsz31, _⟩ := info_parts info5
            have hroom31 : l0.length ≤ c0 := (Kd.V_reads' HO0.out).2.1
            have hC31 : Kd.F (Kd.int .u8) _ _ (some ad164) l0.length l0 := (Kd.V_at (base := w.heap.size) HO0.out).2.2
            have hcut31 := cut_to (P := Tryd.prog) 24 5 .i64 Tryd.underlying24 hi031 (some ad164) l0.length c0 (ji11) (of_decide_eq_true (by first | (with_reducible assumption) | assumption)) q31 hroom31
            have hr31 := Kd.F_take (m := ((ji11) : Int).toNat) hC31 (by omega)
            have hy31 : y166.length = ((ji11) : Int).toNat := (by rw [Ny166.out, List.length_take]; omega)
            rw [← Ny166.out] at hr31; rw [← hy31] at hcut31
            have HO170 := Aside0.mk (show Kd.V (Kd.int .u8) 5 _ w.heap.size _ (.slice (some ad164) y166.length c0) y166 from Kd.V_mk (by omega) hr31); have HC170 := Aside0.mk (show y166.length ≤ c0 from by omega); clear hr31 hC31 hroom31 hi031 hsz31; have KY31 := Aside0.mk hy31; clear hy31; replace q31 := eq_true q31
            have q32 : ((ji15) : Int) ≤ ((l0.length : Int) : Int) := of_decide_eq_true (by first | (with_reducible assumption) | assumption)
            obtain ⟨i032, hi032, _, hsz32, _⟩ := info_parts info5
            have hroom32 : l0.length ≤ c0 := (Kd.V_reads' HO0.out).2.1
            have hC32 : Kd.F (Kd.int .u8) _ _ (some ad164) l0.length l0 := (Kd.V_at (base := w.heap.size) HO0.out).2.2
            have hcut32 := cut_to (P := Tryd.prog) 24 5 .i64 Tryd.underlying24 hi032 (some ad164) l0.length c0 (ji15) (of_decide_eq_true (by first | (with_reducible assumption) | assumption)) q32 hroom32
            have hr32 := Kd.F_take (m := ((ji15) : Int).toNat) hC32 (by omega)
            have hy32 : y174.length = ((ji15) : Int).toNat := (by rw [Ny174.out, List.length_take]; omega)
            rw [← Ny174.out] at hr32; rw [← hy32] at hcut32
            have HO178 := Aside0.mk (show Kd.V (Kd.int .u8) 5 _ w.heap.size _ (.slice (some ad164) y174.length c0) y174 from Kd.V_mk (by omega) hr32); have HC178 := Aside0.mk (show y174.length ≤ c0 from by omega); clear hr32 hC32 hroom32 hi032 hsz32; have KY32 := Aside0.mk hy32; clear hy32; replace q32 := eq_true q32
            refine start_ (n := 20) (S := fun w' => True) (ds := []) #[false, false, false, false, false, false, false, false, false, false, false, false, false, false, false, false, false, false, false, false] (by kernel_rfl) rfl rfl trivial (fun hHeld => ?_); refine with_tabW slip_first.tab5 slip_first.bits5 (fun HT_ HW_ => ?_)
            generalize w29.drew = w30 at HO0 HB HO170 HO178 hHeld ⊢
            refine pu_ 0 22 (rA [1,19]) HT_ (by kernel_rfl) rfl rfl (fun _ _ _ => id) (.inl ⟨by rfl, fun w' => by go_simp; with_reducible rfl⟩) (by simp only [Act.put, sA, s0, sS, i64_w, i32_w]; rfl) ?_
            refine pu_ 1 23 (rA [2,18]) HT_ (by kernel_rfl) rfl rfl (fun _ _ _ => id) (.inl ⟨by rfl, fun w' => by go_simp; with_reducible rfl⟩) (by simp only [Act.put, sA, s0, sS, i64_w, i32_w]; rfl) ?_
            refine pu_ 2 24 (rA [3,17]) HT_ (by kernel_rfl) rfl rfl (fun _ _ _ => id) (.inl ⟨by rfl, fun w' => by go_simp; with_reducible rfl⟩) (by simp only [Act.put, sA, s0, sS, i64_w, i32_w]; rfl) ?_
            refine pu_ 3 25 (rA [4,16]) HT_ (by kernel_rfl) rfl rfl (fun _ _ _ => id) (.inl ⟨by rfl, fun w' => by go_simp; with_reducible rfl⟩) (by simp only [Act.put, sA, s0, sS, i64_w, i32_w]; rfl) ?_
            refine pu_ 4 26 (rA [5,15]) HT_ (by kernel_rfl) rfl rfl (fun _ _ _ => id) (.inl ⟨by rfl, fun w' => by go_simp; with_reducible rfl⟩) (by simp only [Act.put, sA, s0, sS, i64_w, i32_w]; rfl) ?_
            refine pu_ 5 27 (rA [6,14]) HT_ (by kernel_rfl) rfl rfl (fun _ _ _ => id) (.inl ⟨by rfl, fun w' => by go_simp; with_reducible rfl⟩) (by simp only [Act.put, sA, s0, sS, i64_w, i32_w]; rfl) ?_
            refine pu_ 6 28 (rA [7,13]) HT_ (by kernel_rfl) rfl rfl (fun _ _ _ => id) (.inl ⟨by rfl, fun w' => by go_simp; with_reducible rfl⟩) (by simp only [Act.put, sA, s0, sS, i64_w, i32_w]; rfl) ?_
            refine pu_ 7 29 (rA [8,12]) HT_ (by kernel_rfl) rfl rfl (fun _ _ _ => id) (.inl ⟨by rfl, fun w' => by go_simp; with_reducible rfl⟩) (by simp only [Act.put, sA, s0, sS, i64_w, i32_w]; rfl) ?_
            refine pu_ 8 30 (rA [9,11]) HT_ (by kernel_rfl) rfl rfl (fun _ _ _ => id) (.inl ⟨by rfl, fun w' => by go_simp; with_reducible rfl⟩) (by simp only [Act.put, sA, s0, sS, i64_w, i32_w]; rfl) ?_
            refine pu_ 9 31 (rA [10,10]) HT_ (by kernel_rfl) rfl rfl (fun _ _ _ => id) (.inl ⟨by rfl, fun w' => by go_simp; with_reducible rfl⟩) (by simp only [Act.put, sA, s0, sS, i64_w, i32_w]; rfl) ?_
            refine pu_ 10 32 (rA [11,9]) HT_ (by kernel_rfl) rfl rfl (fun _ _ _ => id) (.inl ⟨by rfl, fun w' => by go_simp; with_reducible rfl⟩) (by simp only [Act.put, sA, s0, sS, i64_w, i32_w]; rfl) ?_
            refine pu_ 11 33 (rA [12,8]) HT_ (by kernel_rfl) rfl rfl (fun _ _ _ => id) (.inl ⟨by rfl, fun w' => by go_simp; with_reducible rfl⟩) (by simp only [Act.put, sA, s0, sS, i64_w, i32_w]; rfl) ?_
            refine pu_ 12 34 (rA [13,7]) HT_ (by kernel_rfl) rfl rfl (fun _ _ _ => id) (.inl ⟨by rfl, fun w' => by go_simp; with_reducible rfl⟩) (by simp only [Act.put, sA, s0, sS, i64_w, i32_w]; rfl) ?_
            refine pu_ 14 36 (rA [13,1,1,5]) HT_ (by kernel_rfl) rfl rfl (fun _ _ _ => id) (.inl ⟨by rfl, fun w' => by go_simp; with_reducible rfl⟩) (by simp only [Act.put, sA, s0, sS, i64_w, i32_w]; rfl) ?_
            refine pu_ 15 37 (rA [13,1,2,4]) HT_ (by kernel_rfl) rfl rfl (fun _ _ _ => id) (.inl ⟨by rfl, fun w' => by go_simp; with_reducible rfl⟩) (by simp only [Act.put, sA, s0, sS, i64_w, i32_w]; rfl) ?_
            refine pu_ 16 38 (rA [13,1,3,3]) HT_ (by kernel_rfl) rfl rfl (fun _ _ _ => id) (.inl ⟨by rfl, fun w' => by go_simp; with_reducible rfl⟩) (by simp only [Act.put, sA, s0, sS, i64_w, i32_w]; rfl) ?_
            refine one_ (i := 13) (N := some 35) (rA [17,3]) rfl rfl (one_of HT_.out (by kernel_rfl)) (by decide) (fun K hK => ?_)
            refine goes_ Tryd.func58 (by kernel_rfl) rfl #[.slice (some ad164) y166.length c0] (by first | rfl | (simp [Region.wanted, yielded, *]; done)) rfl rfl (by (try simp only [mT, mC, mN]); first | done | rfl | (simp only [Act.eval, gD, oG, e34]; done) | (simp only [List.length_drop, List.length_take]; rfl)) ?_
            with_reducible refine (slip_sealed.calls k _ _ y166 t171 _ ?side1 ?side2 ?side3 ?side4 A14.out).mono ?_
            (case side1 => repeat (first | exact (Kd.V_reads' HO170.out).2.2 | (with_reducible refine Kd.C_alloc ?_ _) | (with_reducible refine Kd.C_drewN ?_ _) | (with_reducible refine Kd.C_drew ?_)))
            (case side2 => exact (Kd.V_reads' HO170.out).2.1)
            (case side3 => repeat (first | exact (Kd.C_below HRL0_.out HB.out) | (with_reducible refine Kd.C_alloc ?_ _) | (with_reducible refine Kd.C_drewN ?_ _) | (with_reducible refine Kd.C_drew ?_)))
            (case side4 => repeat (first | exact (Kd.C_below HRL1_.out HB.out) | (with_reducible refine Kd.C_alloc ?_ _) | (with_reducible refine Kd.C_drewN ?_ _) | (with_reducible refine Kd.C_drew ?_)))
            rintro e w33 ⟨v172, rfl, ho0, hb⟩
            refine ⟨_, rfl, ?_⟩; have n0_ := Aside0.mk (Kd.V_elder' (by (with_reducible repeat (first | apply Kd.V_alloc | apply Kd.V_drewN | apply Kd.V_drew)); exact HO0.out) (Kd.R_base ho0) hb); have n1_ := Aside0.mk (Kd.V_elder' (by (with_reducible repeat (first | apply Kd.V_alloc | apply Kd.V_drewN | apply Kd.V_drew)); exact HO170.out) (Kd.R_base ho0) hb); have n2_ := Aside0.mk (Kd.V_elder' (by (with_reducible repeat (first | apply Kd.V_alloc | apply Kd.V_drewN | apply Kd.V_drew)); exact HO178.out) (Kd.R_base ho0) hb); have n3_ := Aside0.mk (Kd.R_lower (Kd.R_newM (M := fun k_ => (w.heap.size ≤ k_)) ho0 (below_size (by repeat (first | (with_reducible first | exact HB.out | apply bA | apply bN | apply bD) | exact HB.out))) (fun k_ h_ => h_)) (below_size (by repeat (first | (with_reducible first | exact HB.out | apply bA | apply bN | apply bD) | exact HB.out)))); have n4_ := Aside0.mk (below_step (by repeat (first | (with_reducible first | exact HB.out | apply bA | apply bN | apply bD) | exact HB.out)) hb); clear HO0; clear HO170; clear HO178; clear HB; have HO0 := n0_; have HO170 := n1_; have HO178 := n2_; have HO173 := n3_; have HB := n4_; clear n0_ n1_ n2_ n3_ n4_; (try clear hb); (try clear hb2); (try clear hk); (try clear hi); (try clear ho0); obtain ⟨Ao34, co34, eo34⟩ := Kd.R_slice HO173.out
            (first | subst eo34 | (injection eo34 with f1_ f2_ f3_; have f4_ := f1_.symm; have f5_ := f3_.symm; clear f1_ f2_ f3_; subst f4_; subst f5_)); refine hK.out _ _ trivial (fun hHeld => ?_)
            clear hK K; refine norm_ (a' := ?_) ?_ ?_
            rotate_left
            ·show Act.put _ (some 35) _ = _
             simp only [Act.put, sA, s0, sS, i64_w, i32_w]
             rfl
            refine one_ (i := 17) (N := some 39) (rA [18,2]) rfl rfl (one_of HT_.out (by kernel_rfl)) (by decide) (fun K hK => ?_)
            refine goes_ Tryd.func66 (by kernel_rfl) rfl #[.slice Ao34 t171.length co34, .slice (some ad164) y174.length c0] (by first | rfl | (simp [Region.wanted, yielded, *]; done)) rfl rfl (by (try simp only [mT, mC, mN]); first | done | rfl | (simp only [Act.eval, gD, oG, e35, e38]; done) | (simp only [List.length_drop, List.length_take]; rfl)) ?_
            with_reducible refine (bytes_Equal.calls _ _ t171 _ _ y174 false _ ?side1 ?side2 ?side3 ?side4 A18.out).mono ?_
            (case side1 => repeat (first | exact (Kd.R_reads' HO173.out).2.2 | (with_reducible refine Kd.C_alloc ?_ _) | (with_reducible refine Kd.C_drewN ?_ _) | (with_reducible refine Kd.C_drew ?_)))
            (case side2 => exact (Kd.R_reads' HO173.out).2.1)
            (case side3 => repeat (first | exact (Kd.V_reads' HO178.out).2.2 | (with_reducible refine Kd.C_alloc ?_ _) | (with_reducible refine Kd.C_drewN ?_ _) | (with_reducible refine Kd.C_drew ?_)))
            (case side4 => exact (Kd.V_reads' HO178.out).2.1)
            rintro e w' ⟨rfl, ⟨nd, rfl⟩⟩
            refine ⟨_, rfl, ?_⟩; refine hK.out _ _ trivial (fun hHeld => ?_)
            clear hK K; refine norm_ (a' := ?_) ?_ ?_
            rotate_left
            ·show Act.put _ (some 39) _ = _
             simp only [Act.put, sA, s0, sS, i64_w, i32_w]
             rfl
            refine pu_ 18 40 (rA [19,1]) HT_ (by kernel_rfl) rfl rfl (fun _ _ _ => id) (.inl ⟨by rfl, fun w' => by go_simp; with_reducible rfl⟩) (by simp only [Act.put, sA, s0, sS, i64_w, i32_w]; rfl) ?_
            refine pu_ 19 41 (rA [20]) HT_ (by kernel_rfl) rfl rfl (fun _ _ _ => id) (.inl ⟨by rfl, fun w' => by go_simp; with_reducible rfl⟩) (by simp only [Act.put, sA, s0, sS, i64_w, i32_w]; rfl) ?_
            refine done_ (done_of HT_.out (by kernel_rfl)) ?_
            try go_wp2
            go_ret2
            exact ⟨_, by first | rfl | (simp [errW_none, errW_some] <;> rfl) | (simp only [← hji11, ← hji15]; first | rfl | (simp [errW_none, errW_some] <;> rfl)) | (simp [*, errW_none, errW_some] <;> rfl), Kd.V_nil _ _ _ _ _, by repeat (first | (with_reducible first | exact HB.out | apply bA | apply bN | apply bD) | exact HB.out)⟩
          ·rw [if_neg c17] at H
           exact absurd H (by simp)
         ·rw [if_neg c16] at H
          exact absurd H (by simp)
        ·rw [if_neg c13] at H
         exact absurd H (by simp)
       ·rw [if_neg c12] at H
        exact absurd H (by simp)
    ·rw [if_neg c4] at H
     exact absurd H (by simp)
   ·rw [if_neg c3] at H
    exact absurd H (by simp)

/-! ### slip_Row: function 34 -/
def slip_Row.l0 : Nat → List Int → List (List Int) → Int → Option ((List (List Int)) × Int)
  | 0, _, _, _ => none
  | k + 1, x0, x4, x5 => if 0 ≤ x5 then (if x5 ≤ (x0.length : Int) then ((slip_first.f k (x0.drop (x5 : Int).toNat)).bind fun bt190 => (if bt190.2 = 0 then (some (x4, x5)) else (if x4.length < 5864062014805 then (slip_Row.l0 k x0 (x4 ++ [bt190.1]) (wrap64 (x5 + bt190.2))) else (none)))) else (none)) else (none)
def slip_Row.f (k : Nat) (l0 : List Int) : Option ((List (List Int)) × Int) := slip_Row.l0 k l0 ([] : List (List Int)) 0
theorem slip_Row.mono_l : ∀ k, (∀ y0 y1 y2, LeO (slip_Row.l0 k y0 y1 y2) (slip_Row.l0 (k + 1) y0 y1 y2))
  | 0 => fun _ _ _ r h => by simp [slip_Row.l0] at h
  | k + 1 => by
   have ih0 := slip_Row.mono_l k
   ·intro y0 y1 y2
    unfold slip_Row.l0
    repeat' first
    | (with_reducible exact ih0 _ _ _)
    | (with_reducible exact slip_first.mono _ _)
    | (with_reducible exact LeO.refl _)
    | (with_reducible exact LeO.none _)
    | (with_reducible refine LeO.ite ?_ ?_)
    | (with_reducible refine LeO.bind ?_ (fun _ => ?_))
    | exact ih0 _ _ _
    | exact slip_first.mono _ _
    | exact LeO.none _
    | refine LeO.ite ?_ ?_
    | refine LeO.bind ?_ (fun _ => ?_)
theorem slip_Row.mono : ∀ a0 k, LeO (slip_Row.f k a0) (slip_Row.f (k + 1) a0) := by
  intro a0 k; have ih0 := slip_Row.mono_l k
  unfold slip_Row.f
  repeat' first
    | (with_reducible exact ih0 _ _ _)
    | (with_reducible exact slip_first.mono _ _)
    | (with_reducible exact LeO.refl _)
    | (with_reducible exact LeO.none _)
    | (with_reducible refine LeO.ite ?_ ?_)
    | (with_reducible refine LeO.bind ?_ (fun _ => ?_))
    | exact ih0 _ _ _
    | exact slip_first.mono _ _
    | exact LeO.none _
    | refine LeO.ite ?_ ?_
    | refine LeO.bind ?_ (fun _ => ?_)
set_option maxHeartbeats 8000000 in
set_option maxRecDepth 100000 in
theorem slip_Row.calls (k : Nat) (P0_ : Nat → Prop) (A0 : Option Addr) (c0 : Nat) (l0 : List Int) (r1 : List (List Int)) (r2 : Int) (w : World) (hs0 : Kd.V (Kd.int .u8) 5 w w.heap.size (fun k_ => P0_ k_) (.slice A0 l0.length c0) l0) (hL0_ : Kd.C (Kd.int .u32) w (some ⟨0, 0, none⟩) 64 shaK) (hL1_ : Kd.C (Kd.int .u32) w (some ⟨1, 0, none⟩) 8 shaF) (h : slip_Row.f k l0 = some (r1, r2)) :
   Calls Tryd.prog 34 #[.slice A0 l0.length c0] w fun e w' => ∃ v0_ : Value, e = .returned (.tuple #[v0_, .int .i64 r2]) ∧ Kd.N (Kd.slice 5 (Kd.int .u8)) 24 w' w.heap.size (fun k_ => (P0_ k_ ∨ w.heap.size ≤ k_)) v0_ r1 ∧ Below w.heap.size w w' := by
  have HO0 := Aside0.mk (show Kd.V (Kd.int .u8) 5 w w.heap.size (fun k_ => (P0_ k_ ∨ w.heap.size ≤ k_)) (.slice A0 l0.length c0) l0 from Kd.V_mono hs0 (fun k_ hk => .inl hk)); have HRL0_ := Aside0.mk hL0_; have HRL1_ := Aside0.mk hL1_; clear hL0_ hL1_; have HB := Aside0.mk (Below.refl w.heap.size w); have H : (slip_Row.l0 k l0 ([] : List (List Int)) 0) = some (r1, r2) := h
  clear h; have H' := Aside0.mk H; clear H; go_enter Tryd.func34, Tryd.ntmps34
  go_wp2
  go_loopg [4, 5] k (fun kq v4 v5 w' => ∃ (x4_1 : List (List Int)) (x5_1 : Int), v5 = .int .i64 x5_1 ∧ Aside0 (slip_Row.l0 kq l0 x4_1 x5_1 = some (r1, r2)) ∧ Aside0 (kq ≤ k) ∧ Aside0 (Kd.V (Kd.int .u8) 5 w' w.heap.size (fun k_ => (P0_ k_ ∨ w.heap.size ≤ k_) ∧ some k_ ≠ (v4 : Value).ownBlock) (.slice A0 l0.length c0) l0) ∧ Aside0 (Kd.N (Kd.slice 5 (Kd.int .u8)) 24 w' w.heap.size (fun k_ => (P0_ k_ ∨ w.heap.size ≤ k_)) v4 x4_1) ∧ Aside0 (Below w.heap.size w w'))
  case atStart => exact ⟨(([] : List (List Int))), (0), (by first | rfl | (simp; done) | (simp [*]; done)), H', ⟨Nat.le_refl _⟩, ⟨by (with_reducible repeat (first | apply Kd.V_alloc | apply Kd.V_drewN | apply Kd.V_drew)); exact Kd.V_mono HO0.out (fun _ hk => ⟨hk, (by simp [Value.ownBlock])⟩)⟩, ⟨by first | exact Kd.S_nil _ _ _ _ _ | exact Kd.N_nil _ _ _ _ _ | exact Kd.V_nil _ _ _ _ _ | exact Kd.Q_nil _ _ _ _ _ | exact Kd.R_nil _ _ _ _ _⟩, ⟨by repeat (first | (with_reducible first | exact HB.out | apply bA | apply bN | apply bD) | exact HB.out)⟩⟩
  case round =>
   clear H'; obtain ⟨x4_1, x5_1, rfl, HA, HK1, HO_0, HO_4, HB⟩ := hrel
   cases gk with
   | zero => exact absurd HA.out (by simp [slip_Row.l0])
   | succ k1 =>
    have H := HA.out
    clear HA; simp only [slip_Row.l0] at H
    by_cases c2 : 0 ≤ x5_1
    ·rw [if_pos c2] at H
     have c2b0 := eq_true c2
     have c2b1 : decide (0 ≤ x5_1) = true := decide_eq_true c2
     clear c2; by_cases c3 : x5_1 ≤ (l0.length : Int)
     ·rw [if_pos c3] at H
      have c3b0 := eq_true c3
      have c3b1 : decide (x5_1 ≤ (l0.length : Int)) = true := decide_eq_true c3
      clear c3; obtain ⟨y185, hy185⟩ : ∃ y_ : List Int, y_ = (l0.drop (x5_1 : Int).toNat) := ⟨_, rfl⟩
      replace H : ((slip_first.f k1 y185).bind fun bt190 => (if bt190.2 = 0 then (some (x4_1, x5_1)) else (if x4_1.length < 5864062014805 then (slip_Row.l0 k1 l0 (x4_1 ++ [bt190.1]) (wrap64 (x5_1 + bt190.2))) else (none)))) = some (r1, r2) := by first | (rw [hy185]; with_reducible exact H) | (have H2_ := (Option.bind_some _ _).symm.trans H; rw [hy185]; with_reducible exact H2_) | (have H2_ := (Option.bind_some _ _).symm.trans H; with_reducible exact H2_) | with_reducible exact H | (rw [hy185]; exact H) | exact H
      have Ny185 := Aside0.mk hy185; clear hy185; replace H := Option.bind_eq_some_iff.mp H
      obtain ⟨⟨t190, t193⟩, A40, H⟩ := H
      replace H : (if t193 = 0 then (some (x4_1, x5_1)) else (if x4_1.length < 5864062014805 then (slip_Row.l0 k1 l0 (x4_1 ++ [t190]) (wrap64 (x5_1 + t193))) else (none))) = some (r1, r2) := H
      have A4 := Aside0.mk A40; clear A40; by_cases c5 : t193 = 0
      ·rw [if_pos c5] at H
       have c5b0 : (t193 == 0) = true := beq_iff_eq.mpr c5
       have c5b1 : (t193 != 0) = false := bne_eq_false_iff_eq.mpr c5
       clear c5; simp only [Option.some.injEq, Prod.mk.injEq] at H
       obtain ⟨rfl, rfl⟩ := H
       have q6 : (x5_1 : Int) ≤ ((l0.length : Int) : Int) := of_decide_eq_true (by first | (with_reducible assumption) | assumption)
       obtain ⟨i06, hi06, _, hsz6, _⟩ := info_parts info5
       have hroom6 : l0.length ≤ c0 := (Kd.V_reads' HO_0.out).2.1
       have hC6 : Kd.F (Kd.int .u8) _ _ A0 l0.length l0 := (Kd.V_at (base := w.heap.size) HO_0.out).2.2
       have q06 : (0 : Int) ≤ (x5_1 : Int) := of_decide_eq_true (by first | (with_reducible assumption) | assumption)
       have hcut6 := cut_from (P := Tryd.prog) 24 5 .i64 Tryd.underlying24 hi06 1 hsz6 A0 l0.length c0 x5_1 q06 q6
       have hr6 := Kd.F_cut (m := (x5_1 : Int).toNat) (c := c0) hC6 (by omega) hroom6
       obtain ⟨A6, hA6⟩ : ∃ A1, A1 = (if c0 = (x5_1 : Int).toNat then A0 else (A0 : Option Addr).map (·.add ((x5_1 : Int).toNat * 1))) := ⟨_, rfl⟩
       obtain ⟨c6, hc6⟩ : ∃ c1, c1 = c0 - (x5_1 : Int).toNat := ⟨_, rfl⟩
       have hy6 : y185.length = l0.length - (x5_1 : Int).toNat := (by rw [Ny185.out, List.length_drop] <;> omega)
       rw [show (l0).drop (x5_1 : Int).toNat = y185 from Ny185.out.symm] at hr6; replace hr6 : Kd.F (Kd.int .u8) _ _ A6 y185.length y185 := (by rw [hA6]; exact hr6)
       rw [← hy6, ← hA6, ← hc6] at hcut6; have HO189 := Aside0.mk (show Kd.V (Kd.int .u8) 5 _ w.heap.size _ (.slice A6 y185.length c6) y185 from Kd.V_mk (by rw [hy6, hc6]; exact Nat.sub_le_sub_right hroom6 _) hr6)
       have HC189 := Aside0.mk (show y185.length ≤ c6 from by rw [hy6, hc6]; exact Nat.sub_le_sub_right hroom6 _); clear hr6 hC6 hroom6 hi06 hsz6 hc6; have KY6 := Aside0.mk hy6; have KA6 := Aside0.mk hA6; clear hy6 hA6; replace q6 := eq_true q6
       go_wp2_with (first | ((with_reducible refine gate_callee (f := 59) rfl ?_); refine goesL_ (some 12) rfl rfl Tryd.func59 (by kernel_rfl) rfl #[.slice A6 y185.length c6] rfl (by (try simp only [mT, mC, mN]); first | done | rfl | (simp only [List.length_drop, List.length_take]; rfl)) ?_; (with_reducible refine (slip_first.calls k1 (fun k_ => ((P0_ k_ ∨ w.heap.size ≤ k_) ∧ some k_ ≠ (u4 : Value).ownBlock)) _ _ y185 t190 t193 _ ?side1 ?side2 ?side3 A4.out).mono ?_); (case side1 => exact HO189.out); (case side2 => repeat (first | exact (Kd.C_below HRL0_.out HB.out) | (with_reducible refine Kd.C_alloc ?_ _) | (with_reducible refine Kd.C_drewN ?_ _) | (with_reducible refine Kd.C_drew ?_))); (case side3 => repeat (first | exact (Kd.C_below HRL1_.out HB.out) | (with_reducible refine Kd.C_alloc ?_ _) | (with_reducible refine Kd.C_drewN ?_ _) | (with_reducible refine Kd.C_drew ?_))); rintro e w7 ⟨v191, rfl, ho0, hb⟩; refine ⟨_, rfl, ?_⟩; have n0_ := Aside0.mk (Kd.V_below (by (with_reducible repeat (first | apply Kd.V_alloc | apply Kd.V_drewN | apply Kd.V_drew)); exact HO_0.out) hb); have n1_ := Aside0.mk (Kd.N_below (by (with_reducible repeat (first | apply Kd.N_alloc | apply Kd.N_drewN | apply Kd.N_drew)); exact HO_4.out) hb); have n2_ := Aside0.mk (Kd.V_below (by (with_reducible repeat (first | apply Kd.V_alloc | apply Kd.V_drewN | apply Kd.V_drew)); exact HO189.out) hb); have n3_ := Aside0.mk (Kd.V_lower (Kd.V_mono (ok' := fun k_ => (P0_ k_ ∨ w.heap.size ≤ k_) ∧ some k_ ≠ (u4 : Value).ownBlock) ho0 (fun k_ hk_ => ⟨Or.elim hk_ (fun hs_ => hs_.1) (fun hn_ => (.inr (Nat.le_trans (below_size (by repeat (first | (with_reducible first | exact HB.out | apply bA | apply bN | apply bD) | exact HB.out))) hn_))), Or.elim hk_ (fun hs_ => hs_.2) (fun hn_ => (Kd.fresh' (Kd.N_lt (by (with_reducible repeat (first | apply Kd.N_alloc | apply Kd.N_drewN | apply Kd.N_drew)); exact HO_4.out)) k_ hn_))⟩)) (below_size (by repeat (first | (with_reducible first | exact HB.out | apply bA | apply bN | apply bD) | exact HB.out)))); have n4_ := Aside0.mk (below_step (by repeat (first | (with_reducible first | exact HB.out | apply bA | apply bN | apply bD) | exact HB.out)) hb); clear HO_0; clear HO_4; clear HO189; clear HB; have HO_0 := n0_; have HO_4 := n1_; have HO189 := n2_; have HO192 := n3_; have HB := n4_; clear n0_ n1_ n2_ n3_ n4_; (try clear hb); (try clear hb2); (try clear hk); (try clear hi); (try clear ho0)))
       go_ret2
       exact ⟨_, by first | rfl | (simp [errW_none, errW_some] <;> rfl) | (simp [*, errW_none, errW_some] <;> rfl), by (with_reducible repeat (first | apply Kd.N_alloc | apply Kd.N_drewN | apply Kd.N_drew)); exact HO_4.out, by repeat (first | (with_reducible first | exact HB.out | apply bA | apply bN | apply bD) | exact HB.out)⟩
      ·rw [if_neg c5] at H
       have c5b0 : (t193 == 0) = false := beq_eq_false_iff_ne.mpr c5
       have c5b1 : (t193 != 0) = true := bne_iff_ne.mpr c5
       by_cases c8 : x4_1.length < 5864062014805
       ·rw [if_pos c8] at H
        have LMc8 := Aside0.mk c8; clear c8; obtain ⟨y194, hy194⟩ : ∃ y_ : List (List Int), y_ = (x4_1 ++ [t190]) := ⟨_, rfl⟩
        replace H : (slip_Row.l0 k1 l0 y194 (wrap64 (x5_1 + t193))) = some (r1, r2) := by first | (rw [hy194]; with_reducible exact H) | (have H2_ := (Option.bind_some _ _).symm.trans H; rw [hy194]; with_reducible exact H2_) | (have H2_ := (Option.bind_some _ _).symm.trans H; with_reducible exact H2_) | with_reducible exact H | (rw [hy194]; exact H) | exact H
        have Ny194 := Aside0.mk hy194; clear hy194; have H' := Aside0.mk H; clear H; have q9 : (x5_1 : Int) ≤ ((l0.length : Int) : Int) := of_decide_eq_true (by first | (with_reducible assumption) | assumption)
        obtain ⟨i09, hi09, _, hsz9, _⟩ := info_parts info5
        have hroom9 : l0.length ≤ c0 := (Kd.V_reads' HO_0.out).2.1
        have hC9 : Kd.F (Kd.int .u8) _ _ A0 l0.length l0 := (Kd.V_at (base := w.heap.size) HO_0.out).2.2
        have q09 : (0 : Int) ≤ (x5_1 : Int) := of_decide_eq_true (by first | (with_reducible assumption) | assumption)
        have hcut9 := cut_from (P := Tryd.prog) 24 5 .i64 Tryd.underlying24 hi09 1 hsz9 A0 l0.length c0 x5_1 q09 q9
        have hr9 := Kd.F_cut (m := (x5_1 : Int).toNat) (c := c0) hC9 (by omega) hroom9
        obtain ⟨A9, hA9⟩ : ∃ A1, A1 = (if c0 = (x5_1 : Int).toNat then A0 else (A0 : Option Addr).map (·.add ((x5_1 : Int).toNat * 1))) := ⟨_, rfl⟩
        obtain ⟨c9, hc9⟩ : ∃ c1, c1 = c0 - (x5_1 : Int).toNat := ⟨_, rfl⟩
        have hy9 : y185.length = l0.length - (x5_1 : Int).toNat := (by rw [Ny185.out, List.length_drop] <;> omega)
        rw [show (l0).drop (x5_1 : Int).toNat = y185 from Ny185.out.symm] at hr9; replace hr9 : Kd.F (Kd.int .u8) _ _ A9 y185.length y185 := (by rw [hA9]; exact hr9)
        rw [← hy9, ← hA9, ← hc9] at hcut9; have HO189 := Aside0.mk (show Kd.V (Kd.int .u8) 5 _ w.heap.size _ (.slice A9 y185.length c9) y185 from Kd.V_mk (by rw [hy9, hc9]; exact Nat.sub_le_sub_right hroom9 _) hr9)
        have HC189 := Aside0.mk (show y185.length ≤ c9 from by rw [hy9, hc9]; exact Nat.sub_le_sub_right hroom9 _); clear hr9 hC9 hroom9 hi09 hsz9 hc9; have KY9 := Aside0.mk hy9; have KA9 := Aside0.mk hA9; clear hy9 hA9; replace q9 := eq_true q9
        go_wp2_with (first | ((with_reducible refine gate_callee (f := 59) rfl ?_); refine goesL_ (some 12) rfl rfl Tryd.func59 (by kernel_rfl) rfl #[.slice A9 y185.length c9] rfl (by (try simp only [mT, mC, mN]); first | done | rfl | (simp only [List.length_drop, List.length_take]; rfl)) ?_; (with_reducible refine (slip_first.calls k1 (fun k_ => ((P0_ k_ ∨ w.heap.size ≤ k_) ∧ some k_ ≠ (u4 : Value).ownBlock)) _ _ y185 t190 t193 _ ?side1 ?side2 ?side3 A4.out).mono ?_); (case side1 => exact HO189.out); (case side2 => repeat (first | exact (Kd.C_below HRL0_.out HB.out) | (with_reducible refine Kd.C_alloc ?_ _) | (with_reducible refine Kd.C_drewN ?_ _) | (with_reducible refine Kd.C_drew ?_))); (case side3 => repeat (first | exact (Kd.C_below HRL1_.out HB.out) | (with_reducible refine Kd.C_alloc ?_ _) | (with_reducible refine Kd.C_drewN ?_ _) | (with_reducible refine Kd.C_drew ?_))); rintro e w10 ⟨v191, rfl, ho0, hb⟩; refine ⟨_, rfl, ?_⟩; have n0_ := Aside0.mk (Kd.V_below (by (with_reducible repeat (first | apply Kd.V_alloc | apply Kd.V_drewN | apply Kd.V_drew)); exact HO_0.out) hb); have n1_ := Aside0.mk (Kd.N_below (by (with_reducible repeat (first | apply Kd.N_alloc | apply Kd.N_drewN | apply Kd.N_drew)); exact HO_4.out) hb); have n2_ := Aside0.mk (Kd.V_below (by (with_reducible repeat (first | apply Kd.V_alloc | apply Kd.V_drewN | apply Kd.V_drew)); exact HO189.out) hb); have n3_ := Aside0.mk (Kd.V_lower (Kd.V_mono (ok' := fun k_ => (P0_ k_ ∨ w.heap.size ≤ k_) ∧ some k_ ≠ (u4 : Value).ownBlock) ho0 (fun k_ hk_ => ⟨Or.elim hk_ (fun hs_ => hs_.1) (fun hn_ => (.inr (Nat.le_trans (below_size (by repeat (first | (with_reducible first | exact HB.out | apply bA | apply bN | apply bD) | exact HB.out))) hn_))), Or.elim hk_ (fun hs_ => hs_.2) (fun hn_ => (Kd.fresh' (Kd.N_lt (by (with_reducible repeat (first | apply Kd.N_alloc | apply Kd.N_drewN | apply Kd.N_drew)); exact HO_4.out)) k_ hn_))⟩)) (below_size (by repeat (first | (with_reducible first | exact HB.out | apply bA | apply bN | apply bD) | exact HB.out)))); have n4_ := Aside0.mk (below_step (by repeat (first | (with_reducible first | exact HB.out | apply bA | apply bN | apply bD) | exact HB.out)) hb); clear HO_0; clear HO_4; clear HO189; clear HB; have HO_0 := n0_; have HO_4 := n1_; have HO189 := n2_; have HO192 := n3_; have HB := n4_; clear n0_ n1_ n2_ n3_ n4_; (try clear hb); (try clear hb2); (try clear hk); (try clear hi); (try clear ho0); obtain ⟨Ao12, co12, eo12⟩ := Kd.V_slice HO192.out; subst eo12) | ((with_reducible refine gate_builtin (b := .append) (xs := #[.tmp 19, .tmp 21]) rfl ?_); at_builtin; refine Kd.N_append (Kd.slice 5 (Kd.int .u8)) (w0 := w) w.heap.size rfl (.tmp 19) (.tmp 21) 45 24 (.slice none 0 0) 24 rfl Tryd.underlying45 info24 rfl (by decide) (by omega) u4 x4_1 t190 [.slice Ao12 t190.length co12] (fun k_ => (P0_ k_ ∨ w.heap.size ≤ k_)) (fun k_ => ((fun k_ => (P0_ k_ ∨ w.heap.size ≤ k_))) k_ ∧ some k_ ≠ (u4 : Value).ownBlock) rfl rfl ?aP (fun _ hk => hk) ?aF ?aO ?aB ?aS ?aL ?_; (case aP => exact (Kd.FK_slice_mk (Kd.V_reads' (Kd.V_mono (ok' := (fun k_ => ((fun k_ => (P0_ k_ ∨ w.heap.size ≤ k_))) k_ ∧ some k_ ≠ (u4 : Value).ownBlock)) (HO192.out) (fun k_ hk => ⟨hk.1, hk.2⟩))).2.1 (Kd.V_F (Kd.V_mono (ok' := (fun k_ => ((fun k_ => (P0_ k_ ∨ w.heap.size ≤ k_))) k_ ∧ some k_ ≠ (u4 : Value).ownBlock)) (HO192.out) (fun k_ hk => ⟨hk.1, hk.2⟩))))); (case aB => exact (by repeat (first | (with_reducible first | exact HB.out | apply bA | apply bN | apply bD) | exact HB.out))); (case aF => exact (fun k_ hk => (.inr (Nat.le_trans (below_size (by repeat (first | (with_reducible first | exact HB.out | apply bA | apply bN | apply bD) | exact HB.out))) hk)))); (case aO => exact (by (with_reducible repeat (first | apply Kd.N_alloc | apply Kd.N_drewN | apply Kd.N_drew)); exact HO_4.out)); (case aS => exact (below_size (by repeat (first | (with_reducible first | exact HB.out | apply bA | apply bN | apply bD) | exact HB.out)))); (case aL => have := LMc8.out; omega); intro v195 w11 ho hb hg hat; rw [← Ny194.out] at ho; have n0_ := Aside0.mk (Kd.V_afterv (ok := (fun k_ => (P0_ k_ ∨ w.heap.size ≤ k_))) (by (with_reducible repeat (first | apply Kd.V_alloc | apply Kd.V_drewN | apply Kd.V_drew)); exact HO_0.out) hg hat); have n1_ := Aside0.mk (Kd.V_afterv (ok := (fun k_ => (P0_ k_ ∨ w.heap.size ≤ k_))) (by (with_reducible repeat (first | apply Kd.V_alloc | apply Kd.V_drewN | apply Kd.V_drew)); exact HO189.out) hg hat); have n2_ := Aside0.mk (Kd.V_afterv (ok := (fun k_ => (P0_ k_ ∨ w.heap.size ≤ k_))) (by (with_reducible repeat (first | apply Kd.V_alloc | apply Kd.V_drewN | apply Kd.V_drew)); exact HO192.out) hg hat); have n3_ := Aside0.mk (hb); have n4_ := Aside0.mk (ho); clear HO_0; clear HO189; clear HO192; clear HB; clear HO_4; have HO_0 := n0_; have HO189 := n1_; have HO192 := n2_; have HB := n3_; have HO196 := n4_; clear n0_ n1_ n2_ n3_ n4_; clear ho hb hg hat))
        go_roundg k1
        case measure => have := HK1.out; omega
        case rel => exact ⟨(y194), (wrap64 (x5_1 + t193)), (by first | rfl | (simp; done) | (simp [*]; done)), H', ⟨by have := HK1.out; omega⟩, ⟨by (with_reducible repeat (first | apply Kd.V_alloc | apply Kd.V_drewN | apply Kd.V_drew)); exact HO_0.out⟩, ⟨by (with_reducible repeat (first | apply Kd.N_alloc | apply Kd.N_drewN | apply Kd.N_drew)); exact HO196.out⟩, ⟨by repeat (first | (with_reducible first | exact HB.out | apply bA | apply bN | apply bD) | exact HB.out)⟩⟩
       ·rw [if_neg c8] at H
        exact absurd H (by simp)
     ·rw [if_neg c3] at H
      exact absurd H (by simp)
    ·rw [if_neg c2] at H
     exact absurd H (by simp)

/-! ### slip_Whole: function 38 -/
def slip_Whole.f (k : Nat) (l0 : List Int) : Option (Bool) := (slip_Row.f k l0).bind fun bt197 => (some (bt197.2 == (l0.length : Int)))
theorem slip_Whole.mono : ∀ a0 k, LeO (slip_Whole.f k a0) (slip_Whole.f (k + 1) a0) := by
  intro a0 k; unfold slip_Whole.f
  repeat' first
    | (with_reducible exact slip_Row.mono _ _)
    | (with_reducible exact LeO.refl _)
    | (with_reducible exact LeO.none _)
    | (with_reducible refine LeO.ite ?_ ?_)
    | (with_reducible refine LeO.bind ?_ (fun _ => ?_))
    | exact slip_Row.mono _ _
    | exact LeO.none _
    | refine LeO.ite ?_ ?_
    | refine LeO.bind ?_ (fun _ => ?_)
set_option maxHeartbeats 8000000 in
set_option maxRecDepth 100000 in
theorem slip_Whole.calls (k : Nat) (A0 : Option Addr) (c0 : Nat) (l0 : List Int) (r : Bool) (w : World) (hr0 : Kd.C (Kd.int .u8) w A0 l0.length l0) (hc0 : l0.length ≤ c0) (hL0_ : Kd.C (Kd.int .u32) w (some ⟨0, 0, none⟩) 64 shaK) (hL1_ : Kd.C (Kd.int .u32) w (some ⟨1, 0, none⟩) 8 shaF) (h : slip_Whole.f k l0 = some r) :
   Calls Tryd.prog 38 #[.slice A0 l0.length c0] w fun e w' => e = .returned (.bool r) ∧ Below w.heap.size w w' := by
  have HR0 := Aside0.mk hr0; have HC0 := Aside0.mk hc0; clear hr0 hc0; have HRL0_ := Aside0.mk hL0_; have HRL1_ := Aside0.mk hL1_; clear hL0_ hL1_; have HB := Aside0.mk (Below.refl w.heap.size w); have H : ((slip_Row.f k l0).bind fun bt197 => (some (bt197.2 == (l0.length : Int)))) = some r := h
  clear h; replace H := Option.bind_eq_some_iff.mp H
  obtain ⟨⟨t197, t200⟩, A20, H⟩ := H
  replace H : (some (t200 == (l0.length : Int))) = some r := H
  have A2 := Aside0.mk A20; clear A20; obtain rfl := Option.some.inj H
  go_enter Tryd.func38, Tryd.ntmps38
  go_wp2_with (first | ((with_reducible refine gate_callee (f := 34) rfl ?_); refine goesL_ (some 7) rfl rfl Tryd.func34 (by kernel_rfl) rfl #[.slice A0 l0.length c0] rfl (by (try simp only [mT, mC, mN]); first | done | rfl | (simp only [List.length_drop, List.length_take]; rfl)) ?_; (with_reducible refine (slip_Row.calls k (fun k_ => k_ < w.heap.size) _ _ l0 t197 t200 _ ?side1 ?side2 ?side3 A2.out).mono ?_); (case side1 => exact Kd.V_mk HC0.out (Kd.F_below (Kd.C_F (Kd.heap_int .u8) HR0.out) (by repeat (first | (with_reducible first | exact HB.out | apply bA | apply bN | apply bD) | exact HB.out)))); (case side2 => repeat (first | exact HRL0_.out | (with_reducible refine Kd.C_alloc ?_ _) | (with_reducible refine Kd.C_drewN ?_ _) | (with_reducible refine Kd.C_drew ?_))); (case side3 => repeat (first | exact HRL1_.out | (with_reducible refine Kd.C_alloc ?_ _) | (with_reducible refine Kd.C_drewN ?_ _) | (with_reducible refine Kd.C_drew ?_))); rintro e w3 ⟨v198, rfl, ho0, hb⟩; refine ⟨_, rfl, ?_⟩; have n0_ := Aside0.mk (Kd.N_lower (Kd.N_mono (ok' := fun k_ => True) ho0 (fun k_ hk_ => trivial)) (below_size (by repeat (first | (with_reducible first | exact HB.out | apply bA | apply bN | apply bD) | exact HB.out)))); have n1_ := Aside0.mk (below_step (by repeat (first | (with_reducible first | exact HB.out | apply bA | apply bN | apply bD) | exact HB.out)) hb); clear HB; have HO199 := n0_; have HB := n1_; clear n0_ n1_; (try clear hb); (try clear hb2); (try clear hk); (try clear hi); (try clear ho0)))
  go_ret
  exact ⟨by first | rfl | (simp [errW_none, errW_some] <;> rfl) | (simp [*, errW_none, errW_some] <;> rfl), by repeat (first | (with_reducible first | exact HB.out | apply bA | apply bN | apply bD) | exact HB.out)⟩

end Go.Proofs.YtnpkhkhlofkbhaaDoor.PSlipRight
