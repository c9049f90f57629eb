-- made by a program of this session (its printer) out of what Lean prints of the given program
import Derived.Test.YtnpkhkhlofkbhaaPMacSymbolicx0
import Derived.Test.YtnpkhkhlofkbhaaPMacSymbolicx1
import Derived.Test.YtnpkhkhlofkbhaaPMacSymbolicx2
import Derived.Test.YtnpkhkhlofkbhaaPMacSymbolicx3
namespace Go.Proofs.Ytnpkhkhlofkbhaa.PMacSymbolic
open Go.RowKit Go.Proofs.YtnpkhkhlofkbhaaW.PrintWords Go.Proofs.YtnpkhkhlofkbhaaW.PrintLast Go.Proofs.YtnpkhkhlofkbhaaW.PrintMore
attribute [local go_sem] max2_int min2_int max_two min_two max_three min_three max_four min_four   -- for this text's walks alone
set_option linter.unusedVariables false
set_option linter.unusedSimpArgs false

set_option linter.unusedSectionVars false
variable [Inhabited Tb]
/-! ### hmac_turned: function 139 -/
def hmac_turned.l0 : Nat → Int → List Int → Int → Int → Option (List Int)
  | 0, _, _, _, _ => none
  | k + 1, x1, x5, x10, x11 => if x11 < x10 then (if 0 ≤ x11 then (if x11 < (x5.length : Int) then (hmac_turned.l0 k x1 (x5.set (x11 : Int).toNat (Go.bits .xor .u8 (rd x5 x11) x1)) x10 (wrap64 (x11 + 1))) else (none)) else (none)) else (some x5)
def hmac_turned.f (k : Nat) (l0 : List Int) (a1 : Int) : Option (List Int) := (hmac_Block.f k l0).bind fun t179 => (hmac_turned.l0 k a1 t179 (t179.length : Int) 0)
theorem hmac_turned.mono_l : ∀ k, (∀ y0 y1 y2 y3, LeO (hmac_turned.l0 k y0 y1 y2 y3) (hmac_turned.l0 (k + 1) y0 y1 y2 y3))
  | 0 => fun _ _ _ _ r h => by simp [hmac_turned.l0] at h
  | k + 1 => by
   have ih0 := hmac_turned.mono_l k
   ·intro y0 y1 y2 y3
    unfold hmac_turned.l0
    repeat' first
    | (with_reducible exact ih0 _ _ _ _)
    | (with_reducible exact hmac_Block.mono _ _)
    | (with_reducible exact LeO.refl _)
    | (with_reducible exact LeO.none _)
    | (with_reducible refine LeO.ite ?_ ?_)
    | (with_reducible refine LeO.bind ?_ (fun _ => ?_))
    | exact ih0 _ _ _ _
    | exact hmac_Block.mono _ _
    | exact LeO.none _
    | refine LeO.ite ?_ ?_
    | refine LeO.bind ?_ (fun _ => ?_)
theorem hmac_turned.mono : ∀ a0 a1 k, LeO (hmac_turned.f k a0 a1) (hmac_turned.f (k + 1) a0 a1) := by
  intro a0 a1 k; have ih0 := hmac_turned.mono_l k
  unfold hmac_turned.f
  repeat' first
    | (with_reducible exact ih0 _ _ _ _)
    | (with_reducible exact hmac_Block.mono _ _)
    | (with_reducible exact LeO.refl _)
    | (with_reducible exact LeO.none _)
    | (with_reducible refine LeO.ite ?_ ?_)
    | (with_reducible refine LeO.bind ?_ (fun _ => ?_))
    | exact ih0 _ _ _ _
    | exact hmac_Block.mono _ _
    | exact LeO.none _
    | refine LeO.ite ?_ ?_
    | refine LeO.bind ?_ (fun _ => ?_)
set_option maxHeartbeats 8000000 in
set_option maxRecDepth 100000 in
theorem hmac_turned.calls (k : Nat) (A0 : Option Addr) (c0 : Nat) (l0 : List Int) (a1 : Int) (r : List Int) (w : World) (hr0 : Kd.C (Kd.int .u8) w A0 l0.length l0) (hc0 : l0.length ≤ c0) (hL0_ : Kd.C (Kd.int .u32) w (some ⟨1, 0, none⟩) 64 shaK) (hL1_ : Kd.C (Kd.int .u32) w (some ⟨0, 0, none⟩) 8 shaF) (h : hmac_turned.f k l0 a1 = some r) :
   Calls Try.prog 139 #[.slice A0 l0.length c0, .int .u8 a1] w fun e w' => ∃ v0_ : Value, e = .returned (v0_) ∧ Kd.R (Kd.int .u8) 5 w' w.heap.size (fun _ => True) v0_ r ∧ Below w.heap.size w w' := by
  have HR0 := Aside0.mk hr0; have HC0 := Aside0.mk hc0; clear hr0 hc0; have HRL0_ := Aside0.mk hL0_; have HRL1_ := Aside0.mk hL1_; clear hL0_ hL1_; have HB := Aside0.mk (Below.refl w.heap.size w); have H : ((hmac_Block.f k l0).bind fun t179 => (hmac_turned.l0 k a1 t179 (t179.length : Int) 0)) = some r := h
  clear h; replace H := Option.bind_eq_some_iff.mp H
  obtain ⟨t179, A30, H⟩ := H
  replace H : (hmac_turned.l0 k a1 t179 (t179.length : Int) 0) = some r := H
  have A3 := Aside0.mk A30; clear A30; have H' := Aside0.mk H; clear H; go_enter Try.func139, Try.ntmps139
  go_wp2_with (first | ((with_reducible refine gate_callee (f := 143) rfl ?_); refine goesL_ (some 8) rfl rfl Try.func143 (by kernel_rfl) rfl #[.slice A0 l0.length c0] rfl (by (try simp only [mT, mC, mN]); first | done | rfl | (simp only [List.length_drop, List.length_take]; rfl)) ?_; (with_reducible refine (hmac_Block.calls k _ _ l0 t179 _ ?side1 ?side2 ?side3 ?side4 A3.out).mono ?_); (case side1 => repeat (first | exact HR0.out | (with_reducible refine Kd.C_alloc ?_ _) | (with_reducible refine Kd.C_drewN ?_ _) | (with_reducible refine Kd.C_drew ?_))); (case side2 => exact HC0.out); (case side3 => repeat (first | exact HRL0_.out | (with_reducible refine Kd.C_alloc ?_ _) | (with_reducible refine Kd.C_drewN ?_ _) | (with_reducible refine Kd.C_drew ?_))); (case side4 => repeat (first | exact HRL1_.out | (with_reducible refine Kd.C_alloc ?_ _) | (with_reducible refine Kd.C_drewN ?_ _) | (with_reducible refine Kd.C_drew ?_))); rintro e w4 ⟨v180, rfl, ho0, hb⟩; refine ⟨_, rfl, ?_⟩; have n0_ := Aside0.mk (Kd.R_lower ho0 (below_size (by repeat (first | (with_reducible first | exact HB.out | apply bA | apply bN | apply bD) | exact HB.out)))); have n1_ := Aside0.mk (below_step (by repeat (first | (with_reducible first | exact HB.out | apply bA | apply bN | apply bD) | exact HB.out)) hb); clear HB; have HO181 := n0_; have HB := n1_; clear n0_ n1_; (try clear hb); (try clear hb2); (try clear hk); (try clear hi); (try clear ho0); obtain ⟨Ao5, co5, eo5⟩ := Kd.R_slice HO181.out; subst eo5))
  go_loopg [11] k (fun kq v11 w' => ∃ (x5_1 : List Int) (x11_1 : Int), v11 = .int .i64 x11_1 ∧ Aside0 (hmac_turned.l0 kq a1 x5_1 (t179.length : Int) x11_1 = some r) ∧ Aside0 (kq ≤ k) ∧ Aside0 (Kd.R (Kd.int .u8) 5 w' w.heap.size (fun _ => True) (.slice Ao5 t179.length co5) x5_1) ∧ Aside0 (Below w.heap.size w w'))
  case atStart => exact ⟨(t179), (0), (by first | rfl | (simp; done) | (simp [*]; done)), H', ⟨Nat.le_refl _⟩, ⟨by (with_reducible repeat (first | apply rL | apply rN | apply rW)); exact HO181.out⟩, ⟨by repeat (first | (with_reducible first | exact HB.out | apply bA | apply bN | apply bD) | exact HB.out)⟩⟩
  case round =>
   clear H'; try clear c1
   try clear p2
   obtain ⟨x5_1, x11_1, rfl, HA, HK1, HO_5, HB⟩ := hrel
   have hl5_1 := (Kd.R_reads' HO_5.out).1
   rw [hl5_1] at HO_5; (try simp only [hl5_1])
   cases gk with
   | zero => exact absurd HA.out (by simp [hmac_turned.l0])
   | succ k1 =>
    have H := HA.out
    clear HA; simp only [hmac_turned.l0] at H
    by_cases c6 : x11_1 < (t179.length : Int)
    ·rw [if_pos c6] at H
     have c6b0 : decide (x11_1 < (t179.length : Int)) = true := decide_eq_true c6
     (try (have c6h0 := c6b0; simp only [hl5_1] at c6h0))
     clear c6; by_cases c7 : 0 ≤ x11_1
     ·rw [if_pos c7] at H
      have c7b0 : decide (0 ≤ x11_1) = true := decide_eq_true c7
      (try (have c7h0 := c7b0; simp only [hl5_1] at c7h0))
      clear c7; by_cases c8 : x11_1 < (x5_1.length : Int)
      ·rw [if_pos c8] at H
       have c8b0 : decide (x11_1 < (x5_1.length : Int)) = true := decide_eq_true c8
       (try (have c8h0 := c8b0; simp only [hl5_1] at c8h0))
       clear c8; obtain ⟨y183, hy183⟩ : ∃ y_ : List Int, y_ = (x5_1.set (x11_1 : Int).toNat (Go.bits .xor .u8 (rd x5_1 x11_1) a1)) := ⟨_, rfl⟩
       replace H : (hmac_turned.l0 k1 a1 y183 (t179.length : Int) (wrap64 (x11_1 + 1))) = some r := by first | (rw [hy183]; with_reducible exact H) | (have H2_ := (Option.bind_some _ _).symm.trans H; rw [hy183]; with_reducible exact H2_) | (have H2_ := (Option.bind_some _ _).symm.trans H; with_reducible exact H2_) | with_reducible exact H | (rw [hy183]; exact H) | exact H
       have Ny183 := Aside0.mk hy183; clear hy183; have H' := Aside0.mk H; clear H; have p182 : 0 ≤ (x11_1 : Int) := of_decide_eq_true (by first | (with_reducible assumption) | assumption)
       have q182 : x11_1 < (x5_1.length : Int) := of_decide_eq_true (by first | (with_reducible assumption) | assumption)
       obtain ⟨ad182, e182, hx182_0⟩ := Kd.at_int (Kd.R_reads' HO_5.out).2.2 x11_1 p182 q182
       cases e182
       replace p182 := eq_true p182
       replace q182 := eq_true q182
       have p9 : 0 ≤ (x11_1 : Int) := of_decide_eq_true (by first | (with_reducible assumption) | assumption)
       have q9 : (x11_1 : Int) < ((x5_1.length : Int) : Int) := of_decide_eq_true (by first | (with_reducible assumption) | assumption)
       obtain ⟨go9, co9, eo9, gb9, gl9, cl9, HG9⟩ := Kd.R_form HO_5.out (by omega)
       (first | cases eo9 | (injection eo9 with ea_ en_ ec_; (first | subst ea_ | (injection ea_ with ea_; subst ea_)); subst ec_; clear en_)); have GB9 := Aside0.mk gb9
       have GG9 := Aside0.mk HG9; clear gb9 gl9 HG9; (first | simp only [add_plain] at hx182_0 | skip); obtain ⟨hx9_0, hf9_0⟩ := Kd.R_celln 0 HO_5.out (x11_1 : Int) p9 q9
       replace p9 := eq_true p9
       replace q9 := eq_true q9
       have HP10 := Kd.R_putg HO_5.out (x11_1 : Int) (Go.bits .xor .u8 (rd x5_1 x11_1) a1)
       go_wp2_with (first | ((with_reducible refine gate_store (t := 5) (p := 20) rfl ?_); refine store_event (t := 5) (p := 20) (v := ?vo_w11) (w1 := (wr.setCell ⟨go9, (x11_1 : Int).toNat, none⟩ (.int .u8 (Go.bits .xor .u8 (rd x5_1 x11_1) a1)))) ?hg ?ho ?hn ?hr ?_; (case ho => rfl); (case hg => rfl); (case hn => rfl); (case hr => first | (go_simp; done) | (go_simp; rfl)); intro w11 hw; have hg : wr.grownBy w11 (some go9) := (by rw [hw]; exact HP10.2); have hp_ : Kd.R (Kd.int .u8) 5 w11 w.heap.size (fun _ => True) (.slice (some ⟨go9, 0, none⟩) x5_1.length co5) y183 := (by rw [hw, Ny183.out]; exact HP10.1); clear HP10; have n0_ := Aside0.mk (hp_); have n1_ := Aside0.mk ((by rw [hw]; exact below_set (HB.out) GB9.out : Below w.heap.size w w11)); clear HO_5; clear HB; have HO_5 := n0_; have HB := n1_; clear n0_ n1_; clear hg hw hp_))
       (try simp only [← hl5_1])
       go_roundg k1
       case measure => have := HK1.out; omega
       case rel => exact ⟨(y183), (wrap64 (x11_1 + 1)), (by first | rfl | (simp; done) | (simp [*]; done)), H', ⟨by have := HK1.out; omega⟩, ⟨by (try simp only [hl5_1]); (with_reducible repeat (first | apply rL | apply rN | apply rW)); exact HO_5.out⟩, ⟨by repeat (first | (with_reducible first | exact HB.out | apply bA | apply bN | apply bD) | exact HB.out)⟩⟩
      ·rw [if_neg c8] at H
       exact absurd H (by simp)
     ·rw [if_neg c7] at H
      exact absurd H (by simp)
    ·rw [if_neg c6] at H
     have c6b0 : decide (x11_1 < (t179.length : Int)) = false := decide_eq_false c6
     (try (have c6h0 := c6b0; simp only [hl5_1] at c6h0))
     clear c6; obtain rfl := Option.some.inj H
     go_wp2
     go_ret
     exact ⟨_, by first | rfl | (simp [errW_none, errW_some] <;> rfl) | (simp [*, errW_none, errW_some] <;> rfl), by (with_reducible repeat (first | apply rL | apply rN | apply rW)); exact HO_5.out, by repeat (first | (with_reducible first | exact HB.out | apply bA | apply bN | apply bD) | exact HB.out)⟩

/-! ### hmac_Mac: function 137 -/
def hmac_Mac.f (k : Nat) (l0 : List Int) (l1 : List Int) : Option (List Int) := (hmac_turned.f k l0 54).bind fun t184 => ((slices_Concat_byte_byte.f (([t184, l1] : List (List Int)))).bind fun t190 => ((sha_Sum.f k t190).bind fun t193 => ((hmac_turned.f k l0 92).bind fun t196 => ((slices_Concat_byte_byte.f (([t196, t193] : List (List Int)))).bind fun t202 => ((sha_Sum.f k t202).bind fun t205 => (some t205))))))
theorem hmac_Mac.mono : ∀ a0 a1 k, LeO (hmac_Mac.f k a0 a1) (hmac_Mac.f (k + 1) a0 a1) := by
  intro a0 a1 k; unfold hmac_Mac.f
  repeat' first
    | (with_reducible exact hmac_turned.mono _ _ _)
    | (with_reducible exact sha_Sum.mono _ _)
    | (with_reducible exact LeO.refl _)
    | (with_reducible exact LeO.none _)
    | (with_reducible refine LeO.ite ?_ ?_)
    | (with_reducible refine LeO.bind ?_ (fun _ => ?_))
    | exact hmac_turned.mono _ _ _
    | exact sha_Sum.mono _ _
    | exact LeO.none _
    | refine LeO.ite ?_ ?_
    | refine LeO.bind ?_ (fun _ => ?_)
set_option maxHeartbeats 8000000 in
set_option maxRecDepth 100000 in
theorem hmac_Mac.calls (k : Nat) (A0 : Option Addr) (c0 : Nat) (l0 : List Int) (P1_ : Nat → Prop) (A1 : Option Addr) (c1 : Nat) (l1 : List Int) (r : List Int) (w : World) (hr0 : Kd.C (Kd.int .u8) w A0 l0.length l0) (hc0 : l0.length ≤ c0) (hs1 : Kd.V (Kd.int .u8) 5 w w.heap.size (fun k_ => P1_ k_) (.slice A1 l1.length c1) l1) (hL0_ : Kd.C (Kd.int .u32) w (some ⟨1, 0, none⟩) 64 shaK) (hL1_ : Kd.C (Kd.int .u32) w (some ⟨0, 0, none⟩) 8 shaF) (h : hmac_Mac.f k l0 l1 = some r) :
   Calls Try.prog 137 #[.slice A0 l0.length c0, .slice A1 l1.length c1] w fun e w' => ∃ v0_ : Value, e = .returned (v0_) ∧ Kd.R (Kd.int .u8) 5 w' w.heap.size (fun k_ => (w.heap.size ≤ k_)) v0_ r ∧ Below w.heap.size w w' := by
  have HR0 := Aside0.mk hr0; have HC0 := Aside0.mk hc0; clear hr0 hc0; have HO1 := Aside0.mk (show Kd.V (Kd.int .u8) 5 w w.heap.size (fun k_ => (P1_ k_ ∨ w.heap.size ≤ k_)) (.slice A1 l1.length c1) l1 from Kd.V_mono hs1 (fun k_ hk => .inl hk)); have HRL0_ := Aside0.mk hL0_; have HRL1_ := Aside0.mk hL1_; clear hL0_ hL1_; have HB := Aside0.mk (Below.refl w.heap.size w); have H : ((hmac_turned.f k l0 54).bind fun t184 => ((slices_Concat_byte_byte.f (([t184, l1] : List (List Int)))).bind fun t190 => ((sha_Sum.f k t190).bind fun t193 => ((hmac_turned.f k l0 92).bind fun t196 => ((slices_Concat_byte_byte.f (([t196, t193] : List (List Int)))).bind fun t202 => ((sha_Sum.f k t202).bind fun t205 => (some t205))))))) = some r := h
  clear h; replace H := Option.bind_eq_some_iff.mp H
  obtain ⟨t184, A30, H⟩ := H
  replace H : ((slices_Concat_byte_byte.f (([t184, l1] : List (List Int)))).bind fun t190 => ((sha_Sum.f k t190).bind fun t193 => ((hmac_turned.f k l0 92).bind fun t196 => ((slices_Concat_byte_byte.f (([t196, t193] : List (List Int)))).bind fun t202 => ((sha_Sum.f k t202).bind fun t205 => (some t205)))))) = some r := H
  have A3 := Aside0.mk A30; clear A30; obtain ⟨y187, hy187⟩ : ∃ y_ : List (List Int), y_ = (([t184, l1] : List (List Int))) := ⟨_, rfl⟩
  replace H : ((slices_Concat_byte_byte.f y187).bind fun t190 => ((sha_Sum.f k t190).bind fun t193 => ((hmac_turned.f k l0 92).bind fun t196 => ((slices_Concat_byte_byte.f (([t196, t193] : List (List Int)))).bind fun t202 => ((sha_Sum.f k t202).bind fun t205 => (some t205)))))) = some r := by first | (rw [hy187]; with_reducible exact H) | (have H2_ := (Option.bind_some _ _).symm.trans H; rw [hy187]; with_reducible exact H2_) | (have H2_ := (Option.bind_some _ _).symm.trans H; with_reducible exact H2_) | with_reducible exact H | (rw [hy187]; exact H) | exact H
  have Ny187 := Aside0.mk hy187; clear hy187; replace H := Option.bind_eq_some_iff.mp H
  obtain ⟨t190, A40, H⟩ := H
  replace H : ((sha_Sum.f k t190).bind fun t193 => ((hmac_turned.f k l0 92).bind fun t196 => ((slices_Concat_byte_byte.f (([t196, t193] : List (List Int)))).bind fun t202 => ((sha_Sum.f k t202).bind fun t205 => (some t205))))) = some r := H
  have A4 := Aside0.mk A40; clear A40; replace H := Option.bind_eq_some_iff.mp H
  obtain ⟨t193, A50, H⟩ := H
  replace H : ((hmac_turned.f k l0 92).bind fun t196 => ((slices_Concat_byte_byte.f (([t196, t193] : List (List Int)))).bind fun t202 => ((sha_Sum.f k t202).bind fun t205 => (some t205)))) = some r := H
  have A5 := Aside0.mk A50; clear A50; replace H := Option.bind_eq_some_iff.mp H
  obtain ⟨t196, A60, H⟩ := H
  replace H : ((slices_Concat_byte_byte.f (([t196, t193] : List (List Int)))).bind fun t202 => ((sha_Sum.f k t202).bind fun t205 => (some t205))) = some r := H
  have A6 := Aside0.mk A60; clear A60; obtain ⟨y199, hy199⟩ : ∃ y_ : List (List Int), y_ = (([t196, t193] : List (List Int))) := ⟨_, rfl⟩
  replace H : ((slices_Concat_byte_byte.f y199).bind fun t202 => ((sha_Sum.f k t202).bind fun t205 => (some t205))) = some r := by first | (rw [hy199]; with_reducible exact H) | (have H2_ := (Option.bind_some _ _).symm.trans H; rw [hy199]; with_reducible exact H2_) | (have H2_ := (Option.bind_some _ _).symm.trans H; with_reducible exact H2_) | with_reducible exact H | (rw [hy199]; exact H) | exact H
  have Ny199 := Aside0.mk hy199; clear hy199; replace H := Option.bind_eq_some_iff.mp H
  obtain ⟨t202, A70, H⟩ := H
  replace H : ((sha_Sum.f k t202).bind fun t205 => (some t205)) = some r := H
  have A7 := Aside0.mk A70; clear A70; replace H := Option.bind_eq_some_iff.mp H
  obtain ⟨t205, A80, H⟩ := H
  replace H : (some t205) = some r := H
  have A8 := Aside0.mk A80; clear A80; obtain rfl := Option.some.inj H
  go_enter Try.func137, Try.ntmps137
  go_wp2_with (first | ((with_reducible refine gate_callee (f := 139) rfl ?_); refine goesL_ (some 7) rfl rfl Try.func139 (by kernel_rfl) rfl #[.slice A0 l0.length c0, .int .u8 54] rfl (by (try simp only [mT, mC, mN]); first | done | rfl | (simp only [List.length_drop, List.length_take]; rfl)) ?_; (with_reducible refine (hmac_turned.calls k _ _ l0 54 t184 _ ?side1 ?side2 ?side3 ?side4 A3.out).mono ?_); (case side1 => repeat (first | exact HR0.out | (with_reducible refine Kd.C_alloc ?_ _) | (with_reducible refine Kd.C_drewN ?_ _) | (with_reducible refine Kd.C_drew ?_))); (case side2 => exact HC0.out); (case side3 => repeat (first | exact HRL0_.out | (with_reducible refine Kd.C_alloc ?_ _) | (with_reducible refine Kd.C_drewN ?_ _) | (with_reducible refine Kd.C_drew ?_))); (case side4 => repeat (first | exact HRL1_.out | (with_reducible refine Kd.C_alloc ?_ _) | (with_reducible refine Kd.C_drewN ?_ _) | (with_reducible refine Kd.C_drew ?_))); rintro e w9 ⟨v185, rfl, ho0, hb⟩; refine ⟨_, rfl, ?_⟩; have n0_ := Aside0.mk (Kd.V_elder' (by (with_reducible repeat (first | apply Kd.V_alloc | apply Kd.V_drewN | apply Kd.V_drew)); exact HO1.out) (Kd.R_base ho0) hb); have n1_ := Aside0.mk (Kd.R_lower (Kd.R_newM (M := fun k_ => (w.heap.size ≤ k_)) ho0 (below_size (by repeat (first | (with_reducible first | exact HB.out | apply bA | apply bN | apply bD) | exact HB.out))) (fun k_ h_ => h_)) (below_size (by repeat (first | (with_reducible first | exact HB.out | apply bA | apply bN | apply bD) | exact HB.out)))); have n2_ := Aside0.mk (below_step (by repeat (first | (with_reducible first | exact HB.out | apply bA | apply bN | apply bD) | exact HB.out)) hb); clear HO1; clear HB; have HO1 := n0_; have HO186 := n1_; have HB := n2_; clear n0_ n1_ n2_; (try clear hb); (try clear hb2); (try clear hk); (try clear hi); (try clear ho0); obtain ⟨Ao10, co10, eo10⟩ := Kd.R_slice HO186.out; subst eo10) | ((with_reducible refine gate_dst (N := 9) rfl ?_); refine Kd.N_lit (Kd.slice 5 (Kd.int .u8)) _ 22 ?hg (N' := 9) ?hd (xs := ([t184, l1] : List (List Int))) (inner := [.slice Ao10 t184.length co10, .slice A1 l1.length c1]) (ok := (fun k_ => (P1_ k_ ∨ w.heap.size ≤ k_))) (okp := (fun k_ => (P1_ k_ ∨ w.heap.size ≤ k_))) ?hr ?hp (fun _ hk => hk) (fresh_at (ok := (fun k_ => (P1_ k_ ∨ w.heap.size ≤ k_))) (fun k_ hk => (.inr (Nat.le_trans (below_size (by repeat (first | (with_reducible first | exact HB.out | apply bA | apply bN | apply bD) | exact HB.out))) hk)))) (Below.refl _ _) (Nat.le_refl _) (by simp) ?_; (case hd => rfl); (case hg => rfl); (case hr => first | (go_simp; done) | (go_simp; rfl)); (case hp => exact (Reps.one (show Kd.FK (Kd.slice 5 (Kd.int .u8)) _ _ t184 [.slice Ao10 t184.length co10] from (Kd.FK_slice_mk (Kd.R_reads' (Kd.R_mono (ok' := (fun k_ => (P1_ k_ ∨ w.heap.size ≤ k_))) (HO186.out) (fun k_ hk => (.inr (hk.1))))).2.1 (Kd.R_F (Kd.R_mono (ok' := (fun k_ => (P1_ k_ ∨ w.heap.size ≤ k_))) (HO186.out) (fun k_ hk => (.inr (hk.1))))))) (Reps.one (show Kd.FK (Kd.slice 5 (Kd.int .u8)) _ _ l1 [.slice A1 l1.length c1] from (Kd.FK_slice_mk (Kd.V_reads' (Kd.V_mono (ok' := (fun k_ => (P1_ k_ ∨ w.heap.size ≤ k_))) (HO1.out) (fun k_ hk => hk.1))).2.1 (Kd.V_F (Kd.V_mono (ok' := (fun k_ => (P1_ k_ ∨ w.heap.size ≤ k_))) (HO1.out) (fun k_ hk => hk.1))))) (Reps.none _ _)))); intro v188 w11 ho12 hb hg_ hnew_; clear hg_ hnew_; (first | rw [← Ny187.out] at ho12 | (simp only [Int.reduceToNat] at ho12; rw [← Ny187.out] at ho12)); have n0_ := Aside0.mk (Kd.V_elder' (by (with_reducible repeat (first | apply Kd.V_alloc | apply Kd.V_drewN | apply Kd.V_drew)); exact HO1.out) (Kd.N_base ho12) hb); have n1_ := Aside0.mk (Kd.N_lower ho12 (below_size (by repeat (first | (with_reducible first | exact HB.out | apply bA | apply bN | apply bD) | exact HB.out)))); have n2_ := Aside0.mk (below_step (by repeat (first | (with_reducible first | exact HB.out | apply bA | apply bN | apply bD) | exact HB.out)) hb); clear HO1; clear HB; clear HO186; have HO1 := n0_; have HO189 := n1_; have HB := n2_; clear n0_ n1_ n2_; clear hb ho12; obtain ⟨Ao13, co13, eo13⟩ := Kd.N_slice HO189.out; subst eo13) | ((with_reducible refine gate_callee (f := 106) rfl ?_); refine goesL_ (some 10) rfl rfl Try.func106 (by kernel_rfl) rfl #[.slice Ao13 y187.length co13] rfl (by (try simp only [mT, mC, mN]); first | done | rfl | (simp only [List.length_drop, List.length_take]; rfl)) ?_; (with_reducible refine (slices_Concat_byte_byte.calls _ _ y187 t190 _ ?side1 ?side2 A4.out).mono ?_); (case side1 => repeat (first | exact (Kd.N_reads' HO189.out).2.2 | (with_reducible refine Kd.C_alloc ?_ _) | (with_reducible refine Kd.C_drewN ?_ _) | (with_reducible refine Kd.C_drew ?_))); (case side2 => exact (Kd.N_reads' HO189.out).2.1); rintro e w14 ⟨v191, rfl, ho0, hb⟩; refine ⟨_, rfl, ?_⟩; have n0_ := Aside0.mk (Kd.V_elder' (by (with_reducible repeat (first | apply Kd.V_alloc | apply Kd.V_drewN | apply Kd.V_drew)); exact HO1.out) (Kd.R_base ho0) hb); have n1_ := Aside0.mk (Kd.N_elder' (by (with_reducible repeat (first | apply Kd.N_alloc | apply Kd.N_drewN | apply Kd.N_drew)); exact HO189.out) (Kd.R_base ho0) hb); have n2_ := Aside0.mk (Kd.R_lower (Kd.R_newM (M := fun k_ => (w.heap.size ≤ k_)) ho0 (below_size (by repeat (first | (with_reducible first | exact HB.out | apply bA | apply bN | apply bD) | exact HB.out))) (fun k_ h_ => h_)) (below_size (by repeat (first | (with_reducible first | exact HB.out | apply bA | apply bN | apply bD) | exact HB.out)))); have n3_ := Aside0.mk (below_step (by repeat (first | (with_reducible first | exact HB.out | apply bA | apply bN | apply bD) | exact HB.out)) hb); clear HO1; clear HO189; clear HB; have HO1 := n0_; have HO189 := n1_; have HO192 := n2_; have HB := n3_; clear n0_ n1_ n2_ n3_; (try clear hb); (try clear hb2); (try clear hk); (try clear hi); (try clear ho0); obtain ⟨Ao15, co15, eo15⟩ := Kd.R_slice HO192.out; subst eo15) | ((with_reducible refine gate_callee (f := 138) rfl ?_); refine goesL_ (some 11) rfl rfl Try.func138 (by kernel_rfl) rfl #[.slice Ao15 t190.length co15] rfl (by (try simp only [mT, mC, mN]); first | done | rfl | (simp only [List.length_drop, List.length_take]; rfl)) ?_; (with_reducible refine (sha_Sum.calls k _ _ t190 t193 _ ?side1 ?side2 ?side3 ?side4 A5.out).mono ?_); (case side1 => repeat (first | exact (Kd.R_reads' HO192.out).2.2 | (with_reducible refine Kd.C_alloc ?_ _) | (with_reducible refine Kd.C_drewN ?_ _) | (with_reducible refine Kd.C_drew ?_))); (case side2 => exact (Kd.R_reads' HO192.out).2.1); (case side3 => repeat (first | exact (Kd.C_below HRL0_.out HB.out) | (with_reducible refine Kd.C_alloc ?_ _) | (with_reducible refine Kd.C_drewN ?_ _) | (with_reducible refine Kd.C_drew ?_))); (case side4 => repeat (first | exact (Kd.C_below HRL1_.out HB.out) | (with_reducible refine Kd.C_alloc ?_ _) | (with_reducible refine Kd.C_drewN ?_ _) | (with_reducible refine Kd.C_drew ?_))); rintro e w16 ⟨v194, rfl, ho0, hb⟩; refine ⟨_, rfl, ?_⟩; have n0_ := Aside0.mk (Kd.V_elder' (by (with_reducible repeat (first | apply Kd.V_alloc | apply Kd.V_drewN | apply Kd.V_drew)); exact HO1.out) (Kd.R_base ho0) hb); have n1_ := Aside0.mk (Kd.N_elder' (by (with_reducible repeat (first | apply Kd.N_alloc | apply Kd.N_drewN | apply Kd.N_drew)); exact HO189.out) (Kd.R_base ho0) hb); have n2_ := Aside0.mk (Kd.R_elder' (by (with_reducible repeat (first | apply rL | apply rN | apply rW)); exact HO192.out) (Kd.R_base ho0) hb); have n3_ := Aside0.mk (Kd.R_lower (Kd.R_new' (Kd.R_newM (M := fun k_ => (w.heap.size ≤ k_)) ho0 (below_size (by repeat (first | (with_reducible first | exact HB.out | apply bA | apply bN | apply bD) | exact HB.out))) (fun k_ h_ => h_)) (Kd.R_lt (by (with_reducible repeat (first | apply rL | apply rN | apply rW)); exact HO192.out))) (below_size (by repeat (first | (with_reducible first | exact HB.out | apply bA | apply bN | apply bD) | exact HB.out)))); have n4_ := Aside0.mk (below_step (by repeat (first | (with_reducible first | exact HB.out | apply bA | apply bN | apply bD) | exact HB.out)) hb); clear HO1; clear HO189; clear HO192; clear HB; have HO1 := n0_; have HO189 := n1_; have HO192 := n2_; have HO195 := n3_; have HB := n4_; clear n0_ n1_ n2_ n3_ n4_; (try clear hb); (try clear hb2); (try clear hk); (try clear hi); (try clear ho0)) | ((with_reducible refine gate_callee (f := 139) rfl ?_); refine goesL_ (some 13) rfl rfl Try.func139 (by kernel_rfl) rfl #[.slice A0 l0.length c0, .int .u8 92] rfl (by (try simp only [mT, mC, mN]); first | done | rfl | (simp only [List.length_drop, List.length_take]; rfl)) ?_; (with_reducible refine (hmac_turned.calls k _ _ l0 92 t196 _ ?side1 ?side2 ?side3 ?side4 A6.out).mono ?_); (case side1 => repeat (first | exact (Kd.C_below HR0.out HB.out) | (with_reducible refine Kd.C_alloc ?_ _) | (with_reducible refine Kd.C_drewN ?_ _) | (with_reducible refine Kd.C_drew ?_))); (case side2 => exact HC0.out); (case side3 => repeat (first | exact (Kd.C_below HRL0_.out HB.out) | (with_reducible refine Kd.C_alloc ?_ _) | (with_reducible refine Kd.C_drewN ?_ _) | (with_reducible refine Kd.C_drew ?_))); (case side4 => repeat (first | exact (Kd.C_below HRL1_.out HB.out) | (with_reducible refine Kd.C_alloc ?_ _) | (with_reducible refine Kd.C_drewN ?_ _) | (with_reducible refine Kd.C_drew ?_))); rintro e w17 ⟨v197, rfl, ho0, hb⟩; refine ⟨_, rfl, ?_⟩; have n0_ := Aside0.mk (Kd.V_elder' (by (with_reducible repeat (first | apply Kd.V_alloc | apply Kd.V_drewN | apply Kd.V_drew)); exact HO1.out) (Kd.R_base ho0) hb); have n1_ := Aside0.mk (Kd.N_elder' (by (with_reducible repeat (first | apply Kd.N_alloc | apply Kd.N_drewN | apply Kd.N_drew)); exact HO189.out) (Kd.R_base ho0) hb); have n2_ := Aside0.mk (Kd.R_elder' (by (with_reducible repeat (first | apply rL | apply rN | apply rW)); exact HO192.out) (Kd.R_base ho0) hb); have n3_ := Aside0.mk (Kd.R_elder' (by (with_reducible repeat (first | apply rL | apply rN | apply rW)); exact HO195.out) (Kd.R_base ho0) hb); have n4_ := Aside0.mk (Kd.R_lower (Kd.R_new' (Kd.R_new' (Kd.R_newM (M := fun k_ => (w.heap.size ≤ k_)) ho0 (below_size (by repeat (first | (with_reducible first | exact HB.out | apply bA | apply bN | apply bD) | exact HB.out))) (fun k_ h_ => h_)) (Kd.R_lt (by (with_reducible repeat (first | apply rL | apply rN | apply rW)); exact HO192.out))) (Kd.R_lt (by (with_reducible repeat (first | apply rL | apply rN | apply rW)); exact HO195.out))) (below_size (by repeat (first | (with_reducible first | exact HB.out | apply bA | apply bN | apply bD) | exact HB.out)))); have n5_ := Aside0.mk (below_step (by repeat (first | (with_reducible first | exact HB.out | apply bA | apply bN | apply bD) | exact HB.out)) hb); clear HO1; clear HO189; clear HO192; clear HO195; clear HB; have HO1 := n0_; have HO189 := n1_; have HO192 := n2_; have HO195 := n3_; have HO198 := n4_; have HB := n5_; clear n0_ n1_ n2_ n3_ n4_ n5_; (try clear hb); (try clear hb2); (try clear hk); (try clear hi); (try clear ho0); obtain ⟨Ao18, co18, eo18⟩ := Kd.R_slice HO198.out; subst eo18; obtain ⟨Ao19, co19, eo19⟩ := Kd.R_slice HO195.out; subst eo19) | ((with_reducible refine gate_dst (N := 15) rfl ?_); refine Kd.N_lit (Kd.slice 5 (Kd.int .u8)) _ 22 ?hg (N' := 15) ?hd (xs := ([t196, t193] : List (List Int))) (inner := [.slice Ao18 t196.length co18, .slice Ao19 t193.length co19]) (ok := (fun k_ => (P1_ k_ ∨ w.heap.size ≤ k_) ∧ some k_ ≠ (.slice Ao13 y187.length co13 : Value).ownBlock ∧ some k_ ≠ (.slice Ao15 t190.length co15 : Value).ownBlock)) (okp := (fun k_ => (P1_ k_ ∨ w.heap.size ≤ k_) ∧ some k_ ≠ (.slice Ao13 y187.length co13 : Value).ownBlock ∧ some k_ ≠ (.slice Ao15 t190.length co15 : Value).ownBlock)) ?hr ?hp (fun _ hk => hk) (fresh_at (ok := (fun k_ => (P1_ k_ ∨ w.heap.size ≤ k_) ∧ some k_ ≠ (.slice Ao13 y187.length co13 : Value).ownBlock ∧ some k_ ≠ (.slice Ao15 t190.length co15 : Value).ownBlock)) (fun k_ hk => ⟨(.inr (Nat.le_trans (below_size (by repeat (first | (with_reducible first | exact HB.out | apply bA | apply bN | apply bD) | exact HB.out))) hk)), Kd.fresh' (Kd.N_lt (by (with_reducible repeat (first | apply Kd.N_alloc | apply Kd.N_drewN | apply Kd.N_drew)); exact HO189.out)) k_ hk, Kd.fresh' (Kd.R_lt (by (with_reducible repeat (first | apply rL | apply rN | apply rW)); exact HO192.out)) k_ hk⟩)) (Below.refl _ _) (Nat.le_refl _) (by simp) ?_; (case hd => rfl); (case hg => rfl); (case hr => first | (go_simp; done) | (go_simp; rfl)); (case hp => exact (Reps.one (show Kd.FK (Kd.slice 5 (Kd.int .u8)) _ _ t196 [.slice Ao18 t196.length co18] from (Kd.FK_slice_mk (Kd.R_reads' (Kd.R_mono (ok' := (fun k_ => (P1_ k_ ∨ w.heap.size ≤ k_) ∧ some k_ ≠ (.slice Ao13 y187.length co13 : Value).ownBlock ∧ some k_ ≠ (.slice Ao15 t190.length co15 : Value).ownBlock)) (Kd.R_apart' (HO198.out) (Kd.N_typed HO189.out) (by decide)) (fun k_ hk => ⟨(.inr (hk.1.1.1.1)), ⟨hk.2, hk.1.1.2⟩⟩))).2.1 (Kd.R_F (Kd.R_mono (ok' := (fun k_ => (P1_ k_ ∨ w.heap.size ≤ k_) ∧ some k_ ≠ (.slice Ao13 y187.length co13 : Value).ownBlock ∧ some k_ ≠ (.slice Ao15 t190.length co15 : Value).ownBlock)) (Kd.R_apart' (HO198.out) (Kd.N_typed HO189.out) (by decide)) (fun k_ hk => ⟨(.inr (hk.1.1.1.1)), ⟨hk.2, hk.1.1.2⟩⟩))))) (Reps.one (show Kd.FK (Kd.slice 5 (Kd.int .u8)) _ _ t193 [.slice Ao19 t193.length co19] from (Kd.FK_slice_mk (Kd.R_reads' (Kd.R_mono (ok' := (fun k_ => (P1_ k_ ∨ w.heap.size ≤ k_) ∧ some k_ ≠ (.slice Ao13 y187.length co13 : Value).ownBlock ∧ some k_ ≠ (.slice Ao15 t190.length co15 : Value).ownBlock)) (Kd.R_apart' (HO195.out) (Kd.N_typed HO189.out) (by decide)) (fun k_ hk => ⟨(.inr (hk.1.1.1.1)), ⟨hk.2, hk.1.1.2⟩⟩))).2.1 (Kd.R_F (Kd.R_mono (ok' := (fun k_ => (P1_ k_ ∨ w.heap.size ≤ k_) ∧ some k_ ≠ (.slice Ao13 y187.length co13 : Value).ownBlock ∧ some k_ ≠ (.slice Ao15 t190.length co15 : Value).ownBlock)) (Kd.R_apart' (HO195.out) (Kd.N_typed HO189.out) (by decide)) (fun k_ hk => ⟨(.inr (hk.1.1.1.1)), ⟨hk.2, hk.1.1.2⟩⟩))))) (Reps.none _ _)))); intro v200 w20 ho21 hb hg_ hnew_; clear hg_ hnew_; (first | rw [← Ny199.out] at ho21 | (simp only [Int.reduceToNat] at ho21; rw [← Ny199.out] at ho21)); have n0_ := Aside0.mk (Kd.V_elder' (by (with_reducible repeat (first | apply Kd.V_alloc | apply Kd.V_drewN | apply Kd.V_drew)); exact HO1.out) (Kd.N_base ho21) hb); have n1_ := Aside0.mk (Kd.N_elder' (by (with_reducible repeat (first | apply Kd.N_alloc | apply Kd.N_drewN | apply Kd.N_drew)); exact HO189.out) (Kd.N_base ho21) hb); have n2_ := Aside0.mk (Kd.R_below (by (with_reducible repeat (first | apply rL | apply rN | apply rW)); exact HO192.out) hb); have n3_ := Aside0.mk (Kd.N_lower ho21 (below_size (by repeat (first | (with_reducible first | exact HB.out | apply bA | apply bN | apply bD) | exact HB.out)))); have n4_ := Aside0.mk (below_step (by repeat (first | (with_reducible first | exact HB.out | apply bA | apply bN | apply bD) | exact HB.out)) hb); clear HO1; clear HO189; clear HO192; clear HB; clear HO195; clear HO198; have HO1 := n0_; have HO189 := n1_; have HO192 := n2_; have HO201 := n3_; have HB := n4_; clear n0_ n1_ n2_ n3_ n4_; clear hb ho21; obtain ⟨Ao22, co22, eo22⟩ := Kd.N_slice HO201.out; subst eo22) | ((with_reducible refine gate_callee (f := 106) rfl ?_); refine goesL_ (some 16) rfl rfl Try.func106 (by kernel_rfl) rfl #[.slice Ao22 y199.length co22] rfl (by (try simp only [mT, mC, mN]); first | done | rfl | (simp only [List.length_drop, List.length_take]; rfl)) ?_; (with_reducible refine (slices_Concat_byte_byte.calls _ _ y199 t202 _ ?side1 ?side2 A7.out).mono ?_); (case side1 => repeat (first | exact (Kd.N_reads' HO201.out).2.2 | (with_reducible refine Kd.C_alloc ?_ _) | (with_reducible refine Kd.C_drewN ?_ _) | (with_reducible refine Kd.C_drew ?_))); (case side2 => exact (Kd.N_reads' HO201.out).2.1); rintro e w23 ⟨v203, rfl, ho0, hb⟩; refine ⟨_, rfl, ?_⟩; have n0_ := Aside0.mk (Kd.V_elder' (by (with_reducible repeat (first | apply Kd.V_alloc | apply Kd.V_drewN | apply Kd.V_drew)); exact HO1.out) (Kd.R_base ho0) hb); have n1_ := Aside0.mk (Kd.N_elder' (by (with_reducible repeat (first | apply Kd.N_alloc | apply Kd.N_drewN | apply Kd.N_drew)); exact HO189.out) (Kd.R_base ho0) hb); have n2_ := Aside0.mk (Kd.R_elder' (by (with_reducible repeat (first | apply rL | apply rN | apply rW)); exact HO192.out) (Kd.R_base ho0) hb); have n3_ := Aside0.mk (Kd.N_elder' (by (with_reducible repeat (first | apply Kd.N_alloc | apply Kd.N_drewN | apply Kd.N_drew)); exact HO201.out) (Kd.R_base ho0) hb); have n4_ := Aside0.mk (Kd.R_lower (Kd.R_new' (Kd.R_newM (M := fun k_ => (w.heap.size ≤ k_)) ho0 (below_size (by repeat (first | (with_reducible first | exact HB.out | apply bA | apply bN | apply bD) | exact HB.out))) (fun k_ h_ => h_)) (Kd.R_lt (by (with_reducible repeat (first | apply rL | apply rN | apply rW)); exact HO192.out))) (below_size (by repeat (first | (with_reducible first | exact HB.out | apply bA | apply bN | apply bD) | exact HB.out)))); have n5_ := Aside0.mk (below_step (by repeat (first | (with_reducible first | exact HB.out | apply bA | apply bN | apply bD) | exact HB.out)) hb); clear HO1; clear HO189; clear HO192; clear HO201; clear HB; have HO1 := n0_; have HO189 := n1_; have HO192 := n2_; have HO201 := n3_; have HO204 := n4_; have HB := n5_; clear n0_ n1_ n2_ n3_ n4_ n5_; (try clear hb); (try clear hb2); (try clear hk); (try clear hi); (try clear ho0); obtain ⟨Ao24, co24, eo24⟩ := Kd.R_slice HO204.out; subst eo24) | ((with_reducible refine gate_callee (f := 138) rfl ?_); refine goesL_ (some 17) rfl rfl Try.func138 (by kernel_rfl) rfl #[.slice Ao24 t202.length co24] rfl (by (try simp only [mT, mC, mN]); first | done | rfl | (simp only [List.length_drop, List.length_take]; rfl)) ?_; (with_reducible refine (sha_Sum.calls k _ _ t202 t205 _ ?side1 ?side2 ?side3 ?side4 A8.out).mono ?_); (case side1 => repeat (first | exact (Kd.R_reads' HO204.out).2.2 | (with_reducible refine Kd.C_alloc ?_ _) | (with_reducible refine Kd.C_drewN ?_ _) | (with_reducible refine Kd.C_drew ?_))); (case side2 => exact (Kd.R_reads' HO204.out).2.1); (case side3 => repeat (first | exact (Kd.C_below HRL0_.out HB.out) | (with_reducible refine Kd.C_alloc ?_ _) | (with_reducible refine Kd.C_drewN ?_ _) | (with_reducible refine Kd.C_drew ?_))); (case side4 => repeat (first | exact (Kd.C_below HRL1_.out HB.out) | (with_reducible refine Kd.C_alloc ?_ _) | (with_reducible refine Kd.C_drewN ?_ _) | (with_reducible refine Kd.C_drew ?_))); rintro e w25 ⟨v206, rfl, ho0, hb⟩; refine ⟨_, rfl, ?_⟩; have n0_ := Aside0.mk (Kd.V_elder' (by (with_reducible repeat (first | apply Kd.V_alloc | apply Kd.V_drewN | apply Kd.V_drew)); exact HO1.out) (Kd.R_base ho0) hb); have n1_ := Aside0.mk (Kd.N_elder' (by (with_reducible repeat (first | apply Kd.N_alloc | apply Kd.N_drewN | apply Kd.N_drew)); exact HO189.out) (Kd.R_base ho0) hb); have n2_ := Aside0.mk (Kd.R_elder' (by (with_reducible repeat (first | apply rL | apply rN | apply rW)); exact HO192.out) (Kd.R_base ho0) hb); have n3_ := Aside0.mk (Kd.N_elder' (by (with_reducible repeat (first | apply Kd.N_alloc | apply Kd.N_drewN | apply Kd.N_drew)); exact HO201.out) (Kd.R_base ho0) hb); have n4_ := Aside0.mk (Kd.R_elder' (by (with_reducible repeat (first | apply rL | apply rN | apply rW)); exact HO204.out) (Kd.R_base ho0) hb); have n5_ := Aside0.mk (Kd.R_lower (Kd.R_new' (Kd.R_new' (Kd.R_newM (M := fun k_ => (w.heap.size ≤ k_)) ho0 (below_size (by repeat (first | (with_reducible first | exact HB.out | apply bA | apply bN | apply bD) | exact HB.out))) (fun k_ h_ => h_)) (Kd.R_lt (by (with_reducible repeat (first | apply rL | apply rN | apply rW)); exact HO192.out))) (Kd.R_lt (by (with_reducible repeat (first | apply rL | apply rN | apply rW)); exact HO204.out))) (below_size (by repeat (first | (with_reducible first | exact HB.out | apply bA | apply bN | apply bD) | exact HB.out)))); have n6_ := Aside0.mk (below_step (by repeat (first | (with_reducible first | exact HB.out | apply bA | apply bN | apply bD) | exact HB.out)) hb); clear HO1; clear HO189; clear HO192; clear HO201; clear HO204; clear HB; have HO1 := n0_; have HO189 := n1_; have HO192 := n2_; have HO201 := n3_; have HO204 := n4_; have HO207 := n5_; have HB := n6_; clear n0_ n1_ n2_ n3_ n4_ n5_ n6_; (try clear hb); (try clear hb2); (try clear hk); (try clear hi); (try clear ho0)))
  go_ret
  exact ⟨_, by first | rfl | (simp [errW_none, errW_some] <;> rfl) | (simp [*, errW_none, errW_some] <;> rfl), by (with_reducible repeat (first | apply rL | apply rN | apply rW)); exact Kd.R_mono HO207.out (fun _ hk => hk.1.1.1), by repeat (first | (with_reducible first | exact HB.out | apply bA | apply bN | apply bD) | exact HB.out)⟩

/-- A state of type 105 at block g of W; what its slices lead to came in by w0. -/
def IsS105 (w0 W : World) (g : Nat) (f0 : Int) (f1 : List (S60)) : Prop := ∃ A1 c1, W.heap[g]? = some (.cells #[.int .i64 f0, .slice A1 f1.length c1] 105 (0, 0)) ∧ w0.heap.size ≤ g ∧ Kd.C k60 w0 A1 f1.length f1
theorem IsS105.grown {w0 W : World} {g : Nat} {f0 : Int} {f1 : List (S60)} {W1 : World} {row : Option Nat} (h : IsS105 w0 W g f0 f1) (hw : W.grownBy W1 row) (hne : some g ≠ row) : IsS105 w0 W1 g f0 f1 := by
  obtain ⟨A1, c1, hb, hg, hr1⟩ := h
  exact ⟨A1, c1, blk_grown hb hw hne, hg, hr1⟩
theorem IsS105.own_neN {w0 W : World} {g : Nat} {f0 : Int} {f1 : List (S60)} {α : Type} {d : Kd α} {e : Nat} {base : Nat} {ok : Nat → Prop} {v : Value} {xs : List α} (h : IsS105 w0 W g f0 f1) (ho : Kd.N d e W base ok v xs) (ht : e ≠ 105) : some g ≠ v.ownBlock := by
  obtain ⟨A1, c1, hb, hg, hr1⟩ := h
  exact Kd.N_ne ho hb ht
theorem IsS105.fresh {w0 W : World} {g : Nat} {f0 : Int} {f1 : List (S60)} (h : IsS105 w0 W g f0 f1) : ∀ k, W.heap.size ≤ k → k ≠ g := by
  obtain ⟨A1, c1, hb, hg, hr1⟩ := h
  exact Kd.freshB hb
theorem IsS105.kept {w0 W : World} {g : Nat} {f0 : Int} {f1 : List (S60)} {W1 : World} {S : Nat → Prop} (h : IsS105 w0 W g f0 f1) (hk : Kept W W1 S) (hne : ¬ S g) : IsS105 w0 W1 g f0 f1 := by
  obtain ⟨A1, c1, hb, hg, hr1⟩ := h
  exact ⟨A1, c1, blk_kept hb hk hne, hg, hr1⟩
theorem IsS105.below {w0 W : World} {g : Nat} {f0 : Int} {f1 : List (S60)} {W1 : World} (h : IsS105 w0 W g f0 f1) (hw : Below W.heap.size W W1) : IsS105 w0 W1 g f0 f1 := h.grown (grown_of_below hw none) (by simp)
theorem IsS105.alloc {w0 W : World} {g : Nat} {f0 : Int} {f1 : List (S60)} (h : IsS105 w0 W g f0 f1) (o : Obj) : IsS105 w0 (W.alloc o) g f0 f1 := h.below (below_alloc (Below.refl _ _) o)
theorem IsS105.drewN {w0 W : World} {g : Nat} {f0 : Int} {f1 : List (S60)} (h : IsS105 w0 W g f0 f1) (m : Nat) : IsS105 w0 (W.drewN m) g f0 f1 := h
theorem IsS105.drew {w0 W : World} {g : Nat} {f0 : Int} {f1 : List (S60)} (h : IsS105 w0 W g f0 f1) : IsS105 w0 W.drew g f0 f1 := h
theorem IsS105.at_ {w0 W : World} {g : Nat} {f0 : Int} {f1 : List (S60)} {w' : World} {m : Nat} (hq : W.drewN m = w') (h : IsS105 w0 W g f0 f1) : IsS105 w0 w' g f0 f1 := by subst hq; exact IsS105.drewN h m
theorem IsS105.apart {w0 W : World} {g : Nat} {f0 : Int} {f1 : List (S60)} {α : Type} {d : Kd α} {e : Nat} {base : Nat} {ok : Nat → Prop} {v : Value} {xs : List α} (h : IsS105 w0 W g f0 f1) (ho : d.R e W base ok v xs) (ht : ∀ q, q ∈ e :: d.E → q ≠ 105) : d.R e W base (fun k => ok k ∧ k ≠ g) v xs := by
  obtain ⟨A1, c1, hb, hg, hr1⟩ := h
  exact Kd.R_types ho hb ht
theorem IsS105.own_ne {w0 W : World} {g : Nat} {f0 : Int} {f1 : List (S60)} {α : Type} {d : Kd α} {e : Nat} {base : Nat} {ok : Nat → Prop} {v : Value} {xs : List α} (h : IsS105 w0 W g f0 f1) (ho : d.R e W base ok v xs) (ht : e ≠ 105) : some g ≠ v.ownBlock := by
  obtain ⟨A1, c1, hb, hg, hr1⟩ := h
  exact Kd.R_ne ho hb ht
theorem IsS105.apartQ {w0 W : World} {g : Nat} {f0 : Int} {f1 : List (S60)} {α : Type} {d : Kd α} {e : Nat} {base : Nat} {ok : Nat → Prop} {v : Value} {xs : List α} (h : IsS105 w0 W g f0 f1) (ho : d.Q e W base ok v xs) (ht : ∀ q, q ∈ e :: d.E → q ≠ 105) : d.Q e W base (fun k => ok k ∧ k ≠ g) v xs := by
  obtain ⟨A1, c1, hb, hg, hr1⟩ := h
  exact Kd.Q_types ho hb ht
theorem IsS105.own_neQ {w0 W : World} {g : Nat} {f0 : Int} {f1 : List (S60)} {α : Type} {d : Kd α} {e : Nat} {base : Nat} {ok : Nat → Prop} {v : Value} {xs : List α} (h : IsS105 w0 W g f0 f1) (ho : d.Q e W base ok v xs) (ht : e ≠ 105) : some g ≠ v.ownBlock := by
  obtain ⟨A1, c1, hb, hg, hr1⟩ := h
  exact Kd.Q_ne ho hb ht
theorem IsS105.apartS {w0 W : World} {g : Nat} {f0 : Int} {f1 : List (S60)} {α : Type} {d : Kd α} {e : Nat} {base : Nat} {ok : Nat → Prop} {v : Value} {xs : List α} (h : IsS105 w0 W g f0 f1) (ho : d.S e W base ok v xs) (ht : ∀ q, q ∈ e :: d.E → q ≠ 105) : d.S e W base (fun k => ok k ∧ k ≠ g) v xs := by
  obtain ⟨A1, c1, hb, hg, hr1⟩ := h
  exact Kd.S_types ho hb ht
theorem IsS105.own_neS {w0 W : World} {g : Nat} {f0 : Int} {f1 : List (S60)} {α : Type} {d : Kd α} {e : Nat} {base : Nat} {ok : Nat → Prop} {v : Value} {xs : List α} (h : IsS105 w0 W g f0 f1) (ho : d.S e W base ok v xs) (ht : e ≠ 105) : some g ≠ v.ownBlock := by
  obtain ⟨A1, c1, hb, hg, hr1⟩ := h
  exact Kd.S_ne ho hb ht
theorem IsS105.lt {w0 W : World} {g : Nat} {f0 : Int} {f1 : List (S60)} (h : IsS105 w0 W g f0 f1) : g < W.heap.size := by
  obtain ⟨A1, c1, hb, hg, hr1⟩ := h
  exact blk_lt hb
theorem IsS105.ge {w0 W : World} {g : Nat} {f0 : Int} {f1 : List (S60)} (h : IsS105 w0 W g f0 f1) : w0.heap.size ≤ g := by
  obtain ⟨A1, c1, hb, hg, hr1⟩ := h
  exact hg
theorem IsS105.ne_blk {w0 W : World} {g : Nat} {f0 : Int} {f1 : List (S60)} {a : Nat} {cs : Array Value} {t : TypeId} {fr : Nat × Nat} (h : IsS105 w0 W g f0 f1) (hb2 : W.heap[a]? = some (.cells cs t fr)) (ht : t ≠ 105) : g ≠ a := by
  obtain ⟨A1, c1, hb, hg, hr1⟩ := h
  rintro rfl
  rw [hb] at hb2
  injection hb2 with hb2
  injection hb2 with _ ht2
  exact ht ht2.symm
theorem IsS105.far {w0 W : World} {g : Nat} {f0 : Int} {f1 : List (S60)} {p : Addr} (h : IsS105 w0 W g f0 f1) (hne : g ≠ p.block) (u : Value) : IsS105 w0 (W.setCell p u) g f0 f1 := by
  obtain ⟨A1, c1, hb, hg, hr1⟩ := h
  exact ⟨A1, c1, blk_far hb hne u, hg, hr1⟩
theorem cellS105_0 {W : World} {g : Nat} {A1 : Option Addr} {c1 : Nat} {f0 : Int} {f1 : List (S60)} (h : W.heap[g]? = some (.cells #[.int .i64 f0, .slice A1 f1.length c1] 105 (0, 0))) : W.cell? ⟨g, 0, none⟩ = some (.int .i64 f0) := (blk_cell h 0).trans rfl
theorem IsS105.set_0 {w0 W : World} {g : Nat} {f0 : Int} {f1 : List (S60)} (h : IsS105 w0 W g f0 f1) (x : Int) : IsS105 w0 (W.setCell ⟨g, 0, none⟩ (.int .i64 x)) g x f1 := by
  obtain ⟨A1, c1, hb, hg, hr1⟩ := h
  exact ⟨A1, c1, by simpa using blk_set hb 0 (.int .i64 x), hg, hr1⟩
theorem cellS105_1 {W : World} {g : Nat} {A1 : Option Addr} {c1 : Nat} {f0 : Int} {f1 : List (S60)} (h : W.heap[g]? = some (.cells #[.int .i64 f0, .slice A1 f1.length c1] 105 (0, 0))) : W.cell? ⟨g, 1, none⟩ = some (.slice A1 f1.length c1) := (blk_cell h 1).trans rfl
theorem IsS105.new (w0 W : World) (A1 : Option Addr) (c1 : Nat) (f0 : Int) (f1 : List (S60)) (hB : Below w0.heap.size w0 W) (hr1 : Kd.C k60 w0 A1 f1.length f1) : IsS105 w0 (W.alloc (.cells #[.int .i64 f0, .slice A1 f1.length c1] 105)) W.heap.size f0 f1 := ⟨A1, c1, by simpa using heap_alloc_new W _, hB.size, hr1⟩

/-! ### mac_Right: function 84 -/
def mac_Right.f (a0_0 : Int) (l0_1 : List (S60)) : Option Bool := if a0_0 = 1 then some (decide (l0_1.length = 0)) else if a0_0 = 2 then term_Right.f l0_1 else some false
/-! The makers behind the interface. -/
def mk.eng (k : Int) (A : Option Addr) (n c : Nat) : Value := .agg #[.int .i64 k, .slice A n c]
theorem mk.con (A0 : Option Addr) (c0 : Nat) (l0 : List S60) (w : World) (h : l0.length = 0) : Calls Try.prog 107 #[.agg #[.int .i64 1, .slice A0 l0.length c0]] w fun e w' => e = .returned (.iface 148 (.agg #[.int .i64 1, .slice A0 l0.length c0])) ∧ Below w.heap.size w w' := by
  have b1 : (l0.length == 0) = true := beq_iff_eq.2 h
  have b2 : ((l0.length : Int) == 0) = true := beq_iff_eq.2 (by omega)
  clear h
  go_enter Try.func107, Try.ntmps107
  go_wp2
  go_ret
  exact ⟨rfl, (Below.refl _ _).alloc (Nat.le_refl _) _⟩
theorem mk.sym (A0 : Option Addr) (c0 : Nat) (l0 : List S60) (w : World) (hr0 : Kd.C k60 w A0 l0.length l0) (hc0 : l0.length ≤ c0) (h : term_Right.f l0 = some true) : Calls Try.prog 107 #[.agg #[.int .i64 2, .slice A0 l0.length c0]] w fun e w' => e = .returned (.iface 149 (.agg #[.int .i64 2, .slice A0 l0.length c0])) ∧ Below w.heap.size w w' := by
  have HR := Aside0.mk hr0; have HC := Aside0.mk hc0; have HT := Aside0.mk h
  clear hr0 hc0 h
  go_enter Try.func107, Try.ntmps107
  have hb0 := below_alloc (Below.refl w.heap.size w) (.cells #[.int .i64 2, .slice A0 l0.length c0] 105)
  have bk := blk_new w (.cells #[.int .i64 2, .slice A0 l0.length c0] 105)
  go_upto_region 1 with fail
  generalize w.alloc (.cells #[.int .i64 2, .slice A0 l0.length c0] 105) = W at hb0 bk ⊢
  have HB := Aside0.mk hb0; have BK := Aside0.mk bk
  clear hb0 bk
  have c1 := (blk_cell BK.out 0).trans rfl; have c2 := (blk_cell BK.out 1).trans rfl
  go_wp2_with (go_at_call 48; refine Calls.mono (term_Right.calls _ _ l0 true _ (Kd.C_below HR.out HB.out) HC.out HT.out) ?_; rintro e w2 ⟨rfl, hb⟩; have c3 := (blk_cell (blk_below BK.out hb) 0).trans rfl; have c4 := (blk_cell (blk_below BK.out hb) 1).trans rfl; have HB2 := Aside0.mk (below_step HB.out hb); clear hb)
  go_ret
  exact ⟨rfl, HB2.out⟩
theorem mk.no2 (A0 : Option Addr) (c0 : Nat) (l0 : List S60) (w : World) (hr0 : Kd.C k60 w A0 l0.length l0) (hc0 : l0.length ≤ c0) (h : term_Right.f l0 = some false) : Calls Try.prog 107 #[.agg #[.int .i64 2, .slice A0 l0.length c0]] w fun e w' => e = .returned .nilIface ∧ Below w.heap.size w w' := by
  have HR := Aside0.mk hr0; have HC := Aside0.mk hc0; have HT := Aside0.mk h
  clear hr0 hc0 h
  go_enter Try.func107, Try.ntmps107
  have hb0 := below_alloc (Below.refl w.heap.size w) (.cells #[.int .i64 2, .slice A0 l0.length c0] 105)
  have bk := blk_new w (.cells #[.int .i64 2, .slice A0 l0.length c0] 105)
  go_upto_region 1 with fail
  generalize w.alloc (.cells #[.int .i64 2, .slice A0 l0.length c0] 105) = W at hb0 bk ⊢
  have HB := Aside0.mk hb0; have BK := Aside0.mk bk
  clear hb0 bk
  have c1 := (blk_cell BK.out 0).trans rfl; have c2 := (blk_cell BK.out 1).trans rfl
  go_wp2_with (go_at_call 48; refine Calls.mono (term_Right.calls _ _ l0 false _ (Kd.C_below HR.out HB.out) HC.out HT.out) ?_; rintro e w2 ⟨rfl, hb⟩; have HB2 := Aside0.mk (below_step HB.out hb); clear hb)
  go_ret
  exact ⟨rfl, HB2.out⟩
theorem mk.no (k : Int) (A0 : Option Addr) (c0 : Nat) (l0 : List S60) (w : World) (h1 : ¬ (k = 1 ∧ l0.length = 0)) (h2 : k ≠ 2) : Calls Try.prog 107 #[.agg #[.int .i64 k, .slice A0 l0.length c0]] w fun e w' => e = .returned .nilIface ∧ Below w.heap.size w w' := by
  have b3 : (k == 2) = false := beq_eq_false_iff_ne.2 h2
  clear h2
  by_cases hk : k = 1
  · subst hk
    have hn : l0.length ≠ 0 := fun h => h1 ⟨rfl, h⟩
    have b1 : (l0.length == 0) = false := beq_eq_false_iff_ne.2 hn
    have b2 : ((l0.length : Int) == 0) = false := beq_eq_false_iff_ne.2 (by omega)
    clear h1 hn
    go_enter Try.func107, Try.ntmps107
    go_wp2
    go_ret
    exact ⟨rfl, (Below.refl _ _).alloc (Nat.le_refl _) _⟩
  · have b1 : (k == 1) = false := beq_eq_false_iff_ne.2 hk
    clear h1 hk
    go_enter Try.func107, Try.ntmps107
    go_wp2
    go_ret
    exact ⟨rfl, (Below.refl _ _).alloc (Nat.le_refl _) _⟩
theorem mk.two (w : World) (o1 o2 : Obj) : ((w.alloc o1).alloc o2).heap[w.heap.size]? = some o1 ∧ ((w.alloc o1).alloc o2).heap[w.heap.size + 1]? = some o2 ∧ Below w.heap.size w ((w.alloc o1).alloc o2) ∧ ((w.alloc o1).alloc o2).heap.size = w.heap.size + 2 := by
  have e1 := alloc_size' w o1
  refine ⟨blk_alloc (blk_new w o1) _, ?_, ((Below.refl _ _).alloc (Nat.le_refl _) o1).alloc (by rw [e1]; omega) o2, by rw [alloc_size', e1]⟩
  have := blk_new (w.alloc o1) o2
  rwa [e1] at this
theorem mk.set2 {W : World} {g t : Nat} {a b c d : Value} (h : W.heap[g]? = some (.cells #[a, b] t (0, 0))) : ((W.setCell ⟨g, 0, none⟩ c).setCell ⟨g, 1, none⟩ d).heap[g]? = some (.cells #[c, d] t (0, 0)) :=
  blk_put (cs := #[c, b]) (blk_put (cs := #[a, b]) h 0 c rfl) 1 d rfl
theorem mk.size2 {W : World} {g : Nat} {c d : Value} : ((W.setCell ⟨g, 0, none⟩ c).setCell ⟨g, 1, none⟩ d).heap.size = W.heap.size := by simp [World.setCell]
theorem mk.far2 {α : Type} {D : Kd α} {W : World} {g e n : Nat} {ok : Nat → Prop} {c d v : Value} {xs : List α} (h : Kd.V D e W n ok v xs) (hk : ∀ k, ok k → k ≠ g) : Kd.V D e ((W.setCell ⟨g, 0, none⟩ c).setCell ⟨g, 1, none⟩ d) n ok v xs :=
  Kd.V_far (p := ⟨g, 1, none⟩) (Kd.V_far (p := ⟨g, 0, none⟩) h hk c) hk d
/-- The first eight bytes. -/
theorem mk.cut8 (A : Option Addr) (c : Nat) (h t : List Int) (ht : t = h.take 8) (h8 : 8 ≤ h.length) (hc : h.length ≤ c) : ∀ W : World, (Instr.slice 22 (.slice A h.length c) none (some (.int .i64 8)) none).run Try.prog W = .ok (.slice A t.length c) W := by
  obtain ⟨i0, hi0, _⟩ := info_parts info5
  intro W
  have := cut_to (P := Try.prog) 22 5 .i64 Try.underlying22 hi0 A h.length c 8 (by omega) (by omega) hc W
  rw [this, ht, List.length_take, Nat.min_eq_left h8]
  rfl
set_option maxHeartbeats 3200000 in
theorem mk.ct (k : Nat) (A0 : Option Addr) (c0 : Nat) (l0 : List S60) (A1 : Option Addr) (c1 : Nat) (l1 : List Int) (A2 : Option Addr) (c2 : Nat) (l2 : List Int) (h t : List Int) (w : World) (hr1 : Kd.C (Kd.int .u8) w A1 l1.length l1) (hc1 : l1.length ≤ c1) (hr2 : Kd.C (Kd.int .u8) w A2 l2.length l2) (hc2 : l2.length ≤ c2) (hL0 : Kd.C (Kd.int .u32) w (some ⟨1, 0, none⟩) 64 shaK) (hL1 : Kd.C (Kd.int .u32) w (some ⟨0, 0, none⟩) 8 shaF) (hm : hmac_Mac.f k l1 l2 = some h) (h8 : 8 ≤ h.length) (ht : t = h.take 8) :
    Calls Try.prog 136 #[.agg #[.int .i64 1, .slice A0 l0.length c0], .slice A1 l1.length c1, .slice A2 l2.length c2] w fun e w' => ∃ v : Value, e = .returned (.tuple #[.agg #[.int .i64 1, .slice A0 l0.length c0], v]) ∧ Kd.V (Kd.int .u8) 5 w' w.heap.size (fun k_ => w.heap.size ≤ k_) v t ∧ Below w.heap.size w w' := by
  have HTT := Aside0.mk ht; clear ht
  have HR1 := Aside0.mk hr1; have HC1 := Aside0.mk hc1; have HR2 := Aside0.mk hr2; have HC2 := Aside0.mk hc2; have HL0 := Aside0.mk hL0; have HL1 := Aside0.mk hL1; have HM := Aside0.mk hm; have H8 := Aside0.mk h8
  clear hr1 hc1 hr2 hc2 hL0 hL1 hm h8
  go_enter Try.func136, Try.ntmps136
  obtain ⟨bb, br, hb, hs⟩ := mk.two w (.cells #[.int .i64 1, .slice A0 l0.length c0] 148) (.cells #[.int .i64 0, .slice none 0 0] 105)
  go_upto_region 1 with fail
  have BB := Aside0.mk bb; have BR := Aside0.mk br; have HB := Aside0.mk hb; have HS := Aside0.mk hs
  clear bb br hb hs
  generalize (w.alloc (.cells #[.int .i64 1, .slice A0 l0.length c0] 148)).alloc (.cells #[.int .i64 0, .slice none 0 0] 105) = W at BB BR HB HS ⊢
  have H := Aside0.mk (below_drew1 (Below.refl W.heap.size W))
  have a0 := (blk_cell (blk_below BB.out H.out) 0).trans rfl; have a1 := (blk_cell (blk_below BB.out H.out) 1).trans rfl
  have r0 := (blk_cell (blk_below BR.out H.out) 0).trans rfl; have r1 := (blk_cell (blk_below BR.out H.out) 1).trans rfl
  have f0 := blk_frozen (blk_below BR.out H.out) 0; have f1 := blk_frozen (blk_below BR.out H.out) 1
  go_region_with (go_at_call 137; refine Calls.mono (hmac_Mac.calls k _ _ l1 (fun k_ => k_ < w.heap.size) _ _ l2 h _ (Kd.C_below HR1.out (below_step HB.out H.out)) HC1.out (Kd.V_mk HC2.out (Kd.F_below (Kd.C_F (Kd.heap_int .u8) HR2.out) (below_step HB.out H.out))) (Kd.C_below HL0.out (below_step HB.out H.out)) (Kd.C_below HL1.out (below_step HB.out H.out)) HM.out) ?_; rintro e w2 ⟨v, rfl, h0, hb⟩; obtain ⟨Ah, ch, rfl⟩ := Kd.R_slice h0; have HH := Aside0.mk h0; have HHC := Aside0.mk (Kd.R_reads' h0).2.1; have hcut := mk.cut8 Ah ch h t HTT.out H8.out HHC.out; have H9 := Aside0.mk (below_step H.out hb); clear H; have H := H9; clear H9; have b0 := (blk_cell (blk_below BB.out H.out) 0).trans rfl; have b1 := (blk_cell (blk_below BB.out H.out) 1).trans rfl; have s0 := (blk_cell (blk_below BR.out H.out) 0).trans rfl; have s1 := (blk_cell (blk_below BR.out H.out) 1).trans rfl; have g0 := blk_frozen (blk_below BR.out H.out) 0; have g1 := blk_frozen (blk_below BR.out H.out) 1; clear hb h0)
  all_goals
    simp only [List.getElem_toArray, List.getElem_cons_succ, List.getElem_cons_zero, Act.put, List.setIfInBounds_toArray, List.set_cons_zero, List.set_cons_succ]
    go_wp2
    refine bodyPost_ret (results_ct rfl _ _ (w.heap.size + 1) 105 _ (0, 0) _ rfl (mk.set2 (blk_below BR.out H.out)) Try.underlying105 rfl (by kernel_rfl)) rfl ?_
    refine ⟨_, rfl, ?_, ?_⟩
    · have hF : Kd.F (Kd.int .u8) w2 (fun k_ => w.heap.size + 2 ≤ k_) Ah t.length t := by
        rw [HTT.out]
        exact Kd.F_mono (Kd.F_take (Kd.R_F HH.out) H8.out) (fun k_ hk => by rw [← HS.out]; exact hk)
      have hL : t.length ≤ ch := Nat.le_trans (by rw [HTT.out, List.length_take]; omega) HHC.out
      exact Kd.V_mono (mk.far2 (g := w.heap.size + 1) (n := w.heap.size) (Kd.V_mk hL hF) (fun k_ hk => by omega)) (fun k_ hk => by omega)
    · exact below_set (below_set (below_step HB.out H.out) (by omega)) (by omega)
theorem mk.ck (a v1 v2 : Value) (A0 : Option Addr) (n c0 : Nat) (w : World) : Calls Try.prog 135 #[.agg #[a, .slice A0 n c0], v1, v2] w fun e w' => e = .returned (.bool true) ∧ Below w.heap.size w w' := by
  go_enter Try.func135, Try.ntmps135
  go_wp2
  go_ret
  exact ⟨rfl, (Below.refl _ _).alloc (Nat.le_refl _) _⟩
set_option maxHeartbeats 3200000 in
theorem mk.sk (A0 : Option Addr) (c0 : Nat) (l0 : List S60) (A1 : Option Addr) (c1 : Nat) (l1 : List Int) (A2 : Option Addr) (c2 : Nat) (l2 : List Int) (p : Int) (w : World) (hr0 : Kd.C k60 w A0 l0.length l0) (hc0 : l0.length ≤ c0) (hr1 : Kd.C (Kd.int .u8) w A1 l1.length l1) (hc1 : l1.length ≤ c1) (hr2 : Kd.C (Kd.int .u8) w A2 l2.length l2) (hc2 : l2.length ≤ c2) (h : term_Place.f l0 l1 l2 = some p) :
    Calls Try.prog 147 #[.agg #[.int .i64 2, .slice A0 l0.length c0], .slice A1 l1.length c1, .slice A2 l2.length c2] w fun e w' => e = .returned (.bool (decide (0 ≤ p))) ∧ Below w.heap.size w w' := by
  have HR0 := Aside0.mk hr0; have HC0 := Aside0.mk hc0; have HR1 := Aside0.mk hr1; have HC1 := Aside0.mk hc1; have HR2 := Aside0.mk hr2; have HC2 := Aside0.mk hc2; have HP := Aside0.mk h
  clear hr0 hc0 hr1 hc1 hr2 hc2 h
  go_enter Try.func147, Try.ntmps147
  have HB := Aside0.mk (below_alloc (Below.refl w.heap.size w) (.cells #[.int .i64 2, .slice A0 l0.length c0] 149))
  have BB := Aside0.mk (blk_new w (.cells #[.int .i64 2, .slice A0 l0.length c0] 149))
  go_upto_region 1 with fail
  generalize w.alloc (.cells #[.int .i64 2, .slice A0 l0.length c0] 149) = W at BB HB ⊢
  have a0 := (blk_cell BB.out 0).trans rfl; have a1 := (blk_cell BB.out 1).trans rfl
  go_wp2_with (go_at_call 50; refine Calls.mono (term_Place.calls _ _ l0 _ _ l1 _ _ l2 p _ (Kd.C_below HR0.out HB.out) HC0.out (Kd.C_below HR1.out HB.out) HC1.out (Kd.C_below HR2.out HB.out) HC2.out HP.out) ?_; rintro e w2 ⟨rfl, hb⟩; have HB2 := Aside0.mk (below_step HB.out hb); clear hb)
  go_ret
  exact ⟨rfl, HB2.out⟩
set_option maxHeartbeats 3200000 in
theorem mk.st (k : Nat) (P : Nat → Prop) (A0 : Option Addr) (c0 : Nat) (l0 : List S60) (A1 : Option Addr) (c1 : Nat) (l1 : List Int) (A2 : Option Addr) (c2 : Nat) (l2 : List Int) (q : List S60) (b : List Int) (n : Nat) (w : World) (hs0 : Kd.V k60 60 w n (fun k_ => P k_) (.slice A0 l0.length c0) l0) (hr1 : Kd.C (Kd.int .u8) w A1 l1.length l1) (hc1 : l1.length ≤ c1) (hr2 : Kd.C (Kd.int .u8) w A2 l2.length l2) (hc2 : l2.length ≤ c2) (h : term_Put.f k l0 l1 l2 = some (q, b)) :
    Calls Try.prog 148 #[.agg #[.int .i64 2, .slice A0 l0.length c0], .slice A1 l1.length c1, .slice A2 l2.length c2] w fun e w' => ∃ v0 v1 : Value, e = .returned (.tuple #[.agg #[.int .i64 2, v0], v1]) ∧ Kd.V k60 60 w' w.heap.size (fun k_ => P k_ ∨ w.heap.size ≤ k_) v0 q ∧ Kd.V (Kd.int .u8) 5 w' w.heap.size (fun k_ => w.heap.size ≤ k_) v1 b ∧ Below w.heap.size w w' := by
  have HS0 := Aside0.mk hs0; have HR1 := Aside0.mk hr1; have HC1 := Aside0.mk hc1; have HR2 := Aside0.mk hr2; have HC2 := Aside0.mk hc2; have HP := Aside0.mk h
  clear hs0 hr1 hc1 hr2 hc2 h
  go_enter Try.func148, Try.ntmps148
  obtain ⟨bb, br, hb, hs⟩ := mk.two w (.cells #[.int .i64 2, .slice A0 l0.length c0] 149) (.cells #[.int .i64 0, .slice none 0 0] 105)
  go_upto_region 1 with fail
  have BB := Aside0.mk bb; have BR := Aside0.mk br; have HB := Aside0.mk hb; have HS := Aside0.mk hs
  clear bb br hb hs
  generalize (w.alloc (.cells #[.int .i64 2, .slice A0 l0.length c0] 149)).alloc (.cells #[.int .i64 0, .slice none 0 0] 105) = W at BB BR HB HS ⊢
  have a0 := (blk_cell BB.out 0).trans rfl; have a1 := (blk_cell BB.out 1).trans rfl
  go_upto_region 3 with (go_at_call 44; refine Calls.mono (term_Put.calls k (fun k_ => P k_ ∧ k_ < w.heap.size) _ _ l0 _ _ l1 _ _ l2 q b _ (Kd.V_map (Kd.V_below (Kd.V_bound HS0.out) HB.out) (fun _ h_ => h_)) (Kd.C_below HR1.out HB.out) HC1.out (Kd.C_below HR2.out HB.out) HC2.out HP.out) ?_; rintro e w2 ⟨v0, v1, rfl, h0, h1, hb⟩; obtain ⟨Aq, cq, rfl⟩ := Kd.V_slice h0; obtain ⟨Ab, cb, rfl⟩ := Kd.R_slice h1; have HV0 := Aside0.mk (Kd.V_mono (ok' := fun k_ => (P k_ ∧ k_ < w.heap.size) ∨ w.heap.size + 2 ≤ k_) h0 (fun k_ hk => by rcases hk.1 with hk | hk; exact .inl hk; exact .inr (by rw [← HS.out]; exact hk))); have HV1 := Aside0.mk (Kd.V_mono (ok' := fun k_ => w.heap.size + 2 ≤ k_) (Kd.R_V (base' := w.heap.size) h1) (fun k_ hk => by rw [← HS.out]; exact hk)); have BB2 := Aside0.mk (blk_below BB.out hb); have BR2 := Aside0.mk (blk_below BR.out hb); have HB2 := Aside0.mk (below_step HB.out hb); have b0 := (blk_cell BB2.out 0).trans rfl; have b1 := (blk_cell BB2.out 1).trans rfl; have g1 := blk_frozen BB2.out 1; clear h0 h1 hb)
  have BB3 := Aside0.mk (blk_put (cs' := #[.int .i64 2, .slice Aq q.length cq]) BB2.out 1 (.slice Aq q.length cq) rfl)
  have BR3 := Aside0.mk (blk_far (p := ⟨w.heap.size, 1, none⟩) BR2.out (show w.heap.size + 1 ≠ w.heap.size by omega) (.slice Aq q.length cq))
  have HB3 := Aside0.mk (below_set (j := 1) (v := (.slice Aq q.length cq)) HB2.out (Nat.le_refl w.heap.size))
  have HV03 := Aside0.mk (Kd.V_far (p := ⟨w.heap.size, 1, none⟩) HV0.out (fun k_ hk => by show k_ ≠ w.heap.size; omega) (.slice Aq q.length cq))
  have HV13 := Aside0.mk (Kd.V_far (p := ⟨w.heap.size, 1, none⟩) HV1.out (fun k_ hk => by show k_ ≠ w.heap.size; omega) (.slice Aq q.length cq))
  generalize w2.setCell ⟨w.heap.size, 1, none⟩ (.slice Aq q.length cq) = W3 at BB3 BR3 HB3 HV03 HV13 ⊢
  clear a0 a1 b0 b1 g1 BB BR HB BB2 BR2 HB2 HV0 HV1
  have a0 := (blk_cell BB3.out 0).trans rfl; have a1 := (blk_cell BB3.out 1).trans rfl
  have r0 := (blk_cell BR3.out 0).trans rfl; have r1 := (blk_cell BR3.out 1).trans rfl
  have f0 := blk_frozen BR3.out 0; have f1 := blk_frozen BR3.out 1
  go_wp2
  refine bodyPost_ret (results_ct rfl _ _ (w.heap.size + 1) 105 _ (0, 0) _ rfl (mk.set2 BR3.out) Try.underlying105 rfl (by kernel_rfl)) rfl ?_
  refine ⟨_, _, rfl, ?_, ?_, below_set (below_set HB3.out (by omega)) (by omega)⟩
  · exact Kd.V_mono (mk.far2 (g := w.heap.size + 1) (n := w.heap.size) (Kd.V_map HV03.out (fun _ h_ => h_)) (fun k_ hk => by omega)) (fun k_ hk => by rcases hk with hk | hk; exact .inl hk.1; exact .inr (by omega))
  · exact Kd.V_mono (mk.far2 (g := w.heap.size + 1) (n := w.heap.size) (Kd.V_map HV13.out (fun _ h_ => h_)) (fun k_ hk => by omega)) (fun k_ hk => by omega)
theorem mk.eqn (v : Value) (w : World) : (binOp .neq 142 (.iface 148 v) .nilIface).run Try.prog w = .ok (.bool true) w := by kernel_rfl
theorem mk.eqn3 (v : Value) (w : World) : (binOp .neq 142 (.iface 149 v) .nilIface).run Try.prog w = .ok (.bool true) w := by kernel_rfl
theorem mk.eq0 (w : World) : (binOp .neq 142 .nilIface .nilIface).run Try.prog w = .ok (.bool false) w := by kernel_rfl
theorem mk.eqe (v : Value) (w : World) : (binOp .eql 142 (.iface 148 v) .nilIface).run Try.prog w = .ok (.bool false) w := by kernel_rfl
theorem mk.eqe3 (v : Value) (w : World) : (binOp .eql 142 (.iface 149 v) .nilIface).run Try.prog w = .ok (.bool false) w := by kernel_rfl
theorem mk.eqe0 (w : World) : (binOp .eql 142 .nilIface .nilIface).run Try.prog w = .ok (.bool true) w := by kernel_rfl
theorem mk.mt (v : Value) (w : World) : (method 282 148 v "wristband/mac.tag").run Try.prog w = .ok (136, v) w := by kernel_rfl
theorem mk.mt3 (v : Value) (w : World) : (method 282 149 v "wristband/mac.tag").run Try.prog w = .ok (148, v) w := by kernel_rfl
theorem mk.mk (v : Value) (w : World) : (method 282 148 v "wristband/mac.known").run Try.prog w = .ok (135, v) w := by kernel_rfl
theorem mk.mk3 (v : Value) (w : World) : (method 282 149 v "wristband/mac.known").run Try.prog w = .ok (147, v) w := by kernel_rfl
/-- An engine's maker: what comes back, and whether there is one. -/
inductive mk.is (kind : Int) (A0 : Option Addr) (c0 : Nat) (l0 : List S60) : Bool → Value → Prop
  | con (h : Aside0 (kind = 1 ∧ l0.length = 0)) : mk.is kind A0 c0 l0 true (.iface 148 (.agg #[.int .i64 kind, .slice A0 l0.length c0]))
  | sym (h : Aside0 (kind = 2 ∧ term_Right.f l0 = some true)) : mk.is kind A0 c0 l0 true (.iface 149 (.agg #[.int .i64 kind, .slice A0 l0.length c0]))
  | no : mk.is kind A0 c0 l0 false .nilIface
theorem mk.any (kind : Int) (A0 : Option Addr) (c0 : Nat) (l0 : List S60) (r : Bool) (w : World) (hr0 : Kd.C k60 w A0 l0.length l0) (hc0 : l0.length ≤ c0) (h : mac_Right.f kind l0 = some r) : ∃ v, mk.is kind A0 c0 l0 r v ∧ Calls Try.prog 107 #[.agg #[.int .i64 kind, .slice A0 l0.length c0]] w fun e w' => e = .returned v ∧ Below w.heap.size w w' := by
  unfold mac_Right.f at h
  by_cases h1 : kind = 1
  · rw [if_pos h1] at h
    obtain rfl := Option.some.inj h
    by_cases h2 : l0.length = 0
    · rw [decide_eq_true h2]
      subst h1
      exact ⟨_, .con ⟨⟨rfl, h2⟩⟩, mk.con A0 c0 l0 w h2⟩
    · rw [decide_eq_false h2]
      exact ⟨_, .no, mk.no kind A0 c0 l0 w (fun h => h2 h.2) (by omega)⟩
  · rw [if_neg h1] at h
    by_cases h2 : kind = 2
    · rw [if_pos h2] at h
      subst h2
      cases r with
      | true => exact ⟨_, .sym ⟨⟨rfl, h⟩⟩, mk.sym A0 c0 l0 w hr0 hc0 h⟩
      | false => exact ⟨_, .no, mk.no2 A0 c0 l0 w hr0 hc0 h⟩
    · rw [if_neg h2] at h
      obtain rfl := Option.some.inj h
      exact ⟨_, .no, mk.no kind A0 c0 l0 w (fun h => h1 h.1) h2⟩
set_option maxHeartbeats 3200000 in
theorem mac_Right.calls (a0_0 : Int) (A0_1 : Option Addr) (c0_1 : Nat) (l0_1 : List S60) (r : Bool) (w : World) (hr0_1 : Kd.C k60 w A0_1 l0_1.length l0_1) (hc0_1 : l0_1.length ≤ c0_1) (h : mac_Right.f a0_0 l0_1 = some r) :
    Calls Try.prog 84 #[.agg #[.int .i64 a0_0, .slice A0_1 l0_1.length c0_1]] w fun e w' => e = .returned (.bool r) ∧ Below w.heap.size w w' := by
  have HR := Aside0.mk hr0_1; have HC := Aside0.mk hc0_1; have HH := Aside0.mk h
  clear hr0_1 hc0_1 h
  have HB := Aside0.mk (below_alloc (Below.refl w.heap.size w) (.cells #[.int .i64 a0_0, .slice A0_1 l0_1.length c0_1] 105))
  have BB := Aside0.mk (blk_new w (.cells #[.int .i64 a0_0, .slice A0_1 l0_1.length c0_1] 105))
  go_enter Try.func84, Try.ntmps84
  go_upto_region 1 with fail
  generalize w.alloc (.cells #[.int .i64 a0_0, .slice A0_1 l0_1.length c0_1] 105) = W at BB HB ⊢
  obtain ⟨v, hi, hcall⟩ := mk.any a0_0 A0_1 c0_1 l0_1 r W (Kd.C_below HR.out HB.out) HC.out HH.out
  have HCA := Aside0.mk hcall
  clear hcall
  have a0 := (blk_cell BB.out 0).trans rfl; have a1 := (blk_cell BB.out 1).trans rfl
  have e1 := mk.eqn; have e2 := mk.eqn3; have e3 := mk.eq0
  cases hi
  all_goals
    go_wp2_with (go_at_call 107; refine Calls.mono HCA.out ?_; rintro e w2 ⟨rfl, hb⟩; have HB2 := Aside0.mk (below_step HB.out hb); clear hb)
    go_ret
    exact ⟨rfl, HB2.out⟩

/-! ### mac_New: function 79 -/
def mac_New.f (a0 : Int) : Option (Int × (List (S60)) × Int) := (mac_Right.f a0 ([] : List (S60))).bind fun t210 => (if t210 = true then (some (a0, ([] : List (S60)), 0)) else (some (0, ([] : List (S60)), 1)))
set_option maxHeartbeats 8000000 in
set_option maxRecDepth 100000 in
theorem mac_New.calls (a0 : Int) (r1 : Int) (r2 : List (S60)) (r3 : Int) (w : World) (h : mac_New.f a0 = some (r1, r2, r3)) :
   Calls Try.prog 79 #[.int .i64 a0] w fun e w' => ∃ v1_ : Value, e = .returned (.tuple #[.agg #[.int .i64 r1, v1_], .int .i64 r3]) ∧ Kd.S k60 60 w' w.heap.size (fun _ => True) v1_ r2 ∧ Below w.heap.size w w' := by
  have hu105 := Try.underlying105
  have HB := Aside0.mk (Below.refl w.heap.size w); have H : ((mac_Right.f a0 ([] : List (S60))).bind fun t210 => (if t210 = true then (some (a0, ([] : List (S60)), 0)) else (some (0, ([] : List (S60)), 1)))) = some (r1, r2, r3) := h
  clear h; replace H := Option.bind_eq_some_iff.mp H
  obtain ⟨t210, A20, H⟩ := H
  replace H : (if t210 = true then (some (a0, ([] : List (S60)), 0)) else (some (0, ([] : List (S60)), 1))) = some (r1, r2, r3) := H
  have A2 := Aside0.mk A20; clear A20; by_cases c3 : t210 = true
  ·subst c3
   have H1 : (some (a0, ([] : List (S60)), 0)) = some (r1, r2, r3) := by rw [if_pos rfl] at H; exact H
   clear H; have H := H1; clear H1; simp only [Option.some.injEq, Prod.mk.injEq] at H
   obtain ⟨rfl, rfl, rfl⟩ := H
   go_enter Try.func79, Try.ntmps79
   go_wp2_with (first | ((with_reducible refine gate_dst (N := 2) rfl ?_); refine box_event ?hg (N := 2) ?hd (cs := #[.int .i64 0, .slice none 0 0]) (t := 105) ?hr ?_; (case hd => rfl); (case hg => rfl); (case hr => first | (go_simp; done) | (go_simp; rfl)); intro gb208 hg w4 hbox hb; have n0_ := Aside0.mk (below_step (by repeat (first | (with_reducible first | exact HB.out | apply bA | apply bN | apply bD) | exact HB.out)) hb); have n1_ := Aside0.mk (hbox); have n2_ := Aside0.mk ((by rw [hg]; exact (below_size (by repeat (first | (with_reducible first | exact HB.out | apply bA | apply bN | apply bD) | exact HB.out))) : w.heap.size ≤ gb208)); have n3_ := Aside0.mk ((by rw [hg]; exact (below_size (by repeat (first | (with_reducible first | exact HB.out | apply bA | apply bN | apply bD) | exact HB.out))) : w.heap.size ≤ gb208)); clear HB; have HB := n0_; have BK208 := n1_; have GW208 := n2_; have GE208 := n3_; clear n0_ n1_ n2_ n3_; clear hb hbox hg) | ((with_reducible refine gate_dst (N := 4) rfl ?_); refine box_event ?hg (N := 4) ?hd (cs := #[.int .i64 0, .slice none 0 0]) (t := 105) ?hr ?_; (case hd => rfl); (case hg => rfl); (case hr => first | (go_simp; done) | (go_simp; rfl)); intro gb209 hg w5 hbox hb; have n0_ := Aside0.mk (blk_below (g := gb208) (o := .cells #[.int .i64 0, .slice none 0 0] 105 (0, 0)) (by (with_reducible repeat (first | refine blk_drewN ?_ _ | refine blk_drew ?_ | refine blk_alloc ?_ _)); exact BK208.out) hb); have n1_ := Aside0.mk (below_step (by repeat (first | (with_reducible first | exact HB.out | apply bA | apply bN | apply bD | refine below_set ?_ GE208.out) | exact HB.out)) hb); have n2_ := Aside0.mk (hbox); have n3_ := Aside0.mk ((by rw [hg]; exact (below_size (by repeat (first | (with_reducible first | exact HB.out | apply bA | apply bN | apply bD | refine below_set ?_ GE208.out) | exact HB.out))) : w.heap.size ≤ gb209)); have n4_ := Aside0.mk ((by rw [hg]; exact (below_size (by repeat (first | (with_reducible first | exact HB.out | apply bA | apply bN | apply bD | refine below_set ?_ GE208.out) | exact HB.out))) : w.heap.size ≤ gb209)); have n5_ := Aside0.mk ((by rw [hg]; exact Nat.ne_of_lt (blk_lt (g := gb208) (o := .cells #[.int .i64 0, .slice none 0 0] 105 (0, 0)) (by (with_reducible repeat (first | refine blk_drewN ?_ _ | refine blk_drew ?_ | refine blk_alloc ?_ _)); exact BK208.out)) : gb208 ≠ gb209)); have n6_ := Aside0.mk ((by rw [hg]; exact Nat.ne_of_gt (blk_lt (g := gb208) (o := .cells #[.int .i64 0, .slice none 0 0] 105 (0, 0)) (by (with_reducible repeat (first | refine blk_drewN ?_ _ | refine blk_drew ?_ | refine blk_alloc ?_ _)); exact BK208.out)) : gb209 ≠ gb208)); clear BK208; clear HB; have BK208 := n0_; have HB := n1_; have BK209 := n2_; have GW209 := n3_; have GE209 := n4_; have NB208_209 := n5_; have NB209_208 := n6_; clear n0_ n1_ n2_ n3_ n4_ n5_ n6_; clear hb hbox hg; have hnb6 := NB209_208.out; have hnc6 := NB208_209.out; have hcz7_0 : w5.cell? ⟨gb209, 0, none⟩ = some (.int .i64 0) := (blk_cell BK209.out 0).trans rfl; have hcz7_1 : w5.cell? ⟨gb209, 1, none⟩ = some (.slice none 0 0) := (blk_cell BK209.out 1).trans rfl; have hfz7_0 := blk_frozen BK209.out 0; have hfz7_1 := blk_frozen BK209.out 1) | ((with_reducible refine gate_callee (f := 84) rfl ?_); refine goesL_ (some 8) rfl rfl Try.func84 (by kernel_rfl) rfl #[.agg #[.int .i64 a0, .slice none 0 0]] rfl (by (try simp only [mT, mC, mN]); first | done | rfl | (simp only [List.length_drop, List.length_take]; rfl)) ?_; (refine (mac_Right.calls a0 _ _ ([] : List (S60)) true _ ?side1 ?side2 A2.out).mono ?_); (case side1 => exact Kd.C_nil _ _); (case side2 => exact Nat.le_refl _); rintro e w8 ⟨rfl, hb⟩; refine ⟨_, rfl, ?_⟩; have n0_ := Aside0.mk (blk_below (g := gb208) (o := .cells #[.int .i64 0, .slice none 0 0] 105 (0, 0)) (by (with_reducible repeat (first | refine blk_drewN ?_ _ | refine blk_drew ?_ | refine blk_alloc ?_ _)); refine blk_far ?_ NB208_209.out _; (with_reducible repeat (first | refine blk_drewN ?_ _ | refine blk_drew ?_ | refine blk_alloc ?_ _)); refine blk_far ?_ NB208_209.out _; (with_reducible repeat (first | refine blk_drewN ?_ _ | refine blk_drew ?_ | refine blk_alloc ?_ _)); exact BK208.out) hb); have n1_ := Aside0.mk (blk_below (g := gb209) (o := .cells #[.int .i64 a0, .slice none 0 0] 105 (0, 0)) (by (with_reducible repeat (first | refine blk_drewN ?_ _ | refine blk_drew ?_ | refine blk_alloc ?_ _)); refine blk_put (cs := #[.int .i64 a0, .slice none 0 0]) ?_ 1 _ rfl; (with_reducible repeat (first | refine blk_drewN ?_ _ | refine blk_drew ?_ | refine blk_alloc ?_ _)); refine blk_put (cs := #[.int .i64 0, .slice none 0 0]) ?_ 0 _ rfl; (with_reducible repeat (first | refine blk_drewN ?_ _ | refine blk_drew ?_ | refine blk_alloc ?_ _)); exact BK209.out) hb); have n2_ := Aside0.mk (below_step (by repeat (first | (with_reducible first | exact HB.out | apply bA | apply bN | apply bD | refine below_set ?_ GE208.out | refine below_set ?_ GE209.out) | exact HB.out)) hb); clear BK208; clear BK209; clear HB; have BK208 := n0_; have BK209 := n1_; have HB := n2_; clear n0_ n1_ n2_; (try clear hb); (try clear hb2); (try clear hk); (try clear hi); have hcz9_0 : w8.cell? ⟨gb209, 0, none⟩ = some (.int .i64 a0) := (blk_cell BK209.out 0).trans rfl; have hcz9_1 : w8.cell? ⟨gb209, 1, none⟩ = some (.slice none 0 0) := (blk_cell BK209.out 1).trans rfl; have hfz9_0 := blk_frozen BK209.out 0; have hfz9_1 := blk_frozen BK209.out 1; have hcz10_0 : w8.cell? ⟨gb208, 0, none⟩ = some (.int .i64 0) := (blk_cell BK208.out 0).trans rfl; have hcz10_1 : w8.cell? ⟨gb208, 1, none⟩ = some (.slice none 0 0) := (blk_cell BK208.out 1).trans rfl; have hfz10_0 := blk_frozen BK208.out 0; have hfz10_1 := blk_frozen BK208.out 1))
   refine bodyPost_ret (results_ct rfl _ _ gb208 105 #[.int .i64 a0, .slice none 0 0] (0, 0) _ rfl (by (with_reducible repeat (first | refine blk_drewN ?_ _ | refine blk_drew ?_ | refine blk_alloc ?_ _)); refine blk_put (cs := #[.int .i64 a0, .slice none 0 0]) ?_ 1 _ rfl; (with_reducible repeat (first | refine blk_drewN ?_ _ | refine blk_drew ?_ | refine blk_alloc ?_ _)); refine blk_put (cs := #[.int .i64 0, .slice none 0 0]) ?_ 0 _ rfl; (with_reducible repeat (first | refine blk_drewN ?_ _ | refine blk_drew ?_ | refine blk_alloc ?_ _)); exact BK208.out) Try.underlying105 rfl (by kernel_rfl)) rfl ?_
   exact ⟨_, by first | rfl | (simp [errW_none, errW_some] <;> rfl) | (simp [*, errW_none, errW_some] <;> rfl), by first | exact Kd.S_nil _ _ _ _ _ | exact Kd.N_nil _ _ _ _ _ | exact Kd.V_nil _ _ _ _ _ | exact Kd.Q_nil _ _ _ _ _ | exact Kd.R_nil _ _ _ _ _, by repeat (first | (with_reducible first | exact HB.out | apply bA | apply bN | apply bD | refine below_set ?_ GE208.out | refine below_set ?_ GE209.out) | exact HB.out)⟩
  ·replace c3 := Bool.eq_false_iff.mpr c3
   subst c3; have H1 : (some (0, ([] : List (S60)), 1)) = some (r1, r2, r3) := by rw [if_neg (show ¬ (false = true) by decide)] at H; exact H
   clear H; have H := H1; clear H1; simp only [Option.some.injEq, Prod.mk.injEq] at H
   obtain ⟨rfl, rfl, rfl⟩ := H
   go_enter Try.func79, Try.ntmps79
   go_wp2_with (first | ((with_reducible refine gate_dst (N := 2) rfl ?_); refine box_event ?hg (N := 2) ?hd (cs := #[.int .i64 0, .slice none 0 0]) (t := 105) ?hr ?_; (case hd => rfl); (case hg => rfl); (case hr => first | (go_simp; done) | (go_simp; rfl)); intro gb208 hg w11 hbox hb; have n0_ := Aside0.mk (below_step (by repeat (first | (with_reducible first | exact HB.out | apply bA | apply bN | apply bD) | exact HB.out)) hb); have n1_ := Aside0.mk (hbox); have n2_ := Aside0.mk ((by rw [hg]; exact (below_size (by repeat (first | (with_reducible first | exact HB.out | apply bA | apply bN | apply bD) | exact HB.out))) : w.heap.size ≤ gb208)); have n3_ := Aside0.mk ((by rw [hg]; exact (below_size (by repeat (first | (with_reducible first | exact HB.out | apply bA | apply bN | apply bD) | exact HB.out))) : w.heap.size ≤ gb208)); clear HB; have HB := n0_; have BK208 := n1_; have GW208 := n2_; have GE208 := n3_; clear n0_ n1_ n2_ n3_; clear hb hbox hg) | ((with_reducible refine gate_dst (N := 4) rfl ?_); refine box_event ?hg (N := 4) ?hd (cs := #[.int .i64 0, .slice none 0 0]) (t := 105) ?hr ?_; (case hd => rfl); (case hg => rfl); (case hr => first | (go_simp; done) | (go_simp; rfl)); intro gb209 hg w12 hbox hb; have n0_ := Aside0.mk (blk_below (g := gb208) (o := .cells #[.int .i64 0, .slice none 0 0] 105 (0, 0)) (by (with_reducible repeat (first | refine blk_drewN ?_ _ | refine blk_drew ?_ | refine blk_alloc ?_ _)); exact BK208.out) hb); have n1_ := Aside0.mk (below_step (by repeat (first | (with_reducible first | exact HB.out | apply bA | apply bN | apply bD | refine below_set ?_ GE208.out) | exact HB.out)) hb); have n2_ := Aside0.mk (hbox); have n3_ := Aside0.mk ((by rw [hg]; exact (below_size (by repeat (first | (with_reducible first | exact HB.out | apply bA | apply bN | apply bD | refine below_set ?_ GE208.out) | exact HB.out))) : w.heap.size ≤ gb209)); have n4_ := Aside0.mk ((by rw [hg]; exact (below_size (by repeat (first | (with_reducible first | exact HB.out | apply bA | apply bN | apply bD | refine below_set ?_ GE208.out) | exact HB.out))) : w.heap.size ≤ gb209)); have n5_ := Aside0.mk ((by rw [hg]; exact Nat.ne_of_lt (blk_lt (g := gb208) (o := .cells #[.int .i64 0, .slice none 0 0] 105 (0, 0)) (by (with_reducible repeat (first | refine blk_drewN ?_ _ | refine blk_drew ?_ | refine blk_alloc ?_ _)); exact BK208.out)) : gb208 ≠ gb209)); have n6_ := Aside0.mk ((by rw [hg]; exact Nat.ne_of_gt (blk_lt (g := gb208) (o := .cells #[.int .i64 0, .slice none 0 0] 105 (0, 0)) (by (with_reducible repeat (first | refine blk_drewN ?_ _ | refine blk_drew ?_ | refine blk_alloc ?_ _)); exact BK208.out)) : gb209 ≠ gb208)); clear BK208; clear HB; have BK208 := n0_; have HB := n1_; have BK209 := n2_; have GW209 := n3_; have GE209 := n4_; have NB208_209 := n5_; have NB209_208 := n6_; clear n0_ n1_ n2_ n3_ n4_ n5_ n6_; clear hb hbox hg; have hnb13 := NB209_208.out; have hnc13 := NB208_209.out; have hcz14_0 : w12.cell? ⟨gb209, 0, none⟩ = some (.int .i64 0) := (blk_cell BK209.out 0).trans rfl; have hcz14_1 : w12.cell? ⟨gb209, 1, none⟩ = some (.slice none 0 0) := (blk_cell BK209.out 1).trans rfl; have hfz14_0 := blk_frozen BK209.out 0; have hfz14_1 := blk_frozen BK209.out 1) | ((with_reducible refine gate_callee (f := 84) rfl ?_); refine goesL_ (some 8) rfl rfl Try.func84 (by kernel_rfl) rfl #[.agg #[.int .i64 a0, .slice none 0 0]] rfl (by (try simp only [mT, mC, mN]); first | done | rfl | (simp only [List.length_drop, List.length_take]; rfl)) ?_; (refine (mac_Right.calls a0 _ _ ([] : List (S60)) false _ ?side1 ?side2 A2.out).mono ?_); (case side1 => exact Kd.C_nil _ _); (case side2 => exact Nat.le_refl _); rintro e w15 ⟨rfl, hb⟩; refine ⟨_, rfl, ?_⟩; have n0_ := Aside0.mk (blk_below (g := gb208) (o := .cells #[.int .i64 0, .slice none 0 0] 105 (0, 0)) (by (with_reducible repeat (first | refine blk_drewN ?_ _ | refine blk_drew ?_ | refine blk_alloc ?_ _)); refine blk_far ?_ NB208_209.out _; (with_reducible repeat (first | refine blk_drewN ?_ _ | refine blk_drew ?_ | refine blk_alloc ?_ _)); refine blk_far ?_ NB208_209.out _; (with_reducible repeat (first | refine blk_drewN ?_ _ | refine blk_drew ?_ | refine blk_alloc ?_ _)); exact BK208.out) hb); have n1_ := Aside0.mk (blk_below (g := gb209) (o := .cells #[.int .i64 a0, .slice none 0 0] 105 (0, 0)) (by (with_reducible repeat (first | refine blk_drewN ?_ _ | refine blk_drew ?_ | refine blk_alloc ?_ _)); refine blk_put (cs := #[.int .i64 a0, .slice none 0 0]) ?_ 1 _ rfl; (with_reducible repeat (first | refine blk_drewN ?_ _ | refine blk_drew ?_ | refine blk_alloc ?_ _)); refine blk_put (cs := #[.int .i64 0, .slice none 0 0]) ?_ 0 _ rfl; (with_reducible repeat (first | refine blk_drewN ?_ _ | refine blk_drew ?_ | refine blk_alloc ?_ _)); exact BK209.out) hb); have n2_ := Aside0.mk (below_step (by repeat (first | (with_reducible first | exact HB.out | apply bA | apply bN | apply bD | refine below_set ?_ GE208.out | refine below_set ?_ GE209.out) | exact HB.out)) hb); clear BK208; clear BK209; clear HB; have BK208 := n0_; have BK209 := n1_; have HB := n2_; clear n0_ n1_ n2_; (try clear hb); (try clear hb2); (try clear hk); (try clear hi); have hcz16_0 : w15.cell? ⟨gb208, 0, none⟩ = some (.int .i64 0) := (blk_cell BK208.out 0).trans rfl; have hcz16_1 : w15.cell? ⟨gb208, 1, none⟩ = some (.slice none 0 0) := (blk_cell BK208.out 1).trans rfl; have hfz16_0 := blk_frozen BK208.out 0; have hfz16_1 := blk_frozen BK208.out 1))
   refine bodyPost_ret (results_ct rfl _ _ gb208 105 #[.int .i64 0, .slice none 0 0] (0, 0) _ rfl (by (with_reducible repeat (first | refine blk_drewN ?_ _ | refine blk_drew ?_ | refine blk_alloc ?_ _)); refine blk_put (cs := #[.int .i64 0, .slice none 0 0]) ?_ 1 _ rfl; (with_reducible repeat (first | refine blk_drewN ?_ _ | refine blk_drew ?_ | refine blk_alloc ?_ _)); refine blk_put (cs := #[.int .i64 0, .slice none 0 0]) ?_ 0 _ rfl; (with_reducible repeat (first | refine blk_drewN ?_ _ | refine blk_drew ?_ | refine blk_alloc ?_ _)); exact BK208.out) Try.underlying105 rfl (by kernel_rfl)) rfl ?_
   exact ⟨_, by first | rfl | (simp [errW_none, errW_some] <;> rfl) | (simp [*, errW_none, errW_some] <;> rfl), by first | exact Kd.S_nil _ _ _ _ _ | exact Kd.N_nil _ _ _ _ _ | exact Kd.V_nil _ _ _ _ _ | exact Kd.Q_nil _ _ _ _ _ | exact Kd.R_nil _ _ _ _ _, by repeat (first | (with_reducible first | exact HB.out | apply bA | apply bN | apply bD | refine below_set ?_ GE208.out | refine below_set ?_ GE209.out) | exact HB.out)⟩

/-! ### mac_Tag: function 82 -/
def mac_Tag.f (k : Nat) (a0_0 : Int) (l0_1 : List S60) (l1 l2 : List Int) : Option (Int × List S60 × List Int × Int) := (mac_Right.f a0_0 l0_1).bind fun r => if r = true then (if a0_0 = 1 then ((hmac_Mac.f k l1 l2).bind fun h => if 8 ≤ h.length then some (1, l0_1, h.take 8, 0) else none) else ((term_Put.f k l0_1 l1 l2).bind fun q => some (2, q.1, q.2, 0))) else some (a0_0, l0_1, [], 1)
theorem mac_Tag.mono : ∀ a0_0 l0_1 l1 l2 k, LeO (mac_Tag.f k a0_0 l0_1 l1 l2) (mac_Tag.f (k + 1) a0_0 l0_1 l1 l2) := by
  intro a0_0 l0_1 l1 l2 k
  unfold mac_Tag.f
  exact LeO.bind (LeO.refl _) (fun _ => LeO.ite (LeO.ite (LeO.bind (hmac_Mac.mono _ _ _) (fun _ => LeO.refl _)) (LeO.bind (term_Put.mono _ _ _ _) (fun _ => LeO.refl _))) (LeO.refl _))
set_option maxHeartbeats 3200000 in
set_option maxRecDepth 100000 in
theorem mac_Tag.calls (k : Nat) (a0_0 : Int) (P0_1_ : Nat → Prop) (A0_1 : Option Addr) (c0_1 : Nat) (l0_1 : List S60) (A1 : Option Addr) (c1 : Nat) (l1 : List Int) (A2 : Option Addr) (c2 : Nat) (l2 : List Int) (r1 : Int) (r2 : List S60) (r3 : List Int) (r4 : Int) (w : World) (hs0_1 : Kd.V k60 60 w w.heap.size (fun k_ => P0_1_ k_) (.slice A0_1 l0_1.length c0_1) l0_1) (hr1 : Kd.C (Kd.int .u8) w A1 l1.length l1) (hc1 : l1.length ≤ c1) (hr2 : Kd.C (Kd.int .u8) w A2 l2.length l2) (hc2 : l2.length ≤ c2) (hL0_ : Kd.C (Kd.int .u32) w (some ⟨1, 0, none⟩) 64 shaK) (hL1_ : Kd.C (Kd.int .u32) w (some ⟨0, 0, none⟩) 8 shaF) (h : mac_Tag.f k a0_0 l0_1 l1 l2 = some (r1, r2, r3, r4)) :
    Calls Try.prog 82 #[.agg #[.int .i64 a0_0, .slice A0_1 l0_1.length c0_1], .slice A1 l1.length c1, .slice A2 l2.length c2] w fun e w' => ∃ v1_ v2_ : Value, e = .returned (.tuple #[.agg #[.int .i64 r1, v1_], v2_, .int .i64 r4]) ∧ Kd.V k60 60 w' w.heap.size (fun k_ => (P0_1_ k_ ∨ w.heap.size ≤ k_)) v1_ r2 ∧ Kd.V (Kd.int .u8) 5 w' w.heap.size (fun k_ => (P0_1_ k_ ∨ w.heap.size ≤ k_)) v2_ r3 ∧ Below w.heap.size w w' := by
  have HS0 := Aside0.mk hs0_1; have HR1 := Aside0.mk hr1; have HC1 := Aside0.mk hc1; have HR2 := Aside0.mk hr2; have HC2 := Aside0.mk hc2; have HL0 := Aside0.mk hL0_; have HL1 := Aside0.mk hL1_; have HH := Aside0.mk h
  clear hs0_1 hr1 hc1 hr2 hc2 hL0_ hL1_ h
  have HR := Aside0.mk (Kd.V_reads' HS0.out).2.2; have HC := Aside0.mk (Kd.V_reads' HS0.out).2.1
  obtain ⟨r, hr⟩ : ∃ r, mac_Right.f a0_0 l0_1 = some r := by
    obtain ⟨r, hr, _⟩ := Option.bind_eq_some_iff.1 HH.out
    exact ⟨r, hr⟩
  go_enter Try.func82, Try.ntmps82
  obtain ⟨bb, br, hb, hs⟩ := mk.two w (.cells #[.int .i64 a0_0, .slice A0_1 l0_1.length c0_1] 105) (.cells #[.int .i64 0, .slice none 0 0] 105)
  go_upto_region 1 with fail
  have BB := Aside0.mk bb; have BR := Aside0.mk br; have HB := Aside0.mk hb; have HS := Aside0.mk hs
  clear bb br hb hs
  generalize (w.alloc (.cells #[.int .i64 a0_0, .slice A0_1 l0_1.length c0_1] 105)).alloc (.cells #[.int .i64 0, .slice none 0 0] 105) = W at BB BR HB HS ⊢
  obtain ⟨v, hi, hcall⟩ := mk.any a0_0 A0_1 c0_1 l0_1 r W (Kd.C_below HR.out HB.out) HC.out hr
  have HCA := Aside0.mk hcall
  have HRR := Aside0.mk hr
  clear hcall hr
  have a0 := (blk_cell BB.out 0).trans rfl; have a1 := (blk_cell BB.out 1).trans rfl
  have e1 := mk.eqe; have e2 := mk.eqe3; have e3 := mk.eqe0; have e4 := mk.mt; have e5 := mk.mt3
  have HT := HH.out
  unfold mac_Tag.f at HT
  rw [HRR.out, Option.bind_some] at HT
  have HTA := Aside0.mk HT
  clear HT HH
  cases hi with
  | con hk =>
    have hk1 := hk.out.1
    clear hk
    subst hk1
    have HT := HTA.out
    rw [if_pos rfl, if_pos rfl] at HT
    obtain ⟨hm, hmm, HT⟩ := Option.bind_eq_some_iff.1 HT
    by_cases h8 : 8 ≤ hm.length
    · rw [if_pos h8] at HT
      simp only [Option.some.injEq, Prod.mk.injEq] at HT
      obtain ⟨rfl, rfl, ht, rfl⟩ := HT
      have HMM := Aside0.mk hmm; have H8 := Aside0.mk h8; have HTT := Aside0.mk ht.symm
      clear hmm h8 ht HTA
      go_upto_region 2 with (go_at_call 107; refine Calls.mono HCA.out ?_; rintro e w2 ⟨rfl, hb⟩; have BB2 := Aside0.mk (blk_below BB.out hb); have BR2 := Aside0.mk (blk_below BR.out hb); have HB2 := Aside0.mk (below_step HB.out hb); have HZ := Aside0.mk hb.size; clear hb)
      clear a0 a1
      go_upto_region 5 with (go_at_call 136; refine Calls.mono (mk.ct k _ _ _ _ _ l1 _ _ l2 hm r3 _ (Kd.C_below HR1.out HB2.out) HC1.out (Kd.C_below HR2.out HB2.out) HC2.out (Kd.C_below HL0.out HB2.out) (Kd.C_below HL1.out HB2.out) HMM.out H8.out HTT.out) ?_; rintro e w3 ⟨v, rfl, h0, hb⟩; obtain ⟨Ab, cb, rfl⟩ := Kd.V_slice h0; have HV := Aside0.mk (Kd.V_mono (ok' := fun k_ => w.heap.size + 2 ≤ k_) h0 (fun k_ hk => Nat.le_trans (Nat.le_trans (Nat.le_of_eq HS.out.symm) HZ.out) hk)); have BR3 := Aside0.mk (blk_below BR2.out hb); have HB3 := Aside0.mk (below_step HB2.out hb); clear h0 hb)
      have B4 := Aside0.mk (blk_new w3 (.cells #[.int .i64 1, .slice A0_1 l0_1.length c0_1] 105))
      have BR4 := Aside0.mk (blk_alloc BR3.out (.cells #[.int .i64 1, .slice A0_1 l0_1.length c0_1] 105))
      have HB4 := Aside0.mk (below_alloc HB3.out (.cells #[.int .i64 1, .slice A0_1 l0_1.length c0_1] 105))
      have HV4 := Aside0.mk (Kd.V_alloc HV.out (.cells #[.int .i64 1, .slice A0_1 l0_1.length c0_1] 105))
      generalize w3.alloc (.cells #[.int .i64 1, .slice A0_1 l0_1.length c0_1] 105) = W4 at B4 BR4 HB4 HV4 ⊢
      generalize w3.heap.size = g4 at B4 ⊢
      clear HV BR3 HB3 BB2 BR2 HB2
      have a0 := (blk_cell B4.out 0).trans rfl; have a1 := (blk_cell B4.out 1).trans rfl
      have rr0 := (blk_cell BR4.out 0).trans rfl; have rr1 := (blk_cell BR4.out 1).trans rfl
      have f0 := blk_frozen BR4.out 0; have f1 := blk_frozen BR4.out 1
      go_wp2
      refine bodyPost_ret (results_ctt rfl _ _ (w.heap.size + 1) 105 _ (0, 0) _ rfl (mk.set2 BR4.out) Try.underlying105 rfl (by kernel_rfl)) rfl ?_
      refine ⟨_, _, rfl, ?_, ?_, below_set (below_set HB4.out (by omega)) (by omega)⟩
      · exact Kd.V_mono (mk.far2 (g := w.heap.size + 1) (n := w.heap.size) (Kd.V_map (Kd.V_below (Kd.V_bound HS0.out) HB4.out) (fun _ h_ => h_)) (fun k_ hk => by omega)) (fun k_ hk => .inl hk.1)
      · exact Kd.V_mono (mk.far2 (g := w.heap.size + 1) (n := w.heap.size) (Kd.V_map HV4.out (fun _ h_ => h_)) (fun k_ hk => by omega)) (fun k_ hk => .inr (by omega))
    · rw [if_neg h8] at HT; cases HT
  | sym hk =>
    have hk1 := hk.out.1
    clear hk
    subst hk1
    have HT := HTA.out
    rw [if_pos rfl, if_neg (by decide)] at HT
    obtain ⟨q, hq, HT⟩ := Option.bind_eq_some_iff.1 HT
    simp only [Option.some.injEq, Prod.mk.injEq] at HT
    obtain ⟨rfl, hq1, hq2, rfl⟩ := HT
    have HQ := Aside0.mk (show term_Put.f k l0_1 l1 l2 = some (r2, r3) by rw [hq, ← hq1, ← hq2])
    clear hq hq1 hq2 HTA
    go_upto_region 2 with (go_at_call 107; refine Calls.mono HCA.out ?_; rintro e w2 ⟨rfl, hb⟩; have BB2 := Aside0.mk (blk_below BB.out hb); have BR2 := Aside0.mk (blk_below BR.out hb); have HB2 := Aside0.mk (below_step HB.out hb); have HZ := Aside0.mk hb.size; clear hb)
    clear a0 a1
    go_upto_region 5 with (go_at_call 148; refine Calls.mono (mk.st k (fun k_ => P0_1_ k_ ∧ k_ < w.heap.size) _ _ l0_1 _ _ l1 _ _ l2 r2 r3 w.heap.size _ (Kd.V_below (Kd.V_bound HS0.out) HB2.out) (Kd.C_below HR1.out HB2.out) HC1.out (Kd.C_below HR2.out HB2.out) HC2.out HQ.out) ?_; rintro e w3 ⟨v0, v1, rfl, h0, h1, hb⟩; obtain ⟨Aq, cq, rfl⟩ := Kd.V_slice h0; obtain ⟨Ab, cb, rfl⟩ := Kd.V_slice h1; have HU := Aside0.mk (Kd.V_mono (ok' := fun k_ => (P0_1_ k_ ∧ k_ < w.heap.size) ∨ w.heap.size + 2 ≤ k_) h0 (fun k_ hk => hk.imp_right (fun hk => Nat.le_trans (Nat.le_trans (Nat.le_of_eq HS.out.symm) HZ.out) hk))); have HV := Aside0.mk (Kd.V_mono (ok' := fun k_ => w.heap.size + 2 ≤ k_) h1 (fun k_ hk => Nat.le_trans (Nat.le_trans (Nat.le_of_eq HS.out.symm) HZ.out) hk)); have BR3 := Aside0.mk (blk_below BR2.out hb); have HB3 := Aside0.mk (below_step HB2.out hb); clear h0 h1 hb)
    have B4 := Aside0.mk (blk_new w3 (.cells #[.int .i64 2, .slice Aq r2.length cq] 105))
    have BR4 := Aside0.mk (blk_alloc BR3.out (.cells #[.int .i64 2, .slice Aq r2.length cq] 105))
    have HB4 := Aside0.mk (below_alloc HB3.out (.cells #[.int .i64 2, .slice Aq r2.length cq] 105))
    have HV4 := Aside0.mk (Kd.V_alloc HV.out (.cells #[.int .i64 2, .slice Aq r2.length cq] 105))
    have HU4 := Aside0.mk (Kd.V_alloc HU.out (.cells #[.int .i64 2, .slice Aq r2.length cq] 105))
    generalize w3.alloc (.cells #[.int .i64 2, .slice Aq r2.length cq] 105) = W4 at B4 BR4 HB4 HV4 HU4 ⊢
    generalize w3.heap.size = g4 at B4 ⊢
    clear HV HU BR3 HB3 BB2 BR2 HB2
    have a0 := (blk_cell B4.out 0).trans rfl; have a1 := (blk_cell B4.out 1).trans rfl
    have rr0 := (blk_cell BR4.out 0).trans rfl; have rr1 := (blk_cell BR4.out 1).trans rfl
    have f0 := blk_frozen BR4.out 0; have f1 := blk_frozen BR4.out 1
    go_wp2
    refine bodyPost_ret (results_ctt rfl _ _ (w.heap.size + 1) 105 _ (0, 0) _ rfl (mk.set2 BR4.out) Try.underlying105 rfl (by kernel_rfl)) rfl ?_
    refine ⟨_, _, rfl, ?_, ?_, below_set (below_set HB4.out (by omega)) (by omega)⟩
    · exact Kd.V_mono (mk.far2 (g := w.heap.size + 1) (n := w.heap.size) (Kd.V_map HU4.out (fun _ h_ => h_)) (fun k_ hk => by omega)) (fun k_ hk => by rcases hk with hk | hk; exact .inl hk.1; exact .inr (by omega))
    · exact Kd.V_mono (mk.far2 (g := w.heap.size + 1) (n := w.heap.size) (Kd.V_map HV4.out (fun _ h_ => h_)) (fun k_ hk => by omega)) (fun k_ hk => .inr (by omega))
  | no =>
    have HT := HTA.out
    rw [if_neg (by decide)] at HT
    simp only [Option.some.injEq, Prod.mk.injEq] at HT
    obtain ⟨rfl, rfl, rfl, rfl⟩ := HT
    clear HTA
    go_upto_region 2 with (go_at_call 107; refine Calls.mono HCA.out ?_; rintro e w2 ⟨rfl, hb⟩; have BB2 := Aside0.mk (blk_below BB.out hb); have BR2 := Aside0.mk (blk_below BR.out hb); have HB2 := Aside0.mk (below_step HB.out hb); clear hb)
    clear a0 a1
    have a0 := (blk_cell BB2.out 0).trans rfl; have a1 := (blk_cell BB2.out 1).trans rfl
    have rr0 := (blk_cell BR2.out 0).trans rfl; have rr1 := (blk_cell BR2.out 1).trans rfl
    have f0 := blk_frozen BR2.out 0; have f1 := blk_frozen BR2.out 1
    go_wp2
    refine bodyPost_ret (results_ctt rfl _ _ (w.heap.size + 1) 105 _ (0, 0) _ rfl (mk.set2 BR2.out) Try.underlying105 rfl (by kernel_rfl)) rfl ?_
    refine ⟨_, _, rfl, ?_, Kd.V_nil _ _ _ _ _, below_set (below_set HB2.out (by omega)) (by omega)⟩
    exact Kd.V_mono (mk.far2 (g := w.heap.size + 1) (n := w.heap.size) (Kd.V_map (Kd.V_below (Kd.V_bound HS0.out) HB2.out) (fun _ h_ => h_)) (fun k_ hk => by omega)) (fun k_ hk => .inl hk.1)

/-! ### mac_Fits: function 85 -/
def mac_Fits.f (k : Nat) (a0_0 : Int) (l0_1 : List S60) (l1 l2 l3 : List Int) : Option Bool := (mac_Right.f a0_0 l0_1).bind fun r => if r = true then (if a0_0 = 1 then ((hmac_Mac.f k l1 l2).bind fun h => if 8 ≤ h.length then trunc_Same.f k (h.take 8) l3 else none) else ((term_Place.f l0_1 l1 l2).bind fun p => if 0 ≤ p then ((term_Put.f k l0_1 l1 l2).bind fun q => trunc_Same.f k q.2 l3) else some false)) else some false
theorem mac_Fits.mono : ∀ a0_0 l0_1 l1 l2 l3 k, LeO (mac_Fits.f k a0_0 l0_1 l1 l2 l3) (mac_Fits.f (k + 1) a0_0 l0_1 l1 l2 l3) := by
  intro a0_0 l0_1 l1 l2 l3 k
  unfold mac_Fits.f
  exact LeO.bind (LeO.refl _) (fun _ => LeO.ite (LeO.ite (LeO.bind (hmac_Mac.mono _ _ _) (fun _ => LeO.ite (trunc_Same.mono _ _ _) (LeO.refl _))) (LeO.bind (LeO.refl _) (fun _ => LeO.ite (LeO.bind (term_Put.mono _ _ _ _) (fun _ => trunc_Same.mono _ _ _)) (LeO.refl _)))) (LeO.refl _))
set_option maxHeartbeats 3200000 in
set_option maxRecDepth 100000 in
theorem mac_Fits.calls (k : Nat) (a0_0 : Int) (A0_1 : Option Addr) (c0_1 : Nat) (l0_1 : List S60) (A1 : Option Addr) (c1 : Nat) (l1 : List Int) (A2 : Option Addr) (c2 : Nat) (l2 : List Int) (A3 : Option Addr) (c3 : Nat) (l3 : List Int) (r : Bool) (w : World) (hr0_1 : Kd.C k60 w A0_1 l0_1.length l0_1) (hc0_1 : l0_1.length ≤ c0_1) (hr1 : Kd.C (Kd.int .u8) w A1 l1.length l1) (hc1 : l1.length ≤ c1) (hr2 : Kd.C (Kd.int .u8) w A2 l2.length l2) (hc2 : l2.length ≤ c2) (hr3 : Kd.C (Kd.int .u8) w A3 l3.length l3) (hc3 : l3.length ≤ c3) (hL0_ : Kd.C (Kd.int .u32) w (some ⟨1, 0, none⟩) 64 shaK) (hL1_ : Kd.C (Kd.int .u32) w (some ⟨0, 0, none⟩) 8 shaF) (h : mac_Fits.f k a0_0 l0_1 l1 l2 l3 = some r) :
    Calls Try.prog 85 #[.agg #[.int .i64 a0_0, .slice A0_1 l0_1.length c0_1], .slice A1 l1.length c1, .slice A2 l2.length c2, .slice A3 l3.length c3] w fun e w' => e = .returned (.bool r) ∧ Below w.heap.size w w' := by
  have HR := Aside0.mk hr0_1; have HC := Aside0.mk hc0_1; have HR1 := Aside0.mk hr1; have HC1 := Aside0.mk hc1; have HR2 := Aside0.mk hr2; have HC2 := Aside0.mk hc2; have HR3 := Aside0.mk hr3; have HC3 := Aside0.mk hc3; have HL0 := Aside0.mk hL0_; have HL1 := Aside0.mk hL1_; have HH := Aside0.mk h
  clear hr0_1 hc0_1 hr1 hc1 hr2 hc2 hr3 hc3 hL0_ hL1_ h
  obtain ⟨r0, hr⟩ : ∃ r, mac_Right.f a0_0 l0_1 = some r := by
    obtain ⟨r, hr, _⟩ := Option.bind_eq_some_iff.1 HH.out
    exact ⟨r, hr⟩
  have HB := Aside0.mk (below_alloc (Below.refl w.heap.size w) (.cells #[.int .i64 a0_0, .slice A0_1 l0_1.length c0_1] 105))
  have BB := Aside0.mk (blk_new w (.cells #[.int .i64 a0_0, .slice A0_1 l0_1.length c0_1] 105))
  go_enter Try.func85, Try.ntmps85
  go_upto_region 1 with fail
  generalize w.alloc (.cells #[.int .i64 a0_0, .slice A0_1 l0_1.length c0_1] 105) = W at BB HB ⊢
  obtain ⟨v, hi, hcall⟩ := mk.any a0_0 A0_1 c0_1 l0_1 r0 W (Kd.C_below HR.out HB.out) HC.out hr
  have HCA := Aside0.mk hcall
  have HRR := Aside0.mk hr
  clear hcall hr
  have a0 := (blk_cell BB.out 0).trans rfl; have a1 := (blk_cell BB.out 1).trans rfl
  have e1 := mk.eqe; have e2 := mk.eqe3; have e3 := mk.eqe0; have e4 := mk.mt; have e5 := mk.mt3; have e6 := mk.mk; have e7 := mk.mk3
  have HT := HH.out
  unfold mac_Fits.f at HT
  rw [HRR.out, Option.bind_some] at HT
  have HTA := Aside0.mk HT
  clear HT HH
  cases hi with
  | con hk =>
    have hk1 := hk.out.1
    clear hk
    subst hk1
    have HT := HTA.out
    rw [if_pos rfl, if_pos rfl] at HT
    obtain ⟨hm, hmm, HT⟩ := Option.bind_eq_some_iff.1 HT
    by_cases h8 : 8 ≤ hm.length
    · rw [if_pos h8] at HT
      obtain ⟨t, ht⟩ : ∃ t, t = hm.take 8 := ⟨_, rfl⟩
      rw [← ht] at HT
      have HMM := Aside0.mk hmm; have H8 := Aside0.mk h8; have HTT := Aside0.mk ht; have HSM := Aside0.mk HT
      clear hmm h8 ht HTA HT
      go_upto_region 2 with (go_at_call 107; refine Calls.mono HCA.out ?_; rintro e w2 ⟨rfl, hb⟩; have HB2 := Aside0.mk (below_step HB.out hb); clear hb)
      clear a0 a1 HB BB
      go_upto_region 5 with (first
        | (go_at_call 135; refine Calls.mono (mk.ck _ _ _ _ _ _ _) ?_; rintro e wk ⟨rfl, hb⟩; have HB9 := Aside0.mk (below_step HB2.out hb); clear HB2 hb; have HB2 := HB9; clear HB9)
        | (go_at_call 136; refine Calls.mono (mk.ct k _ _ _ _ _ l1 _ _ l2 hm t _ (Kd.C_below HR1.out HB2.out) HC1.out (Kd.C_below HR2.out HB2.out) HC2.out (Kd.C_below HL0.out HB2.out) (Kd.C_below HL1.out HB2.out) HMM.out H8.out HTT.out) ?_; rintro e w3 ⟨v, rfl, h0, hb⟩; obtain ⟨Ab, cb, rfl⟩ := Kd.V_slice h0; have HV := Aside0.mk (Kd.V_reads' h0); have HB3 := Aside0.mk (below_step HB2.out hb); clear h0 hb))
      have HB4 := Aside0.mk (below_alloc HB3.out (.cells #[.int .i64 1, .slice A0_1 l0_1.length c0_1] 105))
      have HV4 := Aside0.mk (Kd.C_alloc HV.out.2.2 (.cells #[.int .i64 1, .slice A0_1 l0_1.length c0_1] 105))
      generalize w3.alloc (.cells #[.int .i64 1, .slice A0_1 l0_1.length c0_1] 105) = W4 at HB4 HV4 ⊢
      go_wp2_with (go_at_call 25; refine Calls.mono (trunc_Same.calls k _ _ t _ _ l3 r _ HV4.out HV.out.2.1 (Kd.C_below HR3.out HB4.out) HC3.out HSM.out) ?_; rintro e w5 ⟨rfl, hb⟩; have HB5 := Aside0.mk (below_step HB4.out hb); clear hb)
      go_ret
      exact ⟨rfl, HB5.out⟩
    · rw [if_neg h8] at HT; cases HT
  | sym hk =>
    have hk1 := hk.out.1
    clear hk
    subst hk1
    have HT := HTA.out
    rw [if_pos rfl, if_neg (by decide)] at HT
    obtain ⟨p, hp, HT⟩ := Option.bind_eq_some_iff.1 HT
    have HP := Aside0.mk hp
    clear hp
    by_cases h0 : 0 ≤ p
    · rw [if_pos h0] at HT
      obtain ⟨q, hq, HT⟩ := Option.bind_eq_some_iff.1 HT
      obtain ⟨q1, q2⟩ := q
      have HQ := Aside0.mk hq; have HSM := Aside0.mk (show trunc_Same.f k q2 l3 = some r from HT)
      have p1 : decide (0 ≤ p) = true := decide_eq_true h0
      clear hq HTA HT h0
      go_upto_region 2 with (go_at_call 107; refine Calls.mono HCA.out ?_; rintro e w2 ⟨rfl, hb⟩; have HB2 := Aside0.mk (below_step HB.out hb); clear hb)
      clear a0 a1 HB BB
      go_upto_region 5 with (first
        | (go_at_call 147; refine Calls.mono (mk.sk _ _ l0_1 _ _ l1 _ _ l2 p _ (Kd.C_below HR.out HB2.out) HC.out (Kd.C_below HR1.out HB2.out) HC1.out (Kd.C_below HR2.out HB2.out) HC2.out HP.out) ?_; rintro e wk ⟨rfl, hb⟩; have HB9 := Aside0.mk (below_step HB2.out hb); clear HB2 hb; have HB2 := HB9; clear HB9)
        | (go_at_call 148; refine Calls.mono (mk.st k (fun k_ => k_ < w.heap.size) _ _ l0_1 _ _ l1 _ _ l2 q1 q2 w.heap.size _ (Kd.V_below (Kd.V_mk HC.out (Kd.C_F k60_heap HR.out)) HB2.out) (Kd.C_below HR1.out HB2.out) HC1.out (Kd.C_below HR2.out HB2.out) HC2.out HQ.out) ?_; rintro e w3 ⟨v0, v1, rfl, h0, h1, hb⟩; obtain ⟨Aq, cq, rfl⟩ := Kd.V_slice h0; obtain ⟨Ab, cb, rfl⟩ := Kd.V_slice h1; have HV := Aside0.mk (Kd.V_reads' h1); have HB3 := Aside0.mk (below_step HB2.out hb); clear h0 h1 hb))
      have HB4 := Aside0.mk (below_alloc HB3.out (.cells #[.int .i64 2, .slice Aq q1.length cq] 105))
      have HV4 := Aside0.mk (Kd.C_alloc HV.out.2.2 (.cells #[.int .i64 2, .slice Aq q1.length cq] 105))
      generalize w3.alloc (.cells #[.int .i64 2, .slice Aq q1.length cq] 105) = W4 at HB4 HV4 ⊢
      go_wp2_with (go_at_call 25; refine Calls.mono (trunc_Same.calls k _ _ q2 _ _ l3 r _ HV4.out HV.out.2.1 (Kd.C_below HR3.out HB4.out) HC3.out HSM.out) ?_; rintro e w5 ⟨rfl, hb⟩; have HB5 := Aside0.mk (below_step HB4.out hb); clear hb)
      go_ret
      exact ⟨rfl, HB5.out⟩
    · rw [if_neg h0] at HT
      obtain rfl := Option.some.inj HT
      have p1 : decide (0 ≤ p) = false := decide_eq_false h0
      clear HTA HT h0
      go_upto_region 2 with (go_at_call 107; refine Calls.mono HCA.out ?_; rintro e w2 ⟨rfl, hb⟩; have HB2 := Aside0.mk (below_step HB.out hb); clear hb)
      clear a0 a1 HB BB
      go_wp2_with (go_at_call 147; refine Calls.mono (mk.sk _ _ l0_1 _ _ l1 _ _ l2 p _ (Kd.C_below HR.out HB2.out) HC.out (Kd.C_below HR1.out HB2.out) HC1.out (Kd.C_below HR2.out HB2.out) HC2.out HP.out) ?_; rintro e wk ⟨rfl, hb⟩; have HB9 := Aside0.mk (below_step HB2.out hb); clear hb)
      go_ret
      exact ⟨rfl, HB9.out⟩
  | no =>
    have HT := HTA.out
    rw [if_neg (by decide)] at HT
    obtain rfl := Option.some.inj HT
    clear HTA HT
    go_wp2_with (go_at_call 107; refine Calls.mono HCA.out ?_; rintro e w2 ⟨rfl, hb⟩; have HB2 := Aside0.mk (below_step HB.out hb); clear hb)
    go_ret
    exact ⟨rfl, HB2.out⟩

end Go.Proofs.Ytnpkhkhlofkbhaa.PMacSymbolic
