-- made by a program of this session (its printer) out of what Lean prints of the given program
import Derived.Test.YtnpkhkhlofkbhaaDoorPShaRightx0
namespace Go.Proofs.YtnpkhkhlofkbhaaDoor.PShaRight
open Go.RowKit Go.Proofs.YtnpkhkhlofkbhaaDoorW.PrintWords Go.Proofs.YtnpkhkhlofkbhaaDoorW.PrintLast Go.Proofs.YtnpkhkhlofkbhaaDoorW.PrintMore
attribute [local go_sem] max2_int min2_int max_two min_two max_three min_three max_four min_four   -- for this text's walks alone
set_option linter.unusedVariables false
set_option linter.unusedSimpArgs false

/-! ### wristbandlaw02_words: function 19 -/
def wristbandlaw02_words.l0 : Nat → List Int → Int → Int → Int → Int → Int → Int → Int → Int → Int → Option (List Int)
  | 0, _, _, _, _, _, _, _, _, _, _ => none
  | k + 1, x3, x4, x330000, x330001, x330002, x330003, x330004, x330005, x330006, x330007 => if x4 < 8 then (if x4 = 0 then (if x3.length < 35184372088832 then (wristbandlaw02_words.l0 k (x3 ++ [x330000]) (wrap64 (x4 + 1)) x330000 x330001 x330002 x330003 x330004 x330005 x330006 x330007) else (none)) else (if x4 = 1 then (if x3.length < 35184372088832 then (wristbandlaw02_words.l0 k (x3 ++ [x330001]) (wrap64 (x4 + 1)) x330000 x330001 x330002 x330003 x330004 x330005 x330006 x330007) else (none)) else (if x4 = 2 then (if x3.length < 35184372088832 then (wristbandlaw02_words.l0 k (x3 ++ [x330002]) (wrap64 (x4 + 1)) x330000 x330001 x330002 x330003 x330004 x330005 x330006 x330007) else (none)) else (if x4 = 3 then (if x3.length < 35184372088832 then (wristbandlaw02_words.l0 k (x3 ++ [x330003]) (wrap64 (x4 + 1)) x330000 x330001 x330002 x330003 x330004 x330005 x330006 x330007) else (none)) else (if x4 = 4 then (if x3.length < 35184372088832 then (wristbandlaw02_words.l0 k (x3 ++ [x330004]) (wrap64 (x4 + 1)) x330000 x330001 x330002 x330003 x330004 x330005 x330006 x330007) else (none)) else (if x4 = 5 then (if x3.length < 35184372088832 then (wristbandlaw02_words.l0 k (x3 ++ [x330005]) (wrap64 (x4 + 1)) x330000 x330001 x330002 x330003 x330004 x330005 x330006 x330007) else (none)) else (if x4 = 6 then (if x3.length < 35184372088832 then (wristbandlaw02_words.l0 k (x3 ++ [x330006]) (wrap64 (x4 + 1)) x330000 x330001 x330002 x330003 x330004 x330005 x330006 x330007) else (none)) else (if x4 = 7 then (if x3.length < 35184372088832 then (wristbandlaw02_words.l0 k (x3 ++ [x330007]) (wrap64 (x4 + 1)) x330000 x330001 x330002 x330003 x330004 x330005 x330006 x330007) else (none)) else (none))))))))) else (some x3)
def wristbandlaw02_words.f (k : Nat) (a0_0 : Int) (a0_1 : Int) (a0_2 : Int) (a0_3 : Int) (a0_4 : Int) (a0_5 : Int) (a0_6 : Int) (a0_7 : Int) : Option (List Int) := wristbandlaw02_words.l0 k ([] : List Int) 0 a0_0 a0_1 a0_2 a0_3 a0_4 a0_5 a0_6 a0_7
theorem wristbandlaw02_words.mono_l : ∀ k, (∀ y0 y1 y2 y3 y4 y5 y6 y7 y8 y9, LeO (wristbandlaw02_words.l0 k y0 y1 y2 y3 y4 y5 y6 y7 y8 y9) (wristbandlaw02_words.l0 (k + 1) y0 y1 y2 y3 y4 y5 y6 y7 y8 y9))
  | 0 => fun _ _ _ _ _ _ _ _ _ _ r h => by simp [wristbandlaw02_words.l0] at h
  | k + 1 => by
   have ih0 := wristbandlaw02_words.mono_l k
   ·intro y0 y1 y2 y3 y4 y5 y6 y7 y8 y9
    unfold wristbandlaw02_words.l0
    repeat' first
    | (with_reducible exact ih0 _ _ _ _ _ _ _ _ _ _)
    | (with_reducible exact LeO.refl _)
    | (with_reducible exact LeO.none _)
    | (with_reducible refine LeO.ite ?_ ?_)
    | (with_reducible refine LeO.bind ?_ (fun _ => ?_))
    | exact ih0 _ _ _ _ _ _ _ _ _ _
    | exact LeO.none _
    | refine LeO.ite ?_ ?_
    | refine LeO.bind ?_ (fun _ => ?_)
theorem wristbandlaw02_words.mono : ∀ a0 a1 a2 a3 a4 a5 a6 a7 k, LeO (wristbandlaw02_words.f k a0 a1 a2 a3 a4 a5 a6 a7) (wristbandlaw02_words.f (k + 1) a0 a1 a2 a3 a4 a5 a6 a7) := by
  intro a0 a1 a2 a3 a4 a5 a6 a7 k; have ih0 := wristbandlaw02_words.mono_l k
  unfold wristbandlaw02_words.f
  repeat' first
    | (with_reducible exact ih0 _ _ _ _ _ _ _ _ _ _)
    | (with_reducible exact LeO.refl _)
    | (with_reducible exact LeO.none _)
    | (with_reducible refine LeO.ite ?_ ?_)
    | (with_reducible refine LeO.bind ?_ (fun _ => ?_))
    | exact ih0 _ _ _ _ _ _ _ _ _ _
    | exact LeO.none _
    | refine LeO.ite ?_ ?_
    | refine LeO.bind ?_ (fun _ => ?_)
set_option maxHeartbeats 8000000 in
set_option maxRecDepth 100000 in
theorem wristbandlaw02_words.calls (k : Nat) (a0_0 : Int) (a0_1 : Int) (a0_2 : Int) (a0_3 : Int) (a0_4 : Int) (a0_5 : Int) (a0_6 : Int) (a0_7 : Int) (r : List Int) (w : World) (h : wristbandlaw02_words.f k a0_0 a0_1 a0_2 a0_3 a0_4 a0_5 a0_6 a0_7 = some r) :
   Calls Tryd.prog 19 #[.agg #[.int .u32 a0_0, .int .u32 a0_1, .int .u32 a0_2, .int .u32 a0_3, .int .u32 a0_4, .int .u32 a0_5, .int .u32 a0_6, .int .u32 a0_7]] w fun e w' => ∃ v0_ : Value, e = .returned (v0_) ∧ Kd.R (Kd.int .u32) 22 w' w.heap.size (fun _ => True) v0_ r ∧ Below w.heap.size w w' := by
  have hu23 := Tryd.underlying23
  have HB := Aside0.mk (Below.refl w.heap.size w); have H : (wristbandlaw02_words.l0 k ([] : List Int) 0 a0_0 a0_1 a0_2 a0_3 a0_4 a0_5 a0_6 a0_7) = some r := h
  clear h; have H' := Aside0.mk H; clear H; go_enter Tryd.func19, Tryd.ntmps19
  go_wp2_with (first | ((with_reducible refine gate_dst (N := 1) rfl ?_); refine box_event ?hg (N := 1) ?hd (cs := #[.int .u32 a0_0, .int .u32 a0_1, .int .u32 a0_2, .int .u32 a0_3, .int .u32 a0_4, .int .u32 a0_5, .int .u32 a0_6, .int .u32 a0_7]) (t := 23) ?hr ?_; (case hd => rfl); (case hg => rfl); (case hr => first | (go_simp; done) | (go_simp; rfl)); intro gb329 hg w2 hbox hb; have n0_ := Aside0.mk (below_step (by repeat (first | (with_reducible first | exact HB.out | apply bA | apply bN | apply bD) | exact HB.out)) hb); have n1_ := Aside0.mk (hbox); have n2_ := Aside0.mk ((by rw [hg]; exact (below_size (by repeat (first | (with_reducible first | exact HB.out | apply bA | apply bN | apply bD) | exact HB.out))) : w.heap.size ≤ gb329)); have n3_ := Aside0.mk ((by rw [hg]; exact (below_size (by repeat (first | (with_reducible first | exact HB.out | apply bA | apply bN | apply bD) | exact HB.out))) : w.heap.size ≤ gb329)); clear HB; have HB := n0_; have BK329 := n1_; have GW329 := n2_; have GE329 := n3_; clear n0_ n1_ n2_ n3_; clear hb hbox hg))
  go_loopg [3, 4] k (fun kq v3 v4 w' => ∃ (x3_1 : List Int) (x4_1 : Int), v4 = .int .i64 x4_1 ∧ Aside0 (wristbandlaw02_words.l0 kq x3_1 x4_1 a0_0 a0_1 a0_2 a0_3 a0_4 a0_5 a0_6 a0_7 = some r) ∧ Aside0 (kq ≤ k) ∧ Aside0 (Kd.R (Kd.int .u32) 22 w' w.heap.size (fun _ => True) v3 x3_1) ∧ Aside0 (w'.heap[gb329]? = some (.cells #[.int .u32 a0_0, .int .u32 a0_1, .int .u32 a0_2, .int .u32 a0_3, .int .u32 a0_4, .int .u32 a0_5, .int .u32 a0_6, .int .u32 a0_7] 23 (0, 0))) ∧ Aside0 (Below w.heap.size w w'))
  case atStart => exact ⟨(([] : List Int)), (0), (by first | rfl | (simp; done) | (simp [*]; done)), H', ⟨Nat.le_refl _⟩, ⟨by first | exact Kd.R_nil _ _ _ _ _ | exact Kd.N_nil _ _ _ _ _ | exact Kd.V_nil _ _ _ _ _ | exact Kd.Q_nil _ _ _ _ _ | exact Kd.S_nil _ _ _ _ _⟩, ⟨by (with_reducible repeat (first | refine blk_drewN ?_ _ | refine blk_drew ?_ | refine blk_alloc ?_ _)); exact BK329.out⟩, ⟨by repeat (first | (with_reducible first | exact HB.out | apply bA | apply bN | apply bD | refine below_set ?_ GE329.out) | exact HB.out)⟩⟩
  case round =>
   clear H'; try clear c1
   try clear p2
   obtain ⟨x3_1, x4_1, rfl, HA, HK1, HO_3, BK329, HB⟩ := hrel
   cases gk with
   | zero => exact absurd HA.out (by simp [wristbandlaw02_words.l0])
   | succ k1 =>
    have H := HA.out
    clear HA; simp only [wristbandlaw02_words.l0] at H
    by_cases c3 : x4_1 < 8
    ·rw [if_pos c3] at H
     have c3b0 : decide (x4_1 < 8) = true := decide_eq_true c3
     clear c3; by_cases c4 : x4_1 = 0
     ·rw [if_pos c4] at H
      have c4b0 : (x4_1 == 0) = true := beq_iff_eq.mpr c4
      have c4b1 : (x4_1 != 0) = false := bne_eq_false_iff_eq.mpr c4
      clear c4; by_cases c5 : x3_1.length < 35184372088832
      ·rw [if_pos c5] at H
       have LMc5 := Aside0.mk c5; clear c5; obtain ⟨y332, hy332⟩ : ∃ y_ : List Int, y_ = (x3_1 ++ [a0_0]) := ⟨_, rfl⟩
       replace H : (wristbandlaw02_words.l0 k1 y332 (wrap64 (x4_1 + 1)) a0_0 a0_1 a0_2 a0_3 a0_4 a0_5 a0_6 a0_7) = some r := by first | (rw [hy332]; with_reducible exact H) | (have H2_ := (Option.bind_some _ _).symm.trans H; rw [hy332]; with_reducible exact H2_) | (have H2_ := (Option.bind_some _ _).symm.trans H; with_reducible exact H2_) | with_reducible exact H | (rw [hy332]; exact H) | exact H
       have Ny332 := Aside0.mk hy332; clear hy332; have H' := Aside0.mk H; clear H; have hia6 : ∀ W : World, (Instr.indexAt 23 (.pointer (some ⟨gb329, 0, none⟩)) (.int .i64 x4_1)).run Tryd.prog W = .ok (.pointer (some ⟨gb329, 0, none⟩)) W := by have e_ : x4_1 = 0 := (by first | assumption | exact beq_iff_eq.mp (show (x4_1 == 0) = true by assumption)); intro W; rw [e_]; first | (go_simp; done) | (go_simp; rfl)
       have hcz7_0 : wr.cell? ⟨gb329, 0, none⟩ = some (.int .u32 a0_0) := (blk_cell BK329.out 0).trans rfl
       have hcz7_1 : wr.cell? ⟨gb329, 1, none⟩ = some (.int .u32 a0_1) := (blk_cell BK329.out 1).trans rfl
       have hcz7_2 : wr.cell? ⟨gb329, 2, none⟩ = some (.int .u32 a0_2) := (blk_cell BK329.out 2).trans rfl
       have hcz7_3 : wr.cell? ⟨gb329, 3, none⟩ = some (.int .u32 a0_3) := (blk_cell BK329.out 3).trans rfl
       have hcz7_4 : wr.cell? ⟨gb329, 4, none⟩ = some (.int .u32 a0_4) := (blk_cell BK329.out 4).trans rfl
       have hcz7_5 : wr.cell? ⟨gb329, 5, none⟩ = some (.int .u32 a0_5) := (blk_cell BK329.out 5).trans rfl
       have hcz7_6 : wr.cell? ⟨gb329, 6, none⟩ = some (.int .u32 a0_6) := (blk_cell BK329.out 6).trans rfl
       have hcz7_7 : wr.cell? ⟨gb329, 7, none⟩ = some (.int .u32 a0_7) := (blk_cell BK329.out 7).trans rfl
       have hfz7_0 := blk_frozen BK329.out 0; have hfz7_1 := blk_frozen BK329.out 1; have hfz7_2 := blk_frozen BK329.out 2; have hfz7_3 := blk_frozen BK329.out 3; have hfz7_4 := blk_frozen BK329.out 4; have hfz7_5 := blk_frozen BK329.out 5; have hfz7_6 := blk_frozen BK329.out 6; have hfz7_7 := blk_frozen BK329.out 7; go_wp2_with (first | ((with_reducible refine gate_builtin (b := .append) (xs := #[.tmp 9, .tmp 13]) rfl ?_); at_builtin; refine Kd.R_append (Kd.int .u32) (w0 := w) w.heap.size rfl (.tmp 9) (.tmp 13) 34 22 (.int .u32 0) 4 rfl Tryd.underlying34 info22 rfl (by decide) (by omega) u3 x3_1 a0_0 [.int .u32 a0_0] (fun _ => True) (fun _ => False) rfl rfl ?aP (fun _ hk => hk.elim) ?aF ?aO ?aB ?aS ?aL ?_; (case aP => exact rfl); (case aB => exact (by repeat (first | (with_reducible first | exact HB.out | apply bA | apply bN | apply bD | refine below_set ?_ GE329.out) | exact HB.out))); (case aF => exact (fun _ _ => trivial)); (case aO => exact (by (with_reducible repeat (first | apply rL | apply rN | apply rW)); exact HO_3.out)); (case aS => exact (below_size (by repeat (first | (with_reducible first | exact HB.out | apply bA | apply bN | apply bD | refine below_set ?_ GE329.out) | exact HB.out)))); (case aL => have := LMc5.out; omega); intro v333 w8 ho hb hg hat; rw [← Ny332.out] at ho; have n0_ := Aside0.mk (blk_grown (g := gb329) (o := .cells #[.int .u32 a0_0, .int .u32 a0_1, .int .u32 a0_2, .int .u32 a0_3, .int .u32 a0_4, .int .u32 a0_5, .int .u32 a0_6, .int .u32 a0_7] 23 (0, 0)) (by (with_reducible repeat (first | refine blk_drewN ?_ _ | refine blk_drew ?_ | refine blk_alloc ?_ _)); exact BK329.out) hg (Kd.R_ne HO_3.out BK329.out (by decide))); have n1_ := Aside0.mk (hb); have n2_ := Aside0.mk (ho); clear BK329; clear HB; clear HO_3; have BK329 := n0_; have HB := n1_; have HO334 := n2_; clear n0_ n1_ n2_; clear ho hb hg hat))
       go_roundg k1
       case measure => have := HK1.out; omega
       case rel => exact ⟨(y332), (wrap64 (x4_1 + 1)), (by first | rfl | (simp; done) | (simp [*]; done)), H', ⟨by have := HK1.out; omega⟩, ⟨by (with_reducible repeat (first | apply rL | apply rN | apply rW)); exact HO334.out⟩, ⟨by (with_reducible repeat (first | refine blk_drewN ?_ _ | refine blk_drew ?_ | refine blk_alloc ?_ _)); exact BK329.out⟩, ⟨by repeat (first | (with_reducible first | exact HB.out | apply bA | apply bN | apply bD | refine below_set ?_ GE329.out) | exact HB.out)⟩⟩
      ·rw [if_neg c5] at H
       exact absurd H (by simp)
     ·rw [if_neg c4] at H
      have c4b0 : (x4_1 == 0) = false := beq_eq_false_iff_ne.mpr c4
      have c4b1 : (x4_1 != 0) = true := bne_iff_ne.mpr c4
      by_cases c9 : x4_1 = 1
      ·rw [if_pos c9] at H
       have c9b0 : (x4_1 == 1) = true := beq_iff_eq.mpr c9
       have c9b1 : (x4_1 != 1) = false := bne_eq_false_iff_eq.mpr c9
       clear c9; by_cases c10 : x3_1.length < 35184372088832
       ·rw [if_pos c10] at H
        have LMc10 := Aside0.mk c10; clear c10; obtain ⟨y337, hy337⟩ : ∃ y_ : List Int, y_ = (x3_1 ++ [a0_1]) := ⟨_, rfl⟩
        replace H : (wristbandlaw02_words.l0 k1 y337 (wrap64 (x4_1 + 1)) a0_0 a0_1 a0_2 a0_3 a0_4 a0_5 a0_6 a0_7) = some r := by first | (rw [hy337]; with_reducible exact H) | (have H2_ := (Option.bind_some _ _).symm.trans H; rw [hy337]; with_reducible exact H2_) | (have H2_ := (Option.bind_some _ _).symm.trans H; with_reducible exact H2_) | with_reducible exact H | (rw [hy337]; exact H) | exact H
        have Ny337 := Aside0.mk hy337; clear hy337; have H' := Aside0.mk H; clear H; have hia11 : ∀ W : World, (Instr.indexAt 23 (.pointer (some ⟨gb329, 0, none⟩)) (.int .i64 x4_1)).run Tryd.prog W = .ok (.pointer (some ⟨gb329, 1, none⟩)) W := by have e_ : x4_1 = 1 := (by first | assumption | exact beq_iff_eq.mp (show (x4_1 == 1) = true by assumption)); intro W; rw [e_]; first | (go_simp; done) | (go_simp; rfl)
        have hcz12_0 : wr.cell? ⟨gb329, 0, none⟩ = some (.int .u32 a0_0) := (blk_cell BK329.out 0).trans rfl
        have hcz12_1 : wr.cell? ⟨gb329, 1, none⟩ = some (.int .u32 a0_1) := (blk_cell BK329.out 1).trans rfl
        have hcz12_2 : wr.cell? ⟨gb329, 2, none⟩ = some (.int .u32 a0_2) := (blk_cell BK329.out 2).trans rfl
        have hcz12_3 : wr.cell? ⟨gb329, 3, none⟩ = some (.int .u32 a0_3) := (blk_cell BK329.out 3).trans rfl
        have hcz12_4 : wr.cell? ⟨gb329, 4, none⟩ = some (.int .u32 a0_4) := (blk_cell BK329.out 4).trans rfl
        have hcz12_5 : wr.cell? ⟨gb329, 5, none⟩ = some (.int .u32 a0_5) := (blk_cell BK329.out 5).trans rfl
        have hcz12_6 : wr.cell? ⟨gb329, 6, none⟩ = some (.int .u32 a0_6) := (blk_cell BK329.out 6).trans rfl
        have hcz12_7 : wr.cell? ⟨gb329, 7, none⟩ = some (.int .u32 a0_7) := (blk_cell BK329.out 7).trans rfl
        have hfz12_0 := blk_frozen BK329.out 0; have hfz12_1 := blk_frozen BK329.out 1; have hfz12_2 := blk_frozen BK329.out 2; have hfz12_3 := blk_frozen BK329.out 3; have hfz12_4 := blk_frozen BK329.out 4; have hfz12_5 := blk_frozen BK329.out 5; have hfz12_6 := blk_frozen BK329.out 6; have hfz12_7 := blk_frozen BK329.out 7; go_wp2_with (first | ((with_reducible refine gate_builtin (b := .append) (xs := #[.tmp 9, .tmp 13]) rfl ?_); at_builtin; refine Kd.R_append (Kd.int .u32) (w0 := w) w.heap.size rfl (.tmp 9) (.tmp 13) 34 22 (.int .u32 0) 4 rfl Tryd.underlying34 info22 rfl (by decide) (by omega) u3 x3_1 a0_1 [.int .u32 a0_1] (fun _ => True) (fun _ => False) rfl rfl ?aP (fun _ hk => hk.elim) ?aF ?aO ?aB ?aS ?aL ?_; (case aP => exact rfl); (case aB => exact (by repeat (first | (with_reducible first | exact HB.out | apply bA | apply bN | apply bD | refine below_set ?_ GE329.out) | exact HB.out))); (case aF => exact (fun _ _ => trivial)); (case aO => exact (by (with_reducible repeat (first | apply rL | apply rN | apply rW)); exact HO_3.out)); (case aS => exact (below_size (by repeat (first | (with_reducible first | exact HB.out | apply bA | apply bN | apply bD | refine below_set ?_ GE329.out) | exact HB.out)))); (case aL => have := LMc10.out; omega); intro v338 w13 ho hb hg hat; rw [← Ny337.out] at ho; have n0_ := Aside0.mk (blk_grown (g := gb329) (o := .cells #[.int .u32 a0_0, .int .u32 a0_1, .int .u32 a0_2, .int .u32 a0_3, .int .u32 a0_4, .int .u32 a0_5, .int .u32 a0_6, .int .u32 a0_7] 23 (0, 0)) (by (with_reducible repeat (first | refine blk_drewN ?_ _ | refine blk_drew ?_ | refine blk_alloc ?_ _)); exact BK329.out) hg (Kd.R_ne HO_3.out BK329.out (by decide))); have n1_ := Aside0.mk (hb); have n2_ := Aside0.mk (ho); clear BK329; clear HB; clear HO_3; have BK329 := n0_; have HB := n1_; have HO339 := n2_; clear n0_ n1_ n2_; clear ho hb hg hat))
        go_roundg k1
        case measure => have := HK1.out; omega
        case rel => exact ⟨(y337), (wrap64 (x4_1 + 1)), (by first | rfl | (simp; done) | (simp [*]; done)), H', ⟨by have := HK1.out; omega⟩, ⟨by (with_reducible repeat (first | apply rL | apply rN | apply rW)); exact HO339.out⟩, ⟨by (with_reducible repeat (first | refine blk_drewN ?_ _ | refine blk_drew ?_ | refine blk_alloc ?_ _)); exact BK329.out⟩, ⟨by repeat (first | (with_reducible first | exact HB.out | apply bA | apply bN | apply bD | refine below_set ?_ GE329.out) | exact HB.out)⟩⟩
       ·rw [if_neg c10] at H
        exact absurd H (by simp)
      ·rw [if_neg c9] at H
       have c9b0 : (x4_1 == 1) = false := beq_eq_false_iff_ne.mpr c9
       have c9b1 : (x4_1 != 1) = true := bne_iff_ne.mpr c9
       by_cases c14 : x4_1 = 2
       ·rw [if_pos c14] at H
        have c14b0 : (x4_1 == 2) = true := beq_iff_eq.mpr c14
        have c14b1 : (x4_1 != 2) = false := bne_eq_false_iff_eq.mpr c14
        clear c14; by_cases c15 : x3_1.length < 35184372088832
        ·rw [if_pos c15] at H
         have LMc15 := Aside0.mk c15; clear c15; obtain ⟨y342, hy342⟩ : ∃ y_ : List Int, y_ = (x3_1 ++ [a0_2]) := ⟨_, rfl⟩
         replace H : (wristbandlaw02_words.l0 k1 y342 (wrap64 (x4_1 + 1)) a0_0 a0_1 a0_2 a0_3 a0_4 a0_5 a0_6 a0_7) = some r := by first | (rw [hy342]; with_reducible exact H) | (have H2_ := (Option.bind_some _ _).symm.trans H; rw [hy342]; with_reducible exact H2_) | (have H2_ := (Option.bind_some _ _).symm.trans H; with_reducible exact H2_) | with_reducible exact H | (rw [hy342]; exact H) | exact H
         have Ny342 := Aside0.mk hy342; clear hy342; have H' := Aside0.mk H; clear H; have hia16 : ∀ W : World, (Instr.indexAt 23 (.pointer (some ⟨gb329, 0, none⟩)) (.int .i64 x4_1)).run Tryd.prog W = .ok (.pointer (some ⟨gb329, 2, none⟩)) W := by have e_ : x4_1 = 2 := (by first | assumption | exact beq_iff_eq.mp (show (x4_1 == 2) = true by assumption)); intro W; rw [e_]; first | (go_simp; done) | (go_simp; rfl)
         have hcz17_0 : wr.cell? ⟨gb329, 0, none⟩ = some (.int .u32 a0_0) := (blk_cell BK329.out 0).trans rfl
         have hcz17_1 : wr.cell? ⟨gb329, 1, none⟩ = some (.int .u32 a0_1) := (blk_cell BK329.out 1).trans rfl
         have hcz17_2 : wr.cell? ⟨gb329, 2, none⟩ = some (.int .u32 a0_2) := (blk_cell BK329.out 2).trans rfl
         have hcz17_3 : wr.cell? ⟨gb329, 3, none⟩ = some (.int .u32 a0_3) := (blk_cell BK329.out 3).trans rfl
         have hcz17_4 : wr.cell? ⟨gb329, 4, none⟩ = some (.int .u32 a0_4) := (blk_cell BK329.out 4).trans rfl
         have hcz17_5 : wr.cell? ⟨gb329, 5, none⟩ = some (.int .u32 a0_5) := (blk_cell BK329.out 5).trans rfl
         have hcz17_6 : wr.cell? ⟨gb329, 6, none⟩ = some (.int .u32 a0_6) := (blk_cell BK329.out 6).trans rfl
         have hcz17_7 : wr.cell? ⟨gb329, 7, none⟩ = some (.int .u32 a0_7) := (blk_cell BK329.out 7).trans rfl
         have hfz17_0 := blk_frozen BK329.out 0; have hfz17_1 := blk_frozen BK329.out 1; have hfz17_2 := blk_frozen BK329.out 2; have hfz17_3 := blk_frozen BK329.out 3; have hfz17_4 := blk_frozen BK329.out 4; have hfz17_5 := blk_frozen BK329.out 5; have hfz17_6 := blk_frozen BK329.out 6; have hfz17_7 := blk_frozen BK329.out 7; go_wp2_with (first | ((with_reducible refine gate_builtin (b := .append) (xs := #[.tmp 9, .tmp 13]) rfl ?_); at_builtin; refine Kd.R_append (Kd.int .u32) (w0 := w) w.heap.size rfl (.tmp 9) (.tmp 13) 34 22 (.int .u32 0) 4 rfl Tryd.underlying34 info22 rfl (by decide) (by omega) u3 x3_1 a0_2 [.int .u32 a0_2] (fun _ => True) (fun _ => False) rfl rfl ?aP (fun _ hk => hk.elim) ?aF ?aO ?aB ?aS ?aL ?_; (case aP => exact rfl); (case aB => exact (by repeat (first | (with_reducible first | exact HB.out | apply bA | apply bN | apply bD | refine below_set ?_ GE329.out) | exact HB.out))); (case aF => exact (fun _ _ => trivial)); (case aO => exact (by (with_reducible repeat (first | apply rL | apply rN | apply rW)); exact HO_3.out)); (case aS => exact (below_size (by repeat (first | (with_reducible first | exact HB.out | apply bA | apply bN | apply bD | refine below_set ?_ GE329.out) | exact HB.out)))); (case aL => have := LMc15.out; omega); intro v343 w18 ho hb hg hat; rw [← Ny342.out] at ho; have n0_ := Aside0.mk (blk_grown (g := gb329) (o := .cells #[.int .u32 a0_0, .int .u32 a0_1, .int .u32 a0_2, .int .u32 a0_3, .int .u32 a0_4, .int .u32 a0_5, .int .u32 a0_6, .int .u32 a0_7] 23 (0, 0)) (by (with_reducible repeat (first | refine blk_drewN ?_ _ | refine blk_drew ?_ | refine blk_alloc ?_ _)); exact BK329.out) hg (Kd.R_ne HO_3.out BK329.out (by decide))); have n1_ := Aside0.mk (hb); have n2_ := Aside0.mk (ho); clear BK329; clear HB; clear HO_3; have BK329 := n0_; have HB := n1_; have HO344 := n2_; clear n0_ n1_ n2_; clear ho hb hg hat))
         go_roundg k1
         case measure => have := HK1.out; omega
         case rel => exact ⟨(y342), (wrap64 (x4_1 + 1)), (by first | rfl | (simp; done) | (simp [*]; done)), H', ⟨by have := HK1.out; omega⟩, ⟨by (with_reducible repeat (first | apply rL | apply rN | apply rW)); exact HO344.out⟩, ⟨by (with_reducible repeat (first | refine blk_drewN ?_ _ | refine blk_drew ?_ | refine blk_alloc ?_ _)); exact BK329.out⟩, ⟨by repeat (first | (with_reducible first | exact HB.out | apply bA | apply bN | apply bD | refine below_set ?_ GE329.out) | exact HB.out)⟩⟩
        ·rw [if_neg c15] at H
         exact absurd H (by simp)
       ·rw [if_neg c14] at H
        have c14b0 : (x4_1 == 2) = false := beq_eq_false_iff_ne.mpr c14
        have c14b1 : (x4_1 != 2) = true := bne_iff_ne.mpr c14
        by_cases c19 : x4_1 = 3
        ·rw [if_pos c19] at H
         have c19b0 : (x4_1 == 3) = true := beq_iff_eq.mpr c19
         have c19b1 : (x4_1 != 3) = false := bne_eq_false_iff_eq.mpr c19
         clear c19; by_cases c20 : x3_1.length < 35184372088832
         ·rw [if_pos c20] at H
          have LMc20 := Aside0.mk c20; clear c20; obtain ⟨y347, hy347⟩ : ∃ y_ : List Int, y_ = (x3_1 ++ [a0_3]) := ⟨_, rfl⟩
          replace H : (wristbandlaw02_words.l0 k1 y347 (wrap64 (x4_1 + 1)) a0_0 a0_1 a0_2 a0_3 a0_4 a0_5 a0_6 a0_7) = some r := by first | (rw [hy347]; with_reducible exact H) | (have H2_ := (Option.bind_some _ _).symm.trans H; rw [hy347]; with_reducible exact H2_) | (have H2_ := (Option.bind_some _ _).symm.trans H; with_reducible exact H2_) | with_reducible exact H | (rw [hy347]; exact H) | exact H
          have Ny347 := Aside0.mk hy347; clear hy347; have H' := Aside0.mk H; clear H; have hia21 : ∀ W : World, (Instr.indexAt 23 (.pointer (some ⟨gb329, 0, none⟩)) (.int .i64 x4_1)).run Tryd.prog W = .ok (.pointer (some ⟨gb329, 3, none⟩)) W := by have e_ : x4_1 = 3 := (by first | assumption | exact beq_iff_eq.mp (show (x4_1 == 3) = true by assumption)); intro W; rw [e_]; first | (go_simp; done) | (go_simp; rfl)
          have hcz22_0 : wr.cell? ⟨gb329, 0, none⟩ = some (.int .u32 a0_0) := (blk_cell BK329.out 0).trans rfl
          have hcz22_1 : wr.cell? ⟨gb329, 1, none⟩ = some (.int .u32 a0_1) := (blk_cell BK329.out 1).trans rfl
          have hcz22_2 : wr.cell? ⟨gb329, 2, none⟩ = some (.int .u32 a0_2) := (blk_cell BK329.out 2).trans rfl
          have hcz22_3 : wr.cell? ⟨gb329, 3, none⟩ = some (.int .u32 a0_3) := (blk_cell BK329.out 3).trans rfl
          have hcz22_4 : wr.cell? ⟨gb329, 4, none⟩ = some (.int .u32 a0_4) := (blk_cell BK329.out 4).trans rfl
          have hcz22_5 : wr.cell? ⟨gb329, 5, none⟩ = some (.int .u32 a0_5) := (blk_cell BK329.out 5).trans rfl
          have hcz22_6 : wr.cell? ⟨gb329, 6, none⟩ = some (.int .u32 a0_6) := (blk_cell BK329.out 6).trans rfl
          have hcz22_7 : wr.cell? ⟨gb329, 7, none⟩ = some (.int .u32 a0_7) := (blk_cell BK329.out 7).trans rfl
          have hfz22_0 := blk_frozen BK329.out 0; have hfz22_1 := blk_frozen BK329.out 1; have hfz22_2 := blk_frozen BK329.out 2; have hfz22_3 := blk_frozen BK329.out 3; have hfz22_4 := blk_frozen BK329.out 4; have hfz22_5 := blk_frozen BK329.out 5; have hfz22_6 := blk_frozen BK329.out 6; have hfz22_7 := blk_frozen BK329.out 7; go_wp2_with (first | ((with_reducible refine gate_builtin (b := .append) (xs := #[.tmp 9, .tmp 13]) rfl ?_); at_builtin; refine Kd.R_append (Kd.int .u32) (w0 := w) w.heap.size rfl (.tmp 9) (.tmp 13) 34 22 (.int .u32 0) 4 rfl Tryd.underlying34 info22 rfl (by decide) (by omega) u3 x3_1 a0_3 [.int .u32 a0_3] (fun _ => True) (fun _ => False) rfl rfl ?aP (fun _ hk => hk.elim) ?aF ?aO ?aB ?aS ?aL ?_; (case aP => exact rfl); (case aB => exact (by repeat (first | (with_reducible first | exact HB.out | apply bA | apply bN | apply bD | refine below_set ?_ GE329.out) | exact HB.out))); (case aF => exact (fun _ _ => trivial)); (case aO => exact (by (with_reducible repeat (first | apply rL | apply rN | apply rW)); exact HO_3.out)); (case aS => exact (below_size (by repeat (first | (with_reducible first | exact HB.out | apply bA | apply bN | apply bD | refine below_set ?_ GE329.out) | exact HB.out)))); (case aL => have := LMc20.out; omega); intro v348 w23 ho hb hg hat; rw [← Ny347.out] at ho; have n0_ := Aside0.mk (blk_grown (g := gb329) (o := .cells #[.int .u32 a0_0, .int .u32 a0_1, .int .u32 a0_2, .int .u32 a0_3, .int .u32 a0_4, .int .u32 a0_5, .int .u32 a0_6, .int .u32 a0_7] 23 (0, 0)) (by (with_reducible repeat (first | refine blk_drewN ?_ _ | refine blk_drew ?_ | refine blk_alloc ?_ _)); exact BK329.out) hg (Kd.R_ne HO_3.out BK329.out (by decide))); have n1_ := Aside0.mk (hb); have n2_ := Aside0.mk (ho); clear BK329; clear HB; clear HO_3; have BK329 := n0_; have HB := n1_; have HO349 := n2_; clear n0_ n1_ n2_; clear ho hb hg hat))
          go_roundg k1
          case measure => have := HK1.out; omega
          case rel => exact ⟨(y347), (wrap64 (x4_1 + 1)), (by first | rfl | (simp; done) | (simp [*]; done)), H', ⟨by have := HK1.out; omega⟩, ⟨by (with_reducible repeat (first | apply rL | apply rN | apply rW)); exact HO349.out⟩, ⟨by (with_reducible repeat (first | refine blk_drewN ?_ _ | refine blk_drew ?_ | refine blk_alloc ?_ _)); exact BK329.out⟩, ⟨by repeat (first | (with_reducible first | exact HB.out | apply bA | apply bN | apply bD | refine below_set ?_ GE329.out) | exact HB.out)⟩⟩
         ·rw [if_neg c20] at H
          exact absurd H (by simp)
        ·rw [if_neg c19] at H
         have c19b0 : (x4_1 == 3) = false := beq_eq_false_iff_ne.mpr c19
         have c19b1 : (x4_1 != 3) = true := bne_iff_ne.mpr c19
         by_cases c24 : x4_1 = 4
         ·rw [if_pos c24] at H
          have c24b0 : (x4_1 == 4) = true := beq_iff_eq.mpr c24
          have c24b1 : (x4_1 != 4) = false := bne_eq_false_iff_eq.mpr c24
          clear c24; by_cases c25 : x3_1.length < 35184372088832
          ·rw [if_pos c25] at H
           have LMc25 := Aside0.mk c25; clear c25; obtain ⟨y352, hy352⟩ : ∃ y_ : List Int, y_ = (x3_1 ++ [a0_4]) := ⟨_, rfl⟩
           replace H : (wristbandlaw02_words.l0 k1 y352 (wrap64 (x4_1 + 1)) a0_0 a0_1 a0_2 a0_3 a0_4 a0_5 a0_6 a0_7) = some r := by first | (rw [hy352]; with_reducible exact H) | (have H2_ := (Option.bind_some _ _).symm.trans H; rw [hy352]; with_reducible exact H2_) | (have H2_ := (Option.bind_some _ _).symm.trans H; with_reducible exact H2_) | with_reducible exact H | (rw [hy352]; exact H) | exact H
           have Ny352 := Aside0.mk hy352; clear hy352; have H' := Aside0.mk H; clear H; have hia26 : ∀ W : World, (Instr.indexAt 23 (.pointer (some ⟨gb329, 0, none⟩)) (.int .i64 x4_1)).run Tryd.prog W = .ok (.pointer (some ⟨gb329, 4, none⟩)) W := by have e_ : x4_1 = 4 := (by first | assumption | exact beq_iff_eq.mp (show (x4_1 == 4) = true by assumption)); intro W; rw [e_]; first | (go_simp; done) | (go_simp; rfl)
           have hcz27_0 : wr.cell? ⟨gb329, 0, none⟩ = some (.int .u32 a0_0) := (blk_cell BK329.out 0).trans rfl
           have hcz27_1 : wr.cell? ⟨gb329, 1, none⟩ = some (.int .u32 a0_1) := (blk_cell BK329.out 1).trans rfl
           have hcz27_2 : wr.cell? ⟨gb329, 2, none⟩ = some (.int .u32 a0_2) := (blk_cell BK329.out 2).trans rfl
           have hcz27_3 : wr.cell? ⟨gb329, 3, none⟩ = some (.int .u32 a0_3) := (blk_cell BK329.out 3).trans rfl
           have hcz27_4 : wr.cell? ⟨gb329, 4, none⟩ = some (.int .u32 a0_4) := (blk_cell BK329.out 4).trans rfl
           have hcz27_5 : wr.cell? ⟨gb329, 5, none⟩ = some (.int .u32 a0_5) := (blk_cell BK329.out 5).trans rfl
           have hcz27_6 : wr.cell? ⟨gb329, 6, none⟩ = some (.int .u32 a0_6) := (blk_cell BK329.out 6).trans rfl
           have hcz27_7 : wr.cell? ⟨gb329, 7, none⟩ = some (.int .u32 a0_7) := (blk_cell BK329.out 7).trans rfl
           have hfz27_0 := blk_frozen BK329.out 0; have hfz27_1 := blk_frozen BK329.out 1; have hfz27_2 := blk_frozen BK329.out 2; have hfz27_3 := blk_frozen BK329.out 3; have hfz27_4 := blk_frozen BK329.out 4; have hfz27_5 := blk_frozen BK329.out 5; have hfz27_6 := blk_frozen BK329.out 6; have hfz27_7 := blk_frozen BK329.out 7; go_wp2_with (first | ((with_reducible refine gate_builtin (b := .append) (xs := #[.tmp 9, .tmp 13]) rfl ?_); at_builtin; refine Kd.R_append (Kd.int .u32) (w0 := w) w.heap.size rfl (.tmp 9) (.tmp 13) 34 22 (.int .u32 0) 4 rfl Tryd.underlying34 info22 rfl (by decide) (by omega) u3 x3_1 a0_4 [.int .u32 a0_4] (fun _ => True) (fun _ => False) rfl rfl ?aP (fun _ hk => hk.elim) ?aF ?aO ?aB ?aS ?aL ?_; (case aP => exact rfl); (case aB => exact (by repeat (first | (with_reducible first | exact HB.out | apply bA | apply bN | apply bD | refine below_set ?_ GE329.out) | exact HB.out))); (case aF => exact (fun _ _ => trivial)); (case aO => exact (by (with_reducible repeat (first | apply rL | apply rN | apply rW)); exact HO_3.out)); (case aS => exact (below_size (by repeat (first | (with_reducible first | exact HB.out | apply bA | apply bN | apply bD | refine below_set ?_ GE329.out) | exact HB.out)))); (case aL => have := LMc25.out; omega); intro v353 w28 ho hb hg hat; rw [← Ny352.out] at ho; have n0_ := Aside0.mk (blk_grown (g := gb329) (o := .cells #[.int .u32 a0_0, .int .u32 a0_1, .int .u32 a0_2, .int .u32 a0_3, .int .u32 a0_4, .int .u32 a0_5, .int .u32 a0_6, .int .u32 a0_7] 23 (0, 0)) (by (with_reducible repeat (first | refine blk_drewN ?_ _ | refine blk_drew ?_ | refine blk_alloc ?_ _)); exact BK329.out) hg (Kd.R_ne HO_3.out BK329.out (by decide))); have n1_ := Aside0.mk (hb); have n2_ := Aside0.mk (ho); clear BK329; clear HB; clear HO_3; have BK329 := n0_; have HB := n1_; have HO354 := n2_; clear n0_ n1_ n2_; clear ho hb hg hat))
           go_roundg k1
           case measure => have := HK1.out; omega
           case rel => exact ⟨(y352), (wrap64 (x4_1 + 1)), (by first | rfl | (simp; done) | (simp [*]; done)), H', ⟨by have := HK1.out; omega⟩, ⟨by (with_reducible repeat (first | apply rL | apply rN | apply rW)); exact HO354.out⟩, ⟨by (with_reducible repeat (first | refine blk_drewN ?_ _ | refine blk_drew ?_ | refine blk_alloc ?_ _)); exact BK329.out⟩, ⟨by repeat (first | (with_reducible first | exact HB.out | apply bA | apply bN | apply bD | refine below_set ?_ GE329.out) | exact HB.out)⟩⟩
          ·rw [if_neg c25] at H
           exact absurd H (by simp)
         ·rw [if_neg c24] at H
          have c24b0 : (x4_1 == 4) = false := beq_eq_false_iff_ne.mpr c24
          have c24b1 : (x4_1 != 4) = true := bne_iff_ne.mpr c24
          by_cases c29 : x4_1 = 5
          ·rw [if_pos c29] at H
           have c29b0 : (x4_1 == 5) = true := beq_iff_eq.mpr c29
           have c29b1 : (x4_1 != 5) = false := bne_eq_false_iff_eq.mpr c29
           clear c29; by_cases c30 : x3_1.length < 35184372088832
           ·rw [if_pos c30] at H
            have LMc30 := Aside0.mk c30; clear c30; obtain ⟨y357, hy357⟩ : ∃ y_ : List Int, y_ = (x3_1 ++ [a0_5]) := ⟨_, rfl⟩
            replace H : (wristbandlaw02_words.l0 k1 y357 (wrap64 (x4_1 + 1)) a0_0 a0_1 a0_2 a0_3 a0_4 a0_5 a0_6 a0_7) = some r := by first | (rw [hy357]; with_reducible exact H) | (have H2_ := (Option.bind_some _ _).symm.trans H; rw [hy357]; with_reducible exact H2_) | (have H2_ := (Option.bind_some _ _).symm.trans H; with_reducible exact H2_) | with_reducible exact H | (rw [hy357]; exact H) | exact H
            have Ny357 := Aside0.mk hy357; clear hy357; have H' := Aside0.mk H; clear H; have hia31 : ∀ W : World, (Instr.indexAt 23 (.pointer (some ⟨gb329, 0, none⟩)) (.int .i64 x4_1)).run Tryd.prog W = .ok (.pointer (some ⟨gb329, 5, none⟩)) W := by have e_ : x4_1 = 5 := (by first | assumption | exact beq_iff_eq.mp (show (x4_1 == 5) = true by assumption)); intro W; rw [e_]; first | (go_simp; done) | (go_simp; rfl)
            have hcz32_0 : wr.cell? ⟨gb329, 0, none⟩ = some (.int .u32 a0_0) := (blk_cell BK329.out 0).trans rfl
            have hcz32_1 : wr.cell? ⟨gb329, 1, none⟩ = some (.int .u32 a0_1) := (blk_cell BK329.out 1).trans rfl
            have hcz32_2 : wr.cell? ⟨gb329, 2, none⟩ = some (.int .u32 a0_2) := (blk_cell BK329.out 2).trans rfl
            have hcz32_3 : wr.cell? ⟨gb329, 3, none⟩ = some (.int .u32 a0_3) := (blk_cell BK329.out 3).trans rfl
            have hcz32_4 : wr.cell? ⟨gb329, 4, none⟩ = some (.int .u32 a0_4) := (blk_cell BK329.out 4).trans rfl
            have hcz32_5 : wr.cell? ⟨gb329, 5, none⟩ = some (.int .u32 a0_5) := (blk_cell BK329.out 5).trans rfl
            have hcz32_6 : wr.cell? ⟨gb329, 6, none⟩ = some (.int .u32 a0_6) := (blk_cell BK329.out 6).trans rfl
            have hcz32_7 : wr.cell? ⟨gb329, 7, none⟩ = some (.int .u32 a0_7) := (blk_cell BK329.out 7).trans rfl
            have hfz32_0 := blk_frozen BK329.out 0; have hfz32_1 := blk_frozen BK329.out 1; have hfz32_2 := blk_frozen BK329.out 2; have hfz32_3 := blk_frozen BK329.out 3; have hfz32_4 := blk_frozen BK329.out 4; have hfz32_5 := blk_frozen BK329.out 5; have hfz32_6 := blk_frozen BK329.out 6; have hfz32_7 := blk_frozen BK329.out 7; go_wp2_with (first | ((with_reducible refine gate_builtin (b := .append) (xs := #[.tmp 9, .tmp 13]) rfl ?_); at_builtin; refine Kd.R_append (Kd.int .u32) (w0 := w) w.heap.size rfl (.tmp 9) (.tmp 13) 34 22 (.int .u32 0) 4 rfl Tryd.underlying34 info22 rfl (by decide) (by omega) u3 x3_1 a0_5 [.int .u32 a0_5] (fun _ => True) (fun _ => False) rfl rfl ?aP (fun _ hk => hk.elim) ?aF ?aO ?aB ?aS ?aL ?_; (case aP => exact rfl); (case aB => exact (by repeat (first | (with_reducible first | exact HB.out | apply bA | apply bN | apply bD | refine below_set ?_ GE329.out) | exact HB.out))); (case aF => exact (fun _ _ => trivial)); (case aO => exact (by (with_reducible repeat (first | apply rL | apply rN | apply rW)); exact HO_3.out)); (case aS => exact (below_size (by repeat (first | (with_reducible first | exact HB.out | apply bA | apply bN | apply bD | refine below_set ?_ GE329.out) | exact HB.out)))); (case aL => have := LMc30.out; omega); intro v358 w33 ho hb hg hat; rw [← Ny357.out] at ho; have n0_ := Aside0.mk (blk_grown (g := gb329) (o := .cells #[.int .u32 a0_0, .int .u32 a0_1, .int .u32 a0_2, .int .u32 a0_3, .int .u32 a0_4, .int .u32 a0_5, .int .u32 a0_6, .int .u32 a0_7] 23 (0, 0)) (by (with_reducible repeat (first | refine blk_drewN ?_ _ | refine blk_drew ?_ | refine blk_alloc ?_ _)); exact BK329.out) hg (Kd.R_ne HO_3.out BK329.out (by decide))); have n1_ := Aside0.mk (hb); have n2_ := Aside0.mk (ho); clear BK329; clear HB; clear HO_3; have BK329 := n0_; have HB := n1_; have HO359 := n2_; clear n0_ n1_ n2_; clear ho hb hg hat))
            go_roundg k1
            case measure => have := HK1.out; omega
            case rel => exact ⟨(y357), (wrap64 (x4_1 + 1)), (by first | rfl | (simp; done) | (simp [*]; done)), H', ⟨by have := HK1.out; omega⟩, ⟨by (with_reducible repeat (first | apply rL | apply rN | apply rW)); exact HO359.out⟩, ⟨by (with_reducible repeat (first | refine blk_drewN ?_ _ | refine blk_drew ?_ | refine blk_alloc ?_ _)); exact BK329.out⟩, ⟨by repeat (first | (with_reducible first | exact HB.out | apply bA | apply bN | apply bD | refine below_set ?_ GE329.out) | exact HB.out)⟩⟩
           ·rw [if_neg c30] at H
            exact absurd H (by simp)
          ·rw [if_neg c29] at H
           have c29b0 : (x4_1 == 5) = false := beq_eq_false_iff_ne.mpr c29
           have c29b1 : (x4_1 != 5) = true := bne_iff_ne.mpr c29
           by_cases c34 : x4_1 = 6
           ·rw [if_pos c34] at H
            have c34b0 : (x4_1 == 6) = true := beq_iff_eq.mpr c34
            have c34b1 : (x4_1 != 6) = false := bne_eq_false_iff_eq.mpr c34
            clear c34; by_cases c35 : x3_1.length < 35184372088832
            ·rw [if_pos c35] at H
             have LMc35 := Aside0.mk c35; clear c35; obtain ⟨y362, hy362⟩ : ∃ y_ : List Int, y_ = (x3_1 ++ [a0_6]) := ⟨_, rfl⟩
             replace H : (wristbandlaw02_words.l0 k1 y362 (wrap64 (x4_1 + 1)) a0_0 a0_1 a0_2 a0_3 a0_4 a0_5 a0_6 a0_7) = some r := by first | (rw [hy362]; with_reducible exact H) | (have H2_ := (Option.bind_some _ _).symm.trans H; rw [hy362]; with_reducible exact H2_) | (have H2_ := (Option.bind_some _ _).symm.trans H; with_reducible exact H2_) | with_reducible exact H | (rw [hy362]; exact H) | exact H
             have Ny362 := Aside0.mk hy362; clear hy362; have H' := Aside0.mk H; clear H; have hia36 : ∀ W : World, (Instr.indexAt 23 (.pointer (some ⟨gb329, 0, none⟩)) (.int .i64 x4_1)).run Tryd.prog W = .ok (.pointer (some ⟨gb329, 6, none⟩)) W := by have e_ : x4_1 = 6 := (by first | assumption | exact beq_iff_eq.mp (show (x4_1 == 6) = true by assumption)); intro W; rw [e_]; first | (go_simp; done) | (go_simp; rfl)
             have hcz37_0 : wr.cell? ⟨gb329, 0, none⟩ = some (.int .u32 a0_0) := (blk_cell BK329.out 0).trans rfl
             have hcz37_1 : wr.cell? ⟨gb329, 1, none⟩ = some (.int .u32 a0_1) := (blk_cell BK329.out 1).trans rfl
             have hcz37_2 : wr.cell? ⟨gb329, 2, none⟩ = some (.int .u32 a0_2) := (blk_cell BK329.out 2).trans rfl
             have hcz37_3 : wr.cell? ⟨gb329, 3, none⟩ = some (.int .u32 a0_3) := (blk_cell BK329.out 3).trans rfl
             have hcz37_4 : wr.cell? ⟨gb329, 4, none⟩ = some (.int .u32 a0_4) := (blk_cell BK329.out 4).trans rfl
             have hcz37_5 : wr.cell? ⟨gb329, 5, none⟩ = some (.int .u32 a0_5) := (blk_cell BK329.out 5).trans rfl
             have hcz37_6 : wr.cell? ⟨gb329, 6, none⟩ = some (.int .u32 a0_6) := (blk_cell BK329.out 6).trans rfl
             have hcz37_7 : wr.cell? ⟨gb329, 7, none⟩ = some (.int .u32 a0_7) := (blk_cell BK329.out 7).trans rfl
             have hfz37_0 := blk_frozen BK329.out 0; have hfz37_1 := blk_frozen BK329.out 1; have hfz37_2 := blk_frozen BK329.out 2; have hfz37_3 := blk_frozen BK329.out 3; have hfz37_4 := blk_frozen BK329.out 4; have hfz37_5 := blk_frozen BK329.out 5; have hfz37_6 := blk_frozen BK329.out 6; have hfz37_7 := blk_frozen BK329.out 7; go_wp2_with (first | ((with_reducible refine gate_builtin (b := .append) (xs := #[.tmp 9, .tmp 13]) rfl ?_); at_builtin; refine Kd.R_append (Kd.int .u32) (w0 := w) w.heap.size rfl (.tmp 9) (.tmp 13) 34 22 (.int .u32 0) 4 rfl Tryd.underlying34 info22 rfl (by decide) (by omega) u3 x3_1 a0_6 [.int .u32 a0_6] (fun _ => True) (fun _ => False) rfl rfl ?aP (fun _ hk => hk.elim) ?aF ?aO ?aB ?aS ?aL ?_; (case aP => exact rfl); (case aB => exact (by repeat (first | (with_reducible first | exact HB.out | apply bA | apply bN | apply bD | refine below_set ?_ GE329.out) | exact HB.out))); (case aF => exact (fun _ _ => trivial)); (case aO => exact (by (with_reducible repeat (first | apply rL | apply rN | apply rW)); exact HO_3.out)); (case aS => exact (below_size (by repeat (first | (with_reducible first | exact HB.out | apply bA | apply bN | apply bD | refine below_set ?_ GE329.out) | exact HB.out)))); (case aL => have := LMc35.out; omega); intro v363 w38 ho hb hg hat; rw [← Ny362.out] at ho; have n0_ := Aside0.mk (blk_grown (g := gb329) (o := .cells #[.int .u32 a0_0, .int .u32 a0_1, .int .u32 a0_2, .int .u32 a0_3, .int .u32 a0_4, .int .u32 a0_5, .int .u32 a0_6, .int .u32 a0_7] 23 (0, 0)) (by (with_reducible repeat (first | refine blk_drewN ?_ _ | refine blk_drew ?_ | refine blk_alloc ?_ _)); exact BK329.out) hg (Kd.R_ne HO_3.out BK329.out (by decide))); have n1_ := Aside0.mk (hb); have n2_ := Aside0.mk (ho); clear BK329; clear HB; clear HO_3; have BK329 := n0_; have HB := n1_; have HO364 := n2_; clear n0_ n1_ n2_; clear ho hb hg hat))
             go_roundg k1
             case measure => have := HK1.out; omega
             case rel => exact ⟨(y362), (wrap64 (x4_1 + 1)), (by first | rfl | (simp; done) | (simp [*]; done)), H', ⟨by have := HK1.out; omega⟩, ⟨by (with_reducible repeat (first | apply rL | apply rN | apply rW)); exact HO364.out⟩, ⟨by (with_reducible repeat (first | refine blk_drewN ?_ _ | refine blk_drew ?_ | refine blk_alloc ?_ _)); exact BK329.out⟩, ⟨by repeat (first | (with_reducible first | exact HB.out | apply bA | apply bN | apply bD | refine below_set ?_ GE329.out) | exact HB.out)⟩⟩
            ·rw [if_neg c35] at H
             exact absurd H (by simp)
           ·rw [if_neg c34] at H
            have c34b0 : (x4_1 == 6) = false := beq_eq_false_iff_ne.mpr c34
            have c34b1 : (x4_1 != 6) = true := bne_iff_ne.mpr c34
            by_cases c39 : x4_1 = 7
            ·rw [if_pos c39] at H
             have c39b0 : (x4_1 == 7) = true := beq_iff_eq.mpr c39
             have c39b1 : (x4_1 != 7) = false := bne_eq_false_iff_eq.mpr c39
             clear c39; by_cases c40 : x3_1.length < 35184372088832
             ·rw [if_pos c40] at H
              have LMc40 := Aside0.mk c40; clear c40; obtain ⟨y367, hy367⟩ : ∃ y_ : List Int, y_ = (x3_1 ++ [a0_7]) := ⟨_, rfl⟩
              replace H : (wristbandlaw02_words.l0 k1 y367 (wrap64 (x4_1 + 1)) a0_0 a0_1 a0_2 a0_3 a0_4 a0_5 a0_6 a0_7) = some r := by first | (rw [hy367]; with_reducible exact H) | (have H2_ := (Option.bind_some _ _).symm.trans H; rw [hy367]; with_reducible exact H2_) | (have H2_ := (Option.bind_some _ _).symm.trans H; with_reducible exact H2_) | with_reducible exact H | (rw [hy367]; exact H) | exact H
              have Ny367 := Aside0.mk hy367; clear hy367; have H' := Aside0.mk H; clear H; have hia41 : ∀ W : World, (Instr.indexAt 23 (.pointer (some ⟨gb329, 0, none⟩)) (.int .i64 x4_1)).run Tryd.prog W = .ok (.pointer (some ⟨gb329, 7, none⟩)) W := by have e_ : x4_1 = 7 := (by first | assumption | exact beq_iff_eq.mp (show (x4_1 == 7) = true by assumption)); intro W; rw [e_]; first | (go_simp; done) | (go_simp; rfl)
              have hcz42_0 : wr.cell? ⟨gb329, 0, none⟩ = some (.int .u32 a0_0) := (blk_cell BK329.out 0).trans rfl
              have hcz42_1 : wr.cell? ⟨gb329, 1, none⟩ = some (.int .u32 a0_1) := (blk_cell BK329.out 1).trans rfl
              have hcz42_2 : wr.cell? ⟨gb329, 2, none⟩ = some (.int .u32 a0_2) := (blk_cell BK329.out 2).trans rfl
              have hcz42_3 : wr.cell? ⟨gb329, 3, none⟩ = some (.int .u32 a0_3) := (blk_cell BK329.out 3).trans rfl
              have hcz42_4 : wr.cell? ⟨gb329, 4, none⟩ = some (.int .u32 a0_4) := (blk_cell BK329.out 4).trans rfl
              have hcz42_5 : wr.cell? ⟨gb329, 5, none⟩ = some (.int .u32 a0_5) := (blk_cell BK329.out 5).trans rfl
              have hcz42_6 : wr.cell? ⟨gb329, 6, none⟩ = some (.int .u32 a0_6) := (blk_cell BK329.out 6).trans rfl
              have hcz42_7 : wr.cell? ⟨gb329, 7, none⟩ = some (.int .u32 a0_7) := (blk_cell BK329.out 7).trans rfl
              have hfz42_0 := blk_frozen BK329.out 0; have hfz42_1 := blk_frozen BK329.out 1; have hfz42_2 := blk_frozen BK329.out 2; have hfz42_3 := blk_frozen BK329.out 3; have hfz42_4 := blk_frozen BK329.out 4; have hfz42_5 := blk_frozen BK329.out 5; have hfz42_6 := blk_frozen BK329.out 6; have hfz42_7 := blk_frozen BK329.out 7; go_wp2_with (first | ((with_reducible refine gate_builtin (b := .append) (xs := #[.tmp 9, .tmp 13]) rfl ?_); at_builtin; refine Kd.R_append (Kd.int .u32) (w0 := w) w.heap.size rfl (.tmp 9) (.tmp 13) 34 22 (.int .u32 0) 4 rfl Tryd.underlying34 info22 rfl (by decide) (by omega) u3 x3_1 a0_7 [.int .u32 a0_7] (fun _ => True) (fun _ => False) rfl rfl ?aP (fun _ hk => hk.elim) ?aF ?aO ?aB ?aS ?aL ?_; (case aP => exact rfl); (case aB => exact (by repeat (first | (with_reducible first | exact HB.out | apply bA | apply bN | apply bD | refine below_set ?_ GE329.out) | exact HB.out))); (case aF => exact (fun _ _ => trivial)); (case aO => exact (by (with_reducible repeat (first | apply rL | apply rN | apply rW)); exact HO_3.out)); (case aS => exact (below_size (by repeat (first | (with_reducible first | exact HB.out | apply bA | apply bN | apply bD | refine below_set ?_ GE329.out) | exact HB.out)))); (case aL => have := LMc40.out; omega); intro v368 w43 ho hb hg hat; rw [← Ny367.out] at ho; have n0_ := Aside0.mk (blk_grown (g := gb329) (o := .cells #[.int .u32 a0_0, .int .u32 a0_1, .int .u32 a0_2, .int .u32 a0_3, .int .u32 a0_4, .int .u32 a0_5, .int .u32 a0_6, .int .u32 a0_7] 23 (0, 0)) (by (with_reducible repeat (first | refine blk_drewN ?_ _ | refine blk_drew ?_ | refine blk_alloc ?_ _)); exact BK329.out) hg (Kd.R_ne HO_3.out BK329.out (by decide))); have n1_ := Aside0.mk (hb); have n2_ := Aside0.mk (ho); clear BK329; clear HB; clear HO_3; have BK329 := n0_; have HB := n1_; have HO369 := n2_; clear n0_ n1_ n2_; clear ho hb hg hat))
              go_roundg k1
              case measure => have := HK1.out; omega
              case rel => exact ⟨(y367), (wrap64 (x4_1 + 1)), (by first | rfl | (simp; done) | (simp [*]; done)), H', ⟨by have := HK1.out; omega⟩, ⟨by (with_reducible repeat (first | apply rL | apply rN | apply rW)); exact HO369.out⟩, ⟨by (with_reducible repeat (first | refine blk_drewN ?_ _ | refine blk_drew ?_ | refine blk_alloc ?_ _)); exact BK329.out⟩, ⟨by repeat (first | (with_reducible first | exact HB.out | apply bA | apply bN | apply bD | refine below_set ?_ GE329.out) | exact HB.out)⟩⟩
             ·rw [if_neg c40] at H
              exact absurd H (by simp)
            ·rw [if_neg c39] at H
             exact absurd H (by simp)
    ·rw [if_neg c3] at H
     have c3b0 : decide (x4_1 < 8) = false := decide_eq_false c3
     clear c3; obtain rfl := Option.some.inj H
     go_wp2
     go_ret
     exact ⟨_, by first | rfl | (simp [errW_none, errW_some] <;> rfl) | (simp [*, errW_none, errW_some] <;> rfl), by (with_reducible repeat (first | apply rL | apply rN | apply rW)); exact HO_3.out, by repeat (first | (with_reducible first | exact HB.out | apply bA | apply bN | apply bD | refine below_set ?_ GE329.out) | exact HB.out)⟩

/-! ### wristbandlaw02_number: function 24 -/
def wristbandlaw02_number.f (l0 : List Int) (a1 : Int) : Option (Int) := if 0 ≤ a1 then (if a1 < (l0.length : Int) then (if 0 ≤ (wrap64 (a1 + 1)) then (if (wrap64 (a1 + 1)) < (l0.length : Int) then (if 0 ≤ (wrap64 (a1 + 2)) then (if (wrap64 (a1 + 2)) < (l0.length : Int) then (if 0 ≤ (wrap64 (a1 + 3)) then (if (wrap64 (a1 + 3)) < (l0.length : Int) then (some (Go.bits .or .u32 (Go.bits .or .u32 (Go.bits .or .u32 ((((rd l0 a1) % 4294967296) * 16777216) % 4294967296) ((((rd l0 (wrap64 (a1 + 1))) % 4294967296) * 65536) % 4294967296)) ((((rd l0 (wrap64 (a1 + 2))) % 4294967296) * 256) % 4294967296)) ((rd l0 (wrap64 (a1 + 3))) % 4294967296))) else (none)) else (none)) else (none)) else (none)) else (none)) else (none)) else (none)) else (none)
set_option maxHeartbeats 8000000 in
set_option maxRecDepth 100000 in
theorem wristbandlaw02_number.calls (A0 : Option Addr) (c0 : Nat) (l0 : List Int) (a1 : Int) (r : Int) (w : World) (hr0 : Kd.C (Kd.int .u8) w A0 l0.length l0) (hc0 : l0.length ≤ c0) (h : wristbandlaw02_number.f l0 a1 = some r) :
   Calls Tryd.prog 24 #[.slice A0 l0.length c0, .int .i64 a1] w fun e w' => e = .returned (.int .u32 r) ∧ Drawn0 w w' := by
  have HR0 := Aside0.mk hr0; have HC0 := Aside0.mk hc0; clear hr0 hc0; have H : (if 0 ≤ a1 then (if a1 < (l0.length : Int) then (if 0 ≤ (wrap64 (a1 + 1)) then (if (wrap64 (a1 + 1)) < (l0.length : Int) then (if 0 ≤ (wrap64 (a1 + 2)) then (if (wrap64 (a1 + 2)) < (l0.length : Int) then (if 0 ≤ (wrap64 (a1 + 3)) then (if (wrap64 (a1 + 3)) < (l0.length : Int) then (some (Go.bits .or .u32 (Go.bits .or .u32 (Go.bits .or .u32 ((((rd l0 a1) % 4294967296) * 16777216) % 4294967296) ((((rd l0 (wrap64 (a1 + 1))) % 4294967296) * 65536) % 4294967296)) ((((rd l0 (wrap64 (a1 + 2))) % 4294967296) * 256) % 4294967296)) ((rd l0 (wrap64 (a1 + 3))) % 4294967296))) else (none)) else (none)) else (none)) else (none)) else (none)) else (none)) else (none)) else (none)) = some r := h
  clear h; by_cases c3 : 0 ≤ a1
  ·rw [if_pos c3] at H
   have c3b0 : decide (0 ≤ a1) = true := decide_eq_true c3
   clear c3; by_cases c4 : a1 < (l0.length : Int)
   ·rw [if_pos c4] at H
    have c4b0 : decide (a1 < (l0.length : Int)) = true := decide_eq_true c4
    clear c4; obtain ⟨ji5, hji5⟩ : ∃ j_ : Int, (wrap64 (a1 + 1)) = j_ := ⟨_, rfl⟩
    replace H : (if 0 ≤ (ji5) then (if (ji5) < (l0.length : Int) then (if 0 ≤ (wrap64 (a1 + 2)) then (if (wrap64 (a1 + 2)) < (l0.length : Int) then (if 0 ≤ (wrap64 (a1 + 3)) then (if (wrap64 (a1 + 3)) < (l0.length : Int) then (some (Go.bits .or .u32 (Go.bits .or .u32 (Go.bits .or .u32 ((((rd l0 a1) % 4294967296) * 16777216) % 4294967296) ((((rd l0 (ji5)) % 4294967296) * 65536) % 4294967296)) ((((rd l0 (wrap64 (a1 + 2))) % 4294967296) * 256) % 4294967296)) ((rd l0 (wrap64 (a1 + 3))) % 4294967296))) else (none)) else (none)) else (none)) else (none)) else (none)) else (none)) = some r := by first | (rw [hji5] at H; exact H) | (simp only [hji5] at H ⊢; exact H)
    have hji5w : (IntKind.i64.wrap (a1 + 1)) = ji5 := (i64_w _).trans hji5
    by_cases c6 : 0 ≤ (ji5)
    ·rw [if_pos c6] at H
     have c6b0 : decide (0 ≤ (ji5)) = true := decide_eq_true c6
     clear c6; by_cases c7 : (ji5) < (l0.length : Int)
     ·rw [if_pos c7] at H
      have c7b0 : decide ((ji5) < (l0.length : Int)) = true := decide_eq_true c7
      clear c7; obtain ⟨ji8, hji8⟩ : ∃ j_ : Int, (wrap64 (a1 + 2)) = j_ := ⟨_, rfl⟩
      replace H : (if 0 ≤ (ji8) then (if (ji8) < (l0.length : Int) then (if 0 ≤ (wrap64 (a1 + 3)) then (if (wrap64 (a1 + 3)) < (l0.length : Int) then (some (Go.bits .or .u32 (Go.bits .or .u32 (Go.bits .or .u32 ((((rd l0 a1) % 4294967296) * 16777216) % 4294967296) ((((rd l0 (ji5)) % 4294967296) * 65536) % 4294967296)) ((((rd l0 (ji8)) % 4294967296) * 256) % 4294967296)) ((rd l0 (wrap64 (a1 + 3))) % 4294967296))) else (none)) else (none)) else (none)) else (none)) = some r := by first | (rw [hji8] at H; exact H) | (simp only [hji8] at H ⊢; exact H)
      have hji8w : (IntKind.i64.wrap (a1 + 2)) = ji8 := (i64_w _).trans hji8
      by_cases c9 : 0 ≤ (ji8)
      ·rw [if_pos c9] at H
       have c9b0 : decide (0 ≤ (ji8)) = true := decide_eq_true c9
       clear c9; by_cases c10 : (ji8) < (l0.length : Int)
       ·rw [if_pos c10] at H
        have c10b0 : decide ((ji8) < (l0.length : Int)) = true := decide_eq_true c10
        clear c10; obtain ⟨ji11, hji11⟩ : ∃ j_ : Int, (wrap64 (a1 + 3)) = j_ := ⟨_, rfl⟩
        replace H : (if 0 ≤ (ji11) then (if (ji11) < (l0.length : Int) then (some (Go.bits .or .u32 (Go.bits .or .u32 (Go.bits .or .u32 ((((rd l0 a1) % 4294967296) * 16777216) % 4294967296) ((((rd l0 (ji5)) % 4294967296) * 65536) % 4294967296)) ((((rd l0 (ji8)) % 4294967296) * 256) % 4294967296)) ((rd l0 (ji11)) % 4294967296))) else (none)) else (none)) = some r := by first | (rw [hji11] at H; exact H) | (simp only [hji11] at H ⊢; exact H)
        have hji11w : (IntKind.i64.wrap (a1 + 3)) = ji11 := (i64_w _).trans hji11
        by_cases c12 : 0 ≤ (ji11)
        ·rw [if_pos c12] at H
         have c12b0 : decide (0 ≤ (ji11)) = true := decide_eq_true c12
         clear c12; by_cases c13 : (ji11) < (l0.length : Int)
         ·rw [if_pos c13] at H
          have c13b0 : decide ((ji11) < (l0.length : Int)) = true := decide_eq_true c13
          clear c13; obtain rfl := Option.some.inj H
          have p370 : 0 ≤ (a1 : Int) := of_decide_eq_true (by first | (with_reducible assumption) | assumption)
          have q370 : a1 < (l0.length : Int) := of_decide_eq_true (by first | (with_reducible assumption) | assumption)
          obtain ⟨ad370, e370, hx370_0⟩ := Kd.at_int HR0.out a1 p370 q370
          cases e370
          replace p370 := eq_true p370
          replace q370 := eq_true q370
          have p371 : 0 ≤ ((ji5) : Int) := of_decide_eq_true (by first | (with_reducible assumption) | assumption)
          have q371 : (ji5) < (l0.length : Int) := of_decide_eq_true (by first | (with_reducible assumption) | assumption)
          obtain ⟨ad371, e371, hx371_0⟩ := Kd.at_int HR0.out (ji5) p371 q371
          obtain rfl : ad370 = ad371 := (by injection e371)
          replace p371 := eq_true p371
          replace q371 := eq_true q371
          have p372 : 0 ≤ ((ji8) : Int) := of_decide_eq_true (by first | (with_reducible assumption) | assumption)
          have q372 : (ji8) < (l0.length : Int) := of_decide_eq_true (by first | (with_reducible assumption) | assumption)
          obtain ⟨ad372, e372, hx372_0⟩ := Kd.at_int HR0.out (ji8) p372 q372
          obtain rfl : ad370 = ad372 := (by injection e372)
          replace p372 := eq_true p372
          replace q372 := eq_true q372
          have p373 : 0 ≤ ((ji11) : Int) := of_decide_eq_true (by first | (with_reducible assumption) | assumption)
          have q373 : (ji11) < (l0.length : Int) := of_decide_eq_true (by first | (with_reducible assumption) | assumption)
          obtain ⟨ad373, e373, hx373_0⟩ := Kd.at_int HR0.out (ji11) p373 q373
          obtain rfl : ad370 = ad373 := (by injection e373)
          replace p373 := eq_true p373
          replace q373 := eq_true q373
          go_enter Tryd.func24, Tryd.ntmps24
          go_wp2
          repeat (go_quiet (fail); try go_wp2)
          go_ret
          exact ⟨by first | rfl | (simp; done) | (simp only [← hji5, ← hji8, ← hji11] <;> (first | rfl | simp)) | (simp [*]; done), by repeat (first | exact Drawn0.refl _ | apply Drawn0.step)⟩
         ·rw [if_neg c13] at H
          exact absurd H (by simp)
        ·rw [if_neg c12] at H
         exact absurd H (by simp)
       ·rw [if_neg c10] at H
        exact absurd H (by simp)
      ·rw [if_neg c9] at H
       exact absurd H (by simp)
     ·rw [if_neg c7] at H
      exact absurd H (by simp)
    ·rw [if_neg c6] at H
     exact absurd H (by simp)
   ·rw [if_neg c4] at H
    exact absurd H (by simp)
  ·rw [if_neg c3] at H
   exact absurd H (by simp)

/-! ### wristbandlaw02_bytes: function 25 -/
def wristbandlaw02_bytes.l0 : Nat → List Int → List Int → Int → Option (List Int)
  | 0, _, _, _ => none
  | k + 1, x0, x3, x4 => if x4 < (x0.length : Int) then (if 0 ≤ x4 then ((some (([((rd x0 x4) / 16777216) % 256, ((rd x0 x4) / 65536) % 256, ((rd x0 x4) / 256) % 256, (rd x0 x4) % 256] : List Int) : List Int)).bind fun y378 => (if x3.length + y378.length < 140737488355328 then (wristbandlaw02_bytes.l0 k x0 (x3 ++ y378) (wrap64 (x4 + 1))) else (none))) else (none)) else (some x3)
def wristbandlaw02_bytes.f (k : Nat) (l0 : List Int) : Option (List Int) := wristbandlaw02_bytes.l0 k l0 ([] : List Int) 0
theorem wristbandlaw02_bytes.mono_l : ∀ k, (∀ y0 y1 y2, LeO (wristbandlaw02_bytes.l0 k y0 y1 y2) (wristbandlaw02_bytes.l0 (k + 1) y0 y1 y2))
  | 0 => fun _ _ _ r h => by simp [wristbandlaw02_bytes.l0] at h
  | k + 1 => by
   have ih0 := wristbandlaw02_bytes.mono_l k
   ·intro y0 y1 y2
    unfold wristbandlaw02_bytes.l0
    repeat' first
    | (with_reducible exact ih0 _ _ _)
    | (with_reducible exact LeO.refl _)
    | (with_reducible exact LeO.none _)
    | (with_reducible refine LeO.ite ?_ ?_)
    | (with_reducible refine LeO.bind ?_ (fun _ => ?_))
    | exact ih0 _ _ _
    | exact LeO.none _
    | refine LeO.ite ?_ ?_
    | refine LeO.bind ?_ (fun _ => ?_)
theorem wristbandlaw02_bytes.mono : ∀ a0 k, LeO (wristbandlaw02_bytes.f k a0) (wristbandlaw02_bytes.f (k + 1) a0) := by
  intro a0 k; have ih0 := wristbandlaw02_bytes.mono_l k
  unfold wristbandlaw02_bytes.f
  repeat' first
    | (with_reducible exact ih0 _ _ _)
    | (with_reducible exact LeO.refl _)
    | (with_reducible exact LeO.none _)
    | (with_reducible refine LeO.ite ?_ ?_)
    | (with_reducible refine LeO.bind ?_ (fun _ => ?_))
    | exact ih0 _ _ _
    | exact LeO.none _
    | refine LeO.ite ?_ ?_
    | refine LeO.bind ?_ (fun _ => ?_)
def wristbandlaw02_bytes.T5 : Bool × List (List Nat × List Nat) := (true, [([], []), ([], []), ([], []), ([1, 2], [1, 2]), ([3], [3]), ([4], [4]), ([5], [5]), ([], []), ([], []), ([7, 8], [7, 8]), ([9], [9]), ([10], [10]), ([11], [11]), ([], []), ([], []), ([13, 14], [13, 14]), ([15], [15]), ([16], [16]), ([17], [17]), ([], []), ([], []), ([19, 20], [19, 20]), ([21], [21]), ([22], [22]), ([6, 12, 18, 23], [6, 12, 18, 23]), ([0, 24], [0, 24]), ([25, 25, 0, 1, 2, 3, 4, 5, 6, 7, 8, 9, 10, 11, 12, 13, 14, 15, 16, 17, 18, 19, 20, 21, 22, 23, 24, 25], [0, 25])])
def wristbandlaw02_bytes.B5 : List Nat := [0, 0, 0, 6, 14, 30, 62, 0, 0, 384, 896, 1920, 3968, 0, 0, 24576, 57344, 122880, 253952, 0, 0, 1572864, 3670016, 7864320, 16777214, 33554431, 67108863]
theorem wristbandlaw02_bytes.tab5 : rtab .any (opsOf Tryd.f25 5) = wristbandlaw02_bytes.T5 := by kernel_rfl
theorem wristbandlaw02_bytes.bits5 : waitsOk wristbandlaw02_bytes.T5.2 wristbandlaw02_bytes.B5 = true := by kernel_rfl
set_option maxHeartbeats 8000000 in
set_option maxRecDepth 100000 in
theorem wristbandlaw02_bytes.calls (k : Nat) (A0 : Option Addr) (c0 : Nat) (l0 : List Int) (r : List Int) (w : World) (hr0 : Kd.C (Kd.int .u32) w A0 l0.length l0) (hc0 : l0.length ≤ c0) (h : wristbandlaw02_bytes.f k l0 = some r) :
   Calls Tryd.prog 25 #[.slice A0 l0.length c0] w fun e w' => ∃ v0_ : Value, e = .returned (v0_) ∧ Kd.R (Kd.int .u8) 5 w' w.heap.size (fun _ => True) v0_ r ∧ Below w.heap.size w w' := by
  have HR0 := Aside0.mk hr0; have HC0 := Aside0.mk hc0; clear hr0 hc0; have HB := Aside0.mk (Below.refl w.heap.size w); have H : (wristbandlaw02_bytes.l0 k l0 ([] : List Int) 0) = some r := h
  clear h; have H' := Aside0.mk H; clear H; go_enter Tryd.func25, Tryd.ntmps25
  go_wp2
  go_loopg [3, 4] k (fun kq v3 v4 w' => ∃ (x3_1 : List Int) (x4_1 : Int), v4 = .int .i64 x4_1 ∧ Aside0 (wristbandlaw02_bytes.l0 kq l0 x3_1 x4_1 = some r) ∧ Aside0 (kq ≤ k) ∧ Aside0 (Kd.R (Kd.int .u8) 5 w' w.heap.size (fun _ => True) v3 x3_1) ∧ Aside0 (Below w.heap.size w w'))
  case atStart => exact ⟨(([] : List Int)), (0), (by first | rfl | (simp; done) | (simp [*]; done)), H', ⟨Nat.le_refl _⟩, ⟨by first | exact Kd.R_nil _ _ _ _ _ | exact Kd.N_nil _ _ _ _ _ | exact Kd.V_nil _ _ _ _ _ | exact Kd.Q_nil _ _ _ _ _ | exact Kd.S_nil _ _ _ _ _⟩, ⟨by repeat (first | (with_reducible first | exact HB.out | apply bA | apply bN | apply bD) | exact HB.out)⟩⟩
  case round =>
   clear H'; obtain ⟨x3_1, x4_1, rfl, HA, HK1, HO_3, HB⟩ := hrel
   cases gk with
   | zero => exact absurd HA.out (by simp [wristbandlaw02_bytes.l0])
   | succ k1 =>
    have H := HA.out
    clear HA; simp only [wristbandlaw02_bytes.l0] at H
    by_cases c2 : x4_1 < (l0.length : Int)
    ·rw [if_pos c2] at H
     have c2b0 : decide (x4_1 < (l0.length : Int)) = true := decide_eq_true c2
     clear c2; by_cases c3 : 0 ≤ x4_1
     ·rw [if_pos c3] at H
      have c3b0 : decide (0 ≤ x4_1) = true := decide_eq_true c3
      clear c3; obtain ⟨y378, hy378⟩ : ∃ y_ : List Int, y_ = (([((rd l0 x4_1) / 16777216) % 256, ((rd l0 x4_1) / 65536) % 256, ((rd l0 x4_1) / 256) % 256, (rd l0 x4_1) % 256] : List Int)) := ⟨_, rfl⟩
      replace H : (if x3_1.length + y378.length < 140737488355328 then (wristbandlaw02_bytes.l0 k1 l0 (x3_1 ++ y378) (wrap64 (x4_1 + 1))) else (none)) = some r := by first | (rw [hy378]; with_reducible exact H) | (have H2_ := (Option.bind_some _ _).symm.trans H; rw [hy378]; with_reducible exact H2_) | (have H2_ := (Option.bind_some _ _).symm.trans H; with_reducible exact H2_) | with_reducible exact H | (rw [hy378]; exact H) | exact H
      have Ny378 := Aside0.mk hy378; clear hy378; by_cases c4 : x3_1.length + y378.length < 140737488355328
      ·rw [if_pos c4] at H
       have LMc4 := Aside0.mk c4; clear c4; obtain ⟨y381, hy381⟩ : ∃ y_ : List Int, y_ = (x3_1 ++ y378) := ⟨_, rfl⟩
       replace H : (wristbandlaw02_bytes.l0 k1 l0 y381 (wrap64 (x4_1 + 1))) = some r := by first | (rw [hy381]; with_reducible exact H) | (have H2_ := (Option.bind_some _ _).symm.trans H; rw [hy381]; with_reducible exact H2_) | (have H2_ := (Option.bind_some _ _).symm.trans H; with_reducible exact H2_) | with_reducible exact H | (rw [hy381]; exact H) | exact H
       have Ny381 := Aside0.mk hy381; clear hy381; have H' := Aside0.mk H; clear H; try go_wp2
       have n0_ := Aside0.mk (Kd.R_drew HO_3.out); have n1_ := Aside0.mk (below_drew1 HB.out); clear HO_3; clear HB; have HO_3 := n0_; have HB := n1_; clear n0_ n1_; have p374 : 0 ≤ (x4_1 : Int) := of_decide_eq_true (by first | (with_reducible assumption) | assumption)
       have q374 : x4_1 < (l0.length : Int) := of_decide_eq_true (by first | (with_reducible assumption) | assumption)
       obtain ⟨ad374, e374, hx374_0⟩ := Kd.at_int HR0.out x4_1 p374 q374
       have hw374_0 := hx374_0
       cases e374
       replace hx374_0 := (HB.out.cell (World.block_lt_of_cell? w _ hx374_0)).trans hx374_0
       replace p374 := eq_true p374
       replace q374 := eq_true q374
       have p375 : 0 ≤ (x4_1 : Int) := of_decide_eq_true (by first | (with_reducible assumption) | assumption)
       have q375 : x4_1 < (l0.length : Int) := of_decide_eq_true (by first | (with_reducible assumption) | assumption)
       obtain ⟨ad375, e375, hx375_0⟩ := Kd.at_int HR0.out x4_1 p375 q375
       have hw375_0 := hx375_0
       obtain rfl : ad374 = ad375 := (by injection e375)
       replace hx375_0 := (HB.out.cell (World.block_lt_of_cell? w _ hx375_0)).trans hx375_0
       replace p375 := eq_true p375
       replace q375 := eq_true q375
       have p376 : 0 ≤ (x4_1 : Int) := of_decide_eq_true (by first | (with_reducible assumption) | assumption)
       have q376 : x4_1 < (l0.length : Int) := of_decide_eq_true (by first | (with_reducible assumption) | assumption)
       obtain ⟨ad376, e376, hx376_0⟩ := Kd.at_int HR0.out x4_1 p376 q376
       have hw376_0 := hx376_0
       obtain rfl : ad374 = ad376 := (by injection e376)
       replace hx376_0 := (HB.out.cell (World.block_lt_of_cell? w _ hx376_0)).trans hx376_0
       replace p376 := eq_true p376
       replace q376 := eq_true q376
       have p377 : 0 ≤ (x4_1 : Int) := of_decide_eq_true (by first | (with_reducible assumption) | assumption)
       have q377 : x4_1 < (l0.length : Int) := of_decide_eq_true (by first | (with_reducible assumption) | assumption)
       obtain ⟨ad377, e377, hx377_0⟩ := Kd.at_int HR0.out x4_1 p377 q377
       have hw377_0 := hx377_0
       obtain rfl : ad374 = ad377 := (by injection e377)
       replace hx377_0 := (HB.out.cell (World.block_lt_of_cell? w _ hx377_0)).trans hx377_0
       replace p377 := eq_true p377
       replace q377 := eq_true q377
       refine start_ (n := 27) (S := fun w' => w'.cell? (ad374.add (x4_1).toNat) = some (.int .u32 (rd l0 x4_1)) ∧ w'.cell? (ad374.add (x4_1).toNat) = some (.int .u32 (rd l0 x4_1)) ∧ w'.cell? (ad374.add (x4_1).toNat) = some (.int .u32 (rd l0 x4_1)) ∧ w'.cell? (ad374.add (x4_1).toNat) = some (.int .u32 (rd l0 x4_1))) (ds := []) #[false, false, false, false, false, false, false, false, false, false, false, false, false, false, false, false, false, false, false, false, false, false, false, false, false, false, false] (by kernel_rfl) rfl rfl ⟨((HB.out.cell (World.block_lt_of_cell? w _ hw374_0)).trans hw374_0), ((HB.out.cell (World.block_lt_of_cell? w _ hw375_0)).trans hw375_0), ((HB.out.cell (World.block_lt_of_cell? w _ hw376_0)).trans hw376_0), ((HB.out.cell (World.block_lt_of_cell? w _ hw377_0)).trans hw377_0)⟩ (fun hHeld => ?_); refine with_tabW wristbandlaw02_bytes.tab5 wristbandlaw02_bytes.bits5 (fun HT_ HW_ => ?_)
       generalize wr.drew = w5 at HO_3 HB hx374_0 hx375_0 hx376_0 hx377_0 hHeld ⊢
       refine pu_ 0 11 (rA [1,26]) HT_ (by kernel_rfl) rfl rfl (fun _ _ _ => id) (.inl ⟨by rfl, fun w' => by go_simp; with_reducible rfl⟩) (by simp only [Act.put, sA, s0, sS, i64_w, i32_w]; rfl) ?_
       refine pu_ 1 12 (rA [2,25]) HT_ (by kernel_rfl) rfl rfl (fun _ _ _ => id) (.inl ⟨by rfl, fun w' => by go_simp; with_reducible rfl⟩) (by simp only [Act.put, sA, s0, sS, i64_w, i32_w]; rfl) ?_
       refine pu_ 2 13 (rA [3,24]) HT_ (by kernel_rfl) rfl rfl (fun _ _ _ => id) (.inl ⟨by rfl, fun w' => by go_simp; with_reducible rfl⟩) (by simp only [Act.put, sA, s0, sS, i64_w, i32_w]; rfl) ?_
       refine pu_ 3 14 (rA [4,23]) HT_ (by kernel_rfl) rfl rfl (fun _ _ _ => id) (.inl ⟨by rfl, fun w' => by go_simp; with_reducible rfl⟩) (by simp only [Act.put, sA, s0, sS, i64_w, i32_w]; rfl) ?_
       refine pu_ 7 18 (rA [4,3,1,19]) HT_ (by kernel_rfl) rfl rfl (fun _ _ _ => id) (.inl ⟨by rfl, fun w' => by go_simp; with_reducible rfl⟩) (by simp only [Act.put, sA, s0, sS, i64_w, i32_w]; rfl) ?_
       refine pu_ 8 19 (rA [4,3,2,18]) HT_ (by kernel_rfl) rfl rfl (fun _ _ _ => id) (.inl ⟨by rfl, fun w' => by go_simp; with_reducible rfl⟩) (by simp only [Act.put, sA, s0, sS, i64_w, i32_w]; rfl) ?_
       refine pu_ 9 20 (rA [4,3,3,17]) HT_ (by kernel_rfl) rfl rfl (fun _ _ _ => id) (.inl ⟨by rfl, fun w' => by go_simp; with_reducible rfl⟩) (by simp only [Act.put, sA, s0, sS, i64_w, i32_w]; rfl) ?_
       refine pu_ 13 24 (rA [4,3,3,3,1,13]) HT_ (by kernel_rfl) rfl rfl (fun _ _ _ => id) (.inl ⟨by rfl, fun w' => by go_simp; with_reducible rfl⟩) (by simp only [Act.put, sA, s0, sS, i64_w, i32_w]; rfl) ?_
       refine pu_ 14 25 (rA [4,3,3,3,2,12]) HT_ (by kernel_rfl) rfl rfl (fun _ _ _ => id) (.inl ⟨by rfl, fun w' => by go_simp; with_reducible rfl⟩) (by simp only [Act.put, sA, s0, sS, i64_w, i32_w]; rfl) ?_
       refine pu_ 15 26 (rA [4,3,3,3,3,11]) HT_ (by kernel_rfl) rfl rfl (fun _ _ _ => id) (.inl ⟨by rfl, fun w' => by go_simp; with_reducible rfl⟩) (by simp only [Act.put, sA, s0, sS, i64_w, i32_w]; rfl) ?_
       refine pu_ 19 30 (rA [4,3,3,3,3,3,1,7]) HT_ (by kernel_rfl) rfl rfl (fun _ _ _ => id) (.inl ⟨by rfl, fun w' => by go_simp; with_reducible rfl⟩) (by simp only [Act.put, sA, s0, sS, i64_w, i32_w]; rfl) ?_
       refine pu_ 20 31 (rA [4,3,3,3,3,3,2,6]) HT_ (by kernel_rfl) rfl rfl (fun _ _ _ => id) (.inl ⟨by rfl, fun w' => by go_simp; with_reducible rfl⟩) (by simp only [Act.put, sA, s0, sS, i64_w, i32_w]; rfl) ?_
       refine pu_ 21 32 (rA [4,3,3,3,3,3,3,5]) HT_ (by kernel_rfl) rfl rfl (fun _ _ _ => id) (.inl ⟨by rfl, fun w' => by go_simp; with_reducible rfl⟩) (by simp only [Act.put, sA, s0, sS, i64_w, i32_w]; rfl) ?_
       refine take_ (i := 4) (N := some 15) (v := ?_) (a' := ?_) #[true, true, true, true, true, false, false, true, true, true, false, false, false, true, true, true, false, false, false, true, true, true, false, false, false, false, false] rfl rfl (take_ofW HT_.out HW_.out (by kernel_rfl)) (fun _ _ _ h => h) (Or.inl ⟨by rfl, ?_⟩) hHeld ?_ ?_
       rotate_left
       ·rintro w' ⟨s0, s1, s2, s3⟩
        go_simp
        with_reducible rfl
       rotate_left
       ·simp only [Act.put, sA, s0, sS, i64_w, i32_w]
        rfl
       refine pu_ 5 16 (rA [6,1,3,3,3,3,3,5]) HT_ (by kernel_rfl) rfl rfl (fun _ _ _ => id) (.inl ⟨by rfl, fun w' => by go_simp; with_reducible rfl⟩) (by simp only [Act.put, sA, s0, sS, i64_w, i32_w]; rfl) ?_
       refine pu_ 6 17 (rA [10,3,3,3,3,5]) HT_ (by kernel_rfl) rfl rfl (fun _ _ _ => id) (.inl ⟨by rfl, fun w' => by go_simp; with_reducible rfl⟩) (by simp only [Act.put, sA, s0, sS, i64_w, i32_w]; rfl) ?_
       refine take_ (i := 10) (N := some 21) (v := ?_) (a' := ?_) #[true, true, true, true, true, true, true, true, true, true, true, false, false, true, true, true, false, false, false, true, true, true, false, false, false, false, false] rfl rfl (take_ofW HT_.out HW_.out (by kernel_rfl)) (fun _ _ _ h => h) (Or.inl ⟨by rfl, ?_⟩) hHeld ?_ ?_
       rotate_left
       ·rintro w' ⟨s0, s1, s2, s3⟩
        go_simp
        with_reducible rfl
       rotate_left
       ·simp only [Act.put, sA, s0, sS, i64_w, i32_w]
        rfl
       refine pu_ 11 22 (rA [12,1,3,3,3,5]) HT_ (by kernel_rfl) rfl rfl (fun _ _ _ => id) (.inl ⟨by rfl, fun w' => by go_simp; with_reducible rfl⟩) (by simp only [Act.put, sA, s0, sS, i64_w, i32_w]; rfl) ?_
       refine pu_ 12 23 (rA [16,3,3,5]) HT_ (by kernel_rfl) rfl rfl (fun _ _ _ => id) (.inl ⟨by rfl, fun w' => by go_simp; with_reducible rfl⟩) (by simp only [Act.put, sA, s0, sS, i64_w, i32_w]; rfl) ?_
       refine take_ (i := 16) (N := some 27) (v := ?_) (a' := ?_) #[true, true, true, true, true, true, true, true, true, true, true, true, true, true, true, true, true, false, false, true, true, true, false, false, false, false, false] rfl rfl (take_ofW HT_.out HW_.out (by kernel_rfl)) (fun _ _ _ h => h) (Or.inl ⟨by rfl, ?_⟩) hHeld ?_ ?_
       rotate_left
       ·rintro w' ⟨s0, s1, s2, s3⟩
        go_simp
        with_reducible rfl
       rotate_left
       ·simp only [Act.put, sA, s0, sS, i64_w, i32_w]
        rfl
       refine pu_ 17 28 (rA [18,1,3,5]) HT_ (by kernel_rfl) rfl rfl (fun _ _ _ => id) (.inl ⟨by rfl, fun w' => by go_simp; with_reducible rfl⟩) (by simp only [Act.put, sA, s0, sS, i64_w, i32_w]; rfl) ?_
       refine pu_ 18 29 (rA [22,5]) HT_ (by kernel_rfl) rfl rfl (fun _ _ _ => id) (.inl ⟨by rfl, fun w' => by go_simp; with_reducible rfl⟩) (by simp only [Act.put, sA, s0, sS, i64_w, i32_w]; rfl) ?_
       refine take_ (i := 22) (N := some 33) (v := ?_) (a' := ?_) #[true, true, true, true, true, true, true, true, true, true, true, true, true, true, true, true, true, true, true, true, true, true, true, false, false, false, false] rfl rfl (take_ofW HT_.out HW_.out (by kernel_rfl)) (fun _ _ _ h => h) (Or.inl ⟨by rfl, ?_⟩) hHeld ?_ ?_
       rotate_left
       ·rintro w' ⟨s0, s1, s2, s3⟩
        go_simp
        with_reducible rfl
       rotate_left
       ·simp only [Act.put, sA, s0, sS, i64_w, i32_w]
        rfl
       refine pu_ 23 34 (rA [24,3]) HT_ (by kernel_rfl) rfl rfl (fun _ _ _ => id) (.inl ⟨by rfl, fun w' => by go_simp; with_reducible rfl⟩) (by simp only [Act.put, sA, s0, sS, i64_w, i32_w]; rfl) ?_
       refine one_ (i := 24) (N := some 35) (rA [25,2]) rfl rfl (one_of HT_.out (by kernel_rfl)) (by decide) (fun K hK => ?_)
       refine Kd.R_lit_step (Kd.int .u8) _ 5 ?hg (N := 35) ?hd (xs := ([((rd l0 x4_1) / 16777216) % 256, ((rd l0 x4_1) / 65536) % 256, ((rd l0 x4_1) / 256) % 256, (rd l0 x4_1) % 256] : List Int)) (inner := [.int .u8 (((rd l0 x4_1) / 16777216) % 256), .int .u8 (((rd l0 x4_1) / 65536) % 256), .int .u8 (((rd l0 x4_1) / 256) % 256), .int .u8 ((rd l0 x4_1) % 256)]) (ok := fun _ => True) (okp := fun _ => True) ?hr ?hp (fun _ hk => hk) trivial (Below.refl _ _) (Nat.le_refl _) (by simp) ?_; (case hd => rfl); (case hg => rfl); (case hr => first | (go_simp; done) | (go_simp; rfl)); (case hp => exact (Reps.one (show Kd.M (Kd.int .u8) _ _ _ (((rd l0 x4_1) / 16777216) % 256) [.int .u8 (((rd l0 x4_1) / 16777216) % 256)] from rfl) (Reps.one (show Kd.M (Kd.int .u8) _ _ _ (((rd l0 x4_1) / 65536) % 256) [.int .u8 (((rd l0 x4_1) / 65536) % 256)] from rfl) (Reps.one (show Kd.M (Kd.int .u8) _ _ _ (((rd l0 x4_1) / 256) % 256) [.int .u8 (((rd l0 x4_1) / 256) % 256)] from rfl) (Reps.one (show Kd.M (Kd.int .u8) _ _ _ ((rd l0 x4_1) % 256) [.int .u8 ((rd l0 x4_1) % 256)] from rfl) (Reps.none _ _))))))
       intro v379 w6 ho7 hb hg_ hnew_; clear hg_ hnew_
       (first | rw [← Ny378.out] at ho7 | (simp only [Int.reduceToNat] at ho7; rw [← Ny378.out] at ho7)); have n0_ := Aside0.mk (Kd.R_elder' (by (with_reducible repeat (first | apply rL | apply rN | apply rW)); exact HO_3.out) (Kd.R_base ho7) hb); have n1_ := Aside0.mk (Kd.R_lower (Kd.R_new' ho7 (Kd.R_lt (by (with_reducible repeat (first | apply rL | apply rN | apply rW)); exact HO_3.out))) (below_size (by repeat (first | (with_reducible first | exact HB.out | apply bA | apply bN | apply bD) | exact HB.out)))); have n2_ := Aside0.mk (below_step (by repeat (first | (with_reducible first | exact HB.out | apply bA | apply bN | apply bD) | exact HB.out)) hb); clear HO_3
       clear HB; have HO_3 := n0_; have HO380 := n1_; have HB := n2_; clear n0_ n1_ n2_; clear hb ho7; obtain ⟨Ao9, co9, eo9⟩ := Kd.R_slice HO380.out
       (first | subst eo9 | (injection eo9 with f1_ f2_ f3_; have f4_ := f1_.symm; have f5_ := f3_.symm; clear f1_ f2_ f3_; subst f4_; subst f5_)); refine hK.out _ _ ⟨((HB.out.cell (World.block_lt_of_cell? w _ hw374_0)).trans hw374_0), ((HB.out.cell (World.block_lt_of_cell? w _ hw375_0)).trans hw375_0), ((HB.out.cell (World.block_lt_of_cell? w _ hw376_0)).trans hw376_0), ((HB.out.cell (World.block_lt_of_cell? w _ hw377_0)).trans hw377_0)⟩ (fun hHeld => ?_)
       clear hK K; refine norm_ (a' := ?_) ?_ ?_
       rotate_left
       ·show Act.put _ (some 35) _ = _
        simp only [Act.put, sA, s0, sS, i64_w, i32_w]
        rfl
       refine one_ (i := 25) (N := some 36) (rA [26,1]) rfl rfl (one_of HT_.out (by kernel_rfl)) (by decide) (fun K hK => ?_)
       refine Kd.R_append_rows_step (Kd.int .u8) (w0 := w) w.heap.size (by rfl) (.tmp 11) (.tmp 35) 24 5 (.int .u8 0) 1 rfl Tryd.underlying24 info5 rfl (by decide) (by omega) u3 x3_1 y378 _ _ _ (fun k_ => some k_ ≠ (.slice Ao9 y378.length co9 : Value).ownBlock) (fun _ => False) rfl rfl ?aO ?aR (fun _ _ h => h) (fun _ h => h.elim) ?aF ?aB ?aS ?aL ?_
       (case aR => repeat (first | exact (Kd.R_reads' HO380.out).2.2 | (with_reducible refine Kd.C_alloc ?_ _) | (with_reducible refine Kd.C_drewN ?_ _) | (with_reducible refine Kd.C_drew ?_)))
       (case aB => exact (by repeat (first | (with_reducible first | exact HB.out | apply bA | apply bN | apply bD) | exact HB.out)))
       (case aF => exact (fun k_ hk => Kd.fresh' (Kd.R_lt (by (with_reducible repeat (first | apply rL | apply rN | apply rW)); exact HO380.out)) k_ hk))
       (case aO => exact (by (with_reducible repeat (first | apply rL | apply rN | apply rW)); exact Kd.R_mono HO_3.out (fun _ hk => hk.2)))
       (case aS => exact (below_size (by repeat (first | (with_reducible first | exact HB.out | apply bA | apply bN | apply bD) | exact HB.out))))
       (case aL => have := LMc4.out; omega)
       intro v382 w8 ho hb hg hat; rw [← Ny381.out] at ho
       have n0_ := Aside0.mk (Kd.R_after (ok := (fun _ => True)) (by (with_reducible repeat (first | apply rL | apply rN | apply rW)); exact HO380.out) hg hat); have n1_ := Aside0.mk (hb); have n2_ := Aside0.mk (ho); clear HO380; clear HB; clear HO_3; have HO380 := n0_; have HB := n1_; have HO383 := n2_; clear n0_ n1_ n2_; clear ho hb hg hat; refine hK.out _ _ ⟨((HB.out.cell (World.block_lt_of_cell? w _ hw374_0)).trans hw374_0), ((HB.out.cell (World.block_lt_of_cell? w _ hw375_0)).trans hw375_0), ((HB.out.cell (World.block_lt_of_cell? w _ hw376_0)).trans hw376_0), ((HB.out.cell (World.block_lt_of_cell? w _ hw377_0)).trans hw377_0)⟩ (fun hHeld => ?_)
       clear hK K; refine norm_ (a' := ?_) ?_ ?_
       rotate_left
       ·show Act.put _ (some 36) _ = _
        simp only [Act.put, sA, s0, sS, i64_w, i32_w]
        rfl
       refine pu_ 26 3 (rA [27]) HT_ (by kernel_rfl) rfl rfl (fun _ _ _ => id) (.inl ⟨by rfl, fun w' => by go_simp; with_reducible rfl⟩) (by simp only [Act.put, sA, s0, sS, i64_w, i32_w]; rfl) ?_
       refine done_ (done_of HT_.out (by kernel_rfl)) ?_
       try go_wp2
       go_roundg k1
       case measure => have := HK1.out; omega
       case rel => exact ⟨(y381), (wrap64 (x4_1 + 1)), (by first | rfl | (simp; done) | (simp [*]; done)), H', ⟨by have := HK1.out; omega⟩, ⟨by (with_reducible repeat (first | apply rL | apply rN | apply rW)); exact Kd.R_mono HO383.out (fun _ hk => trivial)⟩, ⟨by repeat (first | (with_reducible first | exact HB.out | apply bA | apply bN | apply bD) | exact HB.out)⟩⟩
      ·rw [if_neg c4] at H
       exact absurd H (by simp)
     ·rw [if_neg c3] at H
      exact absurd H (by simp)
    ·rw [if_neg c2] at H
     have c2b0 : decide (x4_1 < (l0.length : Int)) = false := decide_eq_false c2
     clear c2; obtain rfl := Option.some.inj H
     go_wp2
     go_ret
     exact ⟨_, by first | rfl | (simp [errW_none, errW_some] <;> rfl) | (simp [*, errW_none, errW_some] <;> rfl), by (with_reducible repeat (first | apply rL | apply rN | apply rW)); exact HO_3.out, by repeat (first | (with_reducible first | exact HB.out | apply bA | apply bN | apply bD) | exact HB.out)⟩

end Go.Proofs.YtnpkhkhlofkbhaaDoor.PShaRight
