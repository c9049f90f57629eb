-- made by a program of this session (its printer) out of what Lean prints of the given program
import Derived.Test.YtnpkhkhlofkbhaaPFrameRightx0
import Derived.Test.YtnpkhkhlofkbhaaPFrameRightx3
namespace Go.Proofs.Ytnpkhkhlofkbhaa.PFrameRight
open Go.RowKit Go.Proofs.YtnpkhkhlofkbhaaW.PrintWords Go.Proofs.YtnpkhkhlofkbhaaW.PrintLast Go.Proofs.YtnpkhkhlofkbhaaW.PrintMore
attribute [local go_sem] max2_int min2_int max_two min_two max_three min_three max_four min_four   -- for this text's walks alone
set_option linter.unusedVariables false
set_option linter.unusedSimpArgs false

/-! ### wristbandref12_Read: function 73 -/
def wristbandref12_Read.l0 : Nat → List Int → Int → List Int → Int → Option (Int × Int × Int × List Int × Int)
  | 0, _, _, _, _ => none
  | k + 1, x0, x4, x5, x6 => if x6 < 3 then (if x4 ≥ (x0.length : Int) then (some (0, 0, 0, ([] : List Int), 2)) else (if 0 ≤ x4 then (if x4 < (x0.length : Int) then (if (wrap64 (rd x0 x4)) > 8 then (some (0, 0, 0, ([] : List Int), 4)) else (if (wrap64 ((x0.length : Int) - (wrap64 (x4 + 1)))) < (wrap64 (rd x0 x4)) then (some (0, 0, 0, ([] : List Int), 2)) else (if (wrap64 (rd x0 x4)) > 0 then (if 0 ≤ (wrap64 (x4 + 1)) then (if (wrap64 (x4 + 1)) < (x0.length : Int) then (if (rd x0 (wrap64 (x4 + 1))) = 0 then (some (0, 0, 0, ([] : List Int), 3)) else (if (wrap64 (x4 + 1)) ≤ (wrap64 ((wrap64 (x4 + 1)) + (wrap64 (rd x0 x4)))) then (if (wrap64 ((wrap64 (x4 + 1)) + (wrap64 (rd x0 x4)))) ≤ (x0.length : Int) then ((wristbandref01_Value.f k ((x0.take ((wrap64 ((wrap64 (x4 + 1)) + (wrap64 (rd x0 x4)))) : Int).toNat).drop ((wrap64 (x4 + 1)) : Int).toNat)).bind fun t262 => (if x5.length < 17592186044416 then (wristbandref12_Read.l0 k x0 (wrap64 ((wrap64 (x4 + 1)) + (wrap64 (rd x0 x4)))) (x5 ++ [t262]) (wrap64 (x6 + 1))) else (none))) else (none)) else (none))) else (none)) else (none)) else (if 0 ≤ (wrap64 (x4 + 1)) then (if (wrap64 (x4 + 1)) ≤ (wrap64 ((wrap64 (x4 + 1)) + (wrap64 (rd x0 x4)))) then (if (wrap64 ((wrap64 (x4 + 1)) + (wrap64 (rd x0 x4)))) ≤ (x0.length : Int) then ((wristbandref01_Value.f k ((x0.take ((wrap64 ((wrap64 (x4 + 1)) + (wrap64 (rd x0 x4)))) : Int).toNat).drop ((wrap64 (x4 + 1)) : Int).toNat)).bind fun t267 => (if x5.length < 17592186044416 then (wristbandref12_Read.l0 k x0 (wrap64 ((wrap64 (x4 + 1)) + (wrap64 (rd x0 x4)))) (x5 ++ [t267]) (wrap64 (x6 + 1))) else (none))) else (none)) else (none)) else (none))))) else (none)) else (none))) else (if (wrap64 ((x0.length : Int) - x4)) < 8 then (some (0, 0, 0, ([] : List Int), 2)) else (if (wrap64 ((x0.length : Int) - x4)) > 8 then (some (0, 0, 0, ([] : List Int), 4)) else (if 0 < (x5.length : Int) then (if 1 < (x5.length : Int) then (if 2 < (x5.length : Int) then ((some (([] : List Int) : List Int)).bind fun y274 => (if 0 ≤ x4 then (if x4 ≤ (x0.length : Int) then (if y274.length + (x0.drop (x4 : Int).toNat).length < 140737488355328 then (some (rd x5 0, rd x5 1, rd x5 2, (y274 ++ (x0.drop (x4 : Int).toNat)), 0)) else (none)) else (none)) else (none))) else (none)) else (none)) else (none))))
def wristbandref12_Read.f (k : Nat) (l0 : List Int) : Option (Int × Int × Int × List Int × Int) := if (l0.length : Int) = 0 then (some (0, 0, 0, ([] : List Int), 2)) else (if 0 < (l0.length : Int) then (if (rd l0 0) = 87 then (wristbandref12_Read.l0 k l0 1 ([] : List Int) 0) else (some (0, 0, 0, ([] : List Int), 3))) else (none))
theorem wristbandref12_Read.mono_l : ∀ k, (∀ y0 y1 y2 y3, LeO (wristbandref12_Read.l0 k y0 y1 y2 y3) (wristbandref12_Read.l0 (k + 1) y0 y1 y2 y3))
  | 0 => fun _ _ _ _ r h => by simp [wristbandref12_Read.l0] at h
  | k + 1 => by
    have ih0 := wristbandref12_Read.mono_l k
    · intro y0 y1 y2 y3
      unfold wristbandref12_Read.l0
      repeat' first
      | (with_reducible exact ih0 _ _ _ _)
      | (with_reducible exact wristbandref01_Value.mono _ _)
      | (with_reducible exact LeO.refl _)
      | (with_reducible exact LeO.none _)
      | (with_reducible refine LeO.ite ?_ ?_)
      | (with_reducible refine LeO.bind ?_ (fun _ => ?_))
      | exact ih0 _ _ _ _
      | exact wristbandref01_Value.mono _ _
      | exact LeO.none _
      | refine LeO.ite ?_ ?_
      | refine LeO.bind ?_ (fun _ => ?_)
theorem wristbandref12_Read.mono : ∀ a0 k, LeO (wristbandref12_Read.f k a0) (wristbandref12_Read.f (k + 1) a0) := by
  intro a0 k
  have ih0 := wristbandref12_Read.mono_l k
  unfold wristbandref12_Read.f
  repeat' first
      | (with_reducible exact ih0 _ _ _ _)
      | (with_reducible exact wristbandref01_Value.mono _ _)
      | (with_reducible exact LeO.refl _)
      | (with_reducible exact LeO.none _)
      | (with_reducible refine LeO.ite ?_ ?_)
      | (with_reducible refine LeO.bind ?_ (fun _ => ?_))
      | exact ih0 _ _ _ _
      | exact wristbandref01_Value.mono _ _
      | exact LeO.none _
      | refine LeO.ite ?_ ?_
      | refine LeO.bind ?_ (fun _ => ?_)
def wristbandref12_Read.T26 : Bool × List (List Nat × List Nat) := (true, [([], []), ([0], [0]), ([1], [1]), ([], []), ([3], [3]), ([4], [4]), ([], []), ([6], [6]), ([7], [7]), ([], []), ([], []), ([], []), ([10, 11], [10, 11]), ([9, 12], [9, 12]), ([2, 5, 8, 13], [2, 5, 8, 13]), ([14, 13, 0, 1, 2, 3, 4, 5, 6, 7, 8, 9, 10, 11, 12, 13, 14], [14]), ([15, 0, 1, 2, 3, 4, 5, 6, 7, 8, 9, 10, 11, 12, 13, 14, 15], [])])
def wristbandref12_Read.B26 : List Nat := [0, 1, 3, 0, 8, 24, 0, 64, 192, 0, 0, 0, 3072, 7680, 16383, 32767, 65535]
theorem wristbandref12_Read.tab26 : rtab .any (opsOf Try.f73 26) = wristbandref12_Read.T26 := by kernel_rfl
theorem wristbandref12_Read.bits26 : waitsOk wristbandref12_Read.T26.2 wristbandref12_Read.B26 = true := by kernel_rfl
set_option maxHeartbeats 8000000 in
set_option maxRecDepth 100000 in
theorem wristbandref12_Read.calls (k : Nat) (A0 : Option Addr) (c0 : Nat) (l0 : List Int) (r1 : Int) (r2 : Int) (r3 : Int) (r4 : List Int) (r5 : Int) (w : World) (hr0 : Kd.C (Kd.int .u8) w A0 l0.length l0) (hc0 : l0.length ≤ c0) (h : wristbandref12_Read.f k l0 = some (r1, r2, r3, r4, r5)) :
    Calls Try.prog 73 #[.slice A0 l0.length c0] w fun e w' => ∃ v3_ : Value, e = .returned (.tuple #[.agg #[.int .u64 r1, .int .u64 r2, .int .u64 r3, v3_], .int .i64 r5]) ∧ Kd.R (Kd.int .u8) 5 w' w.heap.size (fun _ => True) v3_ r4 ∧ Below w.heap.size w w' := by
  have hu91 := Try.underlying91
  have HR0 := Aside0.mk hr0
  have HC0 := Aside0.mk hc0
  clear hr0 hc0
  have HB := Aside0.mk (Below.refl w.heap.size w)
  have H : (if (l0.length : Int) = 0 then (some (0, 0, 0, ([] : List Int), 2)) else (if 0 < (l0.length : Int) then (if (rd l0 0) = 87 then (wristbandref12_Read.l0 k l0 1 ([] : List Int) 0) else (some (0, 0, 0, ([] : List Int), 3))) else (none))) = some (r1, r2, r3, r4, r5) := h
  clear h
  by_cases c2 : (l0.length : Int) = 0
  · rw [if_pos c2] at H
    have c2b0 : ((l0.length : Int) == 0) = true := beq_iff_eq.mpr c2
    have c2b1 : ((l0.length : Int) != 0) = false := bne_eq_false_iff_eq.mpr c2
    clear c2
    simp only [Option.some.injEq, Prod.mk.injEq] at H
    obtain ⟨rfl, rfl, rfl, rfl, rfl⟩ := H
    go_enter Try.func73, Try.ntmps73
    go_wp2_with (first | ((with_reducible refine gate_dst (N := 2) rfl ?_); refine box_event ?hg (N := 2) ?hd (cs := #[.int .u64 0, .int .u64 0, .int .u64 0, .slice none 0 0]) (t := 91) ?hr ?_; (case hd => rfl); (case hg => rfl); (case hr => first | (go_simp; done) | (go_simp; rfl)); intro gb257 hg w3 hbox hb; have n0_ := Aside0.mk (below_step (by repeat (first | (with_reducible first | exact HB.out | apply below_alloc | apply pw_below_drewN | apply below_drew1) | exact HB.out)) hb); have n1_ := Aside0.mk (hbox); have n2_ := Aside0.mk ((by rw [hg]; exact (below_size (by repeat (first | (with_reducible first | exact HB.out | apply below_alloc | apply pw_below_drewN | apply below_drew1) | exact HB.out))) : w.heap.size ≤ gb257)); have n3_ := Aside0.mk ((by rw [hg]; exact (below_size (by repeat (first | (with_reducible first | exact HB.out | apply below_alloc | apply pw_below_drewN | apply below_drew1) | exact HB.out))) : w.heap.size ≤ gb257)); clear HB; have HB := n0_; have BK257 := n1_; have GW257 := n2_; have GE257 := n3_; clear n0_ n1_ n2_ n3_; clear hb hbox hg; have hcz4_0 : w3.cell? ⟨gb257, 0, none⟩ = some (.int .u64 0) := (blk_cell BK257.out 0).trans rfl; have hcz4_1 : w3.cell? ⟨gb257, 1, none⟩ = some (.int .u64 0) := (blk_cell BK257.out 1).trans rfl; have hcz4_2 : w3.cell? ⟨gb257, 2, none⟩ = some (.int .u64 0) := (blk_cell BK257.out 2).trans rfl; have hcz4_3 : w3.cell? ⟨gb257, 3, none⟩ = some (.slice none 0 0) := (blk_cell BK257.out 3).trans rfl; have hfz4_0 := blk_frozen BK257.out 0; have hfz4_1 := blk_frozen BK257.out 1; have hfz4_2 := blk_frozen BK257.out 2; have hfz4_3 := blk_frozen BK257.out 3))
    refine bodyPost_ret (results_ct rfl _ _ gb257 91 #[.int .u64 0, .int .u64 0, .int .u64 0, .slice none 0 0] (0, 0) _ rfl (by (with_reducible repeat (first | refine blk_drewN ?_ _ | refine blk_drew ?_ | refine blk_alloc ?_ _)); refine blk_put (cs := #[.int .u64 0, .int .u64 0, .int .u64 0, .slice none 0 0]) ?_ 3 _ rfl; (with_reducible repeat (first | refine blk_drewN ?_ _ | refine blk_drew ?_ | refine blk_alloc ?_ _)); refine blk_put (cs := #[.int .u64 0, .int .u64 0, .int .u64 0, .slice none 0 0]) ?_ 2 _ rfl; (with_reducible repeat (first | refine blk_drewN ?_ _ | refine blk_drew ?_ | refine blk_alloc ?_ _)); refine blk_put (cs := #[.int .u64 0, .int .u64 0, .int .u64 0, .slice none 0 0]) ?_ 1 _ rfl; (with_reducible repeat (first | refine blk_drewN ?_ _ | refine blk_drew ?_ | refine blk_alloc ?_ _)); refine blk_put (cs := #[.int .u64 0, .int .u64 0, .int .u64 0, .slice none 0 0]) ?_ 0 _ rfl; (with_reducible repeat (first | refine blk_drewN ?_ _ | refine blk_drew ?_ | refine blk_alloc ?_ _)); exact BK257.out) Try.underlying91 rfl (by kernel_rfl)) rfl ?_
    exact ⟨_, by first | rfl | (simp [errW_none, errW_some] <;> rfl) | (simp [*, errW_none, errW_some] <;> rfl), by first | exact Kd.R_nil _ _ _ _ _ | exact Kd.N_nil _ _ _ _ _ | exact Kd.V_nil _ _ _ _ _ | exact Kd.Q_nil _ _ _ _ _ | exact Kd.S_nil _ _ _ _ _, by repeat (first | (with_reducible first | exact HB.out | apply below_alloc | apply pw_below_drewN | apply below_drew1 | refine below_set ?_ GE257.out) | exact HB.out)⟩
  · rw [if_neg c2] at H
    have c2b0 : ((l0.length : Int) == 0) = false := beq_eq_false_iff_ne.mpr c2
    have c2b1 : ((l0.length : Int) != 0) = true := bne_iff_ne.mpr c2
    have c2b2 : ¬ (l0 = []) := fun h_ => c2 (by rw [h_]; rfl)
    by_cases c5 : 0 < (l0.length : Int)
    · rw [if_pos c5] at H
      have c5b0 : decide (0 < (l0.length : Int)) = true := decide_eq_true c5
      have c5b1 : decide (0 < l0.length) = true := decide_eq_true (by omega)
      clear c5
      by_cases c6 : (rd l0 0) = 87
      · rw [if_pos c6] at H
        have c6b0 : ((rd l0 0) == 87) = true := beq_iff_eq.mpr c6
        have c6b1 : ((rd l0 0) != 87) = false := bne_eq_false_iff_eq.mpr c6
        clear c6
        have H' := Aside0.mk H
        clear H
        go_enter Try.func73, Try.ntmps73
        go_wp2_with (first | ((with_reducible refine gate_dst (N := 2) rfl ?_); refine box_event ?hg (N := 2) ?hd (cs := #[.int .u64 0, .int .u64 0, .int .u64 0, .slice none 0 0]) (t := 91) ?hr ?_; (case hd => rfl); (case hg => rfl); (case hr => first | (go_simp; done) | (go_simp; rfl)); intro gb257 hg w7 hbox hb; have n0_ := Aside0.mk (below_step (by repeat (first | (with_reducible first | exact HB.out | apply below_alloc | apply pw_below_drewN | apply below_drew1) | exact HB.out)) hb); have n1_ := Aside0.mk (hbox); have n2_ := Aside0.mk ((by rw [hg]; exact (below_size (by repeat (first | (with_reducible first | exact HB.out | apply below_alloc | apply pw_below_drewN | apply below_drew1) | exact HB.out))) : w.heap.size ≤ gb257)); have n3_ := Aside0.mk ((by rw [hg]; exact (below_size (by repeat (first | (with_reducible first | exact HB.out | apply below_alloc | apply pw_below_drewN | apply below_drew1) | exact HB.out))) : w.heap.size ≤ gb257)); clear HB; have HB := n0_; have BK257 := n1_; have GW257 := n2_; have GE257 := n3_; clear n0_ n1_ n2_ n3_; clear hb hbox hg; have p258 : 0 ≤ (0 : Int) := (by omega); have q258 : 0 < (l0.length : Int) := of_decide_eq_true (by first | (with_reducible assumption) | assumption); obtain ⟨ad258, e258, hx258_0⟩ := Kd.at_int HR0.out 0 p258 q258; cases e258; have qi258 : (0 < l0.length) = True := eq_true (by omega); (try rw [show ((0 : Int)).toNat = 0 from rfl] at hx258_0); (try rw [Addr.add_zero'] at hx258_0); replace hx258_0 := (HB.out.cell (World.block_lt_of_cell? w _ hx258_0)).trans hx258_0; replace p258 := eq_true p258; replace q258 := eq_true q258))
        go_loopg [4, 5, 6] k (fun kq v4 v5 v6 w' => ∃ (x4_1 : Int) (x5_1 : List Int) (x6_1 : Int) (x258000_1 : Int) (x258001_1 : Int) (x258002_1 : Int), v4 = .int .i64 x4_1 ∧ v6 = .int .i64 x6_1 ∧ Aside0 (wristbandref12_Read.l0 kq l0 x4_1 x5_1 x6_1 = some (r1, r2, r3, r4, r5)) ∧ Aside0 (kq ≤ k) ∧ Aside0 (Kd.R (Kd.int .u64) 39 w' w.heap.size (fun _ => True) v5 x5_1) ∧ Aside0 (w'.heap[gb257]? = some (.cells #[.int .u64 x258000_1, .int .u64 x258001_1, .int .u64 x258002_1, (.slice none 0 0)] 91 (0, 0))) ∧ Aside0 (Below w.heap.size w w'))
        case atStart => exact ⟨(1), (([] : List Int)), (0), (0), (0), (0), (by first | rfl | (simp; done) | (simp [*]; done)), (by first | rfl | (simp; done) | (simp [*]; done)), H', ⟨Nat.le_refl _⟩, ⟨by first | exact Kd.R_nil _ _ _ _ _ | exact Kd.N_nil _ _ _ _ _ | exact Kd.V_nil _ _ _ _ _ | exact Kd.Q_nil _ _ _ _ _ | exact Kd.S_nil _ _ _ _ _⟩, ⟨by (with_reducible repeat (first | refine blk_drewN ?_ _ | refine blk_drew ?_ | refine blk_alloc ?_ _)); exact BK257.out⟩, ⟨by repeat (first | (with_reducible first | exact HB.out | apply below_alloc | apply pw_below_drewN | apply below_drew1 | refine below_set ?_ GE257.out) | exact HB.out)⟩⟩
        case round =>
          clear H'
          try clear c2
          try clear c2b0
          try clear c2b1
          try clear c2b2
          try clear p2
          try clear q2
          try clear hx2
          try clear qi2
          try clear c5
          try clear c5b0
          try clear c5b1
          try clear c6
          try clear c6b0
          try clear c6b1
          try clear c7
          try clear hcz4_0
          try clear hcz4_1
          try clear hcz4_2
          try clear hcz4_3
          try clear hfz4_0
          try clear hfz4_1
          try clear hfz4_2
          try clear hfz4_3
          try clear hx258_0
          try clear p258
          try clear q258
          obtain ⟨x4_1, x5_1, x6_1, x258000_1, x258001_1, x258002_1, rfl, rfl, HA, HK1, HO_5, BK257, HB⟩ := hrel
          cases gk with
          | zero => exact absurd HA.out (by simp [wristbandref12_Read.l0])
          | succ k1 =>
            have H := HA.out
            clear HA
            simp only [wristbandref12_Read.l0] at H
            by_cases c8 : x6_1 < 3
            · rw [if_pos c8] at H
              have c8b0 : decide (x6_1 < 3) = true := decide_eq_true c8
              clear c8
              by_cases c9 : x4_1 ≥ (l0.length : Int)
              · rw [if_pos c9] at H
                have c9b0 : decide ((l0.length : Int) ≤ x4_1) = true := decide_eq_true c9
                clear c9
                simp only [Option.some.injEq, Prod.mk.injEq] at H
                obtain ⟨rfl, rfl, rfl, rfl, rfl⟩ := H
                have hcz10_0 : wr.cell? ⟨gb257, 0, none⟩ = some (.int .u64 x258000_1) := (blk_cell BK257.out 0).trans rfl
                have hcz10_1 : wr.cell? ⟨gb257, 1, none⟩ = some (.int .u64 x258001_1) := (blk_cell BK257.out 1).trans rfl
                have hcz10_2 : wr.cell? ⟨gb257, 2, none⟩ = some (.int .u64 x258002_1) := (blk_cell BK257.out 2).trans rfl
                have hcz10_3 : wr.cell? ⟨gb257, 3, none⟩ = some (.slice none 0 0) := (blk_cell BK257.out 3).trans rfl
                have hfz10_0 := blk_frozen BK257.out 0
                have hfz10_1 := blk_frozen BK257.out 1
                have hfz10_2 := blk_frozen BK257.out 2
                have hfz10_3 := blk_frozen BK257.out 3
                go_wp2
                refine bodyPost_ret (results_ct rfl _ _ gb257 91 #[.int .u64 0, .int .u64 0, .int .u64 0, .slice none 0 0] (0, 0) _ rfl (by (with_reducible repeat (first | refine blk_drewN ?_ _ | refine blk_drew ?_ | refine blk_alloc ?_ _)); refine blk_put (cs := #[.int .u64 0, .int .u64 0, .int .u64 0, .slice none 0 0]) ?_ 3 _ rfl; (with_reducible repeat (first | refine blk_drewN ?_ _ | refine blk_drew ?_ | refine blk_alloc ?_ _)); refine blk_put (cs := #[.int .u64 0, .int .u64 0, .int .u64 x258002_1, .slice none 0 0]) ?_ 2 _ rfl; (with_reducible repeat (first | refine blk_drewN ?_ _ | refine blk_drew ?_ | refine blk_alloc ?_ _)); refine blk_put (cs := #[.int .u64 0, .int .u64 x258001_1, .int .u64 x258002_1, .slice none 0 0]) ?_ 1 _ rfl; (with_reducible repeat (first | refine blk_drewN ?_ _ | refine blk_drew ?_ | refine blk_alloc ?_ _)); refine blk_put (cs := #[.int .u64 x258000_1, .int .u64 x258001_1, .int .u64 x258002_1, .slice none 0 0]) ?_ 0 _ rfl; (with_reducible repeat (first | refine blk_drewN ?_ _ | refine blk_drew ?_ | refine blk_alloc ?_ _)); exact BK257.out) Try.underlying91 rfl (by kernel_rfl)) rfl ?_
                exact ⟨_, by first | rfl | (simp [errW_none, errW_some] <;> rfl) | (simp [*, errW_none, errW_some] <;> rfl), by first | exact Kd.R_nil _ _ _ _ _ | exact Kd.N_nil _ _ _ _ _ | exact Kd.V_nil _ _ _ _ _ | exact Kd.Q_nil _ _ _ _ _ | exact Kd.S_nil _ _ _ _ _, by repeat (first | (with_reducible first | exact HB.out | apply below_alloc | apply pw_below_drewN | apply below_drew1 | refine below_set ?_ GE257.out) | exact HB.out)⟩
              · rw [if_neg c9] at H
                have c9b0 : decide ((l0.length : Int) ≤ x4_1) = false := decide_eq_false c9
                clear c9
                by_cases c11 : 0 ≤ x4_1
                · rw [if_pos c11] at H
                  have c11b0 : decide (0 ≤ x4_1) = true := decide_eq_true c11
                  clear c11
                  by_cases c12 : x4_1 < (l0.length : Int)
                  · rw [if_pos c12] at H
                    have c12b0 : decide (x4_1 < (l0.length : Int)) = true := decide_eq_true c12
                    clear c12
                    by_cases c13 : (wrap64 (rd l0 x4_1)) > 8
                    · rw [if_pos c13] at H
                      have c13b0 : decide (8 < (wrap64 (rd l0 x4_1))) = true := decide_eq_true c13
                      clear c13
                      simp only [Option.some.injEq, Prod.mk.injEq] at H
                      obtain ⟨rfl, rfl, rfl, rfl, rfl⟩ := H
                      have p259 : 0 ≤ (x4_1 : Int) := of_decide_eq_true (by first | (with_reducible assumption) | assumption)
                      have q259 : x4_1 < (l0.length : Int) := of_decide_eq_true (by first | (with_reducible assumption) | assumption)
                      obtain ⟨ad259, e259, hx259_0⟩ := Kd.at_int HR0.out x4_1 p259 q259
                      obtain rfl : ad258 = ad259 := (by injection e259)
                      replace hx259_0 := (HB.out.cell (World.block_lt_of_cell? w _ hx259_0)).trans hx259_0
                      replace p259 := eq_true p259
                      replace q259 := eq_true q259
                      have hcz14_0 : wr.cell? ⟨gb257, 0, none⟩ = some (.int .u64 x258000_1) := (blk_cell BK257.out 0).trans rfl
                      have hcz14_1 : wr.cell? ⟨gb257, 1, none⟩ = some (.int .u64 x258001_1) := (blk_cell BK257.out 1).trans rfl
                      have hcz14_2 : wr.cell? ⟨gb257, 2, none⟩ = some (.int .u64 x258002_1) := (blk_cell BK257.out 2).trans rfl
                      have hcz14_3 : wr.cell? ⟨gb257, 3, none⟩ = some (.slice none 0 0) := (blk_cell BK257.out 3).trans rfl
                      have hfz14_0 := blk_frozen BK257.out 0
                      have hfz14_1 := blk_frozen BK257.out 1
                      have hfz14_2 := blk_frozen BK257.out 2
                      have hfz14_3 := blk_frozen BK257.out 3
                      go_wp2
                      refine bodyPost_ret (results_ct rfl _ _ gb257 91 #[.int .u64 0, .int .u64 0, .int .u64 0, .slice none 0 0] (0, 0) _ rfl (by (with_reducible repeat (first | refine blk_drewN ?_ _ | refine blk_drew ?_ | refine blk_alloc ?_ _)); refine blk_put (cs := #[.int .u64 0, .int .u64 0, .int .u64 0, .slice none 0 0]) ?_ 3 _ rfl; (with_reducible repeat (first | refine blk_drewN ?_ _ | refine blk_drew ?_ | refine blk_alloc ?_ _)); refine blk_put (cs := #[.int .u64 0, .int .u64 0, .int .u64 x258002_1, .slice none 0 0]) ?_ 2 _ rfl; (with_reducible repeat (first | refine blk_drewN ?_ _ | refine blk_drew ?_ | refine blk_alloc ?_ _)); refine blk_put (cs := #[.int .u64 0, .int .u64 x258001_1, .int .u64 x258002_1, .slice none 0 0]) ?_ 1 _ rfl; (with_reducible repeat (first | refine blk_drewN ?_ _ | refine blk_drew ?_ | refine blk_alloc ?_ _)); refine blk_put (cs := #[.int .u64 x258000_1, .int .u64 x258001_1, .int .u64 x258002_1, .slice none 0 0]) ?_ 0 _ rfl; (with_reducible repeat (first | refine blk_drewN ?_ _ | refine blk_drew ?_ | refine blk_alloc ?_ _)); exact BK257.out) Try.underlying91 rfl (by kernel_rfl)) rfl ?_
                      exact ⟨_, by first | rfl | (simp [errW_none, errW_some] <;> rfl) | (simp [*, errW_none, errW_some] <;> rfl), by first | exact Kd.R_nil _ _ _ _ _ | exact Kd.N_nil _ _ _ _ _ | exact Kd.V_nil _ _ _ _ _ | exact Kd.Q_nil _ _ _ _ _ | exact Kd.S_nil _ _ _ _ _, by repeat (first | (with_reducible first | exact HB.out | apply below_alloc | apply pw_below_drewN | apply below_drew1 | refine below_set ?_ GE257.out) | exact HB.out)⟩
                    · rw [if_neg c13] at H
                      have c13b0 : decide (8 < (wrap64 (rd l0 x4_1))) = false := decide_eq_false c13
                      clear c13
                      by_cases c15 : (wrap64 ((l0.length : Int) - (wrap64 (x4_1 + 1)))) < (wrap64 (rd l0 x4_1))
                      · rw [if_pos c15] at H
                        have c15b0 : decide ((wrap64 ((l0.length : Int) - (wrap64 (x4_1 + 1)))) < (wrap64 (rd l0 x4_1))) = true := decide_eq_true c15
                        clear c15
                        simp only [Option.some.injEq, Prod.mk.injEq] at H
                        obtain ⟨rfl, rfl, rfl, rfl, rfl⟩ := H
                        have p259 : 0 ≤ (x4_1 : Int) := of_decide_eq_true (by first | (with_reducible assumption) | assumption)
                        have q259 : x4_1 < (l0.length : Int) := of_decide_eq_true (by first | (with_reducible assumption) | assumption)
                        obtain ⟨ad259, e259, hx259_0⟩ := Kd.at_int HR0.out x4_1 p259 q259
                        obtain rfl : ad258 = ad259 := (by injection e259)
                        replace hx259_0 := (HB.out.cell (World.block_lt_of_cell? w _ hx259_0)).trans hx259_0
                        replace p259 := eq_true p259
                        replace q259 := eq_true q259
                        have hcz16_0 : wr.cell? ⟨gb257, 0, none⟩ = some (.int .u64 x258000_1) := (blk_cell BK257.out 0).trans rfl
                        have hcz16_1 : wr.cell? ⟨gb257, 1, none⟩ = some (.int .u64 x258001_1) := (blk_cell BK257.out 1).trans rfl
                        have hcz16_2 : wr.cell? ⟨gb257, 2, none⟩ = some (.int .u64 x258002_1) := (blk_cell BK257.out 2).trans rfl
                        have hcz16_3 : wr.cell? ⟨gb257, 3, none⟩ = some (.slice none 0 0) := (blk_cell BK257.out 3).trans rfl
                        have hfz16_0 := blk_frozen BK257.out 0
                        have hfz16_1 := blk_frozen BK257.out 1
                        have hfz16_2 := blk_frozen BK257.out 2
                        have hfz16_3 := blk_frozen BK257.out 3
                        go_wp2
                        refine bodyPost_ret (results_ct rfl _ _ gb257 91 #[.int .u64 0, .int .u64 0, .int .u64 0, .slice none 0 0] (0, 0) _ rfl (by (with_reducible repeat (first | refine blk_drewN ?_ _ | refine blk_drew ?_ | refine blk_alloc ?_ _)); refine blk_put (cs := #[.int .u64 0, .int .u64 0, .int .u64 0, .slice none 0 0]) ?_ 3 _ rfl; (with_reducible repeat (first | refine blk_drewN ?_ _ | refine blk_drew ?_ | refine blk_alloc ?_ _)); refine blk_put (cs := #[.int .u64 0, .int .u64 0, .int .u64 x258002_1, .slice none 0 0]) ?_ 2 _ rfl; (with_reducible repeat (first | refine blk_drewN ?_ _ | refine blk_drew ?_ | refine blk_alloc ?_ _)); refine blk_put (cs := #[.int .u64 0, .int .u64 x258001_1, .int .u64 x258002_1, .slice none 0 0]) ?_ 1 _ rfl; (with_reducible repeat (first | refine blk_drewN ?_ _ | refine blk_drew ?_ | refine blk_alloc ?_ _)); refine blk_put (cs := #[.int .u64 x258000_1, .int .u64 x258001_1, .int .u64 x258002_1, .slice none 0 0]) ?_ 0 _ rfl; (with_reducible repeat (first | refine blk_drewN ?_ _ | refine blk_drew ?_ | refine blk_alloc ?_ _)); exact BK257.out) Try.underlying91 rfl (by kernel_rfl)) rfl ?_
                        exact ⟨_, by first | rfl | (simp [errW_none, errW_some] <;> rfl) | (simp [*, errW_none, errW_some] <;> rfl), by first | exact Kd.R_nil _ _ _ _ _ | exact Kd.N_nil _ _ _ _ _ | exact Kd.V_nil _ _ _ _ _ | exact Kd.Q_nil _ _ _ _ _ | exact Kd.S_nil _ _ _ _ _, by repeat (first | (with_reducible first | exact HB.out | apply below_alloc | apply pw_below_drewN | apply below_drew1 | refine below_set ?_ GE257.out) | exact HB.out)⟩
                      · rw [if_neg c15] at H
                        have c15b0 : decide ((wrap64 ((l0.length : Int) - (wrap64 (x4_1 + 1)))) < (wrap64 (rd l0 x4_1))) = false := decide_eq_false c15
                        clear c15
                        by_cases c17 : (wrap64 (rd l0 x4_1)) > 0
                        · rw [if_pos c17] at H
                          have c17b0 : decide (0 < (wrap64 (rd l0 x4_1))) = true := decide_eq_true c17
                          clear c17
                          obtain ⟨ji18, hji18⟩ : ∃ j_ : Int, (wrap64 (x4_1 + 1)) = j_ := ⟨_, rfl⟩
                          replace H : (if 0 ≤ (ji18) then (if (ji18) < (l0.length : Int) then (if (rd l0 (ji18)) = 0 then (some (0, 0, 0, ([] : List Int), 3)) else (if (ji18) ≤ (wrap64 ((ji18) + (wrap64 (rd l0 x4_1)))) then (if (wrap64 ((ji18) + (wrap64 (rd l0 x4_1)))) ≤ (l0.length : Int) then ((wristbandref01_Value.f k1 ((l0.take ((wrap64 ((ji18) + (wrap64 (rd l0 x4_1)))) : Int).toNat).drop ((ji18) : Int).toNat)).bind fun t262 => (if x5_1.length < 17592186044416 then (wristbandref12_Read.l0 k1 l0 (wrap64 ((ji18) + (wrap64 (rd l0 x4_1)))) (x5_1 ++ [t262]) (wrap64 (x6_1 + 1))) else (none))) else (none)) else (none))) else (none)) else (none)) = some (r1, r2, r3, r4, r5) := by first | (rw [hji18] at H; exact H) | (simp only [hji18] at H ⊢; exact H)
                          (try rw [hji18] at c15b0)
                          have hji18w : (IntKind.i64.wrap (x4_1 + 1)) = ji18 := (i64_w _).trans hji18
                          by_cases c19 : 0 ≤ (ji18)
                          · rw [if_pos c19] at H
                            have c19b0 : decide (0 ≤ (ji18)) = true := decide_eq_true c19
                            clear c19
                            by_cases c20 : (ji18) < (l0.length : Int)
                            · rw [if_pos c20] at H
                              have c20b0 : decide ((ji18) < (l0.length : Int)) = true := decide_eq_true c20
                              clear c20
                              by_cases c21 : (rd l0 (ji18)) = 0
                              · rw [if_pos c21] at H
                                have c21b0 : ((rd l0 (ji18)) == 0) = true := beq_iff_eq.mpr c21
                                have c21b1 : ((rd l0 (ji18)) != 0) = false := bne_eq_false_iff_eq.mpr c21
                                clear c21
                                simp only [Option.some.injEq, Prod.mk.injEq] at H
                                obtain ⟨rfl, rfl, rfl, rfl, rfl⟩ := H
                                have p259 : 0 ≤ (x4_1 : Int) := of_decide_eq_true (by first | (with_reducible assumption) | assumption)
                                have q259 : x4_1 < (l0.length : Int) := of_decide_eq_true (by first | (with_reducible assumption) | assumption)
                                obtain ⟨ad259, e259, hx259_0⟩ := Kd.at_int HR0.out x4_1 p259 q259
                                obtain rfl : ad258 = ad259 := (by injection e259)
                                replace hx259_0 := (HB.out.cell (World.block_lt_of_cell? w _ hx259_0)).trans hx259_0
                                replace p259 := eq_true p259
                                replace q259 := eq_true q259
                                have p260 : 0 ≤ ((ji18) : Int) := of_decide_eq_true (by first | (with_reducible assumption) | assumption)
                                have q260 : (ji18) < (l0.length : Int) := of_decide_eq_true (by first | (with_reducible assumption) | assumption)
                                obtain ⟨ad260, e260, hx260_0⟩ := Kd.at_int HR0.out (ji18) p260 q260
                                obtain rfl : ad258 = ad260 := (by injection e260)
                                replace hx260_0 := (HB.out.cell (World.block_lt_of_cell? w _ hx260_0)).trans hx260_0
                                replace p260 := eq_true p260
                                replace q260 := eq_true q260
                                have hcz22_0 : wr.cell? ⟨gb257, 0, none⟩ = some (.int .u64 x258000_1) := (blk_cell BK257.out 0).trans rfl
                                have hcz22_1 : wr.cell? ⟨gb257, 1, none⟩ = some (.int .u64 x258001_1) := (blk_cell BK257.out 1).trans rfl
                                have hcz22_2 : wr.cell? ⟨gb257, 2, none⟩ = some (.int .u64 x258002_1) := (blk_cell BK257.out 2).trans rfl
                                have hcz22_3 : wr.cell? ⟨gb257, 3, none⟩ = some (.slice none 0 0) := (blk_cell BK257.out 3).trans rfl
                                have hfz22_0 := blk_frozen BK257.out 0
                                have hfz22_1 := blk_frozen BK257.out 1
                                have hfz22_2 := blk_frozen BK257.out 2
                                have hfz22_3 := blk_frozen BK257.out 3
                                go_wp2
                                refine bodyPost_ret (results_ct rfl _ _ gb257 91 #[.int .u64 0, .int .u64 0, .int .u64 0, .slice none 0 0] (0, 0) _ rfl (by (with_reducible repeat (first | refine blk_drewN ?_ _ | refine blk_drew ?_ | refine blk_alloc ?_ _)); refine blk_put (cs := #[.int .u64 0, .int .u64 0, .int .u64 0, .slice none 0 0]) ?_ 3 _ rfl; (with_reducible repeat (first | refine blk_drewN ?_ _ | refine blk_drew ?_ | refine blk_alloc ?_ _)); refine blk_put (cs := #[.int .u64 0, .int .u64 0, .int .u64 x258002_1, .slice none 0 0]) ?_ 2 _ rfl; (with_reducible repeat (first | refine blk_drewN ?_ _ | refine blk_drew ?_ | refine blk_alloc ?_ _)); refine blk_put (cs := #[.int .u64 0, .int .u64 x258001_1, .int .u64 x258002_1, .slice none 0 0]) ?_ 1 _ rfl; (with_reducible repeat (first | refine blk_drewN ?_ _ | refine blk_drew ?_ | refine blk_alloc ?_ _)); refine blk_put (cs := #[.int .u64 x258000_1, .int .u64 x258001_1, .int .u64 x258002_1, .slice none 0 0]) ?_ 0 _ rfl; (with_reducible repeat (first | refine blk_drewN ?_ _ | refine blk_drew ?_ | refine blk_alloc ?_ _)); exact BK257.out) Try.underlying91 rfl (by kernel_rfl)) rfl ?_
                                exact ⟨_, by first | rfl | (simp [errW_none, errW_some] <;> rfl) | (simp only [← hji18]; first | rfl | (simp [errW_none, errW_some] <;> rfl)) | (simp [*, errW_none, errW_some] <;> rfl), by first | exact Kd.R_nil _ _ _ _ _ | exact Kd.N_nil _ _ _ _ _ | exact Kd.V_nil _ _ _ _ _ | exact Kd.Q_nil _ _ _ _ _ | exact Kd.S_nil _ _ _ _ _, by repeat (first | (with_reducible first | exact HB.out | apply below_alloc | apply pw_below_drewN | apply below_drew1 | refine below_set ?_ GE257.out) | exact HB.out)⟩
                              · rw [if_neg c21] at H
                                have c21b0 : ((rd l0 (ji18)) == 0) = false := beq_eq_false_iff_ne.mpr c21
                                have c21b1 : ((rd l0 (ji18)) != 0) = true := bne_iff_ne.mpr c21
                                have c23b0 := eq_true (of_decide_eq_true (by first | (with_reducible assumption) | assumption) : 0 ≤ (ji18))
                                by_cases c24 : (ji18) ≤ (wrap64 ((ji18) + (wrap64 (rd l0 x4_1))))
                                · rw [if_pos c24] at H
                                  have c24b0 := eq_true c24
                                  have c24b1 : decide ((ji18) ≤ (wrap64 ((ji18) + (wrap64 (rd l0 x4_1))))) = true := decide_eq_true c24
                                  by_cases c25 : (wrap64 ((ji18) + (wrap64 (rd l0 x4_1)))) ≤ (l0.length : Int)
                                  · rw [if_pos c25] at H
                                    have c25b0 := eq_true c25
                                    have c25b1 : decide ((wrap64 ((ji18) + (wrap64 (rd l0 x4_1)))) ≤ (l0.length : Int)) = true := decide_eq_true c25
                                    replace H := Option.bind_eq_some_iff.mp H
                                    obtain ⟨t262, A260, H⟩ := H
                                    replace H : (if x5_1.length < 17592186044416 then (wristbandref12_Read.l0 k1 l0 (wrap64 ((ji18) + (wrap64 (rd l0 x4_1)))) (x5_1 ++ [t262]) (wrap64 (x6_1 + 1))) else (none)) = some (r1, r2, r3, r4, r5) := H
                                    have A26 := Aside0.mk A260
                                    clear A260
                                    by_cases c27 : x5_1.length < 17592186044416
                                    · rw [if_pos c27] at H
                                      have LMc27 := Aside0.mk c27
                                      clear c27
                                      obtain ⟨y263, hy263⟩ : ∃ y_ : List Int, y_ = (x5_1 ++ [t262]) := ⟨_, rfl⟩
                                      replace H : (wristbandref12_Read.l0 k1 l0 (wrap64 ((ji18) + (wrap64 (rd l0 x4_1)))) y263 (wrap64 (x6_1 + 1))) = some (r1, r2, r3, r4, r5) := by first | (rw [hy263]; with_reducible exact H) | (have H2_ := (Option.bind_some _ _).symm.trans H; rw [hy263]; with_reducible exact H2_) | (have H2_ := (Option.bind_some _ _).symm.trans H; with_reducible exact H2_) | with_reducible exact H | (rw [hy263]; exact H) | exact H
                                      have Ny263 := Aside0.mk hy263
                                      clear hy263
                                      have H' := Aside0.mk H
                                      clear H
                                      have p259 : 0 ≤ (x4_1 : Int) := of_decide_eq_true (by first | (with_reducible assumption) | assumption)
                                      have q259 : x4_1 < (l0.length : Int) := of_decide_eq_true (by first | (with_reducible assumption) | assumption)
                                      obtain ⟨ad259, e259, hx259_0⟩ := Kd.at_int HR0.out x4_1 p259 q259
                                      obtain rfl : ad258 = ad259 := (by injection e259)
                                      replace hx259_0 := (HB.out.cell (World.block_lt_of_cell? w _ hx259_0)).trans hx259_0
                                      replace p259 := eq_true p259
                                      replace q259 := eq_true q259
                                      have p260 : 0 ≤ ((ji18) : Int) := of_decide_eq_true (by first | (with_reducible assumption) | assumption)
                                      have q260 : (ji18) < (l0.length : Int) := of_decide_eq_true (by first | (with_reducible assumption) | assumption)
                                      obtain ⟨ad260, e260, hx260_0⟩ := Kd.at_int HR0.out (ji18) p260 q260
                                      obtain rfl : ad258 = ad260 := (by injection e260)
                                      replace hx260_0 := (HB.out.cell (World.block_lt_of_cell? w _ hx260_0)).trans hx260_0
                                      replace p260 := eq_true p260
                                      replace q260 := eq_true q260
                                      obtain ⟨i028, hi028, _, hsz28, _⟩ := info_parts info5
                                      obtain ⟨A28, hcut28, hA28, hC28⟩ := print_mid_of (P := Try.prog) (Value.int .u8) 0 22 5 .i64 .i64 Try.underlying22 hi028 hsz28 (some ad258) c0 l0 (ji18) (wrap64 ((ji18) + (wrap64 (rd l0 x4_1)))) (of_decide_eq_true (by first | (with_reducible assumption) | assumption)) (by first | omega | exact of_decide_eq_true (by first | (with_reducible assumption) | assumption)) (of_decide_eq_true (by first | (with_reducible assumption) | assumption)) HC0.out
                                      have HR261 := Aside0.mk (Kd.C_of_reads (h1 := fun _ => rfl) (hA28 _ (Kd.reads_of_C HR0.out)))
                                      have HC261 := Aside0.mk hC28
                                      clear hA28 hC28 hi028 hsz28
                                      (try (have hsl28_ : Aside0 (((l0.take ((wrap64 ((ji18) + (wrap64 (rd l0 x4_1)))) : Int).toNat).drop ((ji18) : Int).toNat).length = ((wrap64 ((ji18) + (wrap64 (rd l0 x4_1)))).toNat - (ji18).toNat)) := ⟨(by rw [List.length_drop, List.length_take]; have h_ : ((wrap64 ((ji18) + (wrap64 (rd l0 x4_1)))) : Int) ≤ (l0.length : Int) := of_decide_eq_true (by first | (with_reducible assumption) | assumption); omega)⟩))
                                      go_wp2_with (first | ((with_reducible refine gate_callee (f := 35) rfl ?_); refine goesL_ (some 60) rfl rfl Try.func35 (by kernel_rfl) rfl #[.slice A28 ((l0.take ((wrap64 ((ji18) + (wrap64 (rd l0 x4_1)))) : Int).toNat).drop ((ji18) : Int).toNat).length (c0 - (ji18).toNat)] rfl (by (try simp only [List.map_toArray, List.map_cons, List.map_nil]); first | done | (rw [hsl28_.out] <;> rfl) | (rw [show ((l0.take ((wrap64 ((ji18) + (wrap64 (rd l0 x4_1)))) : Int).toNat).drop ((ji18) : Int).toNat).length = ((wrap64 ((ji18) + (wrap64 (rd l0 x4_1)))).toNat - (ji18).toNat) from (by rw [List.length_drop, List.length_take]; have h_ : ((wrap64 ((ji18) + (wrap64 (rd l0 x4_1)))) : Int) ≤ (l0.length : Int) := of_decide_eq_true (by first | (with_reducible assumption) | assumption); omega)] <;> rfl) | (simp only [hji18]; rfl) | rfl | (simp only [List.length_drop, List.length_take]; rfl)) ?_; (with_reducible refine (wristbandref01_Value.calls k1 _ _ ((l0.take ((wrap64 ((ji18) + (wrap64 (rd l0 x4_1)))) : Int).toNat).drop ((ji18) : Int).toNat) t262 _ ?side1 ?side2 A26.out).mono ?_); (case side1 => repeat (first | exact (Kd.C_below HR261.out HB.out) | (with_reducible refine Kd.C_alloc ?_ _) | (with_reducible refine Kd.C_drewN ?_ _) | (with_reducible refine Kd.C_drew ?_))); (case side2 => exact HC261.out); rintro e w' ⟨rfl, ⟨nd, rfl⟩⟩; refine ⟨_, rfl, ?_⟩) | ((with_reducible refine gate_builtin (b := .append) (xs := #[.tmp 53, .tmp 61]) rfl ?_); at_builtin; refine Kd.R_append (Kd.int .u64) (w0 := w) w.heap.size rfl (.tmp 53) (.tmp 61) 134 39 (.int .u64 0) 8 rfl Try.underlying134 info39 rfl (by decide) (by omega) u5 x5_1 t262 [.int .u64 t262] (fun _ => True) (fun _ => False) rfl rfl ?aP (fun _ hk => hk.elim) ?aF ?aO ?aB ?aS ?aL ?_; (case aP => exact rfl); (case aB => exact (by repeat (first | (with_reducible first | exact HB.out | apply below_alloc | apply pw_below_drewN | apply below_drew1 | refine below_set ?_ GE257.out) | exact HB.out))); (case aF => exact (fun _ _ => trivial)); (case aO => exact (by (with_reducible repeat (first | apply Kd.R_alloc | apply Kd.R_drewN | apply Kd.R_drew)); exact HO_5.out)); (case aS => exact (below_size (by repeat (first | (with_reducible first | exact HB.out | apply below_alloc | apply pw_below_drewN | apply below_drew1 | refine below_set ?_ GE257.out) | exact HB.out)))); (case aL => have := LMc27.out; omega); intro v264 w29 ho hb hg hat; rw [← Ny263.out] at ho; have n0_ := Aside0.mk (blk_grown (g := gb257) (o := .cells #[.int .u64 x258000_1, .int .u64 x258001_1, .int .u64 x258002_1, .slice none 0 0] 91 (0, 0)) (by (with_reducible repeat (first | refine blk_drewN ?_ _ | refine blk_drew ?_ | refine blk_alloc ?_ _)); exact BK257.out) hg (Kd.R_ne HO_5.out BK257.out (by decide))); have n1_ := Aside0.mk (hb); have n2_ := Aside0.mk (ho); clear BK257; clear HB; clear HO_5; have BK257 := n0_; have HB := n1_; have HO265 := n2_; clear n0_ n1_ n2_; clear ho hb hg hat))
                                      go_roundg k1
                                      case measure => have := HK1.out; omega
                                      case rel => exact ⟨(wrap64 ((ji18) + (wrap64 (rd l0 x4_1)))), (y263), (wrap64 (x6_1 + 1)), (x258000_1), (x258001_1), (x258002_1), (by first | rfl | (simp; done) | (simp only [← hji18] <;> (first | rfl | simp)) | (simp [*]; done)), (by first | rfl | (simp; done) | (simp [*]; done)), H', ⟨by have := HK1.out; omega⟩, ⟨by (with_reducible repeat (first | apply Kd.R_alloc | apply Kd.R_drewN | apply Kd.R_drew)); exact HO265.out⟩, ⟨by (with_reducible repeat (first | refine blk_drewN ?_ _ | refine blk_drew ?_ | refine blk_alloc ?_ _)); exact BK257.out⟩, ⟨by repeat (first | (with_reducible first | exact HB.out | apply below_alloc | apply pw_below_drewN | apply below_drew1 | refine below_set ?_ GE257.out) | exact HB.out)⟩⟩
                                    · rw [if_neg c27] at H
                                      exact absurd H (by simp)
                                  · rw [if_neg c25] at H
                                    exact absurd H (by simp)
                                · rw [if_neg c24] at H
                                  exact absurd H (by simp)
                            · rw [if_neg c20] at H
                              exact absurd H (by simp)
                          · rw [if_neg c19] at H
                            exact absurd H (by simp)
                        · rw [if_neg c17] at H
                          have c17b0 : decide (0 < (wrap64 (rd l0 x4_1))) = false := decide_eq_false c17
                          (try (have c17h28 := c17b0; simp only [hsl28_.out, Int.ofNat_toNat] at c17h28))
                          clear c17
                          obtain ⟨ji30, hji30⟩ : ∃ j_ : Int, (wrap64 (x4_1 + 1)) = j_ := ⟨_, rfl⟩
                          replace H : (if 0 ≤ (ji30) then (if (ji30) ≤ (wrap64 ((ji30) + (wrap64 (rd l0 x4_1)))) then (if (wrap64 ((ji30) + (wrap64 (rd l0 x4_1)))) ≤ (l0.length : Int) then ((wristbandref01_Value.f k1 ((l0.take ((wrap64 ((ji30) + (wrap64 (rd l0 x4_1)))) : Int).toNat).drop ((ji30) : Int).toNat)).bind fun t267 => (if x5_1.length < 17592186044416 then (wristbandref12_Read.l0 k1 l0 (wrap64 ((ji30) + (wrap64 (rd l0 x4_1)))) (x5_1 ++ [t267]) (wrap64 (x6_1 + 1))) else (none))) else (none)) else (none)) else (none)) = some (r1, r2, r3, r4, r5) := by first | (rw [hji30] at H; exact H) | (simp only [hji30] at H ⊢; exact H)
                          (try rw [hji30] at c15b0)
                          have hji30w : (IntKind.i64.wrap (x4_1 + 1)) = ji30 := (i64_w _).trans hji30
                          by_cases c31 : 0 ≤ (ji30)
                          · rw [if_pos c31] at H
                            have c31b0 := eq_true c31
                            have c31b1 : decide (0 ≤ (ji30)) = true := decide_eq_true c31
                            clear c31
                            by_cases c32 : (ji30) ≤ (wrap64 ((ji30) + (wrap64 (rd l0 x4_1))))
                            · rw [if_pos c32] at H
                              have c32b0 := eq_true c32
                              have c32b1 : decide ((ji30) ≤ (wrap64 ((ji30) + (wrap64 (rd l0 x4_1))))) = true := decide_eq_true c32
                              by_cases c33 : (wrap64 ((ji30) + (wrap64 (rd l0 x4_1)))) ≤ (l0.length : Int)
                              · rw [if_pos c33] at H
                                have c33b0 := eq_true c33
                                have c33b1 : decide ((wrap64 ((ji30) + (wrap64 (rd l0 x4_1)))) ≤ (l0.length : Int)) = true := decide_eq_true c33
                                replace H := Option.bind_eq_some_iff.mp H
                                obtain ⟨t267, A340, H⟩ := H
                                replace H : (if x5_1.length < 17592186044416 then (wristbandref12_Read.l0 k1 l0 (wrap64 ((ji30) + (wrap64 (rd l0 x4_1)))) (x5_1 ++ [t267]) (wrap64 (x6_1 + 1))) else (none)) = some (r1, r2, r3, r4, r5) := H
                                have A34 := Aside0.mk A340
                                clear A340
                                by_cases c35 : x5_1.length < 17592186044416
                                · rw [if_pos c35] at H
                                  have LMc35 := Aside0.mk c35
                                  clear c35
                                  obtain ⟨y268, hy268⟩ : ∃ y_ : List Int, y_ = (x5_1 ++ [t267]) := ⟨_, rfl⟩
                                  replace H : (wristbandref12_Read.l0 k1 l0 (wrap64 ((ji30) + (wrap64 (rd l0 x4_1)))) y268 (wrap64 (x6_1 + 1))) = some (r1, r2, r3, r4, r5) := by first | (rw [hy268]; with_reducible exact H) | (have H2_ := (Option.bind_some _ _).symm.trans H; rw [hy268]; with_reducible exact H2_) | (have H2_ := (Option.bind_some _ _).symm.trans H; with_reducible exact H2_) | with_reducible exact H | (rw [hy268]; exact H) | exact H
                                  have Ny268 := Aside0.mk hy268
                                  clear hy268
                                  have H' := Aside0.mk H
                                  clear H
                                  have p259 : 0 ≤ (x4_1 : Int) := of_decide_eq_true (by first | (with_reducible assumption) | assumption)
                                  have q259 : x4_1 < (l0.length : Int) := of_decide_eq_true (by first | (with_reducible assumption) | assumption)
                                  obtain ⟨ad259, e259, hx259_0⟩ := Kd.at_int HR0.out x4_1 p259 q259
                                  obtain rfl : ad258 = ad259 := (by injection e259)
                                  replace hx259_0 := (HB.out.cell (World.block_lt_of_cell? w _ hx259_0)).trans hx259_0
                                  replace p259 := eq_true p259
                                  replace q259 := eq_true q259
                                  obtain ⟨i036, hi036, _, hsz36, _⟩ := info_parts info5
                                  obtain ⟨A36, hcut36, hA36, hC36⟩ := print_mid_of (P := Try.prog) (Value.int .u8) 0 22 5 .i64 .i64 Try.underlying22 hi036 hsz36 (some ad258) c0 l0 (ji30) (wrap64 ((ji30) + (wrap64 (rd l0 x4_1)))) (of_decide_eq_true (by first | (with_reducible assumption) | assumption)) (by first | omega | exact of_decide_eq_true (by first | (with_reducible assumption) | assumption)) (of_decide_eq_true (by first | (with_reducible assumption) | assumption)) HC0.out
                                  have HR266 := Aside0.mk (Kd.C_of_reads (h1 := fun _ => rfl) (hA36 _ (Kd.reads_of_C HR0.out)))
                                  have HC266 := Aside0.mk hC36
                                  clear hA36 hC36 hi036 hsz36
                                  (try (have hsl36_ : Aside0 (((l0.take ((wrap64 ((ji30) + (wrap64 (rd l0 x4_1)))) : Int).toNat).drop ((ji30) : Int).toNat).length = ((wrap64 ((ji30) + (wrap64 (rd l0 x4_1)))).toNat - (ji30).toNat)) := ⟨(by rw [List.length_drop, List.length_take]; have h_ : ((wrap64 ((ji30) + (wrap64 (rd l0 x4_1)))) : Int) ≤ (l0.length : Int) := of_decide_eq_true (by first | (with_reducible assumption) | assumption); omega)⟩))
                                  go_wp2_with (first | ((with_reducible refine gate_callee (f := 35) rfl ?_); refine goesL_ (some 60) rfl rfl Try.func35 (by kernel_rfl) rfl #[.slice A36 ((l0.take ((wrap64 ((ji30) + (wrap64 (rd l0 x4_1)))) : Int).toNat).drop ((ji30) : Int).toNat).length (c0 - (ji30).toNat)] rfl (by (try simp only [List.map_toArray, List.map_cons, List.map_nil]); first | done | (rw [hsl36_.out] <;> rfl) | (rw [show ((l0.take ((wrap64 ((ji30) + (wrap64 (rd l0 x4_1)))) : Int).toNat).drop ((ji30) : Int).toNat).length = ((wrap64 ((ji30) + (wrap64 (rd l0 x4_1)))).toNat - (ji30).toNat) from (by rw [List.length_drop, List.length_take]; have h_ : ((wrap64 ((ji30) + (wrap64 (rd l0 x4_1)))) : Int) ≤ (l0.length : Int) := of_decide_eq_true (by first | (with_reducible assumption) | assumption); omega)] <;> rfl) | (simp only [hji30]; rfl) | rfl | (simp only [List.length_drop, List.length_take]; rfl)) ?_; (with_reducible refine (wristbandref01_Value.calls k1 _ _ ((l0.take ((wrap64 ((ji30) + (wrap64 (rd l0 x4_1)))) : Int).toNat).drop ((ji30) : Int).toNat) t267 _ ?side1 ?side2 A34.out).mono ?_); (case side1 => repeat (first | exact (Kd.C_below HR266.out HB.out) | (with_reducible refine Kd.C_alloc ?_ _) | (with_reducible refine Kd.C_drewN ?_ _) | (with_reducible refine Kd.C_drew ?_))); (case side2 => exact HC266.out); rintro e w' ⟨rfl, ⟨nd, rfl⟩⟩; refine ⟨_, rfl, ?_⟩) | ((with_reducible refine gate_builtin (b := .append) (xs := #[.tmp 53, .tmp 61]) rfl ?_); at_builtin; refine Kd.R_append (Kd.int .u64) (w0 := w) w.heap.size rfl (.tmp 53) (.tmp 61) 134 39 (.int .u64 0) 8 rfl Try.underlying134 info39 rfl (by decide) (by omega) u5 x5_1 t267 [.int .u64 t267] (fun _ => True) (fun _ => False) rfl rfl ?aP (fun _ hk => hk.elim) ?aF ?aO ?aB ?aS ?aL ?_; (case aP => exact rfl); (case aB => exact (by repeat (first | (with_reducible first | exact HB.out | apply below_alloc | apply pw_below_drewN | apply below_drew1 | refine below_set ?_ GE257.out) | exact HB.out))); (case aF => exact (fun _ _ => trivial)); (case aO => exact (by (with_reducible repeat (first | apply Kd.R_alloc | apply Kd.R_drewN | apply Kd.R_drew)); exact HO_5.out)); (case aS => exact (below_size (by repeat (first | (with_reducible first | exact HB.out | apply below_alloc | apply pw_below_drewN | apply below_drew1 | refine below_set ?_ GE257.out) | exact HB.out)))); (case aL => have := LMc35.out; omega); intro v269 w37 ho hb hg hat; rw [← Ny268.out] at ho; have n0_ := Aside0.mk (blk_grown (g := gb257) (o := .cells #[.int .u64 x258000_1, .int .u64 x258001_1, .int .u64 x258002_1, .slice none 0 0] 91 (0, 0)) (by (with_reducible repeat (first | refine blk_drewN ?_ _ | refine blk_drew ?_ | refine blk_alloc ?_ _)); exact BK257.out) hg (Kd.R_ne HO_5.out BK257.out (by decide))); have n1_ := Aside0.mk (hb); have n2_ := Aside0.mk (ho); clear BK257; clear HB; clear HO_5; have BK257 := n0_; have HB := n1_; have HO270 := n2_; clear n0_ n1_ n2_; clear ho hb hg hat))
                                  go_roundg k1
                                  case measure => have := HK1.out; omega
                                  case rel => exact ⟨(wrap64 ((ji30) + (wrap64 (rd l0 x4_1)))), (y268), (wrap64 (x6_1 + 1)), (x258000_1), (x258001_1), (x258002_1), (by first | rfl | (simp; done) | (simp only [← hji30] <;> (first | rfl | simp)) | (simp [*]; done)), (by first | rfl | (simp; done) | (simp [*]; done)), H', ⟨by have := HK1.out; omega⟩, ⟨by (with_reducible repeat (first | apply Kd.R_alloc | apply Kd.R_drewN | apply Kd.R_drew)); exact HO270.out⟩, ⟨by (with_reducible repeat (first | refine blk_drewN ?_ _ | refine blk_drew ?_ | refine blk_alloc ?_ _)); exact BK257.out⟩, ⟨by repeat (first | (with_reducible first | exact HB.out | apply below_alloc | apply pw_below_drewN | apply below_drew1 | refine below_set ?_ GE257.out) | exact HB.out)⟩⟩
                                · rw [if_neg c35] at H
                                  exact absurd H (by simp)
                              · rw [if_neg c33] at H
                                exact absurd H (by simp)
                            · rw [if_neg c32] at H
                              exact absurd H (by simp)
                          · rw [if_neg c31] at H
                            exact absurd H (by simp)
                  · rw [if_neg c12] at H
                    exact absurd H (by simp)
                · rw [if_neg c11] at H
                  exact absurd H (by simp)
            · rw [if_neg c8] at H
              have c8b0 : decide (x6_1 < 3) = false := decide_eq_false c8
              (try (have c8h28 := c8b0; simp only [hsl28_.out, Int.ofNat_toNat] at c8h28))
              (try (have c8h36 := c8b0; simp only [hsl36_.out, Int.ofNat_toNat] at c8h36))
              clear c8
              by_cases c38 : (wrap64 ((l0.length : Int) - x4_1)) < 8
              · rw [if_pos c38] at H
                have c38b0 : decide ((wrap64 ((l0.length : Int) - x4_1)) < 8) = true := decide_eq_true c38
                (try (have c38h28 := c38b0; simp only [hsl28_.out, Int.ofNat_toNat] at c38h28))
                (try (have c38h36 := c38b0; simp only [hsl36_.out, Int.ofNat_toNat] at c38h36))
                clear c38
                simp only [Option.some.injEq, Prod.mk.injEq] at H
                obtain ⟨rfl, rfl, rfl, rfl, rfl⟩ := H
                have hcz39_0 : wr.cell? ⟨gb257, 0, none⟩ = some (.int .u64 x258000_1) := (blk_cell BK257.out 0).trans rfl
                have hcz39_1 : wr.cell? ⟨gb257, 1, none⟩ = some (.int .u64 x258001_1) := (blk_cell BK257.out 1).trans rfl
                have hcz39_2 : wr.cell? ⟨gb257, 2, none⟩ = some (.int .u64 x258002_1) := (blk_cell BK257.out 2).trans rfl
                have hcz39_3 : wr.cell? ⟨gb257, 3, none⟩ = some (.slice none 0 0) := (blk_cell BK257.out 3).trans rfl
                have hfz39_0 := blk_frozen BK257.out 0
                have hfz39_1 := blk_frozen BK257.out 1
                have hfz39_2 := blk_frozen BK257.out 2
                have hfz39_3 := blk_frozen BK257.out 3
                go_wp2
                refine bodyPost_ret (results_ct rfl _ _ gb257 91 #[.int .u64 0, .int .u64 0, .int .u64 0, .slice none 0 0] (0, 0) _ rfl (by (with_reducible repeat (first | refine blk_drewN ?_ _ | refine blk_drew ?_ | refine blk_alloc ?_ _)); refine blk_put (cs := #[.int .u64 0, .int .u64 0, .int .u64 0, .slice none 0 0]) ?_ 3 _ rfl; (with_reducible repeat (first | refine blk_drewN ?_ _ | refine blk_drew ?_ | refine blk_alloc ?_ _)); refine blk_put (cs := #[.int .u64 0, .int .u64 0, .int .u64 x258002_1, .slice none 0 0]) ?_ 2 _ rfl; (with_reducible repeat (first | refine blk_drewN ?_ _ | refine blk_drew ?_ | refine blk_alloc ?_ _)); refine blk_put (cs := #[.int .u64 0, .int .u64 x258001_1, .int .u64 x258002_1, .slice none 0 0]) ?_ 1 _ rfl; (with_reducible repeat (first | refine blk_drewN ?_ _ | refine blk_drew ?_ | refine blk_alloc ?_ _)); refine blk_put (cs := #[.int .u64 x258000_1, .int .u64 x258001_1, .int .u64 x258002_1, .slice none 0 0]) ?_ 0 _ rfl; (with_reducible repeat (first | refine blk_drewN ?_ _ | refine blk_drew ?_ | refine blk_alloc ?_ _)); exact BK257.out) Try.underlying91 rfl (by kernel_rfl)) rfl ?_
                exact ⟨_, by first | rfl | (simp [errW_none, errW_some] <;> rfl) | (simp [*, errW_none, errW_some] <;> rfl), by first | exact Kd.R_nil _ _ _ _ _ | exact Kd.N_nil _ _ _ _ _ | exact Kd.V_nil _ _ _ _ _ | exact Kd.Q_nil _ _ _ _ _ | exact Kd.S_nil _ _ _ _ _, by repeat (first | (with_reducible first | exact HB.out | apply below_alloc | apply pw_below_drewN | apply below_drew1 | refine below_set ?_ GE257.out) | exact HB.out)⟩
              · rw [if_neg c38] at H
                have c38b0 : decide ((wrap64 ((l0.length : Int) - x4_1)) < 8) = false := decide_eq_false c38
                (try (have c38h28 := c38b0; simp only [hsl28_.out, Int.ofNat_toNat] at c38h28))
                (try (have c38h36 := c38b0; simp only [hsl36_.out, Int.ofNat_toNat] at c38h36))
                clear c38
                by_cases c40 : (wrap64 ((l0.length : Int) - x4_1)) > 8
                · rw [if_pos c40] at H
                  have c40b0 : decide (8 < (wrap64 ((l0.length : Int) - x4_1))) = true := decide_eq_true c40
                  (try (have c40h28 := c40b0; simp only [hsl28_.out, Int.ofNat_toNat] at c40h28))
                  (try (have c40h36 := c40b0; simp only [hsl36_.out, Int.ofNat_toNat] at c40h36))
                  clear c40
                  simp only [Option.some.injEq, Prod.mk.injEq] at H
                  obtain ⟨rfl, rfl, rfl, rfl, rfl⟩ := H
                  have hcz41_0 : wr.cell? ⟨gb257, 0, none⟩ = some (.int .u64 x258000_1) := (blk_cell BK257.out 0).trans rfl
                  have hcz41_1 : wr.cell? ⟨gb257, 1, none⟩ = some (.int .u64 x258001_1) := (blk_cell BK257.out 1).trans rfl
                  have hcz41_2 : wr.cell? ⟨gb257, 2, none⟩ = some (.int .u64 x258002_1) := (blk_cell BK257.out 2).trans rfl
                  have hcz41_3 : wr.cell? ⟨gb257, 3, none⟩ = some (.slice none 0 0) := (blk_cell BK257.out 3).trans rfl
                  have hfz41_0 := blk_frozen BK257.out 0
                  have hfz41_1 := blk_frozen BK257.out 1
                  have hfz41_2 := blk_frozen BK257.out 2
                  have hfz41_3 := blk_frozen BK257.out 3
                  go_wp2
                  refine bodyPost_ret (results_ct rfl _ _ gb257 91 #[.int .u64 0, .int .u64 0, .int .u64 0, .slice none 0 0] (0, 0) _ rfl (by (with_reducible repeat (first | refine blk_drewN ?_ _ | refine blk_drew ?_ | refine blk_alloc ?_ _)); refine blk_put (cs := #[.int .u64 0, .int .u64 0, .int .u64 0, .slice none 0 0]) ?_ 3 _ rfl; (with_reducible repeat (first | refine blk_drewN ?_ _ | refine blk_drew ?_ | refine blk_alloc ?_ _)); refine blk_put (cs := #[.int .u64 0, .int .u64 0, .int .u64 x258002_1, .slice none 0 0]) ?_ 2 _ rfl; (with_reducible repeat (first | refine blk_drewN ?_ _ | refine blk_drew ?_ | refine blk_alloc ?_ _)); refine blk_put (cs := #[.int .u64 0, .int .u64 x258001_1, .int .u64 x258002_1, .slice none 0 0]) ?_ 1 _ rfl; (with_reducible repeat (first | refine blk_drewN ?_ _ | refine blk_drew ?_ | refine blk_alloc ?_ _)); refine blk_put (cs := #[.int .u64 x258000_1, .int .u64 x258001_1, .int .u64 x258002_1, .slice none 0 0]) ?_ 0 _ rfl; (with_reducible repeat (first | refine blk_drewN ?_ _ | refine blk_drew ?_ | refine blk_alloc ?_ _)); exact BK257.out) Try.underlying91 rfl (by kernel_rfl)) rfl ?_
                  exact ⟨_, by first | rfl | (simp [errW_none, errW_some] <;> rfl) | (simp [*, errW_none, errW_some] <;> rfl), by first | exact Kd.R_nil _ _ _ _ _ | exact Kd.N_nil _ _ _ _ _ | exact Kd.V_nil _ _ _ _ _ | exact Kd.Q_nil _ _ _ _ _ | exact Kd.S_nil _ _ _ _ _, by repeat (first | (with_reducible first | exact HB.out | apply below_alloc | apply pw_below_drewN | apply below_drew1 | refine below_set ?_ GE257.out) | exact HB.out)⟩
                · rw [if_neg c40] at H
                  have c40b0 : decide (8 < (wrap64 ((l0.length : Int) - x4_1))) = false := decide_eq_false c40
                  (try (have c40h28 := c40b0; simp only [hsl28_.out, Int.ofNat_toNat] at c40h28))
                  (try (have c40h36 := c40b0; simp only [hsl36_.out, Int.ofNat_toNat] at c40h36))
                  clear c40
                  by_cases c42 : 0 < (x5_1.length : Int)
                  · rw [if_pos c42] at H
                    have c42b0 : decide (0 < (x5_1.length : Int)) = true := decide_eq_true c42
                    have c42b1 : decide (0 < x5_1.length) = true := decide_eq_true (by omega)
                    (try (have c42h28 := c42b0; simp only [hsl28_.out, Int.ofNat_toNat] at c42h28))
                    (try (have c42h36 := c42b0; simp only [hsl36_.out, Int.ofNat_toNat] at c42h36))
                    clear c42
                    by_cases c43 : 1 < (x5_1.length : Int)
                    · rw [if_pos c43] at H
                      have c43b0 : decide (1 < (x5_1.length : Int)) = true := decide_eq_true c43
                      have c43b1 : decide (1 < x5_1.length) = true := decide_eq_true (by omega)
                      (try (have c43h28 := c43b0; simp only [hsl28_.out, Int.ofNat_toNat] at c43h28))
                      (try (have c43h36 := c43b0; simp only [hsl36_.out, Int.ofNat_toNat] at c43h36))
                      clear c43
                      by_cases c44 : 2 < (x5_1.length : Int)
                      · rw [if_pos c44] at H
                        have c44b0 : decide (2 < (x5_1.length : Int)) = true := decide_eq_true c44
                        have c44b1 : decide (2 < x5_1.length) = true := decide_eq_true (by omega)
                        (try (have c44h28 := c44b0; simp only [hsl28_.out, Int.ofNat_toNat] at c44h28))
                        (try (have c44h36 := c44b0; simp only [hsl36_.out, Int.ofNat_toNat] at c44h36))
                        clear c44
                        obtain ⟨y274, hy274⟩ : ∃ y_ : List Int, y_ = (([] : List Int)) := ⟨_, rfl⟩
                        replace H : (if 0 ≤ x4_1 then (if x4_1 ≤ (l0.length : Int) then (if y274.length + (l0.drop (x4_1 : Int).toNat).length < 140737488355328 then (some (rd x5_1 0, rd x5_1 1, rd x5_1 2, (y274 ++ (l0.drop (x4_1 : Int).toNat)), 0)) else (none)) else (none)) else (none)) = some (r1, r2, r3, r4, r5) := by first | (rw [hy274]; with_reducible exact H) | (have H2_ := (Option.bind_some _ _).symm.trans H; rw [hy274]; with_reducible exact H2_) | (have H2_ := (Option.bind_some _ _).symm.trans H; with_reducible exact H2_) | with_reducible exact H | (rw [hy274]; exact H) | exact H
                        have Ny274 := Aside0.mk hy274
                        clear hy274
                        by_cases c45 : 0 ≤ x4_1
                        · rw [if_pos c45] at H
                          have c45b0 := eq_true c45
                          have c45b1 : decide (0 ≤ x4_1) = true := decide_eq_true c45
                          clear c45
                          by_cases c46 : x4_1 ≤ (l0.length : Int)
                          · rw [if_pos c46] at H
                            have c46b0 := eq_true c46
                            have c46b1 : decide (x4_1 ≤ (l0.length : Int)) = true := decide_eq_true c46
                            clear c46
                            by_cases c47 : y274.length + (l0.drop (x4_1 : Int).toNat).length < 140737488355328
                            · rw [if_pos c47] at H
                              have LMc47 := Aside0.mk c47
                              clear c47
                              obtain ⟨y278, hy278⟩ : ∃ y_ : List Int, y_ = (y274 ++ (l0.drop (x4_1 : Int).toNat)) := ⟨_, rfl⟩
                              replace H : (some (rd x5_1 0, rd x5_1 1, rd x5_1 2, y278, 0)) = some (r1, r2, r3, r4, r5) := by first | (rw [hy278]; with_reducible exact H) | (have H2_ := (Option.bind_some _ _).symm.trans H; rw [hy278]; with_reducible exact H2_) | (have H2_ := (Option.bind_some _ _).symm.trans H; with_reducible exact H2_) | with_reducible exact H | (rw [hy278]; exact H) | exact H
                              have Ny278 := Aside0.mk hy278
                              clear hy278
                              simp only [Option.some.injEq, Prod.mk.injEq] at H
                              obtain ⟨rfl, rfl, rfl, rfl, rfl⟩ := H
                              obtain ⟨i048, hi048, _, hsz48, _⟩ := info_parts info5
                              obtain ⟨A48, hcut48, hA48, hC48⟩ := print_drop_of (P := Try.prog) (Value.int .u8) 0 22 5 .i64 Try.underlying22 hi048 hsz48 (some ad258) c0 l0 x4_1 (of_decide_eq_true (by first | (with_reducible assumption) | assumption)) (of_decide_eq_true (by first | (with_reducible assumption) | assumption)) HC0.out
                              have HR277 := Aside0.mk (Kd.C_of_reads (h1 := fun _ => rfl) (hA48 _ (Kd.reads_of_C HR0.out)))
                              have HC277 := Aside0.mk hC48
                              clear hA48 hC48 hi048 hsz48
                              try go_wp2
                              have n0_ := Aside0.mk (Kd.R_drew HO_5.out)
                              have n1_ := Aside0.mk (blk_drew BK257.out)
                              have n2_ := Aside0.mk (below_drew1 HB.out)
                              clear HO_5
                              clear BK257
                              clear HB
                              have HO_5 := n0_
                              have BK257 := n1_
                              have HB := n2_
                              clear n0_ n1_ n2_
                              obtain ⟨Ao50, co50, eo50⟩ := Kd.R_slice HO_5.out
                              (first | subst eo50 | (injection eo50 with f1_ f2_ f3_; have f4_ := f1_.symm; have f5_ := f3_.symm; clear f1_ f2_ f3_; subst f4_; subst f5_))
                              have p271 : 0 ≤ (0 : Int) := (by omega)
                              have q271 : 0 < (x5_1.length : Int) := of_decide_eq_true (by first | (with_reducible assumption) | assumption)
                              obtain ⟨ad271, e271, hx271_0⟩ := Kd.at_int (Kd.R_reads' HO_5.out).2.2 0 p271 q271
                              cases e271
                              have qi271 : (0 < x5_1.length) = True := eq_true (by omega)
                              (try rw [show ((0 : Int)).toNat = 0 from rfl] at hx271_0)
                              (try rw [Addr.add_zero'] at hx271_0)
                              replace p271 := eq_true p271
                              replace q271 := eq_true q271
                              have p272 : 0 ≤ (1 : Int) := (by omega)
                              have q272 : 1 < (x5_1.length : Int) := of_decide_eq_true (by first | (with_reducible assumption) | assumption)
                              obtain ⟨ad272, e272, hx272_0⟩ := Kd.at_int (Kd.R_reads' HO_5.out).2.2 1 p272 q272
                              obtain rfl : ad271 = ad272 := (by injection e272)
                              (try simp only [show (1 : Int).toNat = 1 from rfl, Nat.reduceMul, Nat.reduceEqDiff, Go.Addr.add, ↓reduceIte] at hx272_0)
                              have qi272 : (1 < x5_1.length) = True := eq_true (by omega)
                              (try rw [show ((1 : Int)).toNat = 1 from rfl] at hx272_0)
                              replace p272 := eq_true p272
                              replace q272 := eq_true q272
                              have p273 : 0 ≤ (2 : Int) := (by omega)
                              have q273 : 2 < (x5_1.length : Int) := of_decide_eq_true (by first | (with_reducible assumption) | assumption)
                              obtain ⟨ad273, e273, hx273_0⟩ := Kd.at_int (Kd.R_reads' HO_5.out).2.2 2 p273 q273
                              obtain rfl : ad271 = ad273 := (by injection e273)
                              (try simp only [show (2 : Int).toNat = 2 from rfl, Nat.reduceMul, Nat.reduceEqDiff, Go.Addr.add, ↓reduceIte] at hx273_0)
                              have qi273 : (2 < x5_1.length) = True := eq_true (by omega)
                              (try rw [show ((2 : Int)).toNat = 2 from rfl] at hx273_0)
                              replace p273 := eq_true p273
                              replace q273 := eq_true q273
                              refine start_ (n := 17) (S := fun w' => True) (ds := []) #[false, false, false, false, false, false, false, false, false, false, false, false, false, false, false, false, false] (by kernel_rfl) rfl rfl trivial (fun hHeld => ?_); refine with_tabW wristbandref12_Read.tab26 wristbandref12_Read.bits26 (fun HT_ HW_ => ?_)
                              generalize wr.drew = w49 at HO_5 BK257 HB hx271_0 hx272_0 hx273_0 hHeld ⊢
                              refine pure_ (i := 0) (N := some 78) (v := ?_) (a' := ?_) #[true, false, false, false, false, false, false, false, false, false, false, false, false, false, false, false, false] rfl rfl (any_of HT_.out (by kernel_rfl)) (fun _ _ _ h => h) (Or.inl ⟨by rfl, ?_⟩) ?_ ?_
                              rotate_left
                              · intro w'
                                go_simp
                                with_reducible rfl
                              rotate_left
                              · simp only [Act.put, List.setIfInBounds_toArray, List.set_cons_zero, List.set_cons_succ, i64_w, i32_w]
                                rfl
                              refine pure_ (i := 3) (N := some 81) (v := ?_) (a' := ?_) #[true, false, false, true, false, false, false, false, false, false, false, false, false, false, false, false, false] rfl rfl (any_of HT_.out (by kernel_rfl)) (fun _ _ _ h => h) (Or.inl ⟨by rfl, ?_⟩) ?_ ?_
                              rotate_left
                              · intro w'
                                go_simp
                                with_reducible rfl
                              rotate_left
                              · simp only [Act.put, List.setIfInBounds_toArray, List.set_cons_zero, List.set_cons_succ, i64_w, i32_w]
                                rfl
                              refine pure_ (i := 6) (N := some 84) (v := ?_) (a' := ?_) #[true, false, false, true, false, false, true, false, false, false, false, false, false, false, false, false, false] rfl rfl (any_of HT_.out (by kernel_rfl)) (fun _ _ _ h => h) (Or.inl ⟨by rfl, ?_⟩) ?_ ?_
                              rotate_left
                              · intro w'
                                go_simp
                                with_reducible rfl
                              rotate_left
                              · simp only [Act.put, List.setIfInBounds_toArray, List.set_cons_zero, List.set_cons_succ, i64_w, i32_w]
                                rfl
                              refine pure_ (i := 10) (N := some 88) (v := ?_) (a' := ?_) #[true, false, false, true, false, false, true, false, false, false, true, false, false, false, false, false, false] rfl rfl (any_of HT_.out (by kernel_rfl)) (fun _ _ _ h => h) (Or.inl ⟨by rfl, ?_⟩) ?_ ?_
                              rotate_left
                              · intro w'
                                go_simp
                                with_reducible rfl
                              rotate_left
                              · simp only [Act.put, List.setIfInBounds_toArray, List.set_cons_zero, List.set_cons_succ, i64_w, i32_w]
                                rfl
                              refine pure_ (i := 11) (N := some 89) (v := ?_) (a' := ?_) #[true, false, false, true, false, false, true, false, false, false, true, true, false, false, false, false, false] rfl rfl (any_of HT_.out (by kernel_rfl)) (fun _ _ _ h => h) (Or.inl ⟨by rfl, ?_⟩) ?_ ?_
                              rotate_left
                              · intro w'
                                go_simp
                                with_reducible rfl
                              rotate_left
                              · simp only [Act.put, List.setIfInBounds_toArray, List.set_cons_zero, List.set_cons_succ, i64_w, i32_w]
                                rfl
                              refine inv_at [1, 2, 4, 5, 7, 8, 9, 12, 13, 14, 15, 16] (fun a0_ b a w' => ∃ (v275 : Value) (v279 : Value) (m14_ : Value), a = putSel a0_ b [(1, 79, .pointer (some ad271)), (2, 80, .int .u64 (rd x5_1 0)), (4, 82, .pointer (some (ad271.add 1))), (5, 83, .int .u64 (rd x5_1 1)), (7, 85, .pointer (some (ad271.add 2))), (8, 86, .int .u64 (rd x5_1 2)), (9, 87, v275), (12, 90, .slice A48 (l0.drop (x4_1 : Int).toNat).length (c0 - x4_1.toNat)), (13, 91, v279), (14, 92, m14_), (16, 3, .int .i64 0)] ∧ (Kd.R (Kd.int .u64) 39 w' w.heap.size (fun _ => True) (.slice (some ad271) x5_1.length co50) x5_1) ∧ (b 15 = false → w'.heap[gb257]? = some (.cells #[.int .u64 x258000_1, .int .u64 x258001_1, .int .u64 x258002_1, .slice none 0 0] 91 (0, 0))) ∧ (Below w.heap.size w w') ∧ (b 9 = true → b 13 = false → Kd.R (Kd.int .u8) 5 w' w.heap.size (fun _ => True) v275 y274) ∧ (b 13 = true → Kd.R (Kd.int .u8) 5 w' w.heap.size (fun _ => True) v279 y278) ∧ (b 15 = true → w'.heap[gb257]? = some (.cells #[.int .u64 (rd x5_1 0), .int .u64 (rd x5_1 1), .int .u64 (rd x5_1 2), v279] 91 (0, 0))) ∧ (b 14 = true → (m14_ : Value) = .agg #[.int .u64 (rd x5_1 0), .int .u64 (rd x5_1 1), .int .u64 (rd x5_1 2), v279])) HT_.out HW_.out (by kernel_rfl) (by kernel_rfl) ?_ ?_ ?_
                              · exact ⟨.bool false, .bool false, .bool false, by simp only [putSel, Bool.false_eq_true, if_false], HO_5.out, fun _ => BK257.out, HB.out, fun h_ => absurd h_ (by decide), fun h_ => absurd h_ (by decide), fun h_ => absurd h_ (by decide), fun h_ => absurd h_ (by decide)⟩
                              · skip
                                clear BK257 HB HO_5
                                refine steps_cons ?_ ?_
                                · rintro b a w' ⟨v275, v279, m14_, ha, hI_⟩ hb_ hon hoff
                                  refine ⟨_, rfl, fun K hK => ?_⟩
                                  have e78 : a.tmps[78]? = some (.slice (some ad271) x5_1.length co50) := by rw [ha]; exact (putSel_off rfl).trans rfl
                                  replace ha := Aside0.mk ha; replace hI_ := Aside0.mk hI_
                                  refine value_ (w1 := w') (v := .pointer (some ad271)) (by rfl) rfl ?_ ?_
                                  · go_simp
                                    (try simp only [i64_w])
                                    try first | rfl | (simp [bne]; done)
                                  refine hK.out _ _ ⟨v275, v279, m14_, (by rw [ha.out]; exact putSel_upk 0 hb_ rfl rfl rfl), hI_.out⟩
                                refine steps_cons ?_ ?_
                                · rintro b a w' ⟨v275, v279, m14_, ha, Q_HO_5, Q_BK257, Q_HB, Q_HO276, Q_HO280, Q_BK257_e15, Q_X14_⟩ hb_ hon hoff
                                  refine ⟨_, rfl, fun K hK => ?_⟩
                                  have e79 : a.tmps[79]? = some (.pointer (some ad271)) := by rw [ha]; exact putSel_on (e := (1, 79, .pointer (some ad271))) 0 rfl rfl (hon 1 (by kernel_rfl)) rfl
                                  replace ha := Aside0.mk ha
                                  have HO_5 := Aside0.mk Q_HO_5
                                  have BK257 := Aside0.mk (Q_BK257 (hoff 15 (by kernel_rfl)))
                                  have HB := Aside0.mk Q_HB
                                  obtain ⟨ad271_z, e271_z, hx271_0_z⟩ := Kd.at_int (Kd.R_reads' HO_5.out).2.2 0 (of_eq_true p271) (of_eq_true q271)
                                  cases e271_z
                                  have hs0_ : w'.cell? ad271 = some (.int .u64 (rd x5_1 0)) := (by first | exact hx271_0_z | (have h_ := hx271_0_z; (try simp only [Int.reduceToNat, Nat.zero_mul, Nat.reduceMul, Nat.reduceEqDiff, Go.Addr.add, ↓reduceIte, Addr.add_zero'] at h_); exact h_))
                                  refine value_ (w1 := w') (v := .int .u64 (rd x5_1 0)) (by rfl) rfl ?_ ?_
                                  · go_simp
                                    (try simp only [i64_w])
                                    try first | rfl | (simp [bne]; done)
                                  refine hK.out _ _ ⟨v275, v279, m14_, (by rw [ha.out]; exact putSel_upk 1 hb_ rfl rfl rfl), Q_HO_5, Q_BK257, Q_HB, Q_HO276, Q_HO280, fun h0_ => absurd ((hoff 15 (by kernel_rfl)).symm.trans h0_) (by decide), fun h0_ => absurd ((hoff 14 (by kernel_rfl)).symm.trans h0_) (by decide)⟩
                                refine steps_cons ?_ ?_
                                · rintro b a w' ⟨v275, v279, m14_, ha, hI_⟩ hb_ hon hoff
                                  refine ⟨_, rfl, fun K hK => ?_⟩
                                  have e81 : a.tmps[81]? = some (.slice (some ad271) x5_1.length co50) := by rw [ha]; exact (putSel_off rfl).trans rfl
                                  replace ha := Aside0.mk ha; replace hI_ := Aside0.mk hI_
                                  refine value_ (w1 := w') (v := .pointer (some (ad271.add 1))) (by rfl) rfl ?_ ?_
                                  · go_simp
                                    (try simp only [i64_w])
                                    try first | rfl | (simp [bne]; done)
                                  refine hK.out _ _ ⟨v275, v279, m14_, (by rw [ha.out]; exact putSel_upk 2 hb_ rfl rfl rfl), hI_.out⟩
                                refine steps_cons ?_ ?_
                                · rintro b a w' ⟨v275, v279, m14_, ha, Q_HO_5, Q_BK257, Q_HB, Q_HO276, Q_HO280, Q_BK257_e15, Q_X14_⟩ hb_ hon hoff
                                  refine ⟨_, rfl, fun K hK => ?_⟩
                                  have e82 : a.tmps[82]? = some (.pointer (some (ad271.add 1))) := by rw [ha]; exact putSel_on (e := (4, 82, .pointer (some (ad271.add 1)))) 2 rfl rfl (hon 4 (by kernel_rfl)) rfl
                                  replace ha := Aside0.mk ha
                                  have HO_5 := Aside0.mk Q_HO_5
                                  have BK257 := Aside0.mk (Q_BK257 (hoff 15 (by kernel_rfl)))
                                  have HB := Aside0.mk Q_HB
                                  obtain ⟨ad272_z, e272_z, hx272_0_z⟩ := Kd.at_int (Kd.R_reads' HO_5.out).2.2 1 (of_eq_true p272) (of_eq_true q272)
                                  cases e272_z
                                  have hs1_ : w'.cell? ⟨ad271.block, ad271.off + 1, none⟩ = some (.int .u64 (rd x5_1 1)) := (by first | exact hx272_0_z | (have h_ := hx272_0_z; (try simp only [Int.reduceToNat, Nat.zero_mul, Nat.reduceMul, Nat.reduceEqDiff, Go.Addr.add, ↓reduceIte, Addr.add_zero'] at h_); exact h_))
                                  refine value_ (w1 := w') (v := .int .u64 (rd x5_1 1)) (by rfl) rfl ?_ ?_
                                  · go_simp
                                    (try simp only [i64_w])
                                    try first | rfl | (simp [bne]; done)
                                  refine hK.out _ _ ⟨v275, v279, m14_, (by rw [ha.out]; exact putSel_upk 3 hb_ rfl rfl rfl), Q_HO_5, Q_BK257, Q_HB, Q_HO276, Q_HO280, fun h0_ => absurd ((hoff 15 (by kernel_rfl)).symm.trans h0_) (by decide), fun h0_ => absurd ((hoff 14 (by kernel_rfl)).symm.trans h0_) (by decide)⟩
                                refine steps_cons ?_ ?_
                                · rintro b a w' ⟨v275, v279, m14_, ha, hI_⟩ hb_ hon hoff
                                  refine ⟨_, rfl, fun K hK => ?_⟩
                                  have e84 : a.tmps[84]? = some (.slice (some ad271) x5_1.length co50) := by rw [ha]; exact (putSel_off rfl).trans rfl
                                  replace ha := Aside0.mk ha; replace hI_ := Aside0.mk hI_
                                  refine value_ (w1 := w') (v := .pointer (some (ad271.add 2))) (by rfl) rfl ?_ ?_
                                  · go_simp
                                    (try simp only [i64_w])
                                    try first | rfl | (simp [bne]; done)
                                  refine hK.out _ _ ⟨v275, v279, m14_, (by rw [ha.out]; exact putSel_upk 4 hb_ rfl rfl rfl), hI_.out⟩
                                refine steps_cons ?_ ?_
                                · rintro b a w' ⟨v275, v279, m14_, ha, Q_HO_5, Q_BK257, Q_HB, Q_HO276, Q_HO280, Q_BK257_e15, Q_X14_⟩ hb_ hon hoff
                                  refine ⟨_, rfl, fun K hK => ?_⟩
                                  have e85 : a.tmps[85]? = some (.pointer (some (ad271.add 2))) := by rw [ha]; exact putSel_on (e := (7, 85, .pointer (some (ad271.add 2)))) 4 rfl rfl (hon 7 (by kernel_rfl)) rfl
                                  replace ha := Aside0.mk ha
                                  have HO_5 := Aside0.mk Q_HO_5
                                  have BK257 := Aside0.mk (Q_BK257 (hoff 15 (by kernel_rfl)))
                                  have HB := Aside0.mk Q_HB
                                  obtain ⟨ad273_z, e273_z, hx273_0_z⟩ := Kd.at_int (Kd.R_reads' HO_5.out).2.2 2 (of_eq_true p273) (of_eq_true q273)
                                  cases e273_z
                                  have hs2_ : w'.cell? ⟨ad271.block, ad271.off + 2, none⟩ = some (.int .u64 (rd x5_1 2)) := (by first | exact hx273_0_z | (have h_ := hx273_0_z; (try simp only [Int.reduceToNat, Nat.zero_mul, Nat.reduceMul, Nat.reduceEqDiff, Go.Addr.add, ↓reduceIte, Addr.add_zero'] at h_); exact h_))
                                  refine value_ (w1 := w') (v := .int .u64 (rd x5_1 2)) (by rfl) rfl ?_ ?_
                                  · go_simp
                                    (try simp only [i64_w])
                                    try first | rfl | (simp [bne]; done)
                                  refine hK.out _ _ ⟨v275, v279, m14_, (by rw [ha.out]; exact putSel_upk 5 hb_ rfl rfl rfl), Q_HO_5, Q_BK257, Q_HB, Q_HO276, Q_HO280, fun h0_ => absurd ((hoff 15 (by kernel_rfl)).symm.trans h0_) (by decide), fun h0_ => absurd ((hoff 14 (by kernel_rfl)).symm.trans h0_) (by decide)⟩
                                refine steps_cons ?_ ?_
                                · rintro b a w' ⟨v275, v279, m14_, ha, Q_HO_5, Q_BK257, Q_HB, Q_HO276, Q_HO280, Q_BK257_e15, Q_X14_⟩ hb_ hon hoff
                                  refine ⟨_, rfl, fun K hK => ?_⟩
                                  replace ha := Aside0.mk ha
                                  have HO_5 := Aside0.mk Q_HO_5
                                  have BK257 := Aside0.mk (Q_BK257 (hoff 15 (by kernel_rfl)))
                                  have HB := Aside0.mk Q_HB
                                  refine Kd.R_lit_step (Kd.int .u8) _ 5 ?hg (N := 87) ?hd (xs := ([] : List Int)) (inner := []) (ok := fun _ => True) (okp := fun _ => True) ?hr ?hp (fun _ hk => hk) trivial (Below.refl _ _) (Nat.le_refl _) (by simp) ?_; (case hd => rfl); (case hg => rfl); (case hr => first | (go_simp; done) | (go_simp; rfl)); (case hp => exact (Reps.none _ _))
                                  intro v275 w50 ho51 hb hg_ hnew_
                                  clear hg_ hnew_
                                  (first | rw [← Ny274.out] at ho51 | (simp only [Int.reduceToNat] at ho51; rw [← Ny274.out] at ho51))
                                  have n0_ := Aside0.mk (Kd.R_below (by (with_reducible repeat (first | apply Kd.R_alloc | apply Kd.R_drewN | apply Kd.R_drew)); exact HO_5.out) hb)
                                  have n1_ := Aside0.mk (Kd.R_lower ho51 (below_size (by repeat (first | (with_reducible first | exact HB.out | apply below_alloc | apply pw_below_drewN | apply below_drew1 | refine below_set ?_ GE257.out) | exact HB.out))))
                                  have n2_ := Aside0.mk (blk_below (g := gb257) (o := .cells #[.int .u64 x258000_1, .int .u64 x258001_1, .int .u64 x258002_1, .slice none 0 0] 91 (0, 0)) (by (with_reducible repeat (first | refine blk_drewN ?_ _ | refine blk_drew ?_ | refine blk_alloc ?_ _)); exact BK257.out) hb)
                                  have n3_ := Aside0.mk (below_step (by repeat (first | (with_reducible first | exact HB.out | apply below_alloc | apply pw_below_drewN | apply below_drew1 | refine below_set ?_ GE257.out) | exact HB.out)) hb)
                                  clear HO_5
                                  clear BK257
                                  clear HB
                                  have HO_5 := n0_
                                  have HO276 := n1_
                                  have BK257 := n2_
                                  have HB := n3_
                                  clear n0_ n1_ n2_ n3_
                                  clear hb ho51
                                  refine hK.out _ _ ⟨v275, v279, m14_, (by rw [ha.out]; exact putSel_upk 6 hb_ rfl rfl rfl), (by (with_reducible repeat (first | apply Kd.R_alloc | apply Kd.R_drewN | apply Kd.R_drew)); exact HO_5.out), fun _ => (by (with_reducible repeat (first | refine blk_drewN ?_ _ | refine blk_drew ?_ | refine blk_alloc ?_ _)); exact BK257.out), (by repeat (first | (with_reducible first | exact HB.out | apply below_alloc | apply pw_below_drewN | apply below_drew1 | refine below_set ?_ GE257.out) | exact HB.out)), fun _ _ => (by (with_reducible repeat (first | apply Kd.R_alloc | apply Kd.R_drewN | apply Kd.R_drew)); exact HO276.out), fun h0_ => absurd ((hoff 13 (by kernel_rfl)).symm.trans h0_) (by decide), fun h0_ => absurd ((hoff 15 (by kernel_rfl)).symm.trans h0_) (by decide), fun h0_ => absurd ((hoff 14 (by kernel_rfl)).symm.trans h0_) (by decide)⟩
                                refine steps_cons ?_ ?_
                                · rintro b a w' ⟨v275, v279, m14_, ha, hI_⟩ hb_ hon hoff
                                  refine ⟨_, rfl, fun K hK => ?_⟩
                                  have e88 : a.tmps[88]? = some (.slice (some ad258) l0.length c0) := by rw [ha]; exact (putSel_off rfl).trans rfl
                                  have e89 : a.tmps[89]? = some (.int .i64 x4_1) := by rw [ha]; exact (putSel_off rfl).trans rfl
                                  replace ha := Aside0.mk ha; replace hI_ := Aside0.mk hI_
                                  refine value_ (w1 := w') (v := .slice A48 (l0.drop (x4_1 : Int).toNat).length (c0 - x4_1.toNat)) (by rfl) rfl ?_ ?_
                                  · go_simp
                                    (try simp only [i64_w])
                                    try first | rfl | (simp [bne]; done)
                                  refine hK.out _ _ ⟨v275, v279, m14_, (by rw [ha.out]; exact putSel_upk 7 hb_ rfl rfl rfl), hI_.out⟩
                                refine steps_cons ?_ ?_
                                · rintro b a w' ⟨v275, v279, m14_, ha, Q_HO_5, Q_BK257, Q_HB, Q_HO276, Q_HO280, Q_BK257_e15, Q_X14_⟩ hb_ hon hoff
                                  refine ⟨_, rfl, fun K hK => ?_⟩
                                  have e87 : a.tmps[87]? = some (v275) := by rw [ha]; exact putSel_on (e := (9, 87, v275)) 6 rfl rfl (hon 9 (by kernel_rfl)) rfl
                                  have e90 : a.tmps[90]? = some (.slice A48 (l0.drop (x4_1 : Int).toNat).length (c0 - x4_1.toNat)) := by rw [ha]; exact putSel_on (e := (12, 90, .slice A48 (l0.drop (x4_1 : Int).toNat).length (c0 - x4_1.toNat))) 7 rfl rfl (hon 12 (by kernel_rfl)) rfl
                                  replace ha := Aside0.mk ha
                                  have HO_5 := Aside0.mk Q_HO_5
                                  have BK257 := Aside0.mk (Q_BK257 (hoff 15 (by kernel_rfl)))
                                  have HB := Aside0.mk Q_HB
                                  have HO276 := Aside0.mk (Q_HO276 (hon 9 (by kernel_rfl)) hb_)
                                  refine Kd.R_append_rows_step (Kd.int .u8) (w0 := w) w.heap.size (by rfl) (.tmp 87) (.tmp 90) 22 5 (.int .u8 0) 1 rfl Try.underlying22 info5 rfl (by decide) (by omega) v275 y274 (l0.drop (x4_1 : Int).toNat) A48 (l0.drop (x4_1 : Int).toNat).length (c0 - x4_1.toNat) (fun _ => True) (fun _ => False) (by simp only [Act.eval, Array.getD_eq_getD_getElem?, e87, Option.getD_some]) (by simp only [Act.eval, Array.getD_eq_getD_getElem?, e90, Option.getD_some]) ?aO ?aR (fun _ _ h => h) (fun _ h => h.elim) ?aF ?aB ?aS ?aL ?_
                                  (case aR => first | (rw [← show (l0.drop (x4_1 : Int).toNat).length = (l0.length - x4_1.toNat) from List.length_drop]; repeat (first | exact (Kd.C_below HR277.out HB.out) | (with_reducible refine Kd.C_alloc ?_ _) | (with_reducible refine Kd.C_drewN ?_ _) | (with_reducible refine Kd.C_drew ?_))) | (repeat (first | exact (Kd.C_below HR277.out HB.out) | (with_reducible refine Kd.C_alloc ?_ _) | (with_reducible refine Kd.C_drewN ?_ _) | (with_reducible refine Kd.C_drew ?_))))
                                  (case aB => exact (by repeat (first | (with_reducible first | exact HB.out | apply below_alloc | apply pw_below_drewN | apply below_drew1 | refine below_set ?_ GE257.out) | exact HB.out)))
                                  (case aF => exact (fun _ _ => trivial))
                                  (case aO => exact (by (with_reducible repeat (first | apply Kd.R_alloc | apply Kd.R_drewN | apply Kd.R_drew)); exact HO276.out))
                                  (case aS => exact (below_size (by repeat (first | (with_reducible first | exact HB.out | apply below_alloc | apply pw_below_drewN | apply below_drew1 | refine below_set ?_ GE257.out) | exact HB.out))))
                                  (case aL => have := LMc47.out; have hlx_ := (show (l0.drop (x4_1 : Int).toNat).length = (l0.length - x4_1.toNat) from List.length_drop); omega)
                                  intro v279 w53 ho hb hg hat
                                  rw [← Ny278.out] at ho
                                  have n0_ := Aside0.mk (Kd.R_over' (by (with_reducible repeat (first | apply Kd.R_alloc | apply Kd.R_drewN | apply Kd.R_drew)); exact HO_5.out) (Kd.R_typed (by (with_reducible repeat (first | apply Kd.R_alloc | apply Kd.R_drewN | apply Kd.R_drew)); exact HO276.out)) (by decide) hg)
                                  have n1_ := Aside0.mk (blk_grown (g := gb257) (o := .cells #[.int .u64 x258000_1, .int .u64 x258001_1, .int .u64 x258002_1, .slice none 0 0] 91 (0, 0)) (by (with_reducible repeat (first | refine blk_drewN ?_ _ | refine blk_drew ?_ | refine blk_alloc ?_ _)); exact BK257.out) hg (Kd.R_ne HO276.out BK257.out (by decide)))
                                  have n2_ := Aside0.mk (hb)
                                  have n3_ := Aside0.mk (ho)
                                  clear HO_5
                                  clear BK257
                                  clear HB
                                  clear HO276
                                  have HO_5 := n0_
                                  have BK257 := n1_
                                  have HB := n2_
                                  have HO280 := n3_
                                  clear n0_ n1_ n2_ n3_
                                  clear ho hb hg hat
                                  obtain ⟨Ao54, co54, eo54⟩ := Kd.R_slice HO280.out
                                  (first | subst eo54 | (injection eo54 with f1_ f2_ f3_; have f4_ := f1_.symm; have f5_ := f3_.symm; clear f1_ f2_ f3_; subst f4_; subst f5_))
                                  refine hK.out _ _ ⟨v275, .slice Ao54 y278.length co54, m14_, (by rw [ha.out]; exact putSel_upk 8 hb_ rfl rfl rfl), (by (with_reducible repeat (first | apply Kd.R_alloc | apply Kd.R_drewN | apply Kd.R_drew)); exact HO_5.out), fun _ => (by (with_reducible repeat (first | refine blk_drewN ?_ _ | refine blk_drew ?_ | refine blk_alloc ?_ _)); exact BK257.out), (by repeat (first | (with_reducible first | exact HB.out | apply below_alloc | apply pw_below_drewN | apply below_drew1 | refine below_set ?_ GE257.out) | exact HB.out)), fun _ h1_ => absurd ((up_self b 13).symm.trans h1_) (by decide), fun _ => (by (with_reducible repeat (first | apply Kd.R_alloc | apply Kd.R_drewN | apply Kd.R_drew)); exact HO280.out), fun h0_ => absurd ((hoff 15 (by kernel_rfl)).symm.trans h0_) (by decide), fun h0_ => absurd ((hoff 14 (by kernel_rfl)).symm.trans h0_) (by decide)⟩
                                refine steps_cons ?_ ?_
                                · rintro b a w' ⟨v275, v279, m14_, ha, Q_HO_5, Q_BK257, Q_HB, Q_HO276, Q_HO280, Q_BK257_e15, Q_X14_⟩ hb_ hon hoff
                                  refine ⟨_, rfl, fun K hK => ?_⟩
                                  have e80 : a.tmps[80]? = some (.int .u64 (rd x5_1 0)) := by rw [ha]; exact putSel_on (e := (2, 80, .int .u64 (rd x5_1 0))) 1 rfl rfl (hon 2 (by kernel_rfl)) rfl
                                  have e83 : a.tmps[83]? = some (.int .u64 (rd x5_1 1)) := by rw [ha]; exact putSel_on (e := (5, 83, .int .u64 (rd x5_1 1))) 3 rfl rfl (hon 5 (by kernel_rfl)) rfl
                                  have e86 : a.tmps[86]? = some (.int .u64 (rd x5_1 2)) := by rw [ha]; exact putSel_on (e := (8, 86, .int .u64 (rd x5_1 2))) 5 rfl rfl (hon 8 (by kernel_rfl)) rfl
                                  have e91 : a.tmps[91]? = some (v279) := by rw [ha]; exact putSel_on (e := (13, 91, v279)) 8 rfl rfl (hon 13 (by kernel_rfl)) rfl
                                  replace ha := Aside0.mk ha
                                  have HO_5 := Aside0.mk Q_HO_5
                                  have BK257 := Aside0.mk (Q_BK257 (hoff 15 (by kernel_rfl)))
                                  have HB := Aside0.mk Q_HB
                                  have HO280 := Aside0.mk (Q_HO280 (hon 13 (by kernel_rfl)))
                                  obtain ⟨Ao14_0, co14_0, eo_⟩ := Kd.R_slice HO280.out
                                  subst eo_
                                  refine value_ (w1 := w') (v := .agg #[.int .u64 (rd x5_1 0), .int .u64 (rd x5_1 1), .int .u64 (rd x5_1 2), .slice Ao14_0 y278.length co14_0]) (by rfl) rfl ?_ ?_
                                  · go_simp
                                    (try simp only [i64_w])
                                    try first | rfl | (simp [bne]; done)
                                  refine hK.out _ _ ⟨v275, .slice Ao14_0 y278.length co14_0, (.agg #[.int .u64 (rd x5_1 0), .int .u64 (rd x5_1 1), .int .u64 (rd x5_1 2), .slice Ao14_0 y278.length co14_0]), (by rw [ha.out]; exact putSel_upk 9 hb_ rfl rfl rfl), Q_HO_5, Q_BK257, Q_HB, fun _ h1_ => absurd ((hon 13 (by kernel_rfl)).symm.trans h1_) (by decide), Q_HO280, fun h0_ => absurd ((hoff 15 (by kernel_rfl)).symm.trans h0_) (by decide), fun _ => rfl⟩
                                refine steps_cons ?_ ?_
                                · rintro b a w' ⟨v275, v279, m14_, ha, Q_HO_5, Q_BK257, Q_HB, Q_HO276, Q_HO280, Q_BK257_e15, Q_X14_⟩ hb_ hon hoff
                                  refine ⟨_, rfl, fun K hK => ?_⟩
                                  have e2 : a.tmps[2]? = some (.pointer (some ⟨gb257, 0, none⟩)) := by rw [ha]; exact (putSel_off rfl).trans rfl
                                  have e92 : a.tmps[92]? = some (m14_) := by rw [ha]; exact putSel_on (e := (14, 92, m14_)) 9 rfl rfl (hon 14 (by kernel_rfl)) rfl
                                  rw [Q_X14_ (hon 14 (by kernel_rfl))] at e92
                                  replace ha := Aside0.mk ha
                                  have HO_5 := Aside0.mk Q_HO_5
                                  have BK257 := Aside0.mk (Q_BK257 hb_)
                                  have HB := Aside0.mk Q_HB
                                  have HO280 := Aside0.mk (Q_HO280 (hon 13 (by kernel_rfl)))
                                  obtain ⟨Ao55, co55, eo55⟩ := Kd.R_slice HO280.out
                                  (first | subst eo55 | (injection eo55 with f1_ f2_ f3_; have f4_ := f1_.symm; have f5_ := f3_.symm; clear f1_ f2_ f3_; subst f4_; subst f5_))
                                  have hs56 : w'.cell? ⟨gb257, 0, none⟩ = some (.int .u64 x258000_1) := (blk_cell BK257.out 0).trans rfl
                                  have hfs56 := blk_frozen BK257.out 0
                                  have hs57 : w'.cell? ⟨gb257, 1, none⟩ = some (.int .u64 x258001_1) := (blk_cell BK257.out 1).trans rfl
                                  have hfs57 := blk_frozen BK257.out 1
                                  have hs58 : w'.cell? ⟨gb257, 2, none⟩ = some (.int .u64 x258002_1) := (blk_cell BK257.out 2).trans rfl
                                  have hfs58 := blk_frozen BK257.out 2
                                  have hs59 : w'.cell? ⟨gb257, 3, none⟩ = some (.slice none 0 0) := (blk_cell BK257.out 3).trans rfl
                                  have hfs59 := blk_frozen BK257.out 3
                                  refine skip_ (w1 := ?_) (by rfl) rfl ?_ ?_
                                  rotate_left
                                  · go_simp
                                    rfl
                                  refine hK.out _ _ ⟨v275, .slice Ao55 y278.length co55, m14_, (by rw [ha.out]; exact putSel_none (v := undef) rfl), (by (with_reducible repeat (first | apply Kd.R_alloc | apply Kd.R_drewN | apply Kd.R_drew)); exact Kd.R_mono (Kd.R_far (p := ⟨gb257, 3, none⟩) (Kd.R_far (p := ⟨gb257, 2, none⟩) (Kd.R_far (p := ⟨gb257, 1, none⟩) (Kd.R_far (p := ⟨gb257, 0, none⟩) (Kd.R_types HO_5.out BK257.out (by decide)) (fun _ hk => hk.2) (.int .u64 (rd x5_1 0))) (fun _ hk => hk.2) (.int .u64 (rd x5_1 1))) (fun _ hk => hk.2) (.int .u64 (rd x5_1 2))) (fun _ hk => hk.2) (.slice Ao55 y278.length co55)) (fun _ hk => trivial)), fun h0_ => absurd ((up_self b 15).symm.trans h0_) (by decide), (by repeat (first | (with_reducible first | exact HB.out | apply below_alloc | apply pw_below_drewN | apply below_drew1 | refine below_set ?_ GE257.out) | exact HB.out)), fun _ h1_ => absurd ((hon 13 (by kernel_rfl)).symm.trans h1_) (by decide), fun _ => (by (with_reducible repeat (first | apply Kd.R_alloc | apply Kd.R_drewN | apply Kd.R_drew)); exact Kd.R_mono (Kd.R_far (p := ⟨gb257, 3, none⟩) (Kd.R_far (p := ⟨gb257, 2, none⟩) (Kd.R_far (p := ⟨gb257, 1, none⟩) (Kd.R_far (p := ⟨gb257, 0, none⟩) (Kd.R_types HO280.out BK257.out (by decide)) (fun _ hk => hk.2) (.int .u64 (rd x5_1 0))) (fun _ hk => hk.2) (.int .u64 (rd x5_1 1))) (fun _ hk => hk.2) (.int .u64 (rd x5_1 2))) (fun _ hk => hk.2) (.slice Ao55 y278.length co55)) (fun _ hk => trivial)), fun _ => (by (with_reducible repeat (first | refine blk_drewN ?_ _ | refine blk_drew ?_ | refine blk_alloc ?_ _)); refine blk_put (cs := #[.int .u64 (rd x5_1 0), .int .u64 (rd x5_1 1), .int .u64 (rd x5_1 2), .slice none 0 0]) ?_ 3 _ rfl; (with_reducible repeat (first | refine blk_drewN ?_ _ | refine blk_drew ?_ | refine blk_alloc ?_ _)); refine blk_put (cs := #[.int .u64 (rd x5_1 0), .int .u64 (rd x5_1 1), .int .u64 x258002_1, .slice none 0 0]) ?_ 2 _ rfl; (with_reducible repeat (first | refine blk_drewN ?_ _ | refine blk_drew ?_ | refine blk_alloc ?_ _)); refine blk_put (cs := #[.int .u64 (rd x5_1 0), .int .u64 x258001_1, .int .u64 x258002_1, .slice none 0 0]) ?_ 1 _ rfl; (with_reducible repeat (first | refine blk_drewN ?_ _ | refine blk_drew ?_ | refine blk_alloc ?_ _)); refine blk_put (cs := #[.int .u64 x258000_1, .int .u64 x258001_1, .int .u64 x258002_1, .slice none 0 0]) ?_ 0 _ rfl; (with_reducible repeat (first | refine blk_drewN ?_ _ | refine blk_drew ?_ | refine blk_alloc ?_ _)); exact BK257.out), Q_X14_⟩
                                refine steps_cons ?_ ?_
                                · rintro b a w' ⟨v275, v279, m14_, ha, hI_⟩ hb_ hon hoff
                                  refine ⟨_, rfl, fun K hK => ?_⟩
                                  replace ha := Aside0.mk ha; replace hI_ := Aside0.mk hI_
                                  refine value_ (w1 := w') (v := .int .i64 0) (by rfl) rfl ?_ ?_
                                  · go_simp
                                    (try simp only [i64_w])
                                    try first | rfl | (simp [bne]; done)
                                  refine hK.out _ _ ⟨v275, v279, m14_, (by rw [ha.out]; exact putSel_upk 10 hb_ rfl rfl rfl), hI_.out⟩
                                exact steps_nil
                              rintro b a w59 hall ⟨v275, v279, m14_, ha, Q_HO_5, Q_BK257, Q_HB, Q_HO276, Q_HO280, Q_BK257_e15, Q_X14_⟩
                              clear BK257 HB HO_5
                              have hb1_ := hall 1 (by kernel_rfl)
                              have hb2_ := hall 2 (by kernel_rfl)
                              have hb4_ := hall 4 (by kernel_rfl)
                              have hb5_ := hall 5 (by kernel_rfl)
                              have hb7_ := hall 7 (by kernel_rfl)
                              have hb8_ := hall 8 (by kernel_rfl)
                              have hb9_ := hall 9 (by kernel_rfl)
                              have hb12_ := hall 12 (by kernel_rfl)
                              have hb13_ := hall 13 (by kernel_rfl)
                              have hb14_ := hall 14 (by kernel_rfl)
                              have hb15_ := hall 15 (by kernel_rfl)
                              have hb16_ := hall 16 (by kernel_rfl)
                              subst ha
                              obtain rfl := Q_X14_ hb14_
                              simp only [putSel, hb1_, hb2_, hb4_, hb5_, hb7_, hb8_, hb9_, hb12_, hb13_, hb14_, hb15_, hb16_, if_true, Act.put, List.setIfInBounds_toArray, List.set_cons_zero, List.set_cons_succ]
                              have HO_5 := Aside0.mk Q_HO_5
                              clear Q_HO_5
                              clear Q_BK257
                              have HB := Aside0.mk Q_HB
                              clear Q_HB
                              clear Q_HO276
                              have HO280 := Aside0.mk (Q_HO280 hb13_)
                              clear Q_HO280
                              have BK257 := Aside0.mk (Q_BK257_e15 hb15_)
                              clear Q_BK257_e15
                              clear hall hb1_ hb2_ hb4_ hb5_ hb7_ hb8_ hb9_ hb12_ hb13_ hb14_ hb15_ hb16_
                              obtain ⟨Ao60, co60, eo60⟩ := Kd.R_slice HO280.out
                              (first | subst eo60 | (injection eo60 with f1_ f2_ f3_; have f4_ := f1_.symm; have f5_ := f3_.symm; clear f1_ f2_ f3_; subst f4_; subst f5_))
                              try go_wp2
                              refine bodyPost_ret (results_ct rfl _ _ gb257 91 #[.int .u64 (rd x5_1 0), .int .u64 (rd x5_1 1), .int .u64 (rd x5_1 2), .slice Ao60 y278.length co60] (0, 0) _ rfl (by (with_reducible repeat (first | refine blk_drewN ?_ _ | refine blk_drew ?_ | refine blk_alloc ?_ _)); exact BK257.out) Try.underlying91 rfl (by kernel_rfl)) rfl ?_
                              exact ⟨_, by first | rfl | (simp [errW_none, errW_some] <;> rfl) | (simp [*, errW_none, errW_some] <;> rfl), by (with_reducible repeat (first | apply Kd.R_alloc | apply Kd.R_drewN | apply Kd.R_drew)); exact HO280.out, by repeat (first | (with_reducible first | exact HB.out | apply below_alloc | apply pw_below_drewN | apply below_drew1 | refine below_set ?_ GE257.out) | exact HB.out)⟩
                            · rw [if_neg c47] at H
                              exact absurd H (by simp)
                          · rw [if_neg c46] at H
                            exact absurd H (by simp)
                        · rw [if_neg c45] at H
                          exact absurd H (by simp)
                      · rw [if_neg c44] at H
                        exact absurd H (by simp)
                    · rw [if_neg c43] at H
                      exact absurd H (by simp)
                  · rw [if_neg c42] at H
                    exact absurd H (by simp)
      · rw [if_neg c6] at H
        have c6b0 : ((rd l0 0) == 87) = false := beq_eq_false_iff_ne.mpr c6
        have c6b1 : ((rd l0 0) != 87) = true := bne_iff_ne.mpr c6
        (try (have c6h28 := c6b0; simp only [hsl28_.out, Int.ofNat_toNat] at c6h28))
        (try (have c6h36 := c6b0; simp only [hsl36_.out, Int.ofNat_toNat] at c6h36))
        simp only [Option.some.injEq, Prod.mk.injEq] at H
        obtain ⟨rfl, rfl, rfl, rfl, rfl⟩ := H
        go_enter Try.func73, Try.ntmps73
        go_wp2_with (first | ((with_reducible refine gate_dst (N := 2) rfl ?_); refine box_event ?hg (N := 2) ?hd (cs := #[.int .u64 0, .int .u64 0, .int .u64 0, .slice none 0 0]) (t := 91) ?hr ?_; (case hd => rfl); (case hg => rfl); (case hr => first | (go_simp; done) | (go_simp; rfl)); intro gb257 hg w61 hbox hb; have n0_ := Aside0.mk (below_step (by repeat (first | (with_reducible first | exact HB.out | apply below_alloc | apply pw_below_drewN | apply below_drew1) | exact HB.out)) hb); have n1_ := Aside0.mk (hbox); have n2_ := Aside0.mk ((by rw [hg]; exact (below_size (by repeat (first | (with_reducible first | exact HB.out | apply below_alloc | apply pw_below_drewN | apply below_drew1) | exact HB.out))) : w.heap.size ≤ gb257)); have n3_ := Aside0.mk ((by rw [hg]; exact (below_size (by repeat (first | (with_reducible first | exact HB.out | apply below_alloc | apply pw_below_drewN | apply below_drew1) | exact HB.out))) : w.heap.size ≤ gb257)); clear HB; have HB := n0_; have BK257 := n1_; have GW257 := n2_; have GE257 := n3_; clear n0_ n1_ n2_ n3_; clear hb hbox hg; have p258 : 0 ≤ (0 : Int) := (by omega); have q258 : 0 < (l0.length : Int) := of_decide_eq_true (by first | (with_reducible assumption) | assumption); obtain ⟨ad258, e258, hx258_0⟩ := Kd.at_int HR0.out 0 p258 q258; cases e258; have qi258 : (0 < l0.length) = True := eq_true (by omega); (try rw [show ((0 : Int)).toNat = 0 from rfl] at hx258_0); (try rw [Addr.add_zero'] at hx258_0); replace hx258_0 := (HB.out.cell (World.block_lt_of_cell? w _ hx258_0)).trans hx258_0; replace p258 := eq_true p258; replace q258 := eq_true q258; have hcz62_0 : w61.cell? ⟨gb257, 0, none⟩ = some (.int .u64 0) := (blk_cell BK257.out 0).trans rfl; have hcz62_1 : w61.cell? ⟨gb257, 1, none⟩ = some (.int .u64 0) := (blk_cell BK257.out 1).trans rfl; have hcz62_2 : w61.cell? ⟨gb257, 2, none⟩ = some (.int .u64 0) := (blk_cell BK257.out 2).trans rfl; have hcz62_3 : w61.cell? ⟨gb257, 3, none⟩ = some (.slice none 0 0) := (blk_cell BK257.out 3).trans rfl; have hfz62_0 := blk_frozen BK257.out 0; have hfz62_1 := blk_frozen BK257.out 1; have hfz62_2 := blk_frozen BK257.out 2; have hfz62_3 := blk_frozen BK257.out 3))
        refine bodyPost_ret (results_ct rfl _ _ gb257 91 #[.int .u64 0, .int .u64 0, .int .u64 0, .slice none 0 0] (0, 0) _ rfl (by (with_reducible repeat (first | refine blk_drewN ?_ _ | refine blk_drew ?_ | refine blk_alloc ?_ _)); refine blk_put (cs := #[.int .u64 0, .int .u64 0, .int .u64 0, .slice none 0 0]) ?_ 3 _ rfl; (with_reducible repeat (first | refine blk_drewN ?_ _ | refine blk_drew ?_ | refine blk_alloc ?_ _)); refine blk_put (cs := #[.int .u64 0, .int .u64 0, .int .u64 0, .slice none 0 0]) ?_ 2 _ rfl; (with_reducible repeat (first | refine blk_drewN ?_ _ | refine blk_drew ?_ | refine blk_alloc ?_ _)); refine blk_put (cs := #[.int .u64 0, .int .u64 0, .int .u64 0, .slice none 0 0]) ?_ 1 _ rfl; (with_reducible repeat (first | refine blk_drewN ?_ _ | refine blk_drew ?_ | refine blk_alloc ?_ _)); refine blk_put (cs := #[.int .u64 0, .int .u64 0, .int .u64 0, .slice none 0 0]) ?_ 0 _ rfl; (with_reducible repeat (first | refine blk_drewN ?_ _ | refine blk_drew ?_ | refine blk_alloc ?_ _)); exact BK257.out) Try.underlying91 rfl (by kernel_rfl)) rfl ?_
        exact ⟨_, by first | rfl | (simp [errW_none, errW_some] <;> rfl) | (simp [*, errW_none, errW_some] <;> rfl), by first | exact Kd.R_nil _ _ _ _ _ | exact Kd.N_nil _ _ _ _ _ | exact Kd.V_nil _ _ _ _ _ | exact Kd.Q_nil _ _ _ _ _ | exact Kd.S_nil _ _ _ _ _, by repeat (first | (with_reducible first | exact HB.out | apply below_alloc | apply pw_below_drewN | apply below_drew1 | refine below_set ?_ GE257.out) | exact HB.out)⟩
    · rw [if_neg c5] at H
      exact absurd H (by simp)


end Go.Proofs.Ytnpkhkhlofkbhaa.PFrameRight
