-- made by a program of this session (its printer) out of what Lean prints of the given program
import Derived.Test.YtnpkhkhlofkbhaaDoorPShaBlocksx0
import Derived.Test.YtnpkhkhlofkbhaaDoorPShaBlocksx1
import Derived.Test.YtnpkhkhlofkbhaaDoorPShaBlocksx4
import Derived.Test.YtnpkhkhlofkbhaaDoorPShaBlocksx5
namespace Go.Proofs.YtnpkhkhlofkbhaaDoor.PShaBlocks
open Go.RowKit Go.Proofs.YtnpkhkhlofkbhaaDoorW.PrintWords Go.Proofs.YtnpkhkhlofkbhaaDoorW.PrintLast Go.Proofs.YtnpkhkhlofkbhaaDoorW.PrintMore
attribute [local go_sem] max2_int min2_int max_two min_two max_three min_three max_four min_four   -- for this text's walks alone
set_option linter.unusedVariables false
set_option linter.unusedSimpArgs false

attribute [local go_sem high] eqA23
/-! ### wristbandlaw02_ShaBlocks: function 5 -/
def wristbandlaw02_ShaBlocks.l0 : Nat → List Int → Int → Int → Int → Int → Int → Int → Int → Int → Int → Int → List Int → Int → Int → Int → Int → Int → Int → Int → Int → Int → Option (Bool)
  | 0, _, _, _, _, _, _, _, _, _, _, _, _, _, _, _, _, _, _, _, _, _ => none
  | k + 1, x1, x6, x8, x219000, x219001, x219002, x219003, x219004, x219005, x219006, x219007, x219008, x219009, x220000, x220001, x220002, x220003, x220004, x220005, x220006, x220007 => if x8 < (x1.length : Int) then (if 0 ≤ x8 then (if x8 ≤ (wrap64 (x8 + 64)) then (if (wrap64 (x8 + 64)) ≤ (x1.length : Int) then ((sha_Block.f k x220000 x220001 x220002 x220003 x220004 x220005 x220006 x220007 ((x1.take ((wrap64 (x8 + 64)) : Int).toNat).drop (x8 : Int).toNat)).bind fun bt221 => (if bt221.2.2.2.2.2.2.2.2 = 0 then (wristbandlaw02_ShaBlocks.l0 k x1 x6 (wrap64 (x8 + 64)) x219000 x219001 x219002 x219003 x219004 x219005 x219006 x219007 x219008 x219009 bt221.1 bt221.2.1 bt221.2.2.1 bt221.2.2.2.1 bt221.2.2.2.2.1 bt221.2.2.2.2.2.1 bt221.2.2.2.2.2.2.1 bt221.2.2.2.2.2.2.2.1) else (some false))) else (none)) else (none)) else (none)) else (if x6 = 0 then (if (x219000 == x220000 && (x219001 == x220001 && (x219002 == x220002 && (x219003 == x220003 && (x219004 == x220004 && (x219005 == x220005 && (x219006 == x220006 && (x219007 == x220007)))))))) = true then (some ((x219008.length : Int) == 0)) else (some false)) else (some false))
def wristbandlaw02_ShaBlocks.f (k : Nat) (a0_0 : Int) (a0_1 : Int) (a0_2 : Int) (a0_3 : Int) (a0_4 : Int) (a0_5 : Int) (a0_6 : Int) (a0_7 : Int) (l1 : List Int) : Option (Bool) := (wristbandlaw02_awake.f k).bind fun t203 => (if t203 = true then (if (l1.length : Int) > 1280 then (some true) else (if 0 ≤ (wrap64 ((wrap64 ((l1.length : Int) / 64)) * 64)) then (if (wrap64 ((wrap64 ((l1.length : Int) / 64)) * 64)) ≤ (l1.length : Int) then ((sha_More.f k a0_0 a0_1 a0_2 a0_3 a0_4 a0_5 a0_6 a0_7 ([] : List Int) 0 (l1.take ((wrap64 ((wrap64 ((l1.length : Int) / 64)) * 64)) : Int).toNat)).bind fun bt205 => (wristbandlaw02_ShaBlocks.l0 k (l1.take ((wrap64 ((wrap64 ((l1.length : Int) / 64)) * 64)) : Int).toNat) bt205.2.2.2.2.2.2.2.2.2.2 0 bt205.1 bt205.2.1 bt205.2.2.1 bt205.2.2.2.1 bt205.2.2.2.2.1 bt205.2.2.2.2.2.1 bt205.2.2.2.2.2.2.1 bt205.2.2.2.2.2.2.2.1 bt205.2.2.2.2.2.2.2.2.1 bt205.2.2.2.2.2.2.2.2.2.1 a0_0 a0_1 a0_2 a0_3 a0_4 a0_5 a0_6 a0_7)) else (none)) else (none))) else (some false))
theorem wristbandlaw02_ShaBlocks.mono_l : ∀ k, (∀ y0 y1 y2 y3 y4 y5 y6 y7 y8 y9 y10 y11 y12 y13 y14 y15 y16 y17 y18 y19 y20, LeO (wristbandlaw02_ShaBlocks.l0 k y0 y1 y2 y3 y4 y5 y6 y7 y8 y9 y10 y11 y12 y13 y14 y15 y16 y17 y18 y19 y20) (wristbandlaw02_ShaBlocks.l0 (k + 1) y0 y1 y2 y3 y4 y5 y6 y7 y8 y9 y10 y11 y12 y13 y14 y15 y16 y17 y18 y19 y20))
  | 0 => fun _ _ _ _ _ _ _ _ _ _ _ _ _ _ _ _ _ _ _ _ _ r h => by simp [wristbandlaw02_ShaBlocks.l0] at h
  | k + 1 => by
    have ih0 := wristbandlaw02_ShaBlocks.mono_l k
    · intro y0 y1 y2 y3 y4 y5 y6 y7 y8 y9 y10 y11 y12 y13 y14 y15 y16 y17 y18 y19 y20
      unfold wristbandlaw02_ShaBlocks.l0
      repeat' first
      | (with_reducible exact ih0 _ _ _ _ _ _ _ _ _ _ _ _ _ _ _ _ _ _ _ _ _)
      | (with_reducible exact sha_Block.mono _ _ _ _ _ _ _ _ _ _)
      | (with_reducible exact sha_More.mono _ _ _ _ _ _ _ _ _ _ _ _)
      | (with_reducible exact wristbandlaw02_awake.mono _)
      | (with_reducible exact LeO.refl _)
      | (with_reducible exact LeO.none _)
      | (with_reducible refine LeO.ite ?_ ?_)
      | (with_reducible refine LeO.bind ?_ (fun _ => ?_))
      | exact ih0 _ _ _ _ _ _ _ _ _ _ _ _ _ _ _ _ _ _ _ _ _
      | exact sha_Block.mono _ _ _ _ _ _ _ _ _ _
      | exact sha_More.mono _ _ _ _ _ _ _ _ _ _ _ _
      | exact wristbandlaw02_awake.mono _
      | exact LeO.none _
      | refine LeO.ite ?_ ?_
      | refine LeO.bind ?_ (fun _ => ?_)
theorem wristbandlaw02_ShaBlocks.mono : ∀ a0 a1 a2 a3 a4 a5 a6 a7 a8 k, LeO (wristbandlaw02_ShaBlocks.f k a0 a1 a2 a3 a4 a5 a6 a7 a8) (wristbandlaw02_ShaBlocks.f (k + 1) a0 a1 a2 a3 a4 a5 a6 a7 a8) := by
  intro a0 a1 a2 a3 a4 a5 a6 a7 a8 k
  have ih0 := wristbandlaw02_ShaBlocks.mono_l k
  unfold wristbandlaw02_ShaBlocks.f
  repeat' first
      | (with_reducible exact ih0 _ _ _ _ _ _ _ _ _ _ _ _ _ _ _ _ _ _ _ _ _)
      | (with_reducible exact sha_Block.mono _ _ _ _ _ _ _ _ _ _)
      | (with_reducible exact sha_More.mono _ _ _ _ _ _ _ _ _ _ _ _)
      | (with_reducible exact wristbandlaw02_awake.mono _)
      | (with_reducible exact LeO.refl _)
      | (with_reducible exact LeO.none _)
      | (with_reducible refine LeO.ite ?_ ?_)
      | (with_reducible refine LeO.bind ?_ (fun _ => ?_))
      | exact ih0 _ _ _ _ _ _ _ _ _ _ _ _ _ _ _ _ _ _ _ _ _
      | exact sha_Block.mono _ _ _ _ _ _ _ _ _ _
      | exact sha_More.mono _ _ _ _ _ _ _ _ _ _ _ _
      | exact wristbandlaw02_awake.mono _
      | exact LeO.none _
      | refine LeO.ite ?_ ?_
      | refine LeO.bind ?_ (fun _ => ?_)
def wristbandlaw02_ShaBlocks.T11 : Bool × List (List Nat × List Nat) := (true, [([], []), ([], []), ([], []), ([], []), ([3], [3]), ([1, 2, 4], [1, 2, 4]), ([0, 5], [0, 5]), ([6], [6]), ([7], [7]), ([7], [7]), ([], []), ([10, 8, 6, 0, 1, 2, 3, 4, 5, 6, 7, 8, 10], [8, 10]), ([9, 11, 0, 1, 2, 3, 4, 5, 6, 7, 8, 9, 10, 11], [9])])
def wristbandlaw02_ShaBlocks.B11 : List Nat := [0, 0, 0, 0, 8, 30, 63, 127, 255, 255, 0, 1535, 4095]
theorem wristbandlaw02_ShaBlocks.tab11 : rtab .any (opsOf Tryd.f5 11) = wristbandlaw02_ShaBlocks.T11 := by kernel_rfl
theorem wristbandlaw02_ShaBlocks.bits11 : waitsOk wristbandlaw02_ShaBlocks.T11.2 wristbandlaw02_ShaBlocks.B11 = true := by kernel_rfl
set_option maxHeartbeats 8000000 in
set_option maxRecDepth 100000 in
theorem wristbandlaw02_ShaBlocks.calls (k : Nat) (a0_0 : Int) (a0_1 : Int) (a0_2 : Int) (a0_3 : Int) (a0_4 : Int) (a0_5 : Int) (a0_6 : Int) (a0_7 : Int) (A1 : Option Addr) (c1 : Nat) (l1 : List Int) (r : Bool) (w : World) (hr1 : Kd.C (Kd.int .u8) w A1 l1.length l1) (hc1 : l1.length ≤ c1) (hL0_ : Kd.C (Kd.int .u32) w (some ⟨0, 0, none⟩) 64 shaK) (hL1_ : Kd.C (Kd.int .u32) w (some ⟨1, 0, none⟩) 8 shaF) (h : wristbandlaw02_ShaBlocks.f k a0_0 a0_1 a0_2 a0_3 a0_4 a0_5 a0_6 a0_7 l1 = some r) (hT_ : r = true) :
    Calls Tryd.prog 5 #[.agg #[.int .u32 a0_0, .int .u32 a0_1, .int .u32 a0_2, .int .u32 a0_3, .int .u32 a0_4, .int .u32 a0_5, .int .u32 a0_6, .int .u32 a0_7], .slice A1 l1.length c1] w fun e w' => e = .returned (.bool r) ∧ Below w.heap.size w w' := by
  have hu23 := Tryd.underlying23
  have hu27 := Tryd.underlying27
  have HR1 := Aside0.mk hr1
  have HC1 := Aside0.mk hc1
  clear hr1 hc1
  have HRL0_ := Aside0.mk hL0_
  have HRL1_ := Aside0.mk hL1_
  clear hL0_ hL1_
  have HB := Aside0.mk (Below.refl w.heap.size w)
  have HR_ := Aside0.mk hT_
  clear hT_
  have H : ((wristbandlaw02_awake.f k).bind fun t203 => (if t203 = true then (if (l1.length : Int) > 1280 then (some true) else (if 0 ≤ (wrap64 ((wrap64 ((l1.length : Int) / 64)) * 64)) then (if (wrap64 ((wrap64 ((l1.length : Int) / 64)) * 64)) ≤ (l1.length : Int) then ((sha_More.f k a0_0 a0_1 a0_2 a0_3 a0_4 a0_5 a0_6 a0_7 ([] : List Int) 0 (l1.take ((wrap64 ((wrap64 ((l1.length : Int) / 64)) * 64)) : Int).toNat)).bind fun bt205 => (wristbandlaw02_ShaBlocks.l0 k (l1.take ((wrap64 ((wrap64 ((l1.length : Int) / 64)) * 64)) : Int).toNat) bt205.2.2.2.2.2.2.2.2.2.2 0 bt205.1 bt205.2.1 bt205.2.2.1 bt205.2.2.2.1 bt205.2.2.2.2.1 bt205.2.2.2.2.2.1 bt205.2.2.2.2.2.2.1 bt205.2.2.2.2.2.2.2.1 bt205.2.2.2.2.2.2.2.2.1 bt205.2.2.2.2.2.2.2.2.2.1 a0_0 a0_1 a0_2 a0_3 a0_4 a0_5 a0_6 a0_7)) else (none)) else (none))) else (some false))) = some r := h
  clear h
  replace H := Option.bind_eq_some_iff.mp H
  obtain ⟨t203, A30, H⟩ := H
  replace H : (if t203 = true then (if (l1.length : Int) > 1280 then (some true) else (if 0 ≤ (wrap64 ((wrap64 ((l1.length : Int) / 64)) * 64)) then (if (wrap64 ((wrap64 ((l1.length : Int) / 64)) * 64)) ≤ (l1.length : Int) then ((sha_More.f k a0_0 a0_1 a0_2 a0_3 a0_4 a0_5 a0_6 a0_7 ([] : List Int) 0 (l1.take ((wrap64 ((wrap64 ((l1.length : Int) / 64)) * 64)) : Int).toNat)).bind fun bt205 => (wristbandlaw02_ShaBlocks.l0 k (l1.take ((wrap64 ((wrap64 ((l1.length : Int) / 64)) * 64)) : Int).toNat) bt205.2.2.2.2.2.2.2.2.2.2 0 bt205.1 bt205.2.1 bt205.2.2.1 bt205.2.2.2.1 bt205.2.2.2.2.1 bt205.2.2.2.2.2.1 bt205.2.2.2.2.2.2.1 bt205.2.2.2.2.2.2.2.1 bt205.2.2.2.2.2.2.2.2.1 bt205.2.2.2.2.2.2.2.2.2.1 a0_0 a0_1 a0_2 a0_3 a0_4 a0_5 a0_6 a0_7)) else (none)) else (none))) else (some false)) = some r := H
  have A3 := Aside0.mk A30
  clear A30
  by_cases c4 : t203 = true
  · subst c4
    have H1 : (if (l1.length : Int) > 1280 then (some true) else (if 0 ≤ (wrap64 ((wrap64 ((l1.length : Int) / 64)) * 64)) then (if (wrap64 ((wrap64 ((l1.length : Int) / 64)) * 64)) ≤ (l1.length : Int) then ((sha_More.f k a0_0 a0_1 a0_2 a0_3 a0_4 a0_5 a0_6 a0_7 ([] : List Int) 0 (l1.take ((wrap64 ((wrap64 ((l1.length : Int) / 64)) * 64)) : Int).toNat)).bind fun bt205 => (wristbandlaw02_ShaBlocks.l0 k (l1.take ((wrap64 ((wrap64 ((l1.length : Int) / 64)) * 64)) : Int).toNat) bt205.2.2.2.2.2.2.2.2.2.2 0 bt205.1 bt205.2.1 bt205.2.2.1 bt205.2.2.2.1 bt205.2.2.2.2.1 bt205.2.2.2.2.2.1 bt205.2.2.2.2.2.2.1 bt205.2.2.2.2.2.2.2.1 bt205.2.2.2.2.2.2.2.2.1 bt205.2.2.2.2.2.2.2.2.2.1 a0_0 a0_1 a0_2 a0_3 a0_4 a0_5 a0_6 a0_7)) else (none)) else (none))) = some r := by rw [if_pos rfl] at H; exact H
    clear H
    have H := H1
    clear H1
    by_cases c5 : (l1.length : Int) > 1280
    · rw [if_pos c5] at H
      have c5b0 : decide (1280 < (l1.length : Int)) = true := decide_eq_true c5
      have c5b1 : decide (1280 < l1.length) = true := decide_eq_true (by omega)
      clear c5
      obtain rfl := Option.some.inj H
      go_enter Tryd.func5, Tryd.ntmps5
      go_wp2_with (first | ((with_reducible refine gate_dst (N := 2) rfl ?_); (try (refine gate_guard (by rfl) ?_; dsimp only)); refine box_event ?hg (N := 2) ?hd (cs := #[.int .u32 a0_0, .int .u32 a0_1, .int .u32 a0_2, .int .u32 a0_3, .int .u32 a0_4, .int .u32 a0_5, .int .u32 a0_6, .int .u32 a0_7]) (t := 23) ?hr ?_; (case hd => rfl); (case hg => rfl); (case hr => first | (go_simp; done) | (go_simp; rfl)); intro gb202 hg w6 hbox hb; have n0_ := Aside0.mk (below_step (by repeat (first | (with_reducible first | exact HB.out | apply below_alloc | apply pw_below_drewN | apply below_drew1) | exact HB.out)) hb); have n1_ := Aside0.mk (hbox); have n2_ := Aside0.mk ((by rw [hg]; exact (below_size (by repeat (first | (with_reducible first | exact HB.out | apply below_alloc | apply pw_below_drewN | apply below_drew1) | exact HB.out))) : w.heap.size ≤ gb202)); have n3_ := Aside0.mk ((by rw [hg]; exact (below_size (by repeat (first | (with_reducible first | exact HB.out | apply below_alloc | apply pw_below_drewN | apply below_drew1) | exact HB.out))) : w.heap.size ≤ gb202)); clear HB; have HB := n0_; have BK202 := n1_; have GW202 := n2_; have GE202 := n3_; clear n0_ n1_ n2_ n3_; clear hb hbox hg) | ((with_reducible refine gate_callee (f := 13) rfl ?_); refine goesL_ (some 11) rfl rfl Tryd.func13 (by kernel_rfl) rfl #[] rfl (by (try simp only [List.map_toArray, List.map_cons, List.map_nil]); first | done | rfl | (simp only [List.length_drop, List.length_take]; rfl)) ?_; (with_reducible refine (wristbandlaw02_awake.calls k  true _ ?side1 ?side2 A3.out).mono ?_); (case side1 => repeat (first | exact (Kd.C_below HRL0_.out HB.out) | (with_reducible refine Kd.C_alloc ?_ _) | (with_reducible refine Kd.C_drewN ?_ _) | (with_reducible refine Kd.C_drew ?_))); (case side2 => repeat (first | exact (Kd.C_below HRL1_.out HB.out) | (with_reducible refine Kd.C_alloc ?_ _) | (with_reducible refine Kd.C_drewN ?_ _) | (with_reducible refine Kd.C_drew ?_))); rintro e w7 ⟨rfl, hb⟩; refine ⟨_, rfl, ?_⟩; have n0_ := Aside0.mk (blk_below (g := gb202) (o := .cells #[.int .u32 a0_0, .int .u32 a0_1, .int .u32 a0_2, .int .u32 a0_3, .int .u32 a0_4, .int .u32 a0_5, .int .u32 a0_6, .int .u32 a0_7] 23 (0, 0)) (by (with_reducible repeat (first | refine blk_drewN ?_ _ | refine blk_drew ?_ | refine blk_alloc ?_ _)); exact BK202.out) hb); have n1_ := Aside0.mk (below_step (by repeat (first | (with_reducible first | exact HB.out | apply below_alloc | apply pw_below_drewN | apply below_drew1 | refine below_set ?_ GE202.out) | exact HB.out)) hb); clear BK202; clear HB; have BK202 := n0_; have HB := n1_; clear n0_ n1_; (try clear hb); (try clear hb2); (try clear hk); (try clear hi)))
      go_ret
      exact ⟨by first | rfl | (simp [errW_none, errW_some] <;> rfl) | (simp [*, errW_none, errW_some] <;> rfl), by repeat (first | (with_reducible first | exact HB.out | apply below_alloc | apply pw_below_drewN | apply below_drew1 | refine below_set ?_ GE202.out) | exact HB.out)⟩
    · rw [if_neg c5] at H
      have c5b0 : decide (1280 < (l1.length : Int)) = false := decide_eq_false c5
      have c5b1 : decide (1280 < l1.length) = false := decide_eq_false (by omega)
      clear c5
      obtain ⟨ji8, hji8⟩ : ∃ j_ : Int, (wrap64 ((wrap64 ((l1.length : Int) / 64)) * 64)) = j_ := ⟨_, rfl⟩
      replace H : (if 0 ≤ (ji8) then (if (ji8) ≤ (l1.length : Int) then ((sha_More.f k a0_0 a0_1 a0_2 a0_3 a0_4 a0_5 a0_6 a0_7 ([] : List Int) 0 (l1.take ((ji8) : Int).toNat)).bind fun bt205 => (wristbandlaw02_ShaBlocks.l0 k (l1.take ((ji8) : Int).toNat) bt205.2.2.2.2.2.2.2.2.2.2 0 bt205.1 bt205.2.1 bt205.2.2.1 bt205.2.2.2.1 bt205.2.2.2.2.1 bt205.2.2.2.2.2.1 bt205.2.2.2.2.2.2.1 bt205.2.2.2.2.2.2.2.1 bt205.2.2.2.2.2.2.2.2.1 bt205.2.2.2.2.2.2.2.2.2.1 a0_0 a0_1 a0_2 a0_3 a0_4 a0_5 a0_6 a0_7)) else (none)) else (none)) = some r := by first | (rw [hji8] at H; exact H) | (simp only [hji8] at H ⊢; exact H)
      (try rw [hji8] at A3)
      have hji8w : (IntKind.i64.wrap ((wrap64 ((l1.length : Int) / 64)) * 64)) = ji8 := (i64_w _).trans hji8
      by_cases c9 : 0 ≤ (ji8)
      · rw [if_pos c9] at H
        have c9b0 := eq_true c9
        have c9b1 : decide (0 ≤ (ji8)) = true := decide_eq_true c9
        clear c9
        by_cases c10 : (ji8) ≤ (l1.length : Int)
        · rw [if_pos c10] at H
          have c10b0 := eq_true c10
          have c10b1 : decide ((ji8) ≤ (l1.length : Int)) = true := decide_eq_true c10
          clear c10
          replace H := Option.bind_eq_some_iff.mp H
          obtain ⟨⟨t205, t206, t207, t208, t209, t210, t211, t212, t213, t216, t217⟩, A110, H⟩ := H
          replace H : (wristbandlaw02_ShaBlocks.l0 k (l1.take ((ji8) : Int).toNat) t217 0 t205 t206 t207 t208 t209 t210 t211 t212 t213 t216 a0_0 a0_1 a0_2 a0_3 a0_4 a0_5 a0_6 a0_7) = some r := H
          have A11 := Aside0.mk A110
          clear A110
          have H' := Aside0.mk H
          clear H
          go_enter Tryd.func5, Tryd.ntmps5
          go_wp2_with (first | ((with_reducible refine gate_dst (N := 2) rfl ?_); (try (refine gate_guard (by rfl) ?_; dsimp only)); refine box_event ?hg (N := 2) ?hd (cs := #[.int .u32 a0_0, .int .u32 a0_1, .int .u32 a0_2, .int .u32 a0_3, .int .u32 a0_4, .int .u32 a0_5, .int .u32 a0_6, .int .u32 a0_7]) (t := 23) ?hr ?_; (case hd => rfl); (case hg => rfl); (case hr => first | (go_simp; done) | (go_simp; rfl)); intro gb202 hg w12 hbox hb; have n0_ := Aside0.mk (below_step (by repeat (first | (with_reducible first | exact HB.out | apply below_alloc | apply pw_below_drewN | apply below_drew1) | exact HB.out)) hb); have n1_ := Aside0.mk (hbox); have n2_ := Aside0.mk ((by rw [hg]; exact (below_size (by repeat (first | (with_reducible first | exact HB.out | apply below_alloc | apply pw_below_drewN | apply below_drew1) | exact HB.out))) : w.heap.size ≤ gb202)); have n3_ := Aside0.mk ((by rw [hg]; exact (below_size (by repeat (first | (with_reducible first | exact HB.out | apply below_alloc | apply pw_below_drewN | apply below_drew1) | exact HB.out))) : w.heap.size ≤ gb202)); clear HB; have HB := n0_; have BK202 := n1_; have GW202 := n2_; have GE202 := n3_; clear n0_ n1_ n2_ n3_; clear hb hbox hg) | ((with_reducible refine gate_callee (f := 13) rfl ?_); refine goesL_ (some 11) rfl rfl Tryd.func13 (by kernel_rfl) rfl #[] rfl (by (try simp only [List.map_toArray, List.map_cons, List.map_nil]); first | done | rfl | (simp only [List.length_drop, List.length_take]; rfl)) ?_; (with_reducible refine (wristbandlaw02_awake.calls k  true _ ?side1 ?side2 A3.out).mono ?_); (case side1 => repeat (first | exact (Kd.C_below HRL0_.out HB.out) | (with_reducible refine Kd.C_alloc ?_ _) | (with_reducible refine Kd.C_drewN ?_ _) | (with_reducible refine Kd.C_drew ?_))); (case side2 => repeat (first | exact (Kd.C_below HRL1_.out HB.out) | (with_reducible refine Kd.C_alloc ?_ _) | (with_reducible refine Kd.C_drewN ?_ _) | (with_reducible refine Kd.C_drew ?_))); rintro e w13 ⟨rfl, hb⟩; refine ⟨_, rfl, ?_⟩; have n0_ := Aside0.mk (blk_below (g := gb202) (o := .cells #[.int .u32 a0_0, .int .u32 a0_1, .int .u32 a0_2, .int .u32 a0_3, .int .u32 a0_4, .int .u32 a0_5, .int .u32 a0_6, .int .u32 a0_7] 23 (0, 0)) (by (with_reducible repeat (first | refine blk_drewN ?_ _ | refine blk_drew ?_ | refine blk_alloc ?_ _)); exact BK202.out) hb); have n1_ := Aside0.mk (below_step (by repeat (first | (with_reducible first | exact HB.out | apply below_alloc | apply pw_below_drewN | apply below_drew1 | refine below_set ?_ GE202.out) | exact HB.out)) hb); clear BK202; clear HB; have BK202 := n0_; have HB := n1_; clear n0_ n1_; (try clear hb); (try clear hb2); (try clear hk); (try clear hi); obtain ⟨i014, hi014, _, hsz14, _⟩ := info_parts info5; obtain ⟨hcut14, hA14, hC14⟩ := print_take_of (P := Tryd.prog) (Value.int .u8) 0 24 5 .i64 Tryd.underlying24 hi014 hsz14 A1 c1 l1 (ji8) (of_decide_eq_true (by first | (with_reducible assumption) | assumption)) (of_decide_eq_true (by first | (with_reducible assumption) | assumption)) HC1.out; have HR204 := Aside0.mk (Kd.C_of_reads (h1 := fun _ => rfl) (hA14 _ (Kd.reads_of_C HR1.out))); have HC204 := Aside0.mk hC14; clear hA14 hC14 hi014 hsz14; (try (have hsl14_ : (l1.take ((ji8) : Int).toNat).length = (ji8).toNat := (by rw [List.length_take]; have h_ : ((ji8) : Int) ≤ (l1.length : Int) := of_decide_eq_true (by first | (with_reducible assumption) | assumption); omega))); have hcz15_0 : w13.cell? ⟨gb202, 0, none⟩ = some (.int .u32 a0_0) := (blk_cell BK202.out 0).trans rfl; have hcz15_1 : w13.cell? ⟨gb202, 1, none⟩ = some (.int .u32 a0_1) := (blk_cell BK202.out 1).trans rfl; have hcz15_2 : w13.cell? ⟨gb202, 2, none⟩ = some (.int .u32 a0_2) := (blk_cell BK202.out 2).trans rfl; have hcz15_3 : w13.cell? ⟨gb202, 3, none⟩ = some (.int .u32 a0_3) := (blk_cell BK202.out 3).trans rfl; have hcz15_4 : w13.cell? ⟨gb202, 4, none⟩ = some (.int .u32 a0_4) := (blk_cell BK202.out 4).trans rfl; have hcz15_5 : w13.cell? ⟨gb202, 5, none⟩ = some (.int .u32 a0_5) := (blk_cell BK202.out 5).trans rfl; have hcz15_6 : w13.cell? ⟨gb202, 6, none⟩ = some (.int .u32 a0_6) := (blk_cell BK202.out 6).trans rfl; have hcz15_7 : w13.cell? ⟨gb202, 7, none⟩ = some (.int .u32 a0_7) := (blk_cell BK202.out 7).trans rfl; have hfz15_0 := blk_frozen BK202.out 0; have hfz15_1 := blk_frozen BK202.out 1; have hfz15_2 := blk_frozen BK202.out 2; have hfz15_3 := blk_frozen BK202.out 3; have hfz15_4 := blk_frozen BK202.out 4; have hfz15_5 := blk_frozen BK202.out 5; have hfz15_6 := blk_frozen BK202.out 6; have hfz15_7 := blk_frozen BK202.out 7) | ((with_reducible refine gate_callee (f := 20) rfl ?_); refine goesL_ (some 26) rfl rfl Tryd.func20 (by kernel_rfl) rfl #[.agg #[.int .u32 a0_0, .int .u32 a0_1, .int .u32 a0_2, .int .u32 a0_3, .int .u32 a0_4, .int .u32 a0_5, .int .u32 a0_6, .int .u32 a0_7, .slice none 0 0, .int .u64 0], .slice A1 (l1.take ((ji8) : Int).toNat).length c1] rfl (by (try simp only [List.map_toArray, List.map_cons, List.map_nil]); first | done | (rw [show (l1.take ((ji8) : Int).toNat).length = (ji8).toNat from (by rw [List.length_take]; have h_ : ((ji8) : Int) ≤ (l1.length : Int) := of_decide_eq_true (by first | (with_reducible assumption) | assumption); omega)] <;> rfl) | (simp only [hji8]; rfl) | rfl | (simp only [List.length_drop, List.length_take]; rfl)) ?_; (refine (sha_More.calls k a0_0 a0_1 a0_2 a0_3 a0_4 a0_5 a0_6 a0_7 _ _ ([] : List Int) 0 _ _ (l1.take ((ji8) : Int).toNat) t205 t206 t207 t208 t209 t210 t211 t212 t213 t216 t217 _ ?side1 ?side2 ?side3 ?side4 ?side5 ?side6 A11.out).mono ?_); (case side1 => exact Kd.C_nil _ _); (case side2 => exact Nat.le_refl _); (case side3 => repeat (first | exact (Kd.C_below HR204.out HB.out) | (with_reducible refine Kd.C_alloc ?_ _) | (with_reducible refine Kd.C_drewN ?_ _) | (with_reducible refine Kd.C_drew ?_))); (case side4 => exact HC204.out); (case side5 => repeat (first | exact (Kd.C_below HRL0_.out HB.out) | (with_reducible refine Kd.C_alloc ?_ _) | (with_reducible refine Kd.C_drewN ?_ _) | (with_reducible refine Kd.C_drew ?_))); (case side6 => repeat (first | exact (Kd.C_below HRL1_.out HB.out) | (with_reducible refine Kd.C_alloc ?_ _) | (with_reducible refine Kd.C_drewN ?_ _) | (with_reducible refine Kd.C_drew ?_))); rintro e w16 ⟨v214, rfl, ho0, hb⟩; refine ⟨_, rfl, ?_⟩; have n0_ := Aside0.mk (Kd.R_lower ho0 (below_size (by repeat (first | (with_reducible first | exact HB.out | apply below_alloc | apply pw_below_drewN | apply below_drew1 | refine below_set ?_ GE202.out) | exact HB.out)))); have n1_ := Aside0.mk (blk_below (g := gb202) (o := .cells #[.int .u32 a0_0, .int .u32 a0_1, .int .u32 a0_2, .int .u32 a0_3, .int .u32 a0_4, .int .u32 a0_5, .int .u32 a0_6, .int .u32 a0_7] 23 (0, 0)) (by (with_reducible repeat (first | refine blk_drewN ?_ _ | refine blk_drew ?_ | refine blk_alloc ?_ _)); exact BK202.out) hb); have n2_ := Aside0.mk (below_step (by repeat (first | (with_reducible first | exact HB.out | apply below_alloc | apply pw_below_drewN | apply below_drew1 | refine below_set ?_ GE202.out) | exact HB.out)) hb); clear BK202; clear HB; have HO215 := n0_; have BK202 := n1_; have HB := n2_; clear n0_ n1_ n2_; (try clear hb); (try clear hb2); (try clear hk); (try clear hi); (try clear ho0)) | ((with_reducible refine gate_dst (N := 5) rfl ?_); (try (refine gate_guard (by rfl) ?_; dsimp only)); refine box_event ?hg (N := 5) ?hd (cs := #[.int .u32 0, .int .u32 0, .int .u32 0, .int .u32 0, .int .u32 0, .int .u32 0, .int .u32 0, .int .u32 0, .slice none 0 0, .int .u64 0]) (t := 27) ?hr ?_; (case hd => rfl); (case hg => rfl); (case hr => first | (go_simp; done) | (go_simp; rfl)); intro gb218 hg w17 hbox hb; have n0_ := Aside0.mk (Kd.R_below (by (with_reducible repeat (first | apply Kd.R_alloc | apply Kd.R_drewN | apply Kd.R_drew)); exact HO215.out) hb); have n1_ := Aside0.mk (blk_below (g := gb202) (o := .cells #[.int .u32 a0_0, .int .u32 a0_1, .int .u32 a0_2, .int .u32 a0_3, .int .u32 a0_4, .int .u32 a0_5, .int .u32 a0_6, .int .u32 a0_7] 23 (0, 0)) (by (with_reducible repeat (first | refine blk_drewN ?_ _ | refine blk_drew ?_ | refine blk_alloc ?_ _)); exact BK202.out) hb); have n2_ := Aside0.mk (below_step (by repeat (first | (with_reducible first | exact HB.out | apply below_alloc | apply pw_below_drewN | apply below_drew1 | refine below_set ?_ GE202.out) | exact HB.out)) hb); have n3_ := Aside0.mk (hbox); have n4_ := Aside0.mk ((by rw [hg]; exact (below_size (by repeat (first | (with_reducible first | exact HB.out | apply below_alloc | apply pw_below_drewN | apply below_drew1 | refine below_set ?_ GE202.out) | exact HB.out))) : w.heap.size ≤ gb218)); have n5_ := Aside0.mk ((by rw [hg]; exact (below_size (by repeat (first | (with_reducible first | exact HB.out | apply below_alloc | apply pw_below_drewN | apply below_drew1 | refine below_set ?_ GE202.out) | exact HB.out))) : w.heap.size ≤ gb218)); have n6_ := Aside0.mk ((by rw [hg]; exact Nat.ne_of_lt (blk_lt (g := gb202) (o := .cells #[.int .u32 a0_0, .int .u32 a0_1, .int .u32 a0_2, .int .u32 a0_3, .int .u32 a0_4, .int .u32 a0_5, .int .u32 a0_6, .int .u32 a0_7] 23 (0, 0)) (by (with_reducible repeat (first | refine blk_drewN ?_ _ | refine blk_drew ?_ | refine blk_alloc ?_ _)); exact BK202.out)) : gb202 ≠ gb218)); have n7_ := Aside0.mk ((by rw [hg]; exact Nat.ne_of_gt (blk_lt (g := gb202) (o := .cells #[.int .u32 a0_0, .int .u32 a0_1, .int .u32 a0_2, .int .u32 a0_3, .int .u32 a0_4, .int .u32 a0_5, .int .u32 a0_6, .int .u32 a0_7] 23 (0, 0)) (by (with_reducible repeat (first | refine blk_drewN ?_ _ | refine blk_drew ?_ | refine blk_alloc ?_ _)); exact BK202.out)) : gb218 ≠ gb202)); clear HO215; clear BK202; clear HB; have HO215 := n0_; have BK202 := n1_; have HB := n2_; have BK218 := n3_; have GW218 := n4_; have GE218 := n5_; have NB202_218 := n6_; have NB218_202 := n7_; clear n0_ n1_ n2_ n3_ n4_ n5_ n6_ n7_; clear hb hbox hg; have hnb18 := NB218_202.out; have hnc18 := NB202_218.out; have hcz19_0 : w17.cell? ⟨gb218, 0, none⟩ = some (.int .u32 0) := (blk_cell BK218.out 0).trans rfl; have hcz19_1 : w17.cell? ⟨gb218, 1, none⟩ = some (.int .u32 0) := (blk_cell BK218.out 1).trans rfl; have hcz19_2 : w17.cell? ⟨gb218, 2, none⟩ = some (.int .u32 0) := (blk_cell BK218.out 2).trans rfl; have hcz19_3 : w17.cell? ⟨gb218, 3, none⟩ = some (.int .u32 0) := (blk_cell BK218.out 3).trans rfl; have hcz19_4 : w17.cell? ⟨gb218, 4, none⟩ = some (.int .u32 0) := (blk_cell BK218.out 4).trans rfl; have hcz19_5 : w17.cell? ⟨gb218, 5, none⟩ = some (.int .u32 0) := (blk_cell BK218.out 5).trans rfl; have hcz19_6 : w17.cell? ⟨gb218, 6, none⟩ = some (.int .u32 0) := (blk_cell BK218.out 6).trans rfl; have hcz19_7 : w17.cell? ⟨gb218, 7, none⟩ = some (.int .u32 0) := (blk_cell BK218.out 7).trans rfl; have hcz19_8 : w17.cell? ⟨gb218, 8, none⟩ = some (.slice none 0 0) := (blk_cell BK218.out 8).trans rfl; have hcz19_9 : w17.cell? ⟨gb218, 9, none⟩ = some (.int .u64 0) := (blk_cell BK218.out 9).trans rfl; have hfz19_0 := blk_frozen BK218.out 0; have hfz19_1 := blk_frozen BK218.out 1; have hfz19_2 := blk_frozen BK218.out 2; have hfz19_3 := blk_frozen BK218.out 3; have hfz19_4 := blk_frozen BK218.out 4; have hfz19_5 := blk_frozen BK218.out 5; have hfz19_6 := blk_frozen BK218.out 6; have hfz19_7 := blk_frozen BK218.out 7; have hfz19_8 := blk_frozen BK218.out 8; have hfz19_9 := blk_frozen BK218.out 9; obtain ⟨Ao20, co20, eo20⟩ := Kd.R_slice HO215.out; subst eo20; have hcz21_0 : w17.cell? ⟨gb202, 0, none⟩ = some (.int .u32 a0_0) := (blk_cell BK202.out 0).trans rfl; have hcz21_1 : w17.cell? ⟨gb202, 1, none⟩ = some (.int .u32 a0_1) := (blk_cell BK202.out 1).trans rfl; have hcz21_2 : w17.cell? ⟨gb202, 2, none⟩ = some (.int .u32 a0_2) := (blk_cell BK202.out 2).trans rfl; have hcz21_3 : w17.cell? ⟨gb202, 3, none⟩ = some (.int .u32 a0_3) := (blk_cell BK202.out 3).trans rfl; have hcz21_4 : w17.cell? ⟨gb202, 4, none⟩ = some (.int .u32 a0_4) := (blk_cell BK202.out 4).trans rfl; have hcz21_5 : w17.cell? ⟨gb202, 5, none⟩ = some (.int .u32 a0_5) := (blk_cell BK202.out 5).trans rfl; have hcz21_6 : w17.cell? ⟨gb202, 6, none⟩ = some (.int .u32 a0_6) := (blk_cell BK202.out 6).trans rfl; have hcz21_7 : w17.cell? ⟨gb202, 7, none⟩ = some (.int .u32 a0_7) := (blk_cell BK202.out 7).trans rfl; have hfz21_0 := blk_frozen BK202.out 0; have hfz21_1 := blk_frozen BK202.out 1; have hfz21_2 := blk_frozen BK202.out 2; have hfz21_3 := blk_frozen BK202.out 3; have hfz21_4 := blk_frozen BK202.out 4; have hfz21_5 := blk_frozen BK202.out 5; have hfz21_6 := blk_frozen BK202.out 6; have hfz21_7 := blk_frozen BK202.out 7) | ((with_reducible refine gate_dst (N := 7) rfl ?_); (try (refine gate_guard (by rfl) ?_; dsimp only)); refine box_event ?hg (N := 7) ?hd (cs := #[.int .u32 0, .int .u32 0, .int .u32 0, .int .u32 0, .int .u32 0, .int .u32 0, .int .u32 0, .int .u32 0]) (t := 23) ?hr ?_; (case hd => rfl); (case hg => rfl); (case hr => first | (go_simp; done) | (go_simp; rfl)); intro gb219 hg w22 hbox hb; have n0_ := Aside0.mk (Kd.R_below (by (with_reducible repeat (first | apply Kd.R_alloc | apply Kd.R_drewN | apply Kd.R_drew)); exact (Kd.R_mono (Kd.R_far (p := ⟨gb218, 9, none⟩) (Kd.R_far (p := ⟨gb218, 8, none⟩) (Kd.R_far (p := ⟨gb218, 7, none⟩) (Kd.R_far (p := ⟨gb218, 6, none⟩) (Kd.R_far (p := ⟨gb218, 5, none⟩) (Kd.R_far (p := ⟨gb218, 4, none⟩) (Kd.R_far (p := ⟨gb218, 3, none⟩) (Kd.R_far (p := ⟨gb218, 2, none⟩) (Kd.R_far (p := ⟨gb218, 1, none⟩) (Kd.R_far (p := ⟨gb218, 0, none⟩) (Kd.R_types HO215.out BK218.out (by decide)) (fun _ hk => hk.2) (.int .u32 t205)) (fun _ hk => hk.2) (.int .u32 t206)) (fun _ hk => hk.2) (.int .u32 t207)) (fun _ hk => hk.2) (.int .u32 t208)) (fun _ hk => hk.2) (.int .u32 t209)) (fun _ hk => hk.2) (.int .u32 t210)) (fun _ hk => hk.2) (.int .u32 t211)) (fun _ hk => hk.2) (.int .u32 t212)) (fun _ hk => hk.2) (.slice Ao20 t213.length co20)) (fun _ hk => hk.2) (.int .u64 t216)) (fun _ h_ => h_.1))) hb); have n1_ := Aside0.mk (blk_below (g := gb202) (o := .cells #[.int .u32 a0_0, .int .u32 a0_1, .int .u32 a0_2, .int .u32 a0_3, .int .u32 a0_4, .int .u32 a0_5, .int .u32 a0_6, .int .u32 a0_7] 23 (0, 0)) (by (with_reducible repeat (first | refine blk_drewN ?_ _ | refine blk_drew ?_ | refine blk_alloc ?_ _)); refine blk_far ?_ NB202_218.out _; (with_reducible repeat (first | refine blk_drewN ?_ _ | refine blk_drew ?_ | refine blk_alloc ?_ _)); refine blk_far ?_ NB202_218.out _; (with_reducible repeat (first | refine blk_drewN ?_ _ | refine blk_drew ?_ | refine blk_alloc ?_ _)); refine blk_far ?_ NB202_218.out _; (with_reducible repeat (first | refine blk_drewN ?_ _ | refine blk_drew ?_ | refine blk_alloc ?_ _)); refine blk_far ?_ NB202_218.out _; (with_reducible repeat (first | refine blk_drewN ?_ _ | refine blk_drew ?_ | refine blk_alloc ?_ _)); refine blk_far ?_ NB202_218.out _; (with_reducible repeat (first | refine blk_drewN ?_ _ | refine blk_drew ?_ | refine blk_alloc ?_ _)); refine blk_far ?_ NB202_218.out _; (with_reducible repeat (first | refine blk_drewN ?_ _ | refine blk_drew ?_ | refine blk_alloc ?_ _)); refine blk_far ?_ NB202_218.out _; (with_reducible repeat (first | refine blk_drewN ?_ _ | refine blk_drew ?_ | refine blk_alloc ?_ _)); refine blk_far ?_ NB202_218.out _; (with_reducible repeat (first | refine blk_drewN ?_ _ | refine blk_drew ?_ | refine blk_alloc ?_ _)); refine blk_far ?_ NB202_218.out _; (with_reducible repeat (first | refine blk_drewN ?_ _ | refine blk_drew ?_ | refine blk_alloc ?_ _)); refine blk_far ?_ NB202_218.out _; (with_reducible repeat (first | refine blk_drewN ?_ _ | refine blk_drew ?_ | refine blk_alloc ?_ _)); exact BK202.out) hb); have n2_ := Aside0.mk (blk_below (g := gb218) (o := .cells #[.int .u32 t205, .int .u32 t206, .int .u32 t207, .int .u32 t208, .int .u32 t209, .int .u32 t210, .int .u32 t211, .int .u32 t212, .slice Ao20 t213.length co20, .int .u64 t216] 27 (0, 0)) (by (with_reducible repeat (first | refine blk_drewN ?_ _ | refine blk_drew ?_ | refine blk_alloc ?_ _)); refine blk_put (cs := #[.int .u32 t205, .int .u32 t206, .int .u32 t207, .int .u32 t208, .int .u32 t209, .int .u32 t210, .int .u32 t211, .int .u32 t212, .slice Ao20 t213.length co20, .int .u64 0]) ?_ 9 _ rfl; (with_reducible repeat (first | refine blk_drewN ?_ _ | refine blk_drew ?_ | refine blk_alloc ?_ _)); refine blk_put (cs := #[.int .u32 t205, .int .u32 t206, .int .u32 t207, .int .u32 t208, .int .u32 t209, .int .u32 t210, .int .u32 t211, .int .u32 t212, .slice none 0 0, .int .u64 0]) ?_ 8 _ rfl; (with_reducible repeat (first | refine blk_drewN ?_ _ | refine blk_drew ?_ | refine blk_alloc ?_ _)); refine blk_put (cs := #[.int .u32 t205, .int .u32 t206, .int .u32 t207, .int .u32 t208, .int .u32 t209, .int .u32 t210, .int .u32 t211, .int .u32 0, .slice none 0 0, .int .u64 0]) ?_ 7 _ rfl; (with_reducible repeat (first | refine blk_drewN ?_ _ | refine blk_drew ?_ | refine blk_alloc ?_ _)); refine blk_put (cs := #[.int .u32 t205, .int .u32 t206, .int .u32 t207, .int .u32 t208, .int .u32 t209, .int .u32 t210, .int .u32 0, .int .u32 0, .slice none 0 0, .int .u64 0]) ?_ 6 _ rfl; (with_reducible repeat (first | refine blk_drewN ?_ _ | refine blk_drew ?_ | refine blk_alloc ?_ _)); refine blk_put (cs := #[.int .u32 t205, .int .u32 t206, .int .u32 t207, .int .u32 t208, .int .u32 t209, .int .u32 0, .int .u32 0, .int .u32 0, .slice none 0 0, .int .u64 0]) ?_ 5 _ rfl; (with_reducible repeat (first | refine blk_drewN ?_ _ | refine blk_drew ?_ | refine blk_alloc ?_ _)); refine blk_put (cs := #[.int .u32 t205, .int .u32 t206, .int .u32 t207, .int .u32 t208, .int .u32 0, .int .u32 0, .int .u32 0, .int .u32 0, .slice none 0 0, .int .u64 0]) ?_ 4 _ rfl; (with_reducible repeat (first | refine blk_drewN ?_ _ | refine blk_drew ?_ | refine blk_alloc ?_ _)); refine blk_put (cs := #[.int .u32 t205, .int .u32 t206, .int .u32 t207, .int .u32 0, .int .u32 0, .int .u32 0, .int .u32 0, .int .u32 0, .slice none 0 0, .int .u64 0]) ?_ 3 _ rfl; (with_reducible repeat (first | refine blk_drewN ?_ _ | refine blk_drew ?_ | refine blk_alloc ?_ _)); refine blk_put (cs := #[.int .u32 t205, .int .u32 t206, .int .u32 0, .int .u32 0, .int .u32 0, .int .u32 0, .int .u32 0, .int .u32 0, .slice none 0 0, .int .u64 0]) ?_ 2 _ rfl; (with_reducible repeat (first | refine blk_drewN ?_ _ | refine blk_drew ?_ | refine blk_alloc ?_ _)); refine blk_put (cs := #[.int .u32 t205, .int .u32 0, .int .u32 0, .int .u32 0, .int .u32 0, .int .u32 0, .int .u32 0, .int .u32 0, .slice none 0 0, .int .u64 0]) ?_ 1 _ rfl; (with_reducible repeat (first | refine blk_drewN ?_ _ | refine blk_drew ?_ | refine blk_alloc ?_ _)); refine blk_put (cs := #[.int .u32 0, .int .u32 0, .int .u32 0, .int .u32 0, .int .u32 0, .int .u32 0, .int .u32 0, .int .u32 0, .slice none 0 0, .int .u64 0]) ?_ 0 _ rfl; (with_reducible repeat (first | refine blk_drewN ?_ _ | refine blk_drew ?_ | refine blk_alloc ?_ _)); exact BK218.out) hb); have n3_ := Aside0.mk (below_step (by repeat (first | (with_reducible first | exact HB.out | apply below_alloc | apply pw_below_drewN | apply below_drew1 | refine below_set ?_ GE202.out | refine below_set ?_ GE218.out) | exact HB.out)) hb); have n4_ := Aside0.mk (hbox); have n5_ := Aside0.mk ((by rw [hg]; exact (below_size (by repeat (first | (with_reducible first | exact HB.out | apply below_alloc | apply pw_below_drewN | apply below_drew1 | refine below_set ?_ GE202.out | refine below_set ?_ GE218.out) | exact HB.out))) : w.heap.size ≤ gb219)); have n6_ := Aside0.mk ((by rw [hg]; exact (below_size (by repeat (first | (with_reducible first | exact HB.out | apply below_alloc | apply pw_below_drewN | apply below_drew1 | refine below_set ?_ GE202.out | refine below_set ?_ GE218.out) | exact HB.out))) : w.heap.size ≤ gb219)); have n7_ := Aside0.mk ((by rw [hg]; exact Nat.ne_of_lt (blk_lt (g := gb202) (o := .cells #[.int .u32 a0_0, .int .u32 a0_1, .int .u32 a0_2, .int .u32 a0_3, .int .u32 a0_4, .int .u32 a0_5, .int .u32 a0_6, .int .u32 a0_7] 23 (0, 0)) (by (with_reducible repeat (first | refine blk_drewN ?_ _ | refine blk_drew ?_ | refine blk_alloc ?_ _)); refine blk_far ?_ NB202_218.out _; (with_reducible repeat (first | refine blk_drewN ?_ _ | refine blk_drew ?_ | refine blk_alloc ?_ _)); refine blk_far ?_ NB202_218.out _; (with_reducible repeat (first | refine blk_drewN ?_ _ | refine blk_drew ?_ | refine blk_alloc ?_ _)); refine blk_far ?_ NB202_218.out _; (with_reducible repeat (first | refine blk_drewN ?_ _ | refine blk_drew ?_ | refine blk_alloc ?_ _)); refine blk_far ?_ NB202_218.out _; (with_reducible repeat (first | refine blk_drewN ?_ _ | refine blk_drew ?_ | refine blk_alloc ?_ _)); refine blk_far ?_ NB202_218.out _; (with_reducible repeat (first | refine blk_drewN ?_ _ | refine blk_drew ?_ | refine blk_alloc ?_ _)); refine blk_far ?_ NB202_218.out _; (with_reducible repeat (first | refine blk_drewN ?_ _ | refine blk_drew ?_ | refine blk_alloc ?_ _)); refine blk_far ?_ NB202_218.out _; (with_reducible repeat (first | refine blk_drewN ?_ _ | refine blk_drew ?_ | refine blk_alloc ?_ _)); refine blk_far ?_ NB202_218.out _; (with_reducible repeat (first | refine blk_drewN ?_ _ | refine blk_drew ?_ | refine blk_alloc ?_ _)); refine blk_far ?_ NB202_218.out _; (with_reducible repeat (first | refine blk_drewN ?_ _ | refine blk_drew ?_ | refine blk_alloc ?_ _)); refine blk_far ?_ NB202_218.out _; (with_reducible repeat (first | refine blk_drewN ?_ _ | refine blk_drew ?_ | refine blk_alloc ?_ _)); exact BK202.out)) : gb202 ≠ gb219)); have n8_ := Aside0.mk ((by rw [hg]; exact Nat.ne_of_gt (blk_lt (g := gb202) (o := .cells #[.int .u32 a0_0, .int .u32 a0_1, .int .u32 a0_2, .int .u32 a0_3, .int .u32 a0_4, .int .u32 a0_5, .int .u32 a0_6, .int .u32 a0_7] 23 (0, 0)) (by (with_reducible repeat (first | refine blk_drewN ?_ _ | refine blk_drew ?_ | refine blk_alloc ?_ _)); refine blk_far ?_ NB202_218.out _; (with_reducible repeat (first | refine blk_drewN ?_ _ | refine blk_drew ?_ | refine blk_alloc ?_ _)); refine blk_far ?_ NB202_218.out _; (with_reducible repeat (first | refine blk_drewN ?_ _ | refine blk_drew ?_ | refine blk_alloc ?_ _)); refine blk_far ?_ NB202_218.out _; (with_reducible repeat (first | refine blk_drewN ?_ _ | refine blk_drew ?_ | refine blk_alloc ?_ _)); refine blk_far ?_ NB202_218.out _; (with_reducible repeat (first | refine blk_drewN ?_ _ | refine blk_drew ?_ | refine blk_alloc ?_ _)); refine blk_far ?_ NB202_218.out _; (with_reducible repeat (first | refine blk_drewN ?_ _ | refine blk_drew ?_ | refine blk_alloc ?_ _)); refine blk_far ?_ NB202_218.out _; (with_reducible repeat (first | refine blk_drewN ?_ _ | refine blk_drew ?_ | refine blk_alloc ?_ _)); refine blk_far ?_ NB202_218.out _; (with_reducible repeat (first | refine blk_drewN ?_ _ | refine blk_drew ?_ | refine blk_alloc ?_ _)); refine blk_far ?_ NB202_218.out _; (with_reducible repeat (first | refine blk_drewN ?_ _ | refine blk_drew ?_ | refine blk_alloc ?_ _)); refine blk_far ?_ NB202_218.out _; (with_reducible repeat (first | refine blk_drewN ?_ _ | refine blk_drew ?_ | refine blk_alloc ?_ _)); refine blk_far ?_ NB202_218.out _; (with_reducible repeat (first | refine blk_drewN ?_ _ | refine blk_drew ?_ | refine blk_alloc ?_ _)); exact BK202.out)) : gb219 ≠ gb202)); have n9_ := Aside0.mk ((by rw [hg]; exact Nat.ne_of_lt (blk_lt (g := gb218) (o := .cells #[.int .u32 t205, .int .u32 t206, .int .u32 t207, .int .u32 t208, .int .u32 t209, .int .u32 t210, .int .u32 t211, .int .u32 t212, .slice Ao20 t213.length co20, .int .u64 t216] 27 (0, 0)) (by (with_reducible repeat (first | refine blk_drewN ?_ _ | refine blk_drew ?_ | refine blk_alloc ?_ _)); refine blk_put (cs := #[.int .u32 t205, .int .u32 t206, .int .u32 t207, .int .u32 t208, .int .u32 t209, .int .u32 t210, .int .u32 t211, .int .u32 t212, .slice Ao20 t213.length co20, .int .u64 0]) ?_ 9 _ rfl; (with_reducible repeat (first | refine blk_drewN ?_ _ | refine blk_drew ?_ | refine blk_alloc ?_ _)); refine blk_put (cs := #[.int .u32 t205, .int .u32 t206, .int .u32 t207, .int .u32 t208, .int .u32 t209, .int .u32 t210, .int .u32 t211, .int .u32 t212, .slice none 0 0, .int .u64 0]) ?_ 8 _ rfl; (with_reducible repeat (first | refine blk_drewN ?_ _ | refine blk_drew ?_ | refine blk_alloc ?_ _)); refine blk_put (cs := #[.int .u32 t205, .int .u32 t206, .int .u32 t207, .int .u32 t208, .int .u32 t209, .int .u32 t210, .int .u32 t211, .int .u32 0, .slice none 0 0, .int .u64 0]) ?_ 7 _ rfl; (with_reducible repeat (first | refine blk_drewN ?_ _ | refine blk_drew ?_ | refine blk_alloc ?_ _)); refine blk_put (cs := #[.int .u32 t205, .int .u32 t206, .int .u32 t207, .int .u32 t208, .int .u32 t209, .int .u32 t210, .int .u32 0, .int .u32 0, .slice none 0 0, .int .u64 0]) ?_ 6 _ rfl; (with_reducible repeat (first | refine blk_drewN ?_ _ | refine blk_drew ?_ | refine blk_alloc ?_ _)); refine blk_put (cs := #[.int .u32 t205, .int .u32 t206, .int .u32 t207, .int .u32 t208, .int .u32 t209, .int .u32 0, .int .u32 0, .int .u32 0, .slice none 0 0, .int .u64 0]) ?_ 5 _ rfl; (with_reducible repeat (first | refine blk_drewN ?_ _ | refine blk_drew ?_ | refine blk_alloc ?_ _)); refine blk_put (cs := #[.int .u32 t205, .int .u32 t206, .int .u32 t207, .int .u32 t208, .int .u32 0, .int .u32 0, .int .u32 0, .int .u32 0, .slice none 0 0, .int .u64 0]) ?_ 4 _ rfl; (with_reducible repeat (first | refine blk_drewN ?_ _ | refine blk_drew ?_ | refine blk_alloc ?_ _)); refine blk_put (cs := #[.int .u32 t205, .int .u32 t206, .int .u32 t207, .int .u32 0, .int .u32 0, .int .u32 0, .int .u32 0, .int .u32 0, .slice none 0 0, .int .u64 0]) ?_ 3 _ rfl; (with_reducible repeat (first | refine blk_drewN ?_ _ | refine blk_drew ?_ | refine blk_alloc ?_ _)); refine blk_put (cs := #[.int .u32 t205, .int .u32 t206, .int .u32 0, .int .u32 0, .int .u32 0, .int .u32 0, .int .u32 0, .int .u32 0, .slice none 0 0, .int .u64 0]) ?_ 2 _ rfl; (with_reducible repeat (first | refine blk_drewN ?_ _ | refine blk_drew ?_ | refine blk_alloc ?_ _)); refine blk_put (cs := #[.int .u32 t205, .int .u32 0, .int .u32 0, .int .u32 0, .int .u32 0, .int .u32 0, .int .u32 0, .int .u32 0, .slice none 0 0, .int .u64 0]) ?_ 1 _ rfl; (with_reducible repeat (first | refine blk_drewN ?_ _ | refine blk_drew ?_ | refine blk_alloc ?_ _)); refine blk_put (cs := #[.int .u32 0, .int .u32 0, .int .u32 0, .int .u32 0, .int .u32 0, .int .u32 0, .int .u32 0, .int .u32 0, .slice none 0 0, .int .u64 0]) ?_ 0 _ rfl; (with_reducible repeat (first | refine blk_drewN ?_ _ | refine blk_drew ?_ | refine blk_alloc ?_ _)); exact BK218.out)) : gb218 ≠ gb219)); have n10_ := Aside0.mk ((by rw [hg]; exact Nat.ne_of_gt (blk_lt (g := gb218) (o := .cells #[.int .u32 t205, .int .u32 t206, .int .u32 t207, .int .u32 t208, .int .u32 t209, .int .u32 t210, .int .u32 t211, .int .u32 t212, .slice Ao20 t213.length co20, .int .u64 t216] 27 (0, 0)) (by (with_reducible repeat (first | refine blk_drewN ?_ _ | refine blk_drew ?_ | refine blk_alloc ?_ _)); refine blk_put (cs := #[.int .u32 t205, .int .u32 t206, .int .u32 t207, .int .u32 t208, .int .u32 t209, .int .u32 t210, .int .u32 t211, .int .u32 t212, .slice Ao20 t213.length co20, .int .u64 0]) ?_ 9 _ rfl; (with_reducible repeat (first | refine blk_drewN ?_ _ | refine blk_drew ?_ | refine blk_alloc ?_ _)); refine blk_put (cs := #[.int .u32 t205, .int .u32 t206, .int .u32 t207, .int .u32 t208, .int .u32 t209, .int .u32 t210, .int .u32 t211, .int .u32 t212, .slice none 0 0, .int .u64 0]) ?_ 8 _ rfl; (with_reducible repeat (first | refine blk_drewN ?_ _ | refine blk_drew ?_ | refine blk_alloc ?_ _)); refine blk_put (cs := #[.int .u32 t205, .int .u32 t206, .int .u32 t207, .int .u32 t208, .int .u32 t209, .int .u32 t210, .int .u32 t211, .int .u32 0, .slice none 0 0, .int .u64 0]) ?_ 7 _ rfl; (with_reducible repeat (first | refine blk_drewN ?_ _ | refine blk_drew ?_ | refine blk_alloc ?_ _)); refine blk_put (cs := #[.int .u32 t205, .int .u32 t206, .int .u32 t207, .int .u32 t208, .int .u32 t209, .int .u32 t210, .int .u32 0, .int .u32 0, .slice none 0 0, .int .u64 0]) ?_ 6 _ rfl; (with_reducible repeat (first | refine blk_drewN ?_ _ | refine blk_drew ?_ | refine blk_alloc ?_ _)); refine blk_put (cs := #[.int .u32 t205, .int .u32 t206, .int .u32 t207, .int .u32 t208, .int .u32 t209, .int .u32 0, .int .u32 0, .int .u32 0, .slice none 0 0, .int .u64 0]) ?_ 5 _ rfl; (with_reducible repeat (first | refine blk_drewN ?_ _ | refine blk_drew ?_ | refine blk_alloc ?_ _)); refine blk_put (cs := #[.int .u32 t205, .int .u32 t206, .int .u32 t207, .int .u32 t208, .int .u32 0, .int .u32 0, .int .u32 0, .int .u32 0, .slice none 0 0, .int .u64 0]) ?_ 4 _ rfl; (with_reducible repeat (first | refine blk_drewN ?_ _ | refine blk_drew ?_ | refine blk_alloc ?_ _)); refine blk_put (cs := #[.int .u32 t205, .int .u32 t206, .int .u32 t207, .int .u32 0, .int .u32 0, .int .u32 0, .int .u32 0, .int .u32 0, .slice none 0 0, .int .u64 0]) ?_ 3 _ rfl; (with_reducible repeat (first | refine blk_drewN ?_ _ | refine blk_drew ?_ | refine blk_alloc ?_ _)); refine blk_put (cs := #[.int .u32 t205, .int .u32 t206, .int .u32 0, .int .u32 0, .int .u32 0, .int .u32 0, .int .u32 0, .int .u32 0, .slice none 0 0, .int .u64 0]) ?_ 2 _ rfl; (with_reducible repeat (first | refine blk_drewN ?_ _ | refine blk_drew ?_ | refine blk_alloc ?_ _)); refine blk_put (cs := #[.int .u32 t205, .int .u32 0, .int .u32 0, .int .u32 0, .int .u32 0, .int .u32 0, .int .u32 0, .int .u32 0, .slice none 0 0, .int .u64 0]) ?_ 1 _ rfl; (with_reducible repeat (first | refine blk_drewN ?_ _ | refine blk_drew ?_ | refine blk_alloc ?_ _)); refine blk_put (cs := #[.int .u32 0, .int .u32 0, .int .u32 0, .int .u32 0, .int .u32 0, .int .u32 0, .int .u32 0, .int .u32 0, .slice none 0 0, .int .u64 0]) ?_ 0 _ rfl; (with_reducible repeat (first | refine blk_drewN ?_ _ | refine blk_drew ?_ | refine blk_alloc ?_ _)); exact BK218.out)) : gb219 ≠ gb218)); clear HO215; clear BK202; clear BK218; clear HB; have HO215 := n0_; have BK202 := n1_; have BK218 := n2_; have HB := n3_; have BK219 := n4_; have GW219 := n5_; have GE219 := n6_; have NB202_219 := n7_; have NB219_202 := n8_; have NB218_219 := n9_; have NB219_218 := n10_; clear n0_ n1_ n2_ n3_ n4_ n5_ n6_ n7_ n8_ n9_ n10_; clear hb hbox hg; have hnb23 := NB219_202.out; have hnc23 := NB202_219.out; have hnb24 := NB219_218.out; have hnc24 := NB218_219.out; have hcz25_0 : w22.cell? ⟨gb219, 0, none⟩ = some (.int .u32 0) := (blk_cell BK219.out 0).trans rfl; have hcz25_1 : w22.cell? ⟨gb219, 1, none⟩ = some (.int .u32 0) := (blk_cell BK219.out 1).trans rfl; have hcz25_2 : w22.cell? ⟨gb219, 2, none⟩ = some (.int .u32 0) := (blk_cell BK219.out 2).trans rfl; have hcz25_3 : w22.cell? ⟨gb219, 3, none⟩ = some (.int .u32 0) := (blk_cell BK219.out 3).trans rfl; have hcz25_4 : w22.cell? ⟨gb219, 4, none⟩ = some (.int .u32 0) := (blk_cell BK219.out 4).trans rfl; have hcz25_5 : w22.cell? ⟨gb219, 5, none⟩ = some (.int .u32 0) := (blk_cell BK219.out 5).trans rfl; have hcz25_6 : w22.cell? ⟨gb219, 6, none⟩ = some (.int .u32 0) := (blk_cell BK219.out 6).trans rfl; have hcz25_7 : w22.cell? ⟨gb219, 7, none⟩ = some (.int .u32 0) := (blk_cell BK219.out 7).trans rfl; have hfz25_0 := blk_frozen BK219.out 0; have hfz25_1 := blk_frozen BK219.out 1; have hfz25_2 := blk_frozen BK219.out 2; have hfz25_3 := blk_frozen BK219.out 3; have hfz25_4 := blk_frozen BK219.out 4; have hfz25_5 := blk_frozen BK219.out 5; have hfz25_6 := blk_frozen BK219.out 6; have hfz25_7 := blk_frozen BK219.out 7))
          go_loopg [8] k (fun kq v8 w' => ∃ (x8_1 : Int) (x220000_1 : Int) (x220001_1 : Int) (x220002_1 : Int) (x220003_1 : Int) (x220004_1 : Int) (x220005_1 : Int) (x220006_1 : Int) (x220007_1 : Int), v8 = .int .i64 x8_1 ∧ Aside0 (wristbandlaw02_ShaBlocks.l0 kq (l1.take ((ji8) : Int).toNat) t217 x8_1 t205 t206 t207 t208 t209 t210 t211 t212 t213 t216 x220000_1 x220001_1 x220002_1 x220003_1 x220004_1 x220005_1 x220006_1 x220007_1 = some r) ∧ Aside0 (kq ≤ k) ∧ Aside0 (Kd.R (Kd.int .u8) 5 w' w.heap.size (fun _ => True) (.slice Ao20 t213.length co20) t213) ∧ Aside0 (w'.heap[gb202]? = some (.cells #[.int .u32 a0_0, .int .u32 a0_1, .int .u32 a0_2, .int .u32 a0_3, .int .u32 a0_4, .int .u32 a0_5, .int .u32 a0_6, .int .u32 a0_7] 23 (0, 0))) ∧ Aside0 (w'.heap[gb218]? = some (.cells #[.int .u32 t205, .int .u32 t206, .int .u32 t207, .int .u32 t208, .int .u32 t209, .int .u32 t210, .int .u32 t211, .int .u32 t212, (.slice Ao20 t213.length co20), .int .u64 t216] 27 (0, 0))) ∧ Aside0 (w'.heap[gb219]? = some (.cells #[.int .u32 x220000_1, .int .u32 x220001_1, .int .u32 x220002_1, .int .u32 x220003_1, .int .u32 x220004_1, .int .u32 x220005_1, .int .u32 x220006_1, .int .u32 x220007_1] 23 (0, 0))) ∧ Aside0 (Below w.heap.size w w'))
          case atStart => exact ⟨(0), (a0_0), (a0_1), (a0_2), (a0_3), (a0_4), (a0_5), (a0_6), (a0_7), (by first | rfl | (simp; done) | (simp [*]; done)), H', ⟨Nat.le_refl _⟩, ⟨by (with_reducible repeat (first | apply Kd.R_alloc | apply Kd.R_drewN | apply Kd.R_drew)); exact Kd.R_mono (Kd.R_far (p := ⟨gb219, 7, none⟩) (Kd.R_far (p := ⟨gb219, 6, none⟩) (Kd.R_far (p := ⟨gb219, 5, none⟩) (Kd.R_far (p := ⟨gb219, 4, none⟩) (Kd.R_far (p := ⟨gb219, 3, none⟩) (Kd.R_far (p := ⟨gb219, 2, none⟩) (Kd.R_far (p := ⟨gb219, 1, none⟩) (Kd.R_far (p := ⟨gb219, 0, none⟩) (Kd.R_types HO215.out BK219.out (by decide)) (fun _ hk => hk.2) (.int .u32 a0_0)) (fun _ hk => hk.2) (.int .u32 a0_1)) (fun _ hk => hk.2) (.int .u32 a0_2)) (fun _ hk => hk.2) (.int .u32 a0_3)) (fun _ hk => hk.2) (.int .u32 a0_4)) (fun _ hk => hk.2) (.int .u32 a0_5)) (fun _ hk => hk.2) (.int .u32 a0_6)) (fun _ hk => hk.2) (.int .u32 a0_7)) (fun _ hk => trivial)⟩, ⟨by (with_reducible repeat (first | refine blk_drewN ?_ _ | refine blk_drew ?_ | refine blk_alloc ?_ _)); refine blk_far ?_ NB202_219.out _; (with_reducible repeat (first | refine blk_drewN ?_ _ | refine blk_drew ?_ | refine blk_alloc ?_ _)); refine blk_far ?_ NB202_219.out _; (with_reducible repeat (first | refine blk_drewN ?_ _ | refine blk_drew ?_ | refine blk_alloc ?_ _)); refine blk_far ?_ NB202_219.out _; (with_reducible repeat (first | refine blk_drewN ?_ _ | refine blk_drew ?_ | refine blk_alloc ?_ _)); refine blk_far ?_ NB202_219.out _; (with_reducible repeat (first | refine blk_drewN ?_ _ | refine blk_drew ?_ | refine blk_alloc ?_ _)); refine blk_far ?_ NB202_219.out _; (with_reducible repeat (first | refine blk_drewN ?_ _ | refine blk_drew ?_ | refine blk_alloc ?_ _)); refine blk_far ?_ NB202_219.out _; (with_reducible repeat (first | refine blk_drewN ?_ _ | refine blk_drew ?_ | refine blk_alloc ?_ _)); refine blk_far ?_ NB202_219.out _; (with_reducible repeat (first | refine blk_drewN ?_ _ | refine blk_drew ?_ | refine blk_alloc ?_ _)); refine blk_far ?_ NB202_219.out _; (with_reducible repeat (first | refine blk_drewN ?_ _ | refine blk_drew ?_ | refine blk_alloc ?_ _)); exact BK202.out⟩, ⟨by (with_reducible repeat (first | refine blk_drewN ?_ _ | refine blk_drew ?_ | refine blk_alloc ?_ _)); refine blk_far ?_ NB218_219.out _; (with_reducible repeat (first | refine blk_drewN ?_ _ | refine blk_drew ?_ | refine blk_alloc ?_ _)); refine blk_far ?_ NB218_219.out _; (with_reducible repeat (first | refine blk_drewN ?_ _ | refine blk_drew ?_ | refine blk_alloc ?_ _)); refine blk_far ?_ NB218_219.out _; (with_reducible repeat (first | refine blk_drewN ?_ _ | refine blk_drew ?_ | refine blk_alloc ?_ _)); refine blk_far ?_ NB218_219.out _; (with_reducible repeat (first | refine blk_drewN ?_ _ | refine blk_drew ?_ | refine blk_alloc ?_ _)); refine blk_far ?_ NB218_219.out _; (with_reducible repeat (first | refine blk_drewN ?_ _ | refine blk_drew ?_ | refine blk_alloc ?_ _)); refine blk_far ?_ NB218_219.out _; (with_reducible repeat (first | refine blk_drewN ?_ _ | refine blk_drew ?_ | refine blk_alloc ?_ _)); refine blk_far ?_ NB218_219.out _; (with_reducible repeat (first | refine blk_drewN ?_ _ | refine blk_drew ?_ | refine blk_alloc ?_ _)); refine blk_far ?_ NB218_219.out _; (with_reducible repeat (first | refine blk_drewN ?_ _ | refine blk_drew ?_ | refine blk_alloc ?_ _)); exact BK218.out⟩, ⟨by (with_reducible repeat (first | refine blk_drewN ?_ _ | refine blk_drew ?_ | refine blk_alloc ?_ _)); refine blk_put (cs := #[.int .u32 a0_0, .int .u32 a0_1, .int .u32 a0_2, .int .u32 a0_3, .int .u32 a0_4, .int .u32 a0_5, .int .u32 a0_6, .int .u32 0]) ?_ 7 _ rfl; (with_reducible repeat (first | refine blk_drewN ?_ _ | refine blk_drew ?_ | refine blk_alloc ?_ _)); refine blk_put (cs := #[.int .u32 a0_0, .int .u32 a0_1, .int .u32 a0_2, .int .u32 a0_3, .int .u32 a0_4, .int .u32 a0_5, .int .u32 0, .int .u32 0]) ?_ 6 _ rfl; (with_reducible repeat (first | refine blk_drewN ?_ _ | refine blk_drew ?_ | refine blk_alloc ?_ _)); refine blk_put (cs := #[.int .u32 a0_0, .int .u32 a0_1, .int .u32 a0_2, .int .u32 a0_3, .int .u32 a0_4, .int .u32 0, .int .u32 0, .int .u32 0]) ?_ 5 _ rfl; (with_reducible repeat (first | refine blk_drewN ?_ _ | refine blk_drew ?_ | refine blk_alloc ?_ _)); refine blk_put (cs := #[.int .u32 a0_0, .int .u32 a0_1, .int .u32 a0_2, .int .u32 a0_3, .int .u32 0, .int .u32 0, .int .u32 0, .int .u32 0]) ?_ 4 _ rfl; (with_reducible repeat (first | refine blk_drewN ?_ _ | refine blk_drew ?_ | refine blk_alloc ?_ _)); refine blk_put (cs := #[.int .u32 a0_0, .int .u32 a0_1, .int .u32 a0_2, .int .u32 0, .int .u32 0, .int .u32 0, .int .u32 0, .int .u32 0]) ?_ 3 _ rfl; (with_reducible repeat (first | refine blk_drewN ?_ _ | refine blk_drew ?_ | refine blk_alloc ?_ _)); refine blk_put (cs := #[.int .u32 a0_0, .int .u32 a0_1, .int .u32 0, .int .u32 0, .int .u32 0, .int .u32 0, .int .u32 0, .int .u32 0]) ?_ 2 _ rfl; (with_reducible repeat (first | refine blk_drewN ?_ _ | refine blk_drew ?_ | refine blk_alloc ?_ _)); refine blk_put (cs := #[.int .u32 a0_0, .int .u32 0, .int .u32 0, .int .u32 0, .int .u32 0, .int .u32 0, .int .u32 0, .int .u32 0]) ?_ 1 _ rfl; (with_reducible repeat (first | refine blk_drewN ?_ _ | refine blk_drew ?_ | refine blk_alloc ?_ _)); refine blk_put (cs := #[.int .u32 0, .int .u32 0, .int .u32 0, .int .u32 0, .int .u32 0, .int .u32 0, .int .u32 0, .int .u32 0]) ?_ 0 _ rfl; (with_reducible repeat (first | refine blk_drewN ?_ _ | refine blk_drew ?_ | refine blk_alloc ?_ _)); exact BK219.out⟩, ⟨by repeat (first | (with_reducible first | exact HB.out | apply below_alloc | apply pw_below_drewN | apply below_drew1 | refine below_set ?_ GE202.out | refine below_set ?_ GE218.out | refine below_set ?_ GE219.out) | exact HB.out)⟩⟩
          case round =>
            clear H'
            try clear c1
            try clear c2
            try clear p2
            try clear c4
            try clear c5
            try clear c5b0
            try clear c5b1
            try clear p6
            try clear c9
            try clear c9b0
            try clear c9b1
            try clear c10
            try clear c10b0
            try clear c10b1
            try clear c13
            try clear c18
            try clear c20
            try clear c23
            try clear c24
            try clear hcz15_0
            try clear hcz15_1
            try clear hcz15_2
            try clear hcz15_3
            try clear hcz15_4
            try clear hcz15_5
            try clear hcz15_6
            try clear hcz15_7
            try clear hcz19_0
            try clear hcz19_1
            try clear hcz19_2
            try clear hcz19_3
            try clear hcz19_4
            try clear hcz19_5
            try clear hcz19_6
            try clear hcz19_7
            try clear hcz19_8
            try clear hcz19_9
            try clear hcz21_0
            try clear hcz21_1
            try clear hcz21_2
            try clear hcz21_3
            try clear hcz21_4
            try clear hcz21_5
            try clear hcz21_6
            try clear hcz21_7
            try clear hcz25_0
            try clear hcz25_1
            try clear hcz25_2
            try clear hcz25_3
            try clear hcz25_4
            try clear hcz25_5
            try clear hcz25_6
            try clear hcz25_7
            try clear hfz15_0
            try clear hfz15_1
            try clear hfz15_2
            try clear hfz15_3
            try clear hfz15_4
            try clear hfz15_5
            try clear hfz15_6
            try clear hfz15_7
            try clear hfz19_0
            try clear hfz19_1
            try clear hfz19_2
            try clear hfz19_3
            try clear hfz19_4
            try clear hfz19_5
            try clear hfz19_6
            try clear hfz19_7
            try clear hfz19_8
            try clear hfz19_9
            try clear hfz21_0
            try clear hfz21_1
            try clear hfz21_2
            try clear hfz21_3
            try clear hfz21_4
            try clear hfz21_5
            try clear hfz21_6
            try clear hfz21_7
            try clear hfz25_0
            try clear hfz25_1
            try clear hfz25_2
            try clear hfz25_3
            try clear hfz25_4
            try clear hfz25_5
            try clear hfz25_6
            try clear hfz25_7
            obtain ⟨x8_1, x220000_1, x220001_1, x220002_1, x220003_1, x220004_1, x220005_1, x220006_1, x220007_1, rfl, HA, HK1, HO_219008, BK202, BK218, BK219, HB⟩ := hrel
            cases gk with
            | zero => exact absurd HA.out (by simp [wristbandlaw02_ShaBlocks.l0])
            | succ k1 =>
              have H := HA.out
              clear HA
              simp only [wristbandlaw02_ShaBlocks.l0] at H
              by_cases c26 : x8_1 < ((l1.take ((ji8) : Int).toNat).length : Int)
              · rw [if_pos c26] at H
                have c26b0 : decide (x8_1 < ((l1.take ((ji8) : Int).toNat).length : Int)) = true := decide_eq_true c26
                (try (have c26h14 := c26b0; simp only [hsl14_, Int.ofNat_toNat] at c26h14))
                clear c26
                by_cases c27 : 0 ≤ x8_1
                · rw [if_pos c27] at H
                  have c27b0 := eq_true c27
                  have c27b1 : decide (0 ≤ x8_1) = true := decide_eq_true c27
                  clear c27
                  by_cases c28 : x8_1 ≤ (wrap64 (x8_1 + 64))
                  · rw [if_pos c28] at H
                    have c28b0 := eq_true c28
                    have c28b1 : decide (x8_1 ≤ (wrap64 (x8_1 + 64))) = true := decide_eq_true c28
                    by_cases c29 : (wrap64 (x8_1 + 64)) ≤ ((l1.take ((ji8) : Int).toNat).length : Int)
                    · rw [if_pos c29] at H
                      have c29b0 := eq_true c29
                      have c29b1 : decide ((wrap64 (x8_1 + 64)) ≤ ((l1.take ((ji8) : Int).toNat).length : Int)) = true := decide_eq_true c29
                      replace H := Option.bind_eq_some_iff.mp H
                      obtain ⟨⟨t221, t222, t223, t224, t225, t226, t227, t228, t229⟩, A300, H⟩ := H
                      replace H : (if t229 = 0 then (wristbandlaw02_ShaBlocks.l0 k1 (l1.take ((ji8) : Int).toNat) t217 (wrap64 (x8_1 + 64)) t205 t206 t207 t208 t209 t210 t211 t212 t213 t216 t221 t222 t223 t224 t225 t226 t227 t228) else (some false)) = some r := H
                      have A30 := Aside0.mk A300
                      clear A300
                      by_cases c31 : t229 = 0
                      · rw [if_pos c31] at H
                        have c31b0 : (t229 == 0) = true := beq_iff_eq.mpr c31
                        have c31b1 : (t229 != 0) = false := bne_eq_false_iff_eq.mpr c31
                        (try (have c31h14 := c31b0; simp only [hsl14_, Int.ofNat_toNat] at c31h14))
                        clear c31
                        have H' := Aside0.mk H
                        clear H
                        try go_wp2
                        have n0_ := Aside0.mk (Kd.R_drew HO_219008.out)
                        have n1_ := Aside0.mk (blk_drew BK202.out)
                        have n2_ := Aside0.mk (blk_drew BK218.out)
                        have n3_ := Aside0.mk (blk_drew BK219.out)
                        have n4_ := Aside0.mk (below_drew1 HB.out)
                        clear HO_219008
                        clear BK202
                        clear BK218
                        clear BK219
                        clear HB
                        have HO_219008 := n0_
                        have BK202 := n1_
                        have BK218 := n2_
                        have BK219 := n3_
                        have HB := n4_
                        clear n0_ n1_ n2_ n3_ n4_
                        obtain ⟨i033, hi033, _, hsz33, _⟩ := info_parts info5
                        obtain ⟨A33, hcut33, hA33, hC33⟩ := print_mid_of (P := Tryd.prog) (Value.int .u8) 0 24 5 .i64 .i64 Tryd.underlying24 hi033 hsz33 A1 c1 (l1.take ((ji8) : Int).toNat) x8_1 (wrap64 (x8_1 + 64)) (of_decide_eq_true (by first | (with_reducible assumption) | assumption)) (by first | omega | exact of_decide_eq_true (by first | (with_reducible assumption) | assumption)) (of_decide_eq_true (by first | (with_reducible assumption) | assumption)) HC204.out
                        have HR220 := Aside0.mk (Kd.C_of_reads (h1 := fun _ => rfl) (hA33 _ (Kd.reads_of_C HR204.out)))
                        have HC220 := Aside0.mk hC33
                        clear hA33 hC33 hi033 hsz33
                        (try simp only [hsl14_] at hcut33)
                        (try (have hsl33_ : (((l1.take ((ji8) : Int).toNat).take ((wrap64 (x8_1 + 64)) : Int).toNat).drop (x8_1 : Int).toNat).length = ((wrap64 (x8_1 + 64)).toNat - x8_1.toNat) := (by rw [List.length_drop, List.length_take]; have h_ : ((wrap64 (x8_1 + 64)) : Int) ≤ ((l1.take ((ji8) : Int).toNat).length : Int) := of_decide_eq_true (by first | (with_reducible assumption) | assumption); omega)))
                        refine start_ (n := 13) (S := fun w' => w'.cell? ⟨gb219, 0, none⟩ = some (.int .u32 x220000_1) ∧ w'.cell? ⟨gb219, 1, none⟩ = some (.int .u32 x220001_1) ∧ w'.cell? ⟨gb219, 2, none⟩ = some (.int .u32 x220002_1) ∧ w'.cell? ⟨gb219, 3, none⟩ = some (.int .u32 x220003_1) ∧ w'.cell? ⟨gb219, 4, none⟩ = some (.int .u32 x220004_1) ∧ w'.cell? ⟨gb219, 5, none⟩ = some (.int .u32 x220005_1) ∧ w'.cell? ⟨gb219, 6, none⟩ = some (.int .u32 x220006_1) ∧ w'.cell? ⟨gb219, 7, none⟩ = some (.int .u32 x220007_1)) (ds := []) #[false, false, false, false, false, false, false, false, false, false, false, false, false] (by kernel_rfl) rfl rfl ⟨(blk_cell BK219.out 0).trans rfl, (blk_cell BK219.out 1).trans rfl, (blk_cell BK219.out 2).trans rfl, (blk_cell BK219.out 3).trans rfl, (blk_cell BK219.out 4).trans rfl, (blk_cell BK219.out 5).trans rfl, (blk_cell BK219.out 6).trans rfl, (blk_cell BK219.out 7).trans rfl⟩ (fun hHeld => ?_); refine with_tabW wristbandlaw02_ShaBlocks.tab11 wristbandlaw02_ShaBlocks.bits11 (fun HT_ HW_ => ?_)
                        generalize wr.drew = w32 at HO_219008 BK202 BK218 BK219 HB HR220 hHeld ⊢
                        refine pure_ (i := 1) (N := some 38) (v := ?_) (a' := ?_) #[false, true, false, false, false, false, false, false, false, false, false, false, false] rfl rfl (any_of HT_.out (by kernel_rfl)) (fun _ _ _ h => h) (Or.inl ⟨by rfl, ?_⟩) ?_ ?_
                        rotate_left
                        · intro w'
                          go_simp
                          with_reducible rfl
                        rotate_left
                        · simp only [Act.put, List.setIfInBounds_toArray, List.set_cons_zero, List.set_cons_succ, i64_w, i32_w]
                          rfl
                        refine pure_ (i := 2) (N := some 39) (v := ?_) (a' := ?_) #[false, true, true, false, false, false, false, false, false, false, false, false, false] rfl rfl (any_of HT_.out (by kernel_rfl)) (fun _ _ _ h => h) (Or.inl ⟨by rfl, ?_⟩) ?_ ?_
                        rotate_left
                        · intro w'
                          go_simp
                          with_reducible rfl
                        rotate_left
                        · simp only [Act.put, List.setIfInBounds_toArray, List.set_cons_zero, List.set_cons_succ, i64_w, i32_w]
                          rfl
                        refine pure_ (i := 3) (N := some 40) (v := ?_) (a' := ?_) #[false, true, true, true, false, false, false, false, false, false, false, false, false] rfl rfl (any_of HT_.out (by kernel_rfl)) (fun _ _ _ h => h) (Or.inl ⟨by rfl, ?_⟩) ?_ ?_
                        rotate_left
                        · intro w'
                          go_simp
                          with_reducible rfl
                        rotate_left
                        · simp only [Act.put, List.setIfInBounds_toArray, List.set_cons_zero, List.set_cons_succ, i64_w, i32_w]
                          rfl
                        refine pure_ (i := 4) (N := some 41) (v := ?_) (a' := ?_) #[false, true, true, true, true, false, false, false, false, false, false, false, false] rfl rfl (any_of HT_.out (by kernel_rfl)) (fun _ _ _ h => h) (Or.inl ⟨by rfl, ?_⟩) ?_ ?_
                        rotate_left
                        · intro w'
                          go_simp
                          with_reducible rfl
                        rotate_left
                        · simp only [Act.put, List.setIfInBounds_toArray, List.set_cons_zero, List.set_cons_succ, i64_w, i32_w]
                          rfl
                        refine pure_ (i := 5) (N := some 42) (v := ?_) (a' := ?_) #[false, true, true, true, true, true, false, false, false, false, false, false, false] rfl rfl (any_of HT_.out (by kernel_rfl)) (fun _ _ _ h => h) (Or.inl ⟨by rfl, ?_⟩) ?_ ?_
                        rotate_left
                        · intro w'
                          go_simp
                          with_reducible rfl
                        rotate_left
                        · simp only [Act.put, List.setIfInBounds_toArray, List.set_cons_zero, List.set_cons_succ, i64_w, i32_w]
                          rfl
                        refine take_ (i := 0) (N := some 37) (v := ?_) (a' := ?_) #[true, true, true, true, true, true, false, false, false, false, false, false, false] rfl rfl (take_ofW HT_.out HW_.out (by kernel_rfl)) (fun _ _ _ h => h) (Or.inl ⟨by rfl, ?_⟩) hHeld ?_ ?_
                        rotate_left
                        · rintro w' ⟨s0, s1, s2, s3, s4, s5, s6, s7⟩
                          go_simp
                          with_reducible rfl
                        rotate_left
                        · simp only [Act.put, List.setIfInBounds_toArray, List.set_cons_zero, List.set_cons_succ, i64_w, i32_w]
                          rfl
                        refine join_ (σ := Nat) 2 #[true, true, true, true, true, true, true, true, true, true, true, false, false] (fun s_ => [(43, .tuple #[.agg #[.int .u32 t221, .int .u32 t222, .int .u32 t223, .int .u32 t224, .int .u32 t225, .int .u32 t226, .int .u32 t227, .int .u32 t228], .int .i64 t229]), (9, .pointer (some ⟨s_, 0, none⟩)), (36, .tuple #[.agg #[.int .u32 t221, .int .u32 t222, .int .u32 t223, .int .u32 t224, .int .u32 t225, .int .u32 t226, .int .u32 t227, .int .u32 t228], .int .i64 t229]), (44, .agg #[.int .u32 t221, .int .u32 t222, .int .u32 t223, .int .u32 t224, .int .u32 t225, .int .u32 t226, .int .u32 t227, .int .u32 t228]), (45, .int .i64 t229)]) (fun s_ w' => (w'.cell? ⟨gb219, 0, none⟩ = some (.int .u32 x220000_1) ∧ w'.cell? ⟨gb219, 1, none⟩ = some (.int .u32 x220001_1) ∧ w'.cell? ⟨gb219, 2, none⟩ = some (.int .u32 x220002_1) ∧ w'.cell? ⟨gb219, 3, none⟩ = some (.int .u32 x220003_1) ∧ w'.cell? ⟨gb219, 4, none⟩ = some (.int .u32 x220004_1) ∧ w'.cell? ⟨gb219, 5, none⟩ = some (.int .u32 x220005_1) ∧ w'.cell? ⟨gb219, 6, none⟩ = some (.int .u32 x220006_1) ∧ w'.cell? ⟨gb219, 7, none⟩ = some (.int .u32 x220007_1)) ∧ (Kd.R (Kd.int .u8) 5 w' w.heap.size (fun _ => True) (.slice Ao20 t213.length co20) t213) ∧ (w'.heap[gb202]? = some (.cells #[.int .u32 a0_0, .int .u32 a0_1, .int .u32 a0_2, .int .u32 a0_3, .int .u32 a0_4, .int .u32 a0_5, .int .u32 a0_6, .int .u32 a0_7] 23 (0, 0))) ∧ (w'.heap[gb218]? = some (.cells #[.int .u32 t205, .int .u32 t206, .int .u32 t207, .int .u32 t208, .int .u32 t209, .int .u32 t210, .int .u32 t211, .int .u32 t212, .slice Ao20 t213.length co20, .int .u64 t216] 27 (0, 0))) ∧ (w'.heap[gb219]? = some (.cells #[.int .u32 x220000_1, .int .u32 x220001_1, .int .u32 x220002_1, .int .u32 x220003_1, .int .u32 x220004_1, .int .u32 x220005_1, .int .u32 x220006_1, .int .u32 x220007_1] 23 (0, 0))) ∧ (w'.heap[s_]? = some (.cells #[.int .u32 0, .int .u32 0, .int .u32 0, .int .u32 0, .int .u32 0, .int .u32 0, .int .u32 0, .int .u32 0] 23 (0, 0))) ∧ (w.heap.size ≤ s_) ∧ (w.heap.size ≤ s_) ∧ (gb202 ≠ s_) ∧ (s_ ≠ gb202) ∧ (gb218 ≠ s_) ∧ (s_ ≠ gb218) ∧ (gb219 ≠ s_) ∧ (s_ ≠ gb219) ∧ (Below w.heap.size w w')) ?_ ?_
                        rotate_left
                        · intro hCont
                          refine two_ (i := 6) (j := 10) (Ni := some 43) (Nj := some 9) #[true, true, true, true, true, true, true, false, false, false, false, false, false] #[true, true, true, true, true, true, false, false, false, false, true, false, false] rfl rfl rfl rfl (two_of HT_.out (by kernel_rfl)) (by decide) (by decide) (fun K hK => ?_) (fun K hK => ?_)
                          · skip
                            refine goes_ Tryd.func16 (by kernel_rfl) rfl #[.agg #[.int .u32 x220000_1, .int .u32 x220001_1, .int .u32 x220002_1, .int .u32 x220003_1, .int .u32 x220004_1, .int .u32 x220005_1, .int .u32 x220006_1, .int .u32 x220007_1], .slice A33 (((l1.take ((ji8) : Int).toNat).take ((wrap64 (x8_1 + 64)) : Int).toNat).drop (x8_1 : Int).toNat).length (c1 - x8_1.toNat)] (by first | rfl | (simp [Region.wanted, yielded, *]; done)) rfl rfl (by (try simp only [List.map_toArray, List.map_cons, List.map_nil]); first | done | (rw [show (((l1.take ((ji8) : Int).toNat).take ((wrap64 (x8_1 + 64)) : Int).toNat).drop (x8_1 : Int).toNat).length = ((wrap64 (x8_1 + 64)).toNat - x8_1.toNat) from (by rw [List.length_drop, List.length_take]; have h_ : ((wrap64 (x8_1 + 64)) : Int) ≤ ((l1.take ((ji8) : Int).toNat).length : Int) := of_decide_eq_true (by first | (with_reducible assumption) | assumption); omega)] <;> rfl) | (simp only [hji8]; rfl) | rfl | (simp only [List.length_drop, List.length_take]; rfl)) ?_
                            with_reducible refine (sha_Block.calls k1 x220000_1 x220001_1 x220002_1 x220003_1 x220004_1 x220005_1 x220006_1 x220007_1 _ _ (((l1.take ((ji8) : Int).toNat).take ((wrap64 (x8_1 + 64)) : Int).toNat).drop (x8_1 : Int).toNat) t221 t222 t223 t224 t225 t226 t227 t228 t229 _ ?side1 ?side2 ?side3 ?side4 A30.out).mono ?_
                            (case side1 => repeat (first | exact (Kd.C_below HR220.out HB.out) | (with_reducible refine Kd.C_alloc ?_ _) | (with_reducible refine Kd.C_drewN ?_ _) | (with_reducible refine Kd.C_drew ?_)))
                            (case side2 => exact HC220.out)
                            (case side3 => repeat (first | exact (Kd.C_below HRL0_.out HB.out) | (with_reducible refine Kd.C_alloc ?_ _) | (with_reducible refine Kd.C_drewN ?_ _) | (with_reducible refine Kd.C_drew ?_)))
                            (case side4 => repeat (first | exact (Kd.C_below HRL1_.out HB.out) | (with_reducible refine Kd.C_alloc ?_ _) | (with_reducible refine Kd.C_drewN ?_ _) | (with_reducible refine Kd.C_drew ?_)))
                            rintro e w34 ⟨rfl, hb⟩
                            refine ⟨_, rfl, ?_⟩
                            have n0_ := Aside0.mk (Kd.R_below (by (with_reducible repeat (first | apply Kd.R_alloc | apply Kd.R_drewN | apply Kd.R_drew)); exact HO_219008.out) hb)
                            have n1_ := Aside0.mk (blk_below (g := gb202) (o := .cells #[.int .u32 a0_0, .int .u32 a0_1, .int .u32 a0_2, .int .u32 a0_3, .int .u32 a0_4, .int .u32 a0_5, .int .u32 a0_6, .int .u32 a0_7] 23 (0, 0)) (by (with_reducible repeat (first | refine blk_drewN ?_ _ | refine blk_drew ?_ | refine blk_alloc ?_ _)); exact BK202.out) hb)
                            have n2_ := Aside0.mk (blk_below (g := gb218) (o := .cells #[.int .u32 t205, .int .u32 t206, .int .u32 t207, .int .u32 t208, .int .u32 t209, .int .u32 t210, .int .u32 t211, .int .u32 t212, .slice Ao20 t213.length co20, .int .u64 t216] 27 (0, 0)) (by (with_reducible repeat (first | refine blk_drewN ?_ _ | refine blk_drew ?_ | refine blk_alloc ?_ _)); exact BK218.out) hb)
                            have n3_ := Aside0.mk (blk_below (g := gb219) (o := .cells #[.int .u32 x220000_1, .int .u32 x220001_1, .int .u32 x220002_1, .int .u32 x220003_1, .int .u32 x220004_1, .int .u32 x220005_1, .int .u32 x220006_1, .int .u32 x220007_1] 23 (0, 0)) (by (with_reducible repeat (first | refine blk_drewN ?_ _ | refine blk_drew ?_ | refine blk_alloc ?_ _)); exact BK219.out) hb)
                            have n4_ := Aside0.mk (below_step (by repeat (first | (with_reducible first | exact HB.out | apply below_alloc | apply pw_below_drewN | apply below_drew1 | refine below_set ?_ GE202.out | refine below_set ?_ GE218.out | refine below_set ?_ GE219.out) | exact HB.out)) hb)
                            clear HO_219008
                            clear BK202
                            clear BK218
                            clear BK219
                            clear HB
                            have HO_219008 := n0_
                            have BK202 := n1_
                            have BK218 := n2_
                            have BK219 := n3_
                            have HB := n4_
                            clear n0_ n1_ n2_ n3_ n4_
                            (try clear hb)
                            (try clear hb2)
                            (try clear hk)
                            (try clear hi)
                            refine hK.out _ _ ⟨(blk_cell BK219.out 0).trans rfl, (blk_cell BK219.out 1).trans rfl, (blk_cell BK219.out 2).trans rfl, (blk_cell BK219.out 3).trans rfl, (blk_cell BK219.out 4).trans rfl, (blk_cell BK219.out 5).trans rfl, (blk_cell BK219.out 6).trans rfl, (blk_cell BK219.out 7).trans rfl⟩ (fun hHeld => ?_)
                            clear hK K
                            refine norm_ (a' := ?_) ?_ ?_
                            rotate_left
                            · show Act.put _ (some 43) _ = _
                              simp only [Act.put, List.setIfInBounds_toArray, List.set_cons_zero, List.set_cons_succ, i64_w, i32_w]
                              rfl
                            refine pure_ (i := 7) (N := some 36) (v := ?_) (a' := ?_) #[true, true, true, true, true, true, true, true, false, false, false, false, false] rfl rfl (any_of HT_.out (by kernel_rfl)) (fun _ _ _ h => h) (Or.inl ⟨by rfl, ?_⟩) ?_ ?_
                            rotate_left
                            · intro w'
                              go_simp
                              with_reducible rfl
                            rotate_left
                            · simp only [Act.put, List.setIfInBounds_toArray, List.set_cons_zero, List.set_cons_succ, i64_w, i32_w]
                              rfl
                            refine pure_ (i := 8) (N := some 44) (v := ?_) (a' := ?_) #[true, true, true, true, true, true, true, true, true, false, false, false, false] rfl rfl (any_of HT_.out (by kernel_rfl)) (fun _ _ _ h => h) (Or.inl ⟨by rfl, ?_⟩) ?_ ?_
                            rotate_left
                            · intro w'
                              go_simp
                              with_reducible rfl
                            rotate_left
                            · simp only [Act.put, List.setIfInBounds_toArray, List.set_cons_zero, List.set_cons_succ, i64_w, i32_w]
                              rfl
                            refine pure_ (i := 9) (N := some 45) (v := ?_) (a' := ?_) #[true, true, true, true, true, true, true, true, true, true, false, false, false] rfl rfl (any_of HT_.out (by kernel_rfl)) (fun _ _ _ h => h) (Or.inl ⟨by rfl, ?_⟩) ?_ ?_
                            rotate_left
                            · intro w'
                              go_simp
                              with_reducible rfl
                            rotate_left
                            · simp only [Act.put, List.setIfInBounds_toArray, List.set_cons_zero, List.set_cons_succ, i64_w, i32_w]
                              rfl
                            refine one_ (i := 10) (N := some 9) #[true, true, true, true, true, true, true, true, true, true, true, false, false] rfl rfl (one_of HT_.out (by kernel_rfl)) (by decide) (fun K hK => ?_)
                            refine box_step ?hg (N := 9) ?hd (cs := #[.int .u32 0, .int .u32 0, .int .u32 0, .int .u32 0, .int .u32 0, .int .u32 0, .int .u32 0, .int .u32 0]) (t := 23) ?hr ?_; (case hd => rfl); (case hg => rfl); (case hr => first | (go_simp; done) | (go_simp; rfl))
                            intro gb230 hg w35 hbox hb
                            have n0_ := Aside0.mk (Kd.R_below (by (with_reducible repeat (first | apply Kd.R_alloc | apply Kd.R_drewN | apply Kd.R_drew)); exact HO_219008.out) hb)
                            have n1_ := Aside0.mk (blk_below (g := gb202) (o := .cells #[.int .u32 a0_0, .int .u32 a0_1, .int .u32 a0_2, .int .u32 a0_3, .int .u32 a0_4, .int .u32 a0_5, .int .u32 a0_6, .int .u32 a0_7] 23 (0, 0)) (by (with_reducible repeat (first | refine blk_drewN ?_ _ | refine blk_drew ?_ | refine blk_alloc ?_ _)); exact BK202.out) hb)
                            have n2_ := Aside0.mk (blk_below (g := gb218) (o := .cells #[.int .u32 t205, .int .u32 t206, .int .u32 t207, .int .u32 t208, .int .u32 t209, .int .u32 t210, .int .u32 t211, .int .u32 t212, .slice Ao20 t213.length co20, .int .u64 t216] 27 (0, 0)) (by (with_reducible repeat (first | refine blk_drewN ?_ _ | refine blk_drew ?_ | refine blk_alloc ?_ _)); exact BK218.out) hb)
                            have n3_ := Aside0.mk (blk_below (g := gb219) (o := .cells #[.int .u32 x220000_1, .int .u32 x220001_1, .int .u32 x220002_1, .int .u32 x220003_1, .int .u32 x220004_1, .int .u32 x220005_1, .int .u32 x220006_1, .int .u32 x220007_1] 23 (0, 0)) (by (with_reducible repeat (first | refine blk_drewN ?_ _ | refine blk_drew ?_ | refine blk_alloc ?_ _)); exact BK219.out) hb)
                            have n4_ := Aside0.mk (below_step (by repeat (first | (with_reducible first | exact HB.out | apply below_alloc | apply pw_below_drewN | apply below_drew1 | refine below_set ?_ GE202.out | refine below_set ?_ GE218.out | refine below_set ?_ GE219.out) | exact HB.out)) hb)
                            have n5_ := Aside0.mk (hbox)
                            have n6_ := Aside0.mk ((by rw [hg]; exact (below_size (by repeat (first | (with_reducible first | exact HB.out | apply below_alloc | apply pw_below_drewN | apply below_drew1 | refine below_set ?_ GE202.out | refine below_set ?_ GE218.out | refine below_set ?_ GE219.out) | exact HB.out))) : w.heap.size ≤ gb230))
                            have n7_ := Aside0.mk ((by rw [hg]; exact (below_size (by repeat (first | (with_reducible first | exact HB.out | apply below_alloc | apply pw_below_drewN | apply below_drew1 | refine below_set ?_ GE202.out | refine below_set ?_ GE218.out | refine below_set ?_ GE219.out) | exact HB.out))) : w.heap.size ≤ gb230))
                            have n8_ := Aside0.mk ((by rw [hg]; exact Nat.ne_of_lt (blk_lt (g := gb202) (o := .cells #[.int .u32 a0_0, .int .u32 a0_1, .int .u32 a0_2, .int .u32 a0_3, .int .u32 a0_4, .int .u32 a0_5, .int .u32 a0_6, .int .u32 a0_7] 23 (0, 0)) (by (with_reducible repeat (first | refine blk_drewN ?_ _ | refine blk_drew ?_ | refine blk_alloc ?_ _)); exact BK202.out)) : gb202 ≠ gb230))
                            have n9_ := Aside0.mk ((by rw [hg]; exact Nat.ne_of_gt (blk_lt (g := gb202) (o := .cells #[.int .u32 a0_0, .int .u32 a0_1, .int .u32 a0_2, .int .u32 a0_3, .int .u32 a0_4, .int .u32 a0_5, .int .u32 a0_6, .int .u32 a0_7] 23 (0, 0)) (by (with_reducible repeat (first | refine blk_drewN ?_ _ | refine blk_drew ?_ | refine blk_alloc ?_ _)); exact BK202.out)) : gb230 ≠ gb202))
                            have n10_ := Aside0.mk ((by rw [hg]; exact Nat.ne_of_lt (blk_lt (g := gb218) (o := .cells #[.int .u32 t205, .int .u32 t206, .int .u32 t207, .int .u32 t208, .int .u32 t209, .int .u32 t210, .int .u32 t211, .int .u32 t212, .slice Ao20 t213.length co20, .int .u64 t216] 27 (0, 0)) (by (with_reducible repeat (first | refine blk_drewN ?_ _ | refine blk_drew ?_ | refine blk_alloc ?_ _)); exact BK218.out)) : gb218 ≠ gb230))
                            have n11_ := Aside0.mk ((by rw [hg]; exact Nat.ne_of_gt (blk_lt (g := gb218) (o := .cells #[.int .u32 t205, .int .u32 t206, .int .u32 t207, .int .u32 t208, .int .u32 t209, .int .u32 t210, .int .u32 t211, .int .u32 t212, .slice Ao20 t213.length co20, .int .u64 t216] 27 (0, 0)) (by (with_reducible repeat (first | refine blk_drewN ?_ _ | refine blk_drew ?_ | refine blk_alloc ?_ _)); exact BK218.out)) : gb230 ≠ gb218))
                            have n12_ := Aside0.mk ((by rw [hg]; exact Nat.ne_of_lt (blk_lt (g := gb219) (o := .cells #[.int .u32 x220000_1, .int .u32 x220001_1, .int .u32 x220002_1, .int .u32 x220003_1, .int .u32 x220004_1, .int .u32 x220005_1, .int .u32 x220006_1, .int .u32 x220007_1] 23 (0, 0)) (by (with_reducible repeat (first | refine blk_drewN ?_ _ | refine blk_drew ?_ | refine blk_alloc ?_ _)); exact BK219.out)) : gb219 ≠ gb230))
                            have n13_ := Aside0.mk ((by rw [hg]; exact Nat.ne_of_gt (blk_lt (g := gb219) (o := .cells #[.int .u32 x220000_1, .int .u32 x220001_1, .int .u32 x220002_1, .int .u32 x220003_1, .int .u32 x220004_1, .int .u32 x220005_1, .int .u32 x220006_1, .int .u32 x220007_1] 23 (0, 0)) (by (with_reducible repeat (first | refine blk_drewN ?_ _ | refine blk_drew ?_ | refine blk_alloc ?_ _)); exact BK219.out)) : gb230 ≠ gb219))
                            clear HO_219008
                            clear BK202
                            clear BK218
                            clear BK219
                            clear HB
                            have HO_219008 := n0_
                            have BK202 := n1_
                            have BK218 := n2_
                            have BK219 := n3_
                            have HB := n4_
                            have BK230 := n5_
                            have GW230 := n6_
                            have GE230 := n7_
                            have NB202_230 := n8_
                            have NB230_202 := n9_
                            have NB218_230 := n10_
                            have NB230_218 := n11_
                            have NB219_230 := n12_
                            have NB230_219 := n13_
                            clear n0_ n1_ n2_ n3_ n4_ n5_ n6_ n7_ n8_ n9_ n10_ n11_ n12_ n13_
                            clear hb hbox hg
                            refine hK.out _ _ ⟨(blk_cell BK219.out 0).trans rfl, (blk_cell BK219.out 1).trans rfl, (blk_cell BK219.out 2).trans rfl, (blk_cell BK219.out 3).trans rfl, (blk_cell BK219.out 4).trans rfl, (blk_cell BK219.out 5).trans rfl, (blk_cell BK219.out 6).trans rfl, (blk_cell BK219.out 7).trans rfl⟩ (fun hHeld => ?_)
                            clear hK K
                            refine norm_ (a' := ?_) ?_ ?_
                            rotate_left
                            · show Act.put _ (some 9) _ = _
                              simp only [Act.put, List.setIfInBounds_toArray, List.set_cons_zero, List.set_cons_succ, i64_w, i32_w]
                              rfl
                            exact norm_ (by simp only [putAll, Act.put, List.setIfInBounds_toArray, List.set_cons_zero, List.set_cons_succ]) (hCont (gb230) _ ⟨hHeld, (by (with_reducible repeat (first | apply Kd.R_alloc | apply Kd.R_drewN | apply Kd.R_drew)); exact HO_219008.out), (by (with_reducible repeat (first | refine blk_drewN ?_ _ | refine blk_drew ?_ | refine blk_alloc ?_ _)); exact BK202.out), (by (with_reducible repeat (first | refine blk_drewN ?_ _ | refine blk_drew ?_ | refine blk_alloc ?_ _)); exact BK218.out), (by (with_reducible repeat (first | refine blk_drewN ?_ _ | refine blk_drew ?_ | refine blk_alloc ?_ _)); exact BK219.out), (by (with_reducible repeat (first | refine blk_drewN ?_ _ | refine blk_drew ?_ | refine blk_alloc ?_ _)); exact BK230.out), GW230.out, GE230.out, NB202_230.out, NB230_202.out, NB218_230.out, NB230_218.out, NB219_230.out, NB230_219.out, (by repeat (first | (with_reducible first | exact HB.out | apply below_alloc | apply pw_below_drewN | apply below_drew1 | refine below_set ?_ GE202.out | refine below_set ?_ GE218.out | refine below_set ?_ GE219.out | refine below_set ?_ GE230.out) | exact HB.out))⟩)
                          · skip
                            refine box_step ?hg (N := 9) ?hd (cs := #[.int .u32 0, .int .u32 0, .int .u32 0, .int .u32 0, .int .u32 0, .int .u32 0, .int .u32 0, .int .u32 0]) (t := 23) ?hr ?_; (case hd => rfl); (case hg => rfl); (case hr => first | (go_simp; done) | (go_simp; rfl))
                            intro gb230 hg w34 hbox hb
                            have n0_ := Aside0.mk (Kd.R_below (by (with_reducible repeat (first | apply Kd.R_alloc | apply Kd.R_drewN | apply Kd.R_drew)); exact HO_219008.out) hb)
                            have n1_ := Aside0.mk (blk_below (g := gb202) (o := .cells #[.int .u32 a0_0, .int .u32 a0_1, .int .u32 a0_2, .int .u32 a0_3, .int .u32 a0_4, .int .u32 a0_5, .int .u32 a0_6, .int .u32 a0_7] 23 (0, 0)) (by (with_reducible repeat (first | refine blk_drewN ?_ _ | refine blk_drew ?_ | refine blk_alloc ?_ _)); exact BK202.out) hb)
                            have n2_ := Aside0.mk (blk_below (g := gb218) (o := .cells #[.int .u32 t205, .int .u32 t206, .int .u32 t207, .int .u32 t208, .int .u32 t209, .int .u32 t210, .int .u32 t211, .int .u32 t212, .slice Ao20 t213.length co20, .int .u64 t216] 27 (0, 0)) (by (with_reducible repeat (first | refine blk_drewN ?_ _ | refine blk_drew ?_ | refine blk_alloc ?_ _)); exact BK218.out) hb)
                            have n3_ := Aside0.mk (blk_below (g := gb219) (o := .cells #[.int .u32 x220000_1, .int .u32 x220001_1, .int .u32 x220002_1, .int .u32 x220003_1, .int .u32 x220004_1, .int .u32 x220005_1, .int .u32 x220006_1, .int .u32 x220007_1] 23 (0, 0)) (by (with_reducible repeat (first | refine blk_drewN ?_ _ | refine blk_drew ?_ | refine blk_alloc ?_ _)); exact BK219.out) hb)
                            have n4_ := Aside0.mk (below_step (by repeat (first | (with_reducible first | exact HB.out | apply below_alloc | apply pw_below_drewN | apply below_drew1 | refine below_set ?_ GE202.out | refine below_set ?_ GE218.out | refine below_set ?_ GE219.out) | exact HB.out)) hb)
                            have n5_ := Aside0.mk (hbox)
                            have n6_ := Aside0.mk ((by rw [hg]; exact (below_size (by repeat (first | (with_reducible first | exact HB.out | apply below_alloc | apply pw_below_drewN | apply below_drew1 | refine below_set ?_ GE202.out | refine below_set ?_ GE218.out | refine below_set ?_ GE219.out) | exact HB.out))) : w.heap.size ≤ gb230))
                            have n7_ := Aside0.mk ((by rw [hg]; exact (below_size (by repeat (first | (with_reducible first | exact HB.out | apply below_alloc | apply pw_below_drewN | apply below_drew1 | refine below_set ?_ GE202.out | refine below_set ?_ GE218.out | refine below_set ?_ GE219.out) | exact HB.out))) : w.heap.size ≤ gb230))
                            have n8_ := Aside0.mk ((by rw [hg]; exact Nat.ne_of_lt (blk_lt (g := gb202) (o := .cells #[.int .u32 a0_0, .int .u32 a0_1, .int .u32 a0_2, .int .u32 a0_3, .int .u32 a0_4, .int .u32 a0_5, .int .u32 a0_6, .int .u32 a0_7] 23 (0, 0)) (by (with_reducible repeat (first | refine blk_drewN ?_ _ | refine blk_drew ?_ | refine blk_alloc ?_ _)); exact BK202.out)) : gb202 ≠ gb230))
                            have n9_ := Aside0.mk ((by rw [hg]; exact Nat.ne_of_gt (blk_lt (g := gb202) (o := .cells #[.int .u32 a0_0, .int .u32 a0_1, .int .u32 a0_2, .int .u32 a0_3, .int .u32 a0_4, .int .u32 a0_5, .int .u32 a0_6, .int .u32 a0_7] 23 (0, 0)) (by (with_reducible repeat (first | refine blk_drewN ?_ _ | refine blk_drew ?_ | refine blk_alloc ?_ _)); exact BK202.out)) : gb230 ≠ gb202))
                            have n10_ := Aside0.mk ((by rw [hg]; exact Nat.ne_of_lt (blk_lt (g := gb218) (o := .cells #[.int .u32 t205, .int .u32 t206, .int .u32 t207, .int .u32 t208, .int .u32 t209, .int .u32 t210, .int .u32 t211, .int .u32 t212, .slice Ao20 t213.length co20, .int .u64 t216] 27 (0, 0)) (by (with_reducible repeat (first | refine blk_drewN ?_ _ | refine blk_drew ?_ | refine blk_alloc ?_ _)); exact BK218.out)) : gb218 ≠ gb230))
                            have n11_ := Aside0.mk ((by rw [hg]; exact Nat.ne_of_gt (blk_lt (g := gb218) (o := .cells #[.int .u32 t205, .int .u32 t206, .int .u32 t207, .int .u32 t208, .int .u32 t209, .int .u32 t210, .int .u32 t211, .int .u32 t212, .slice Ao20 t213.length co20, .int .u64 t216] 27 (0, 0)) (by (with_reducible repeat (first | refine blk_drewN ?_ _ | refine blk_drew ?_ | refine blk_alloc ?_ _)); exact BK218.out)) : gb230 ≠ gb218))
                            have n12_ := Aside0.mk ((by rw [hg]; exact Nat.ne_of_lt (blk_lt (g := gb219) (o := .cells #[.int .u32 x220000_1, .int .u32 x220001_1, .int .u32 x220002_1, .int .u32 x220003_1, .int .u32 x220004_1, .int .u32 x220005_1, .int .u32 x220006_1, .int .u32 x220007_1] 23 (0, 0)) (by (with_reducible repeat (first | refine blk_drewN ?_ _ | refine blk_drew ?_ | refine blk_alloc ?_ _)); exact BK219.out)) : gb219 ≠ gb230))
                            have n13_ := Aside0.mk ((by rw [hg]; exact Nat.ne_of_gt (blk_lt (g := gb219) (o := .cells #[.int .u32 x220000_1, .int .u32 x220001_1, .int .u32 x220002_1, .int .u32 x220003_1, .int .u32 x220004_1, .int .u32 x220005_1, .int .u32 x220006_1, .int .u32 x220007_1] 23 (0, 0)) (by (with_reducible repeat (first | refine blk_drewN ?_ _ | refine blk_drew ?_ | refine blk_alloc ?_ _)); exact BK219.out)) : gb230 ≠ gb219))
                            clear HO_219008
                            clear BK202
                            clear BK218
                            clear BK219
                            clear HB
                            have HO_219008 := n0_
                            have BK202 := n1_
                            have BK218 := n2_
                            have BK219 := n3_
                            have HB := n4_
                            have BK230 := n5_
                            have GW230 := n6_
                            have GE230 := n7_
                            have NB202_230 := n8_
                            have NB230_202 := n9_
                            have NB218_230 := n10_
                            have NB230_218 := n11_
                            have NB219_230 := n12_
                            have NB230_219 := n13_
                            clear n0_ n1_ n2_ n3_ n4_ n5_ n6_ n7_ n8_ n9_ n10_ n11_ n12_ n13_
                            clear hb hbox hg
                            refine hK.out _ _ ⟨(blk_cell BK219.out 0).trans rfl, (blk_cell BK219.out 1).trans rfl, (blk_cell BK219.out 2).trans rfl, (blk_cell BK219.out 3).trans rfl, (blk_cell BK219.out 4).trans rfl, (blk_cell BK219.out 5).trans rfl, (blk_cell BK219.out 6).trans rfl, (blk_cell BK219.out 7).trans rfl⟩ (fun hHeld => ?_)
                            clear hK K
                            refine norm_ (a' := ?_) ?_ ?_
                            rotate_left
                            · show Act.put _ (some 9) _ = _
                              simp only [Act.put, List.setIfInBounds_toArray, List.set_cons_zero, List.set_cons_succ, i64_w, i32_w]
                              rfl
                            refine one_ (i := 6) (N := some 43) #[true, true, true, true, true, true, true, false, false, false, true, false, false] rfl rfl (one_of HT_.out (by kernel_rfl)) (by decide) (fun K hK => ?_)
                            refine goes_ Tryd.func16 (by kernel_rfl) rfl #[.agg #[.int .u32 x220000_1, .int .u32 x220001_1, .int .u32 x220002_1, .int .u32 x220003_1, .int .u32 x220004_1, .int .u32 x220005_1, .int .u32 x220006_1, .int .u32 x220007_1], .slice A33 (((l1.take ((ji8) : Int).toNat).take ((wrap64 (x8_1 + 64)) : Int).toNat).drop (x8_1 : Int).toNat).length (c1 - x8_1.toNat)] (by first | rfl | (simp [Region.wanted, yielded, *]; done)) rfl rfl (by (try simp only [List.map_toArray, List.map_cons, List.map_nil]); first | done | (rw [show (((l1.take ((ji8) : Int).toNat).take ((wrap64 (x8_1 + 64)) : Int).toNat).drop (x8_1 : Int).toNat).length = ((wrap64 (x8_1 + 64)).toNat - x8_1.toNat) from (by rw [List.length_drop, List.length_take]; have h_ : ((wrap64 (x8_1 + 64)) : Int) ≤ ((l1.take ((ji8) : Int).toNat).length : Int) := of_decide_eq_true (by first | (with_reducible assumption) | assumption); omega)] <;> rfl) | (simp only [hji8]; rfl) | rfl | (simp only [List.length_drop, List.length_take]; rfl)) ?_
                            with_reducible refine (sha_Block.calls k1 x220000_1 x220001_1 x220002_1 x220003_1 x220004_1 x220005_1 x220006_1 x220007_1 _ _ (((l1.take ((ji8) : Int).toNat).take ((wrap64 (x8_1 + 64)) : Int).toNat).drop (x8_1 : Int).toNat) t221 t222 t223 t224 t225 t226 t227 t228 t229 _ ?side1 ?side2 ?side3 ?side4 A30.out).mono ?_
                            (case side1 => repeat (first | exact (Kd.C_below HR220.out HB.out) | (with_reducible refine Kd.C_alloc ?_ _) | (with_reducible refine Kd.C_drewN ?_ _) | (with_reducible refine Kd.C_drew ?_)))
                            (case side2 => exact HC220.out)
                            (case side3 => repeat (first | exact (Kd.C_below HRL0_.out HB.out) | (with_reducible refine Kd.C_alloc ?_ _) | (with_reducible refine Kd.C_drewN ?_ _) | (with_reducible refine Kd.C_drew ?_)))
                            (case side4 => repeat (first | exact (Kd.C_below HRL1_.out HB.out) | (with_reducible refine Kd.C_alloc ?_ _) | (with_reducible refine Kd.C_drewN ?_ _) | (with_reducible refine Kd.C_drew ?_)))
                            rintro e w35 ⟨rfl, hb⟩
                            refine ⟨_, rfl, ?_⟩
                            have n0_ := Aside0.mk (Kd.R_below (by (with_reducible repeat (first | apply Kd.R_alloc | apply Kd.R_drewN | apply Kd.R_drew)); exact HO_219008.out) hb)
                            have n1_ := Aside0.mk (blk_below (g := gb202) (o := .cells #[.int .u32 a0_0, .int .u32 a0_1, .int .u32 a0_2, .int .u32 a0_3, .int .u32 a0_4, .int .u32 a0_5, .int .u32 a0_6, .int .u32 a0_7] 23 (0, 0)) (by (with_reducible repeat (first | refine blk_drewN ?_ _ | refine blk_drew ?_ | refine blk_alloc ?_ _)); exact BK202.out) hb)
                            have n2_ := Aside0.mk (blk_below (g := gb218) (o := .cells #[.int .u32 t205, .int .u32 t206, .int .u32 t207, .int .u32 t208, .int .u32 t209, .int .u32 t210, .int .u32 t211, .int .u32 t212, .slice Ao20 t213.length co20, .int .u64 t216] 27 (0, 0)) (by (with_reducible repeat (first | refine blk_drewN ?_ _ | refine blk_drew ?_ | refine blk_alloc ?_ _)); exact BK218.out) hb)
                            have n3_ := Aside0.mk (blk_below (g := gb219) (o := .cells #[.int .u32 x220000_1, .int .u32 x220001_1, .int .u32 x220002_1, .int .u32 x220003_1, .int .u32 x220004_1, .int .u32 x220005_1, .int .u32 x220006_1, .int .u32 x220007_1] 23 (0, 0)) (by (with_reducible repeat (first | refine blk_drewN ?_ _ | refine blk_drew ?_ | refine blk_alloc ?_ _)); exact BK219.out) hb)
                            have n4_ := Aside0.mk (blk_below (g := gb230) (o := .cells #[.int .u32 0, .int .u32 0, .int .u32 0, .int .u32 0, .int .u32 0, .int .u32 0, .int .u32 0, .int .u32 0] 23 (0, 0)) (by (with_reducible repeat (first | refine blk_drewN ?_ _ | refine blk_drew ?_ | refine blk_alloc ?_ _)); exact BK230.out) hb)
                            have n5_ := Aside0.mk (below_step (by repeat (first | (with_reducible first | exact HB.out | apply below_alloc | apply pw_below_drewN | apply below_drew1 | refine below_set ?_ GE202.out | refine below_set ?_ GE218.out | refine below_set ?_ GE219.out | refine below_set ?_ GE230.out) | exact HB.out)) hb)
                            clear HO_219008
                            clear BK202
                            clear BK218
                            clear BK219
                            clear BK230
                            clear HB
                            have HO_219008 := n0_
                            have BK202 := n1_
                            have BK218 := n2_
                            have BK219 := n3_
                            have BK230 := n4_
                            have HB := n5_
                            clear n0_ n1_ n2_ n3_ n4_ n5_
                            (try clear hb)
                            (try clear hb2)
                            (try clear hk)
                            (try clear hi)
                            refine hK.out _ _ ⟨(blk_cell BK219.out 0).trans rfl, (blk_cell BK219.out 1).trans rfl, (blk_cell BK219.out 2).trans rfl, (blk_cell BK219.out 3).trans rfl, (blk_cell BK219.out 4).trans rfl, (blk_cell BK219.out 5).trans rfl, (blk_cell BK219.out 6).trans rfl, (blk_cell BK219.out 7).trans rfl⟩ (fun hHeld => ?_)
                            clear hK K
                            refine norm_ (a' := ?_) ?_ ?_
                            rotate_left
                            · show Act.put _ (some 43) _ = _
                              simp only [Act.put, List.setIfInBounds_toArray, List.set_cons_zero, List.set_cons_succ, i64_w, i32_w]
                              rfl
                            refine pure_ (i := 7) (N := some 36) (v := ?_) (a' := ?_) #[true, true, true, true, true, true, true, true, false, false, true, false, false] rfl rfl (any_of HT_.out (by kernel_rfl)) (fun _ _ _ h => h) (Or.inl ⟨by rfl, ?_⟩) ?_ ?_
                            rotate_left
                            · intro w'
                              go_simp
                              with_reducible rfl
                            rotate_left
                            · simp only [Act.put, List.setIfInBounds_toArray, List.set_cons_zero, List.set_cons_succ, i64_w, i32_w]
                              rfl
                            refine pure_ (i := 8) (N := some 44) (v := ?_) (a' := ?_) #[true, true, true, true, true, true, true, true, true, false, true, false, false] rfl rfl (any_of HT_.out (by kernel_rfl)) (fun _ _ _ h => h) (Or.inl ⟨by rfl, ?_⟩) ?_ ?_
                            rotate_left
                            · intro w'
                              go_simp
                              with_reducible rfl
                            rotate_left
                            · simp only [Act.put, List.setIfInBounds_toArray, List.set_cons_zero, List.set_cons_succ, i64_w, i32_w]
                              rfl
                            refine pure_ (i := 9) (N := some 45) (v := ?_) (a' := ?_) #[true, true, true, true, true, true, true, true, true, true, true, false, false] rfl rfl (any_of HT_.out (by kernel_rfl)) (fun _ _ _ h => h) (Or.inl ⟨by rfl, ?_⟩) ?_ ?_
                            rotate_left
                            · intro w'
                              go_simp
                              with_reducible rfl
                            rotate_left
                            · simp only [Act.put, List.setIfInBounds_toArray, List.set_cons_zero, List.set_cons_succ, i64_w, i32_w]
                              rfl
                            exact norm_ (by simp only [putAll, Act.put, List.setIfInBounds_toArray, List.set_cons_zero, List.set_cons_succ]) (hCont (gb230) _ ⟨hHeld, (by (with_reducible repeat (first | apply Kd.R_alloc | apply Kd.R_drewN | apply Kd.R_drew)); exact HO_219008.out), (by (with_reducible repeat (first | refine blk_drewN ?_ _ | refine blk_drew ?_ | refine blk_alloc ?_ _)); exact BK202.out), (by (with_reducible repeat (first | refine blk_drewN ?_ _ | refine blk_drew ?_ | refine blk_alloc ?_ _)); exact BK218.out), (by (with_reducible repeat (first | refine blk_drewN ?_ _ | refine blk_drew ?_ | refine blk_alloc ?_ _)); exact BK219.out), (by (with_reducible repeat (first | refine blk_drewN ?_ _ | refine blk_drew ?_ | refine blk_alloc ?_ _)); exact BK230.out), GW230.out, GE230.out, NB202_230.out, NB230_202.out, NB218_230.out, NB230_218.out, NB219_230.out, NB230_219.out, (by repeat (first | (with_reducible first | exact HB.out | apply below_alloc | apply pw_below_drewN | apply below_drew1 | refine below_set ?_ GE202.out | refine below_set ?_ GE218.out | refine below_set ?_ GE219.out | refine below_set ?_ GE230.out) | exact HB.out))⟩)
                        rintro gb230 w36 ⟨hS_, h0_, h1_, h2_, h3_, h4_, h5_, h6_, h7_, h8_, h9_, h10_, h11_, h12_, h13_⟩
                        have n0_ : Aside0 (Kd.R (Kd.int .u8) 5 w36 w.heap.size (fun _ => True) (.slice Ao20 t213.length co20) t213) := ⟨h0_⟩
                        have n1_ : Aside0 (w36.heap[gb202]? = some (.cells #[.int .u32 a0_0, .int .u32 a0_1, .int .u32 a0_2, .int .u32 a0_3, .int .u32 a0_4, .int .u32 a0_5, .int .u32 a0_6, .int .u32 a0_7] 23 (0, 0))) := ⟨h1_⟩
                        have n2_ : Aside0 (w36.heap[gb218]? = some (.cells #[.int .u32 t205, .int .u32 t206, .int .u32 t207, .int .u32 t208, .int .u32 t209, .int .u32 t210, .int .u32 t211, .int .u32 t212, .slice Ao20 t213.length co20, .int .u64 t216] 27 (0, 0))) := ⟨h2_⟩
                        have n3_ : Aside0 (w36.heap[gb219]? = some (.cells #[.int .u32 x220000_1, .int .u32 x220001_1, .int .u32 x220002_1, .int .u32 x220003_1, .int .u32 x220004_1, .int .u32 x220005_1, .int .u32 x220006_1, .int .u32 x220007_1] 23 (0, 0))) := ⟨h3_⟩
                        have n4_ : Aside0 (w36.heap[gb230]? = some (.cells #[.int .u32 0, .int .u32 0, .int .u32 0, .int .u32 0, .int .u32 0, .int .u32 0, .int .u32 0, .int .u32 0] 23 (0, 0))) := ⟨h4_⟩
                        have n5_ : Aside0 (w.heap.size ≤ gb230) := ⟨h5_⟩
                        have n6_ : Aside0 (w.heap.size ≤ gb230) := ⟨h6_⟩
                        have n7_ : Aside0 (gb202 ≠ gb230) := ⟨h7_⟩
                        have n8_ : Aside0 (gb230 ≠ gb202) := ⟨h8_⟩
                        have n9_ : Aside0 (gb218 ≠ gb230) := ⟨h9_⟩
                        have n10_ : Aside0 (gb230 ≠ gb218) := ⟨h10_⟩
                        have n11_ : Aside0 (gb219 ≠ gb230) := ⟨h11_⟩
                        have n12_ : Aside0 (gb230 ≠ gb219) := ⟨h12_⟩
                        have n13_ : Aside0 (Below w.heap.size w w36) := ⟨h13_⟩
                        clear HO_219008
                        clear BK202
                        clear BK218
                        clear BK219
                        clear HB
                        clear h0_ h1_ h2_ h3_ h4_ h5_ h6_ h7_ h8_ h9_ h10_ h11_ h12_ h13_
                        have HO_219008 := n0_
                        have BK202 := n1_
                        have BK218 := n2_
                        have BK219 := n3_
                        have BK230 := n4_
                        have GW230 := n5_
                        have GE230 := n6_
                        have NB202_230 := n7_
                        have NB230_202 := n8_
                        have NB218_230 := n9_
                        have NB230_218 := n10_
                        have NB219_230 := n11_
                        have NB230_219 := n12_
                        have HB := n13_
                        clear n0_ n1_ n2_ n3_ n4_ n5_ n6_ n7_ n8_ n9_ n10_ n11_ n12_ n13_
                        have hHeld : w36.cell? ⟨gb219, 0, none⟩ = some (.int .u32 x220000_1) ∧ w36.cell? ⟨gb219, 1, none⟩ = some (.int .u32 x220001_1) ∧ w36.cell? ⟨gb219, 2, none⟩ = some (.int .u32 x220002_1) ∧ w36.cell? ⟨gb219, 3, none⟩ = some (.int .u32 x220003_1) ∧ w36.cell? ⟨gb219, 4, none⟩ = some (.int .u32 x220004_1) ∧ w36.cell? ⟨gb219, 5, none⟩ = some (.int .u32 x220005_1) ∧ w36.cell? ⟨gb219, 6, none⟩ = some (.int .u32 x220006_1) ∧ w36.cell? ⟨gb219, 7, none⟩ = some (.int .u32 x220007_1) := hS_
                        refine norm_ (a' := ?_) ?_ ?_
                        rotate_left
                        · simp only [putAll, Act.put, List.setIfInBounds_toArray, List.set_cons_zero, List.set_cons_succ]
                          rfl
                        refine one_ (i := 11) (N := none) #[true, true, true, true, true, true, true, true, true, true, true, true, false] rfl rfl (one_of HT_.out (by kernel_rfl)) (by decide) (fun K hK => ?_)
                        have hs37 : w36.cell? ⟨gb230, 0, none⟩ = some (.int .u32 0) := (blk_cell BK230.out 0).trans rfl
                        have hfs37 := blk_frozen BK230.out 0
                        have hns37_0 := NB202_230.out
                        have hns37_1 := NB218_230.out
                        have hns37_2 := NB219_230.out
                        have hms37_0 := NB230_202.out
                        have hms37_1 := NB230_218.out
                        have hms37_2 := NB230_219.out
                        have hs38 : w36.cell? ⟨gb230, 1, none⟩ = some (.int .u32 0) := (blk_cell BK230.out 1).trans rfl
                        have hfs38 := blk_frozen BK230.out 1
                        have hns38_0 := NB202_230.out
                        have hns38_1 := NB218_230.out
                        have hns38_2 := NB219_230.out
                        have hms38_0 := NB230_202.out
                        have hms38_1 := NB230_218.out
                        have hms38_2 := NB230_219.out
                        have hs39 : w36.cell? ⟨gb230, 2, none⟩ = some (.int .u32 0) := (blk_cell BK230.out 2).trans rfl
                        have hfs39 := blk_frozen BK230.out 2
                        have hns39_0 := NB202_230.out
                        have hns39_1 := NB218_230.out
                        have hns39_2 := NB219_230.out
                        have hms39_0 := NB230_202.out
                        have hms39_1 := NB230_218.out
                        have hms39_2 := NB230_219.out
                        have hs40 : w36.cell? ⟨gb230, 3, none⟩ = some (.int .u32 0) := (blk_cell BK230.out 3).trans rfl
                        have hfs40 := blk_frozen BK230.out 3
                        have hns40_0 := NB202_230.out
                        have hns40_1 := NB218_230.out
                        have hns40_2 := NB219_230.out
                        have hms40_0 := NB230_202.out
                        have hms40_1 := NB230_218.out
                        have hms40_2 := NB230_219.out
                        have hs41 : w36.cell? ⟨gb230, 4, none⟩ = some (.int .u32 0) := (blk_cell BK230.out 4).trans rfl
                        have hfs41 := blk_frozen BK230.out 4
                        have hns41_0 := NB202_230.out
                        have hns41_1 := NB218_230.out
                        have hns41_2 := NB219_230.out
                        have hms41_0 := NB230_202.out
                        have hms41_1 := NB230_218.out
                        have hms41_2 := NB230_219.out
                        have hs42 : w36.cell? ⟨gb230, 5, none⟩ = some (.int .u32 0) := (blk_cell BK230.out 5).trans rfl
                        have hfs42 := blk_frozen BK230.out 5
                        have hns42_0 := NB202_230.out
                        have hns42_1 := NB218_230.out
                        have hns42_2 := NB219_230.out
                        have hms42_0 := NB230_202.out
                        have hms42_1 := NB230_218.out
                        have hms42_2 := NB230_219.out
                        have hs43 : w36.cell? ⟨gb230, 6, none⟩ = some (.int .u32 0) := (blk_cell BK230.out 6).trans rfl
                        have hfs43 := blk_frozen BK230.out 6
                        have hns43_0 := NB202_230.out
                        have hns43_1 := NB218_230.out
                        have hns43_2 := NB219_230.out
                        have hms43_0 := NB230_202.out
                        have hms43_1 := NB230_218.out
                        have hms43_2 := NB230_219.out
                        have hs44 : w36.cell? ⟨gb230, 7, none⟩ = some (.int .u32 0) := (blk_cell BK230.out 7).trans rfl
                        have hfs44 := blk_frozen BK230.out 7
                        have hns44_0 := NB202_230.out
                        have hns44_1 := NB218_230.out
                        have hns44_2 := NB219_230.out
                        have hms44_0 := NB230_202.out
                        have hms44_1 := NB230_218.out
                        have hms44_2 := NB230_219.out
                        refine skip_ (w1 := ?_) (by rfl) rfl ?_ ?_
                        rotate_left
                        · go_simp
                          rfl
                        refine hK.out _ _ ⟨((cell_far (p := ⟨gb230, _, none⟩) NB219_230.out _).trans (((cell_far (p := ⟨gb230, _, none⟩) NB219_230.out _).trans (((cell_far (p := ⟨gb230, _, none⟩) NB219_230.out _).trans (((cell_far (p := ⟨gb230, _, none⟩) NB219_230.out _).trans (((cell_far (p := ⟨gb230, _, none⟩) NB219_230.out _).trans (((cell_far (p := ⟨gb230, _, none⟩) NB219_230.out _).trans (((cell_far (p := ⟨gb230, _, none⟩) NB219_230.out _).trans (((cell_far (p := ⟨gb230, _, none⟩) NB219_230.out _).trans (hHeld.1)))))))))))))))), ((cell_far (p := ⟨gb230, _, none⟩) NB219_230.out _).trans (((cell_far (p := ⟨gb230, _, none⟩) NB219_230.out _).trans (((cell_far (p := ⟨gb230, _, none⟩) NB219_230.out _).trans (((cell_far (p := ⟨gb230, _, none⟩) NB219_230.out _).trans (((cell_far (p := ⟨gb230, _, none⟩) NB219_230.out _).trans (((cell_far (p := ⟨gb230, _, none⟩) NB219_230.out _).trans (((cell_far (p := ⟨gb230, _, none⟩) NB219_230.out _).trans (((cell_far (p := ⟨gb230, _, none⟩) NB219_230.out _).trans (hHeld.2.1)))))))))))))))), ((cell_far (p := ⟨gb230, _, none⟩) NB219_230.out _).trans (((cell_far (p := ⟨gb230, _, none⟩) NB219_230.out _).trans (((cell_far (p := ⟨gb230, _, none⟩) NB219_230.out _).trans (((cell_far (p := ⟨gb230, _, none⟩) NB219_230.out _).trans (((cell_far (p := ⟨gb230, _, none⟩) NB219_230.out _).trans (((cell_far (p := ⟨gb230, _, none⟩) NB219_230.out _).trans (((cell_far (p := ⟨gb230, _, none⟩) NB219_230.out _).trans (((cell_far (p := ⟨gb230, _, none⟩) NB219_230.out _).trans (hHeld.2.2.1)))))))))))))))), ((cell_far (p := ⟨gb230, _, none⟩) NB219_230.out _).trans (((cell_far (p := ⟨gb230, _, none⟩) NB219_230.out _).trans (((cell_far (p := ⟨gb230, _, none⟩) NB219_230.out _).trans (((cell_far (p := ⟨gb230, _, none⟩) NB219_230.out _).trans (((cell_far (p := ⟨gb230, _, none⟩) NB219_230.out _).trans (((cell_far (p := ⟨gb230, _, none⟩) NB219_230.out _).trans (((cell_far (p := ⟨gb230, _, none⟩) NB219_230.out _).trans (((cell_far (p := ⟨gb230, _, none⟩) NB219_230.out _).trans (hHeld.2.2.2.1)))))))))))))))), ((cell_far (p := ⟨gb230, _, none⟩) NB219_230.out _).trans (((cell_far (p := ⟨gb230, _, none⟩) NB219_230.out _).trans (((cell_far (p := ⟨gb230, _, none⟩) NB219_230.out _).trans (((cell_far (p := ⟨gb230, _, none⟩) NB219_230.out _).trans (((cell_far (p := ⟨gb230, _, none⟩) NB219_230.out _).trans (((cell_far (p := ⟨gb230, _, none⟩) NB219_230.out _).trans (((cell_far (p := ⟨gb230, _, none⟩) NB219_230.out _).trans (((cell_far (p := ⟨gb230, _, none⟩) NB219_230.out _).trans (hHeld.2.2.2.2.1)))))))))))))))), ((cell_far (p := ⟨gb230, _, none⟩) NB219_230.out _).trans (((cell_far (p := ⟨gb230, _, none⟩) NB219_230.out _).trans (((cell_far (p := ⟨gb230, _, none⟩) NB219_230.out _).trans (((cell_far (p := ⟨gb230, _, none⟩) NB219_230.out _).trans (((cell_far (p := ⟨gb230, _, none⟩) NB219_230.out _).trans (((cell_far (p := ⟨gb230, _, none⟩) NB219_230.out _).trans (((cell_far (p := ⟨gb230, _, none⟩) NB219_230.out _).trans (((cell_far (p := ⟨gb230, _, none⟩) NB219_230.out _).trans (hHeld.2.2.2.2.2.1)))))))))))))))), ((cell_far (p := ⟨gb230, _, none⟩) NB219_230.out _).trans (((cell_far (p := ⟨gb230, _, none⟩) NB219_230.out _).trans (((cell_far (p := ⟨gb230, _, none⟩) NB219_230.out _).trans (((cell_far (p := ⟨gb230, _, none⟩) NB219_230.out _).trans (((cell_far (p := ⟨gb230, _, none⟩) NB219_230.out _).trans (((cell_far (p := ⟨gb230, _, none⟩) NB219_230.out _).trans (((cell_far (p := ⟨gb230, _, none⟩) NB219_230.out _).trans (((cell_far (p := ⟨gb230, _, none⟩) NB219_230.out _).trans (hHeld.2.2.2.2.2.2.1)))))))))))))))), ((cell_far (p := ⟨gb230, _, none⟩) NB219_230.out _).trans (((cell_far (p := ⟨gb230, _, none⟩) NB219_230.out _).trans (((cell_far (p := ⟨gb230, _, none⟩) NB219_230.out _).trans (((cell_far (p := ⟨gb230, _, none⟩) NB219_230.out _).trans (((cell_far (p := ⟨gb230, _, none⟩) NB219_230.out _).trans (((cell_far (p := ⟨gb230, _, none⟩) NB219_230.out _).trans (((cell_far (p := ⟨gb230, _, none⟩) NB219_230.out _).trans (((cell_far (p := ⟨gb230, _, none⟩) NB219_230.out _).trans (hHeld.2.2.2.2.2.2.2))))))))))))))))⟩ (fun hHeld => ?_)
                        clear hK K
                        refine pure_ (i := 12) (N := some 10) (v := ?_) (a' := ?_) #[true, true, true, true, true, true, true, true, true, true, true, true, true] rfl rfl (any_of HT_.out (by kernel_rfl)) (fun _ _ _ h => h) (Or.inl ⟨by rfl, ?_⟩) ?_ ?_
                        rotate_left
                        · intro w'
                          go_simp
                          with_reducible rfl
                        rotate_left
                        · simp only [Act.put, List.setIfInBounds_toArray, List.set_cons_zero, List.set_cons_succ, i64_w, i32_w]
                          rfl
                        refine done_ (done_of HT_.out (by kernel_rfl)) ?_
                        have hnb45 := NB230_202.out
                        have hnc45 := NB202_230.out
                        have hnb46 := NB230_218.out
                        have hnc46 := NB218_230.out
                        have hnb47 := NB230_219.out
                        have hnc47 := NB219_230.out
                        have hcz48_0 : w36.cell? ⟨gb230, 0, none⟩ = some (.int .u32 0) := (blk_cell BK230.out 0).trans rfl
                        have hcz48_1 : w36.cell? ⟨gb230, 1, none⟩ = some (.int .u32 0) := (blk_cell BK230.out 1).trans rfl
                        have hcz48_2 : w36.cell? ⟨gb230, 2, none⟩ = some (.int .u32 0) := (blk_cell BK230.out 2).trans rfl
                        have hcz48_3 : w36.cell? ⟨gb230, 3, none⟩ = some (.int .u32 0) := (blk_cell BK230.out 3).trans rfl
                        have hcz48_4 : w36.cell? ⟨gb230, 4, none⟩ = some (.int .u32 0) := (blk_cell BK230.out 4).trans rfl
                        have hcz48_5 : w36.cell? ⟨gb230, 5, none⟩ = some (.int .u32 0) := (blk_cell BK230.out 5).trans rfl
                        have hcz48_6 : w36.cell? ⟨gb230, 6, none⟩ = some (.int .u32 0) := (blk_cell BK230.out 6).trans rfl
                        have hcz48_7 : w36.cell? ⟨gb230, 7, none⟩ = some (.int .u32 0) := (blk_cell BK230.out 7).trans rfl
                        have hfz48_0 := blk_frozen BK230.out 0
                        have hfz48_1 := blk_frozen BK230.out 1
                        have hfz48_2 := blk_frozen BK230.out 2
                        have hfz48_3 := blk_frozen BK230.out 3
                        have hfz48_4 := blk_frozen BK230.out 4
                        have hfz48_5 := blk_frozen BK230.out 5
                        have hfz48_6 := blk_frozen BK230.out 6
                        have hfz48_7 := blk_frozen BK230.out 7
                        have hnb49 := NB219_202.out
                        have hnc49 := NB202_219.out
                        have hnb50 := NB219_218.out
                        have hnc50 := NB218_219.out
                        have hcz51_0 : w36.cell? ⟨gb219, 0, none⟩ = some (.int .u32 x220000_1) := (blk_cell BK219.out 0).trans rfl
                        have hcz51_1 : w36.cell? ⟨gb219, 1, none⟩ = some (.int .u32 x220001_1) := (blk_cell BK219.out 1).trans rfl
                        have hcz51_2 : w36.cell? ⟨gb219, 2, none⟩ = some (.int .u32 x220002_1) := (blk_cell BK219.out 2).trans rfl
                        have hcz51_3 : w36.cell? ⟨gb219, 3, none⟩ = some (.int .u32 x220003_1) := (blk_cell BK219.out 3).trans rfl
                        have hcz51_4 : w36.cell? ⟨gb219, 4, none⟩ = some (.int .u32 x220004_1) := (blk_cell BK219.out 4).trans rfl
                        have hcz51_5 : w36.cell? ⟨gb219, 5, none⟩ = some (.int .u32 x220005_1) := (blk_cell BK219.out 5).trans rfl
                        have hcz51_6 : w36.cell? ⟨gb219, 6, none⟩ = some (.int .u32 x220006_1) := (blk_cell BK219.out 6).trans rfl
                        have hcz51_7 : w36.cell? ⟨gb219, 7, none⟩ = some (.int .u32 x220007_1) := (blk_cell BK219.out 7).trans rfl
                        have hfz51_0 := blk_frozen BK219.out 0
                        have hfz51_1 := blk_frozen BK219.out 1
                        have hfz51_2 := blk_frozen BK219.out 2
                        have hfz51_3 := blk_frozen BK219.out 3
                        have hfz51_4 := blk_frozen BK219.out 4
                        have hfz51_5 := blk_frozen BK219.out 5
                        have hfz51_6 := blk_frozen BK219.out 6
                        have hfz51_7 := blk_frozen BK219.out 7
                        try go_wp2
                        go_roundg k1
                        case measure => have := HK1.out; omega
                        case rel => exact ⟨(wrap64 (x8_1 + 64)), (t221), (t222), (t223), (t224), (t225), (t226), (t227), (t228), (by first | rfl | (simp; done) | (simp [*]; done)), H', ⟨by have := HK1.out; omega⟩, ⟨by (with_reducible repeat (first | apply Kd.R_alloc | apply Kd.R_drewN | apply Kd.R_drew)); exact Kd.R_mono (Kd.R_far (p := ⟨gb219, 7, none⟩) (Kd.R_far (p := ⟨gb219, 6, none⟩) (Kd.R_far (p := ⟨gb219, 5, none⟩) (Kd.R_far (p := ⟨gb219, 4, none⟩) (Kd.R_far (p := ⟨gb219, 3, none⟩) (Kd.R_far (p := ⟨gb219, 2, none⟩) (Kd.R_far (p := ⟨gb219, 1, none⟩) (Kd.R_far (p := ⟨gb219, 0, none⟩) (Kd.R_far (p := ⟨gb230, 7, none⟩) (Kd.R_far (p := ⟨gb230, 6, none⟩) (Kd.R_far (p := ⟨gb230, 5, none⟩) (Kd.R_far (p := ⟨gb230, 4, none⟩) (Kd.R_far (p := ⟨gb230, 3, none⟩) (Kd.R_far (p := ⟨gb230, 2, none⟩) (Kd.R_far (p := ⟨gb230, 1, none⟩) (Kd.R_far (p := ⟨gb230, 0, none⟩) (Kd.R_types (Kd.R_types HO_219008.out BK230.out (by decide)) BK219.out (by decide)) (fun _ hk => hk.1.2) (.int .u32 t221)) (fun _ hk => hk.1.2) (.int .u32 t222)) (fun _ hk => hk.1.2) (.int .u32 t223)) (fun _ hk => hk.1.2) (.int .u32 t224)) (fun _ hk => hk.1.2) (.int .u32 t225)) (fun _ hk => hk.1.2) (.int .u32 t226)) (fun _ hk => hk.1.2) (.int .u32 t227)) (fun _ hk => hk.1.2) (.int .u32 t228)) (fun _ hk => hk.2) (.int .u32 t221)) (fun _ hk => hk.2) (.int .u32 t222)) (fun _ hk => hk.2) (.int .u32 t223)) (fun _ hk => hk.2) (.int .u32 t224)) (fun _ hk => hk.2) (.int .u32 t225)) (fun _ hk => hk.2) (.int .u32 t226)) (fun _ hk => hk.2) (.int .u32 t227)) (fun _ hk => hk.2) (.int .u32 t228)) (fun _ hk => trivial)⟩, ⟨by (with_reducible repeat (first | refine blk_drewN ?_ _ | refine blk_drew ?_ | refine blk_alloc ?_ _)); refine blk_far ?_ NB202_219.out _; (with_reducible repeat (first | refine blk_drewN ?_ _ | refine blk_drew ?_ | refine blk_alloc ?_ _)); refine blk_far ?_ NB202_219.out _; (with_reducible repeat (first | refine blk_drewN ?_ _ | refine blk_drew ?_ | refine blk_alloc ?_ _)); refine blk_far ?_ NB202_219.out _; (with_reducible repeat (first | refine blk_drewN ?_ _ | refine blk_drew ?_ | refine blk_alloc ?_ _)); refine blk_far ?_ NB202_219.out _; (with_reducible repeat (first | refine blk_drewN ?_ _ | refine blk_drew ?_ | refine blk_alloc ?_ _)); refine blk_far ?_ NB202_219.out _; (with_reducible repeat (first | refine blk_drewN ?_ _ | refine blk_drew ?_ | refine blk_alloc ?_ _)); refine blk_far ?_ NB202_219.out _; (with_reducible repeat (first | refine blk_drewN ?_ _ | refine blk_drew ?_ | refine blk_alloc ?_ _)); refine blk_far ?_ NB202_219.out _; (with_reducible repeat (first | refine blk_drewN ?_ _ | refine blk_drew ?_ | refine blk_alloc ?_ _)); refine blk_far ?_ NB202_219.out _; (with_reducible repeat (first | refine blk_drewN ?_ _ | refine blk_drew ?_ | refine blk_alloc ?_ _)); refine blk_far ?_ NB202_230.out _; (with_reducible repeat (first | refine blk_drewN ?_ _ | refine blk_drew ?_ | refine blk_alloc ?_ _)); refine blk_far ?_ NB202_230.out _; (with_reducible repeat (first | refine blk_drewN ?_ _ | refine blk_drew ?_ | refine blk_alloc ?_ _)); refine blk_far ?_ NB202_230.out _; (with_reducible repeat (first | refine blk_drewN ?_ _ | refine blk_drew ?_ | refine blk_alloc ?_ _)); refine blk_far ?_ NB202_230.out _; (with_reducible repeat (first | refine blk_drewN ?_ _ | refine blk_drew ?_ | refine blk_alloc ?_ _)); refine blk_far ?_ NB202_230.out _; (with_reducible repeat (first | refine blk_drewN ?_ _ | refine blk_drew ?_ | refine blk_alloc ?_ _)); refine blk_far ?_ NB202_230.out _; (with_reducible repeat (first | refine blk_drewN ?_ _ | refine blk_drew ?_ | refine blk_alloc ?_ _)); refine blk_far ?_ NB202_230.out _; (with_reducible repeat (first | refine blk_drewN ?_ _ | refine blk_drew ?_ | refine blk_alloc ?_ _)); refine blk_far ?_ NB202_230.out _; (with_reducible repeat (first | refine blk_drewN ?_ _ | refine blk_drew ?_ | refine blk_alloc ?_ _)); exact BK202.out⟩, ⟨by (with_reducible repeat (first | refine blk_drewN ?_ _ | refine blk_drew ?_ | refine blk_alloc ?_ _)); refine blk_far ?_ NB218_219.out _; (with_reducible repeat (first | refine blk_drewN ?_ _ | refine blk_drew ?_ | refine blk_alloc ?_ _)); refine blk_far ?_ NB218_219.out _; (with_reducible repeat (first | refine blk_drewN ?_ _ | refine blk_drew ?_ | refine blk_alloc ?_ _)); refine blk_far ?_ NB218_219.out _; (with_reducible repeat (first | refine blk_drewN ?_ _ | refine blk_drew ?_ | refine blk_alloc ?_ _)); refine blk_far ?_ NB218_219.out _; (with_reducible repeat (first | refine blk_drewN ?_ _ | refine blk_drew ?_ | refine blk_alloc ?_ _)); refine blk_far ?_ NB218_219.out _; (with_reducible repeat (first | refine blk_drewN ?_ _ | refine blk_drew ?_ | refine blk_alloc ?_ _)); refine blk_far ?_ NB218_219.out _; (with_reducible repeat (first | refine blk_drewN ?_ _ | refine blk_drew ?_ | refine blk_alloc ?_ _)); refine blk_far ?_ NB218_219.out _; (with_reducible repeat (first | refine blk_drewN ?_ _ | refine blk_drew ?_ | refine blk_alloc ?_ _)); refine blk_far ?_ NB218_219.out _; (with_reducible repeat (first | refine blk_drewN ?_ _ | refine blk_drew ?_ | refine blk_alloc ?_ _)); refine blk_far ?_ NB218_230.out _; (with_reducible repeat (first | refine blk_drewN ?_ _ | refine blk_drew ?_ | refine blk_alloc ?_ _)); refine blk_far ?_ NB218_230.out _; (with_reducible repeat (first | refine blk_drewN ?_ _ | refine blk_drew ?_ | refine blk_alloc ?_ _)); refine blk_far ?_ NB218_230.out _; (with_reducible repeat (first | refine blk_drewN ?_ _ | refine blk_drew ?_ | refine blk_alloc ?_ _)); refine blk_far ?_ NB218_230.out _; (with_reducible repeat (first | refine blk_drewN ?_ _ | refine blk_drew ?_ | refine blk_alloc ?_ _)); refine blk_far ?_ NB218_230.out _; (with_reducible repeat (first | refine blk_drewN ?_ _ | refine blk_drew ?_ | refine blk_alloc ?_ _)); refine blk_far ?_ NB218_230.out _; (with_reducible repeat (first | refine blk_drewN ?_ _ | refine blk_drew ?_ | refine blk_alloc ?_ _)); refine blk_far ?_ NB218_230.out _; (with_reducible repeat (first | refine blk_drewN ?_ _ | refine blk_drew ?_ | refine blk_alloc ?_ _)); refine blk_far ?_ NB218_230.out _; (with_reducible repeat (first | refine blk_drewN ?_ _ | refine blk_drew ?_ | refine blk_alloc ?_ _)); exact BK218.out⟩, ⟨by (with_reducible repeat (first | refine blk_drewN ?_ _ | refine blk_drew ?_ | refine blk_alloc ?_ _)); refine blk_put (cs := #[.int .u32 t221, .int .u32 t222, .int .u32 t223, .int .u32 t224, .int .u32 t225, .int .u32 t226, .int .u32 t227, .int .u32 x220007_1]) ?_ 7 _ rfl; (with_reducible repeat (first | refine blk_drewN ?_ _ | refine blk_drew ?_ | refine blk_alloc ?_ _)); refine blk_put (cs := #[.int .u32 t221, .int .u32 t222, .int .u32 t223, .int .u32 t224, .int .u32 t225, .int .u32 t226, .int .u32 x220006_1, .int .u32 x220007_1]) ?_ 6 _ rfl; (with_reducible repeat (first | refine blk_drewN ?_ _ | refine blk_drew ?_ | refine blk_alloc ?_ _)); refine blk_put (cs := #[.int .u32 t221, .int .u32 t222, .int .u32 t223, .int .u32 t224, .int .u32 t225, .int .u32 x220005_1, .int .u32 x220006_1, .int .u32 x220007_1]) ?_ 5 _ rfl; (with_reducible repeat (first | refine blk_drewN ?_ _ | refine blk_drew ?_ | refine blk_alloc ?_ _)); refine blk_put (cs := #[.int .u32 t221, .int .u32 t222, .int .u32 t223, .int .u32 t224, .int .u32 x220004_1, .int .u32 x220005_1, .int .u32 x220006_1, .int .u32 x220007_1]) ?_ 4 _ rfl; (with_reducible repeat (first | refine blk_drewN ?_ _ | refine blk_drew ?_ | refine blk_alloc ?_ _)); refine blk_put (cs := #[.int .u32 t221, .int .u32 t222, .int .u32 t223, .int .u32 x220003_1, .int .u32 x220004_1, .int .u32 x220005_1, .int .u32 x220006_1, .int .u32 x220007_1]) ?_ 3 _ rfl; (with_reducible repeat (first | refine blk_drewN ?_ _ | refine blk_drew ?_ | refine blk_alloc ?_ _)); refine blk_put (cs := #[.int .u32 t221, .int .u32 t222, .int .u32 x220002_1, .int .u32 x220003_1, .int .u32 x220004_1, .int .u32 x220005_1, .int .u32 x220006_1, .int .u32 x220007_1]) ?_ 2 _ rfl; (with_reducible repeat (first | refine blk_drewN ?_ _ | refine blk_drew ?_ | refine blk_alloc ?_ _)); refine blk_put (cs := #[.int .u32 t221, .int .u32 x220001_1, .int .u32 x220002_1, .int .u32 x220003_1, .int .u32 x220004_1, .int .u32 x220005_1, .int .u32 x220006_1, .int .u32 x220007_1]) ?_ 1 _ rfl; (with_reducible repeat (first | refine blk_drewN ?_ _ | refine blk_drew ?_ | refine blk_alloc ?_ _)); refine blk_put (cs := #[.int .u32 x220000_1, .int .u32 x220001_1, .int .u32 x220002_1, .int .u32 x220003_1, .int .u32 x220004_1, .int .u32 x220005_1, .int .u32 x220006_1, .int .u32 x220007_1]) ?_ 0 _ rfl; (with_reducible repeat (first | refine blk_drewN ?_ _ | refine blk_drew ?_ | refine blk_alloc ?_ _)); refine blk_far ?_ NB219_230.out _; (with_reducible repeat (first | refine blk_drewN ?_ _ | refine blk_drew ?_ | refine blk_alloc ?_ _)); refine blk_far ?_ NB219_230.out _; (with_reducible repeat (first | refine blk_drewN ?_ _ | refine blk_drew ?_ | refine blk_alloc ?_ _)); refine blk_far ?_ NB219_230.out _; (with_reducible repeat (first | refine blk_drewN ?_ _ | refine blk_drew ?_ | refine blk_alloc ?_ _)); refine blk_far ?_ NB219_230.out _; (with_reducible repeat (first | refine blk_drewN ?_ _ | refine blk_drew ?_ | refine blk_alloc ?_ _)); refine blk_far ?_ NB219_230.out _; (with_reducible repeat (first | refine blk_drewN ?_ _ | refine blk_drew ?_ | refine blk_alloc ?_ _)); refine blk_far ?_ NB219_230.out _; (with_reducible repeat (first | refine blk_drewN ?_ _ | refine blk_drew ?_ | refine blk_alloc ?_ _)); refine blk_far ?_ NB219_230.out _; (with_reducible repeat (first | refine blk_drewN ?_ _ | refine blk_drew ?_ | refine blk_alloc ?_ _)); refine blk_far ?_ NB219_230.out _; (with_reducible repeat (first | refine blk_drewN ?_ _ | refine blk_drew ?_ | refine blk_alloc ?_ _)); exact BK219.out⟩, ⟨by repeat (first | (with_reducible first | exact HB.out | apply below_alloc | apply pw_below_drewN | apply below_drew1 | refine below_set ?_ GE202.out | refine below_set ?_ GE218.out | refine below_set ?_ GE219.out | refine below_set ?_ GE230.out) | exact HB.out)⟩⟩
                      · rw [if_neg c31] at H
                        have c31b0 : (t229 == 0) = false := beq_eq_false_iff_ne.mpr c31
                        have c31b1 : (t229 != 0) = true := bne_iff_ne.mpr c31
                        (try (have c31h14 := c31b0; simp only [hsl14_, Int.ofNat_toNat] at c31h14))
                        (try (have c31h33 := c31b0; simp only [hsl33_, Int.ofNat_toNat] at c31h33))
                        (try (have c31h33 := c31b0; simp only [hsl33_, Int.ofNat_toNat] at c31h33))
                        (try (have c31h33 := c31b0; simp only [hsl33_, Int.ofNat_toNat] at c31h33))
                        exact absurd (Option.some.inj H) (by rw [HR_.out]; decide)
                    · rw [if_neg c29] at H
                      exact absurd H (by simp)
                  · rw [if_neg c28] at H
                    exact absurd H (by simp)
                · rw [if_neg c27] at H
                  exact absurd H (by simp)
              · rw [if_neg c26] at H
                have c26b0 : decide (x8_1 < ((l1.take ((ji8) : Int).toNat).length : Int)) = false := decide_eq_false c26
                (try (have c26h14 := c26b0; simp only [hsl14_, Int.ofNat_toNat] at c26h14))
                (try (have c26h33 := c26b0; simp only [hsl33_, Int.ofNat_toNat] at c26h33))
                (try (have c26h33 := c26b0; simp only [hsl33_, Int.ofNat_toNat] at c26h33))
                (try (have c26h33 := c26b0; simp only [hsl33_, Int.ofNat_toNat] at c26h33))
                clear c26
                by_cases c52 : t217 = 0
                · rw [if_pos c52] at H
                  have c52b0 : (t217 == 0) = true := beq_iff_eq.mpr c52
                  have c52b1 : (t217 != 0) = false := bne_eq_false_iff_eq.mpr c52
                  (try (have c52h14 := c52b0; simp only [hsl14_, Int.ofNat_toNat] at c52h14))
                  (try (have c52h33 := c52b0; simp only [hsl33_, Int.ofNat_toNat] at c52h33))
                  (try (have c52h33 := c52b0; simp only [hsl33_, Int.ofNat_toNat] at c52h33))
                  (try (have c52h33 := c52b0; simp only [hsl33_, Int.ofNat_toNat] at c52h33))
                  clear c52
                  by_cases c53 : (t205 == x220000_1 && (t206 == x220001_1 && (t207 == x220002_1 && (t208 == x220003_1 && (t209 == x220004_1 && (t210 == x220005_1 && (t211 == x220006_1 && (t212 == x220007_1)))))))) = true
                  · rw [if_pos c53] at H
                    have c53b0 : (t205 == x220000_1 && (t206 == x220001_1 && (t207 == x220002_1 && (t208 == x220003_1 && (t209 == x220004_1 && (t210 == x220005_1 && (t211 == x220006_1 && (t212 == x220007_1)))))))) = true := c53
                    (try (have c53b1 : decide (t205 = x220000_1 && (t206 == x220001_1 && (t207 == x220002_1 && (t208 == x220003_1 && (t209 == x220004_1 && (t210 == x220005_1 && (t211 == x220006_1 && (t212 == x220007_1)))))))) = true := by simpa using c53))
                    (try (have c53b2 : (t205 == x220000_1 && (t206 == x220001_1 && (t207 == x220002_1 && (t208 == x220003_1 && (t209 == x220004_1 && (t210 == x220005_1 && (t211 == x220006_1 && (t212 == x220007_1)))))))) = true := by simpa using c53))
                    (try (have c53h14 := c53b0; simp only [hsl14_, Int.ofNat_toNat] at c53h14))
                    (try (have c53h33 := c53b0; simp only [hsl33_, Int.ofNat_toNat] at c53h33))
                    (try (have c53h33 := c53b0; simp only [hsl33_, Int.ofNat_toNat] at c53h33))
                    (try (have c53h33 := c53b0; simp only [hsl33_, Int.ofNat_toNat] at c53h33))
                    clear c53
                    obtain rfl := Option.some.inj H
                    have hnb54 := NB218_202.out
                    have hnc54 := NB202_218.out
                    have hnb55 := NB218_219.out
                    have hnc55 := NB219_218.out
                    have hcz56_0 : wr.cell? ⟨gb218, 0, none⟩ = some (.int .u32 t205) := (blk_cell BK218.out 0).trans rfl
                    have hcz56_1 : wr.cell? ⟨gb218, 1, none⟩ = some (.int .u32 t206) := (blk_cell BK218.out 1).trans rfl
                    have hcz56_2 : wr.cell? ⟨gb218, 2, none⟩ = some (.int .u32 t207) := (blk_cell BK218.out 2).trans rfl
                    have hcz56_3 : wr.cell? ⟨gb218, 3, none⟩ = some (.int .u32 t208) := (blk_cell BK218.out 3).trans rfl
                    have hcz56_4 : wr.cell? ⟨gb218, 4, none⟩ = some (.int .u32 t209) := (blk_cell BK218.out 4).trans rfl
                    have hcz56_5 : wr.cell? ⟨gb218, 5, none⟩ = some (.int .u32 t210) := (blk_cell BK218.out 5).trans rfl
                    have hcz56_6 : wr.cell? ⟨gb218, 6, none⟩ = some (.int .u32 t211) := (blk_cell BK218.out 6).trans rfl
                    have hcz56_7 : wr.cell? ⟨gb218, 7, none⟩ = some (.int .u32 t212) := (blk_cell BK218.out 7).trans rfl
                    have hcz56_8 : wr.cell? ⟨gb218, 8, none⟩ = some (.slice Ao20 t213.length co20) := (blk_cell BK218.out 8).trans rfl
                    have hcz56_9 : wr.cell? ⟨gb218, 9, none⟩ = some (.int .u64 t216) := (blk_cell BK218.out 9).trans rfl
                    have hfz56_0 := blk_frozen BK218.out 0
                    have hfz56_1 := blk_frozen BK218.out 1
                    have hfz56_2 := blk_frozen BK218.out 2
                    have hfz56_3 := blk_frozen BK218.out 3
                    have hfz56_4 := blk_frozen BK218.out 4
                    have hfz56_5 := blk_frozen BK218.out 5
                    have hfz56_6 := blk_frozen BK218.out 6
                    have hfz56_7 := blk_frozen BK218.out 7
                    have hfz56_8 := blk_frozen BK218.out 8
                    have hfz56_9 := blk_frozen BK218.out 9
                    have hnb57 := NB219_202.out
                    have hnc57 := NB202_219.out
                    have hcz58_0 : wr.cell? ⟨gb219, 0, none⟩ = some (.int .u32 x220000_1) := (blk_cell BK219.out 0).trans rfl
                    have hcz58_1 : wr.cell? ⟨gb219, 1, none⟩ = some (.int .u32 x220001_1) := (blk_cell BK219.out 1).trans rfl
                    have hcz58_2 : wr.cell? ⟨gb219, 2, none⟩ = some (.int .u32 x220002_1) := (blk_cell BK219.out 2).trans rfl
                    have hcz58_3 : wr.cell? ⟨gb219, 3, none⟩ = some (.int .u32 x220003_1) := (blk_cell BK219.out 3).trans rfl
                    have hcz58_4 : wr.cell? ⟨gb219, 4, none⟩ = some (.int .u32 x220004_1) := (blk_cell BK219.out 4).trans rfl
                    have hcz58_5 : wr.cell? ⟨gb219, 5, none⟩ = some (.int .u32 x220005_1) := (blk_cell BK219.out 5).trans rfl
                    have hcz58_6 : wr.cell? ⟨gb219, 6, none⟩ = some (.int .u32 x220006_1) := (blk_cell BK219.out 6).trans rfl
                    have hcz58_7 : wr.cell? ⟨gb219, 7, none⟩ = some (.int .u32 x220007_1) := (blk_cell BK219.out 7).trans rfl
                    have hfz58_0 := blk_frozen BK219.out 0
                    have hfz58_1 := blk_frozen BK219.out 1
                    have hfz58_2 := blk_frozen BK219.out 2
                    have hfz58_3 := blk_frozen BK219.out 3
                    have hfz58_4 := blk_frozen BK219.out 4
                    have hfz58_5 := blk_frozen BK219.out 5
                    have hfz58_6 := blk_frozen BK219.out 6
                    have hfz58_7 := blk_frozen BK219.out 7
                    go_wp2
                    go_ret
                    exact ⟨by first | rfl | (simp [errW_none, errW_some] <;> rfl) | (simp only [← hji8]; first | rfl | (simp [errW_none, errW_some] <;> rfl)) | (simp [*, errW_none, errW_some] <;> rfl), by repeat (first | (with_reducible first | exact HB.out | apply below_alloc | apply pw_below_drewN | apply below_drew1 | refine below_set ?_ GE202.out | refine below_set ?_ GE218.out | refine below_set ?_ GE219.out) | exact HB.out)⟩
                  · rw [if_neg c53] at H
                    have c53b0 : (t205 == x220000_1 && (t206 == x220001_1 && (t207 == x220002_1 && (t208 == x220003_1 && (t209 == x220004_1 && (t210 == x220005_1 && (t211 == x220006_1 && (t212 == x220007_1)))))))) = false := by simpa using c53
                    (try (have c53b1 : decide (t205 = x220000_1 && (t206 == x220001_1 && (t207 == x220002_1 && (t208 == x220003_1 && (t209 == x220004_1 && (t210 == x220005_1 && (t211 == x220006_1 && (t212 == x220007_1)))))))) = false := by simpa using c53))
                    (try (have c53b2 : (t205 == x220000_1 && (t206 == x220001_1 && (t207 == x220002_1 && (t208 == x220003_1 && (t209 == x220004_1 && (t210 == x220005_1 && (t211 == x220006_1 && (t212 == x220007_1)))))))) = false := by simpa using c53))
                    (try (have c53b3 : ¬ (t205 = x220000_1 && (t206 == x220001_1 && (t207 == x220002_1 && (t208 == x220003_1 && (t209 == x220004_1 && (t210 == x220005_1 && (t211 == x220006_1 && (t212 == x220007_1)))))))) := by simpa using c53))
                    (try (have c53h14 := c53b0; simp only [hsl14_, Int.ofNat_toNat] at c53h14))
                    (try (have c53h33 := c53b0; simp only [hsl33_, Int.ofNat_toNat] at c53h33))
                    (try (have c53h33 := c53b0; simp only [hsl33_, Int.ofNat_toNat] at c53h33))
                    (try (have c53h33 := c53b0; simp only [hsl33_, Int.ofNat_toNat] at c53h33))
                    clear c53
                    exact absurd (Option.some.inj H) (by rw [HR_.out]; decide)
                · rw [if_neg c52] at H
                  have c52b0 : (t217 == 0) = false := beq_eq_false_iff_ne.mpr c52
                  have c52b1 : (t217 != 0) = true := bne_iff_ne.mpr c52
                  (try (have c52h14 := c52b0; simp only [hsl14_, Int.ofNat_toNat] at c52h14))
                  (try (have c52h33 := c52b0; simp only [hsl33_, Int.ofNat_toNat] at c52h33))
                  (try (have c52h33 := c52b0; simp only [hsl33_, Int.ofNat_toNat] at c52h33))
                  (try (have c52h33 := c52b0; simp only [hsl33_, Int.ofNat_toNat] at c52h33))
                  exact absurd (Option.some.inj H) (by rw [HR_.out]; decide)
        · rw [if_neg c10] at H
          exact absurd H (by simp)
      · rw [if_neg c9] at H
        exact absurd H (by simp)
  · replace c4 := Bool.eq_false_iff.mpr c4
    subst c4
    have H1 : (some false) = some r := by rw [if_neg (show ¬ (false = true) by decide)] at H; exact H
    clear H
    have H := H1
    clear H1
    exact absurd (Option.some.inj H) (by rw [HR_.out]; decide)

def G23 (x_ : S23) : Prop := (fun n_ : Int => (Lit.int .u32 n_).wf = true) x_.f0 ∧ (fun n_ : Int => (Lit.int .u32 n_).wf = true) x_.f1 ∧ (fun n_ : Int => (Lit.int .u32 n_).wf = true) x_.f2 ∧ (fun n_ : Int => (Lit.int .u32 n_).wf = true) x_.f3 ∧ (fun n_ : Int => (Lit.int .u32 n_).wf = true) x_.f4 ∧ (fun n_ : Int => (Lit.int .u32 n_).wf = true) x_.f5 ∧ (fun n_ : Int => (Lit.int .u32 n_).wf = true) x_.f6 ∧ (fun n_ : Int => (Lit.int .u32 n_).wf = true) x_.f7
theorem opens23 : Opens Tryd.prog 23 k23 G23 := opens_iso (opens_array (fs := [fld 22 0, fld 22 1, fld 22 2, fld 22 3, fld 22 4, fld 22 5, fld 22 6, fld 22 7]) (by kernel_rfl) Tryd.underlying23 rfl (opens_cons (opens_int Tryd.underlying22) rfl (by kernel_rfl) (opens_cons (opens_int Tryd.underlying22) rfl (by kernel_rfl) (opens_cons (opens_int Tryd.underlying22) rfl (by kernel_rfl) (opens_cons (opens_int Tryd.underlying22) rfl (by kernel_rfl) (opens_cons (opens_int Tryd.underlying22) rfl (by kernel_rfl) (opens_cons (opens_int Tryd.underlying22) rfl (by kernel_rfl) (opens_cons (opens_int Tryd.underlying22) rfl (by kernel_rfl) (opens_one (opens_int Tryd.underlying22) rfl (by kernel_rfl))))))))) (by kernel_rfl)) (fun p_ => (⟨p_.1, p_.2.1, p_.2.2.1, p_.2.2.2.1, p_.2.2.2.2.1, p_.2.2.2.2.2.1, p_.2.2.2.2.2.2.1, p_.2.2.2.2.2.2.2⟩ : S23)) (fun _ => rfl)
theorem wristbandlaw02_ShaBlocks.open0 {H : Type} {enc : TypeId × Value → H} {W : World} {base : Nat} {sp : Nat → Bool} {held : Bool} {cs : Array Value} {x : DataW H} {p : List MemPlace} (hT : DataW.Trod enc Tryd.prog W base sp held 23 (.agg cs) x p) : ∃ (a0_0 : Int) (a0_1 : Int) (a0_2 : Int) (a0_3 : Int) (a0_4 : Int) (a0_5 : Int) (a0_6 : Int) (a0_7 : Int), Value.agg cs = .agg #[.int .u32 a0_0, .int .u32 a0_1, .int .u32 a0_2, .int .u32 a0_3, .int .u32 a0_4, .int .u32 a0_5, .int .u32 a0_6, .int .u32 a0_7] ∧ (Lit.int .u32 a0_0).wf = true ∧ (Lit.int .u32 a0_1).wf = true ∧ (Lit.int .u32 a0_2).wf = true ∧ (Lit.int .u32 a0_3).wf = true ∧ (Lit.int .u32 a0_4).wf = true ∧ (Lit.int .u32 a0_5).wf = true ∧ (Lit.int .u32 a0_6).wf = true ∧ (Lit.int .u32 a0_7).wf = true := by
  obtain ⟨fuel, hf⟩ := hT
  obtain ⟨z, hk, hg⟩ := opens23 enc W base sp held fuel _ _ hf
  change k23.K W z cs.toList at hk
  obtain ⟨hg_0, hg_1, hg_2, hg_3, hg_4, hg_5, hg_6, hg_7⟩ := hg
  obtain ⟨ca1, cb1, ea1, ha1, hb1⟩ := hk
  have q2 : ca1 = [.int .u32 z.f0] := ha1
  obtain ⟨ca3, cb3, ea3, ha3, hb3⟩ := hb1
  have q4 : ca3 = [.int .u32 z.f1] := ha3
  obtain ⟨ca5, cb5, ea5, ha5, hb5⟩ := hb3
  have q6 : ca5 = [.int .u32 z.f2] := ha5
  obtain ⟨ca7, cb7, ea7, ha7, hb7⟩ := hb5
  have q8 : ca7 = [.int .u32 z.f3] := ha7
  obtain ⟨ca9, cb9, ea9, ha9, hb9⟩ := hb7
  have q10 : ca9 = [.int .u32 z.f4] := ha9
  obtain ⟨ca11, cb11, ea11, ha11, hb11⟩ := hb9
  have q12 : ca11 = [.int .u32 z.f5] := ha11
  obtain ⟨ca13, cb13, ea13, ha13, hb13⟩ := hb11
  have q14 : ca13 = [.int .u32 z.f6] := ha13
  have q15 : cb13 = [.int .u32 z.f7] := hb13
  exact ⟨z.f0, z.f1, z.f2, z.f3, z.f4, z.f5, z.f6, z.f7, congrArg Value.agg (Array.toList_inj.1 (by rw [ea1, q2, ea3, q4, ea5, q6, ea7, q8, ea9, q10, ea11, q12, ea13, q14, q15]; rfl)), hg_0, hg_1, hg_2, hg_3, hg_4, hg_5, hg_6, hg_7⟩
/-- THE ONE PURE STATEMENT of wristbandlaw02_ShaBlocks: yours. -/
def wristbandlaw02_ShaBlocks.Pure : Prop := ∀ (a0_0 : Int) (a0_1 : Int) (a0_2 : Int) (a0_3 : Int) (a0_4 : Int) (a0_5 : Int) (a0_6 : Int) (a0_7 : Int) (l1 : List Int), (Lit.int .u32 a0_0).wf = true → (Lit.int .u32 a0_1).wf = true → (Lit.int .u32 a0_2).wf = true → (Lit.int .u32 a0_3).wf = true → (Lit.int .u32 a0_4).wf = true → (Lit.int .u32 a0_5).wf = true → (Lit.int .u32 a0_6).wf = true → (Lit.int .u32 a0_7).wf = true → l1.length ≤ maxLen → l1.length * 1 ≤ 140737488351232 → (∀ x ∈ l1, (Lit.int .u8 x).wf = true) → ∃ k, wristbandlaw02_ShaBlocks.f k a0_0 a0_1 a0_2 a0_3 a0_4 a0_5 a0_6 a0_7 l1 = some true
theorem wristbandlaw02_ShaBlocks.walk (P : wristbandlaw02_ShaBlocks.Pure) (a0_0 : Int) (a0_1 : Int) (a0_2 : Int) (a0_3 : Int) (a0_4 : Int) (a0_5 : Int) (a0_6 : Int) (a0_7 : Int) (a1 : Option Addr) (len1 cap1 : Nat) (z1 : List Int) (w : World) (w0_0 : (Lit.int .u32 a0_0).wf = true) (w0_1 : (Lit.int .u32 a0_1).wf = true) (w0_2 : (Lit.int .u32 a0_2).wf = true) (w0_3 : (Lit.int .u32 a0_3).wf = true) (w0_4 : (Lit.int .u32 a0_4).wf = true) (w0_5 : (Lit.int .u32 a0_5).wf = true) (w0_6 : (Lit.int .u32 a0_6).wf = true) (w0_7 : (Lit.int .u32 a0_7).wf = true) (w1 : (a1 = none ∧ len1 = 0 ∧ cap1 = 0 ∧ z1 = []) ∨ ∃ x, a1 = some x ∧ len1 ≤ cap1 ∧ cap1 ≤ maxLen ∧ z1.length = cap1 ∧ (∀ i, i < z1.length → w.cell? (x.add i) = some (.int .u8 (z1.getD i 0))) ∧ ∀ n ∈ z1, (Lit.int .u8 n).wf = true) (y1 : len1 * 1 ≤ 140737488351232) (hL0_ : Kd.C (Kd.int .u32) w (some ⟨0, 0, none⟩) 64 shaK) (hL1_ : Kd.C (Kd.int .u32) w (some ⟨1, 0, none⟩) 8 shaF) :
    Calls Tryd.prog 5 #[.agg #[.int .u32 a0_0, .int .u32 a0_1, .int .u32 a0_2, .int .u32 a0_3, .int .u32 a0_4, .int .u32 a0_5, .int .u32 a0_6, .int .u32 a0_7], .slice a1 len1 cap1] w fun e w' => e = .returned (.bool true) ∧ Below w.heap.size w w' := by
  obtain ⟨l1, rfl, hr1, hm1, hw1, hc1⟩ := ReadsInt.ofRowC w1
  obtain ⟨k, h⟩ := P a0_0 a0_1 a0_2 a0_3 a0_4 a0_5 a0_6 a0_7 l1 w0_0 w0_1 w0_2 w0_3 w0_4 w0_5 w0_6 w0_7 hm1 y1 hw1
  refine (wristbandlaw02_ShaBlocks.calls k a0_0 a0_1 a0_2 a0_3 a0_4 a0_5 a0_6 a0_7 _ _ l1 true w (Kd.C_of_reads (d := (0 : Int)) (h1 := fun _ => rfl) hr1) hc1 hL0_ hL1_ h rfl).mono ?_
  rintro e w' ⟨rfl, hd⟩
  exact ⟨rfl, hd⟩

end Go.Proofs.YtnpkhkhlofkbhaaDoor.PShaBlocks
