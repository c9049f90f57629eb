-- made by a program of this session (its printer) out of what Lean prints of the given program
import Derived.Test.YtnpkhkhlofkbhaaPTruncSamex0
import Derived.Test.YtnpkhkhlofkbhaaPTruncSamex1
import Derived.Test.YtnpkhkhlofkbhaaPTruncSamex2
namespace Go.Proofs.Ytnpkhkhlofkbhaa.PTruncSame
open Go.RowKit Go.Proofs.YtnpkhkhlofkbhaaW.PrintWords Go.Proofs.YtnpkhkhlofkbhaaW.PrintLast Go.Proofs.YtnpkhkhlofkbhaaW.PrintMore
attribute [local go_sem] max2_int min2_int max_two min_two max_three min_three max_four min_four   -- for this text's walks alone
set_option linter.unusedVariables false
set_option linter.unusedSimpArgs false

/-! ### wristbandlaw04_TruncSame: function 4 -/
mutual
def wristbandlaw04_TruncSame.j0 : Nat → List Int → List Int → List Int → Int → Int → Bool → Option (Bool)
  | 0, _, _, _, _, _, _ => none
  | k + 1, x0, x1, x2, x3, x4, x26 => if x26 = true then (some true) else ((trunc_Same.f k x0 x1).bind fun t158 => (if (t158 != ((strOfNums x0).toList == (strOfNums x1).toList)) = true then (wristbandlaw04_TruncSame.j1 k x0 x3 x4 true) else ((trunc_Unlike.f k x0 x1).bind fun t159 => ((trunc_Unlike.f k x1 x0).bind fun t160 => (if t159 = t160 then ((trunc_Unlike.f k x0 x1).bind fun t161 => (if t161 > (mx (x0.length : Int) (x1.length : Int)) then (wristbandlaw04_TruncSame.j1 k x0 x3 x4 true) else ((trunc_Unlike.f k x0 x2).bind fun t162 => ((trunc_Unlike.f k x0 x1).bind fun t163 => ((trunc_Unlike.f k x1 x2).bind fun t164 => (wristbandlaw04_TruncSame.j1 k x0 x3 x4 (decide (t162 > (wrap64 (t163 + t164)))))))))) else (wristbandlaw04_TruncSame.j1 k x0 x3 x4 true))))))
def wristbandlaw04_TruncSame.j1 : Nat → List Int → Int → Int → Bool → Option (Bool)
  | 0, _, _, _, _ => none
  | k + 1, x0, x3, x4, x68 => if x68 = true then (some false) else (if (x0.length : Int) = 0 then (wristbandlaw04_TruncSame.j2 k x0 x3 x4 true) else (wristbandlaw04_TruncSame.j2 k x0 x3 x4 (x4 == 0)))
def wristbandlaw04_TruncSame.j2 : Nat → List Int → Int → Int → Bool → Option (Bool)
  | 0, _, _, _, _ => none
  | k + 1, x0, x3, x4, x75 => if x75 = true then (some true) else ((some (([] : List Int) : List Int)).bind fun y165 => (if y165.length + x0.length < 140737488355328 then ((some (y165 ++ x0 : List Int)).bind fun y168 => (if (x0.length : Int) = 0 then (none) else (if 0 ≤ (Int.tmod (wrap64 (x3)) (x0.length : Int)) then (if (Int.tmod (wrap64 (x3)) (x0.length : Int)) < (y168.length : Int) then ((some (y168.set ((Int.tmod (wrap64 (x3)) (x0.length : Int)) : Int).toNat (Go.bits .xor .u8 (rd y168 (Int.tmod (wrap64 (x3)) (x0.length : Int))) x4) : List Int)).bind fun y172 => ((trunc_Unlike.f k x0 y172).bind fun t173 => (if t173 = 1 then ((trunc_Same.f k x0 y172).bind fun t174 => (some (!t174))) else (some false)))) else (none)) else (none)))) else (none)))
end
def wristbandlaw04_TruncSame.f (k : Nat) (l0 : List Int) (l1 : List Int) (l2 : List Int) (a3 : Int) (a4 : Int) : Option (Bool) := (wristbandlaw04_awake.f k).bind fun t157 => (if t157 = true then (if (l0.length : Int) > 3000 then (wristbandlaw04_TruncSame.j0 k l0 l1 l2 a3 a4 true) else (if (l1.length : Int) > 3000 then (wristbandlaw04_TruncSame.j0 k l0 l1 l2 a3 a4 true) else (wristbandlaw04_TruncSame.j0 k l0 l1 l2 a3 a4 (decide ((l2.length : Int) > 3000))))) else (some false))
theorem wristbandlaw04_TruncSame.mono_l : ∀ k, (∀ y0 y1 y2 y3 y4 y5, LeO (wristbandlaw04_TruncSame.j0 k y0 y1 y2 y3 y4 y5) (wristbandlaw04_TruncSame.j0 (k + 1) y0 y1 y2 y3 y4 y5)) ∧ (∀ y0 y1 y2 y3, LeO (wristbandlaw04_TruncSame.j1 k y0 y1 y2 y3) (wristbandlaw04_TruncSame.j1 (k + 1) y0 y1 y2 y3)) ∧ (∀ y0 y1 y2 y3, LeO (wristbandlaw04_TruncSame.j2 k y0 y1 y2 y3) (wristbandlaw04_TruncSame.j2 (k + 1) y0 y1 y2 y3))
  | 0 => ⟨fun _ _ _ _ _ _ r h => by simp [wristbandlaw04_TruncSame.j0] at h, fun _ _ _ _ r h => by simp [wristbandlaw04_TruncSame.j1] at h, fun _ _ _ _ r h => by simp [wristbandlaw04_TruncSame.j2] at h⟩
  | k + 1 => by
    obtain ⟨ih0, ih1, ih2⟩ := wristbandlaw04_TruncSame.mono_l k
    refine ⟨?_, ?_, ?_⟩
    · intro y0 y1 y2 y3 y4 y5
      unfold wristbandlaw04_TruncSame.j0
      repeat' first
      | (with_reducible exact ih0 _ _ _ _ _ _)
      | (with_reducible exact ih1 _ _ _ _)
      | (with_reducible exact ih2 _ _ _ _)
      | (with_reducible exact trunc_Same.mono _ _ _)
      | (with_reducible exact trunc_Unlike.mono _ _ _)
      | (with_reducible exact wristbandlaw04_awake.mono _)
      | (with_reducible exact LeO.refl _)
      | (with_reducible exact LeO.none _)
      | (with_reducible refine LeO.ite ?_ ?_)
      | (with_reducible refine LeO.bind ?_ (fun _ => ?_))
      | exact ih0 _ _ _ _ _ _
      | exact ih1 _ _ _ _
      | exact ih2 _ _ _ _
      | exact trunc_Same.mono _ _ _
      | exact trunc_Unlike.mono _ _ _
      | exact wristbandlaw04_awake.mono _
      | exact LeO.none _
      | refine LeO.ite ?_ ?_
      | refine LeO.bind ?_ (fun _ => ?_)
    · intro y0 y1 y2 y3
      unfold wristbandlaw04_TruncSame.j1
      repeat' first
      | (with_reducible exact ih0 _ _ _ _ _ _)
      | (with_reducible exact ih1 _ _ _ _)
      | (with_reducible exact ih2 _ _ _ _)
      | (with_reducible exact trunc_Same.mono _ _ _)
      | (with_reducible exact trunc_Unlike.mono _ _ _)
      | (with_reducible exact wristbandlaw04_awake.mono _)
      | (with_reducible exact LeO.refl _)
      | (with_reducible exact LeO.none _)
      | (with_reducible refine LeO.ite ?_ ?_)
      | (with_reducible refine LeO.bind ?_ (fun _ => ?_))
      | exact ih0 _ _ _ _ _ _
      | exact ih1 _ _ _ _
      | exact ih2 _ _ _ _
      | exact trunc_Same.mono _ _ _
      | exact trunc_Unlike.mono _ _ _
      | exact wristbandlaw04_awake.mono _
      | exact LeO.none _
      | refine LeO.ite ?_ ?_
      | refine LeO.bind ?_ (fun _ => ?_)
    · intro y0 y1 y2 y3
      unfold wristbandlaw04_TruncSame.j2
      repeat' first
      | (with_reducible exact ih0 _ _ _ _ _ _)
      | (with_reducible exact ih1 _ _ _ _)
      | (with_reducible exact ih2 _ _ _ _)
      | (with_reducible exact trunc_Same.mono _ _ _)
      | (with_reducible exact trunc_Unlike.mono _ _ _)
      | (with_reducible exact wristbandlaw04_awake.mono _)
      | (with_reducible exact LeO.refl _)
      | (with_reducible exact LeO.none _)
      | (with_reducible refine LeO.ite ?_ ?_)
      | (with_reducible refine LeO.bind ?_ (fun _ => ?_))
      | exact ih0 _ _ _ _ _ _
      | exact ih1 _ _ _ _
      | exact ih2 _ _ _ _
      | exact trunc_Same.mono _ _ _
      | exact trunc_Unlike.mono _ _ _
      | exact wristbandlaw04_awake.mono _
      | exact LeO.none _
      | refine LeO.ite ?_ ?_
      | refine LeO.bind ?_ (fun _ => ?_)
theorem wristbandlaw04_TruncSame.mono : ∀ a0 a1 a2 a3 a4 k, LeO (wristbandlaw04_TruncSame.f k a0 a1 a2 a3 a4) (wristbandlaw04_TruncSame.f (k + 1) a0 a1 a2 a3 a4) := by
  intro a0 a1 a2 a3 a4 k
  obtain ⟨ih0, ih1, ih2⟩ := wristbandlaw04_TruncSame.mono_l k
  unfold wristbandlaw04_TruncSame.f
  repeat' first
      | (with_reducible exact ih0 _ _ _ _ _ _)
      | (with_reducible exact ih1 _ _ _ _)
      | (with_reducible exact ih2 _ _ _ _)
      | (with_reducible exact trunc_Same.mono _ _ _)
      | (with_reducible exact trunc_Unlike.mono _ _ _)
      | (with_reducible exact wristbandlaw04_awake.mono _)
      | (with_reducible exact LeO.refl _)
      | (with_reducible exact LeO.none _)
      | (with_reducible refine LeO.ite ?_ ?_)
      | (with_reducible refine LeO.bind ?_ (fun _ => ?_))
      | exact ih0 _ _ _ _ _ _
      | exact ih1 _ _ _ _
      | exact ih2 _ _ _ _
      | exact trunc_Same.mono _ _ _
      | exact trunc_Unlike.mono _ _ _
      | exact wristbandlaw04_awake.mono _
      | exact LeO.none _
      | refine LeO.ite ?_ ?_
      | refine LeO.bind ?_ (fun _ => ?_)
def wristbandlaw04_TruncSame.T5 : Bool × List (List Nat × List Nat) := (true, [([], []), ([], []), ([0, 1], [0, 1]), ([], []), ([3], [3]), ([], []), ([5], [5]), ([4, 6], [4, 6]), ([2, 7], [2, 7]), ([8, 2], [8]), ([9], [9]), ([9], [9]), ([10, 11, 9, 9], [9, 10, 11]), ([9], [9]), ([9], [9]), ([13, 14, 12, 9], [9, 13, 14]), ([12, 15, 9], [9, 12, 15]), ([9, 16], [9, 16]), ([17, 15], [17]), ([18], [18]), ([18], [18]), ([19, 20, 18, 18], [18, 19, 20]), ([18], [18]), ([22, 18], [18, 22]), ([18], [18]), ([24, 18], [18, 24]), ([23, 25, 18], [18, 23, 25]), ([21, 26, 18], [18, 21, 26]), ([18, 27], [18, 27]), ([28, 21], [28]), ([29], [29]), ([29], [29]), ([30, 31, 29, 29], [29, 30, 31]), ([29], [29]), ([29], [29]), ([33, 34, 32, 29], [29, 33, 34]), ([29], [29]), ([29], [29]), ([36, 37, 35, 29], [29, 36, 37]), ([35, 38, 29], [29, 35, 38]), ([32, 39, 29], [29, 32, 39]), ([29, 40], [29, 40])])
def wristbandlaw04_TruncSame.B5 : List Nat := [0, 0, 3, 0, 8, 0, 32, 120, 255, 511, 1023, 1023, 4095, 1023, 1023, 32767, 65535, 131071, 262143, 524287, 524287, 2097151, 524287, 4718591, 524287, 17301503, 63438847, 134217727, 268435455, 536870911, 1073741823, 1073741823, 4294967295, 1073741823, 1073741823, 34359738367, 1073741823, 1073741823, 274877906943, 549755813887, 1099511627775, 2199023255551]
theorem wristbandlaw04_TruncSame.tab5 : rtab .any (opsOf Try.f4 5) = wristbandlaw04_TruncSame.T5 := by kernel_rfl
theorem wristbandlaw04_TruncSame.bits5 : waitsOk wristbandlaw04_TruncSame.T5.2 wristbandlaw04_TruncSame.B5 = true := by kernel_rfl
set_option maxHeartbeats 8000000 in
set_option maxRecDepth 100000 in
theorem wristbandlaw04_TruncSame.calls (k : Nat) (A0 : Option Addr) (c0 : Nat) (l0 : List Int) (A1 : Option Addr) (c1 : Nat) (l1 : List Int) (A2 : Option Addr) (c2 : Nat) (l2 : List Int) (a3 : Int) (a4 : Int) (r : Bool) (w : World) (hr0 : Kd.C (Kd.int .u8) w A0 l0.length l0) (hc0 : l0.length ≤ c0) (hr1 : Kd.C (Kd.int .u8) w A1 l1.length l1) (hc1 : l1.length ≤ c1) (hr2 : Kd.C (Kd.int .u8) w A2 l2.length l2) (hc2 : l2.length ≤ c2) (h : wristbandlaw04_TruncSame.f k l0 l1 l2 a3 a4 = some r) :
    Calls Try.prog 4 #[.slice A0 l0.length c0, .slice A1 l1.length c1, .slice A2 l2.length c2, .int .u16 a3, .int .u8 a4] w fun e w' => e = .returned (.bool r) ∧ Below w.heap.size w w' := by
  have HR0 := Aside0.mk hr0
  have HC0 := Aside0.mk hc0
  clear hr0 hc0
  have HR1 := Aside0.mk hr1
  have HC1 := Aside0.mk hc1
  clear hr1 hc1
  have HR2 := Aside0.mk hr2
  have HC2 := Aside0.mk hc2
  clear hr2 hc2
  have HB := Aside0.mk (Below.refl w.heap.size w)
  have H : ((wristbandlaw04_awake.f k).bind fun t157 => (if t157 = true then (if (l0.length : Int) > 3000 then (wristbandlaw04_TruncSame.j0 k l0 l1 l2 a3 a4 true) else (if (l1.length : Int) > 3000 then (wristbandlaw04_TruncSame.j0 k l0 l1 l2 a3 a4 true) else (wristbandlaw04_TruncSame.j0 k l0 l1 l2 a3 a4 (decide ((l2.length : Int) > 3000))))) else (some false))) = some r := h
  clear h
  replace H := Option.bind_eq_some_iff.mp H
  obtain ⟨t157, A60, H⟩ := H
  replace H : (if t157 = true then (if (l0.length : Int) > 3000 then (wristbandlaw04_TruncSame.j0 k l0 l1 l2 a3 a4 true) else (if (l1.length : Int) > 3000 then (wristbandlaw04_TruncSame.j0 k l0 l1 l2 a3 a4 true) else (wristbandlaw04_TruncSame.j0 k l0 l1 l2 a3 a4 (decide ((l2.length : Int) > 3000))))) else (some false)) = some r := H
  have A6 := Aside0.mk A60
  clear A60
  by_cases c7 : t157 = true
  · subst c7
    have H1 : (if (l0.length : Int) > 3000 then (wristbandlaw04_TruncSame.j0 k l0 l1 l2 a3 a4 true) else (if (l1.length : Int) > 3000 then (wristbandlaw04_TruncSame.j0 k l0 l1 l2 a3 a4 true) else (wristbandlaw04_TruncSame.j0 k l0 l1 l2 a3 a4 (decide ((l2.length : Int) > 3000))))) = some r := by rw [if_pos rfl] at H; exact H
    clear H
    have H := H1
    clear H1
    have HC8 := Aside0.mk H
    clear H
    go_enter Try.func4, Try.ntmps4
    go_upto_region 3 with (first | ((with_reducible refine gate_callee (f := 18) rfl ?_); refine goesL_ (some 12) rfl rfl Try.func18 (by kernel_rfl) rfl #[] rfl (by (try simp only [List.map_toArray, List.map_cons, List.map_nil]); first | done | rfl | (simp only [List.length_drop, List.length_take]; rfl)) ?_; (with_reducible refine (wristbandlaw04_awake.calls k  true _ A6.out).mono ?_); rintro e w9 ⟨rfl, hb⟩; refine ⟨_, rfl, ?_⟩; have n0_ := Aside0.mk (below_step (by repeat (first | (with_reducible first | exact HB.out | apply below_alloc | apply pw_below_drewN | apply below_drew1) | exact HB.out)) hb); clear HB; have HB := n0_; clear n0_; (try clear hb); (try clear hb2); (try clear hk); (try clear hi)))
    (try simp only [Act.put, List.setIfInBounds_toArray, List.set_cons_zero, List.set_cons_succ])
    go_cut [26] (fun v26 wc => ∃ (kq : Nat) (x26_7 : Bool), v26 = .bool x26_7 ∧ Aside0 (wristbandlaw04_TruncSame.j0 kq l0 l1 l2 a3 a4 x26_7 = some r) ∧ Aside0 (kq ≤ k) ∧ Aside0 (Below w.heap.size w wc))
    case first =>
      have H := HC8.out
      clear HC8
      by_cases c10 : (l0.length : Int) > 3000
      · rw [if_pos c10] at H
        have c10b0 : decide (3000 < (l0.length : Int)) = true := decide_eq_true c10
        have c10b1 : decide (3000 < l0.length) = true := decide_eq_true (by omega)
        clear c10
        (first | rw [c10b0] | (simp only [i64_w, i32_w]; rw [c10b0]) | skip)
        have H' := Aside0.mk H
        clear H
        go_wp2
        go_meet
        case rel => exact ⟨_, (true), (by first | rfl | (simp; done) | (simp [*]; done)), H', ⟨by first | omega | exact Nat.le_refl _⟩, ⟨by repeat (first | (with_reducible first | exact HB.out | apply below_alloc | apply pw_below_drewN | apply below_drew1) | exact HB.out)⟩⟩
      · rw [if_neg c10] at H
        have c10b0 : decide (3000 < (l0.length : Int)) = false := decide_eq_false c10
        have c10b1 : decide (3000 < l0.length) = false := decide_eq_false (by omega)
        clear c10
        (first | rw [c10b0] | (simp only [i64_w, i32_w]; rw [c10b0]) | skip)
        by_cases c11 : (l1.length : Int) > 3000
        · rw [if_pos c11] at H
          have c11b0 : decide (3000 < (l1.length : Int)) = true := decide_eq_true c11
          have c11b1 : decide (3000 < l1.length) = true := decide_eq_true (by omega)
          clear c11
          have H' := Aside0.mk H
          clear H
          go_wp2
          go_meet
          case rel => exact ⟨_, (true), (by first | rfl | (simp; done) | (simp [*]; done)), H', ⟨by first | omega | exact Nat.le_refl _⟩, ⟨by repeat (first | (with_reducible first | exact HB.out | apply below_alloc | apply pw_below_drewN | apply below_drew1) | exact HB.out)⟩⟩
        · rw [if_neg c11] at H
          have c11b0 : decide (3000 < (l1.length : Int)) = false := decide_eq_false c11
          have c11b1 : decide (3000 < l1.length) = false := decide_eq_false (by omega)
          clear c11
          have H' := Aside0.mk H
          clear H
          go_wp2
          go_meet
          case rel => exact ⟨_, (decide ((l2.length : Int) > 3000)), (by first | rfl | (simp; done) | (simp [*]; done)), H', ⟨by first | omega | exact Nat.le_refl _⟩, ⟨by repeat (first | (with_reducible first | exact HB.out | apply below_alloc | apply pw_below_drewN | apply below_drew1) | exact HB.out)⟩⟩
    case rest =>
      clear HC8
      try clear c1
      try clear c2
      try clear p2
      try clear c4
      try clear c7
      try clear c10
      try clear c10b0
      try clear c10b1
      try clear c11
      try clear c11b0
      try clear c11b1
      obtain ⟨kq, x26_7, rfl, HA, HJ7, HB⟩ := hcut
      cases kq with
      | zero => exact absurd HA.out (by simp [wristbandlaw04_TruncSame.j0])
      | succ kj7 =>
        have H := HA.out
        clear HA
        simp only [wristbandlaw04_TruncSame.j0] at H
        by_cases c12 : x26_7 = true
        · subst c12
          have H1 : (some true) = some r := by rw [if_pos rfl] at H; exact H
          clear H
          have H := H1
          clear H1
          obtain rfl := Option.some.inj H
          go_wp2
          go_ret
          exact ⟨by first | rfl | (simp [errW_none, errW_some] <;> rfl) | (simp [*, errW_none, errW_some] <;> rfl), by repeat (first | (with_reducible first | exact HB.out | apply below_alloc | apply pw_below_drewN | apply below_drew1) | exact HB.out)⟩
        · replace c12 := Bool.eq_false_iff.mpr c12
          subst c12
          have H1 : ((trunc_Same.f kj7 l0 l1).bind fun t158 => (if (t158 != ((strOfNums l0).toList == (strOfNums l1).toList)) = true then (wristbandlaw04_TruncSame.j1 kj7 l0 a3 a4 true) else ((trunc_Unlike.f kj7 l0 l1).bind fun t159 => ((trunc_Unlike.f kj7 l1 l0).bind fun t160 => (if t159 = t160 then ((trunc_Unlike.f kj7 l0 l1).bind fun t161 => (if t161 > (mx (l0.length : Int) (l1.length : Int)) then (wristbandlaw04_TruncSame.j1 kj7 l0 a3 a4 true) else ((trunc_Unlike.f kj7 l0 l2).bind fun t162 => ((trunc_Unlike.f kj7 l0 l1).bind fun t163 => ((trunc_Unlike.f kj7 l1 l2).bind fun t164 => (wristbandlaw04_TruncSame.j1 kj7 l0 a3 a4 (decide (t162 > (wrap64 (t163 + t164)))))))))) else (wristbandlaw04_TruncSame.j1 kj7 l0 a3 a4 true)))))) = some r := by rw [if_neg (show ¬ (false = true) by decide)] at H; exact H
          clear H
          have H := H1
          clear H1
          have HC13 := Aside0.mk H
          clear H
          go_upto_region 5 with (fail)
          go_cut [68] (fun v68 wc => ∃ (kq : Nat) (x68_12 : Bool), v68 = .bool x68_12 ∧ Aside0 (wristbandlaw04_TruncSame.j1 kq l0 a3 a4 x68_12 = some r) ∧ Aside0 (kq ≤ kj7) ∧ Aside0 (Below w.heap.size w wc))
          case first =>
            have H := HC13.out
            clear HC13
            replace H := Option.bind_eq_some_iff.mp H
            obtain ⟨t158, A140, H⟩ := H
            replace H : (if (t158 != ((strOfNums l0).toList == (strOfNums l1).toList)) = true then (wristbandlaw04_TruncSame.j1 kj7 l0 a3 a4 true) else ((trunc_Unlike.f kj7 l0 l1).bind fun t159 => ((trunc_Unlike.f kj7 l1 l0).bind fun t160 => (if t159 = t160 then ((trunc_Unlike.f kj7 l0 l1).bind fun t161 => (if t161 > (mx (l0.length : Int) (l1.length : Int)) then (wristbandlaw04_TruncSame.j1 kj7 l0 a3 a4 true) else ((trunc_Unlike.f kj7 l0 l2).bind fun t162 => ((trunc_Unlike.f kj7 l0 l1).bind fun t163 => ((trunc_Unlike.f kj7 l1 l2).bind fun t164 => (wristbandlaw04_TruncSame.j1 kj7 l0 a3 a4 (decide (t162 > (wrap64 (t163 + t164)))))))))) else (wristbandlaw04_TruncSame.j1 kj7 l0 a3 a4 true))))) = some r := H
            have A14 := Aside0.mk A140
            clear A140
            by_cases c15 : (t158 != ((strOfNums l0).toList == (strOfNums l1).toList)) = true
            · rw [if_pos c15] at H
              have c15b0 : (t158 != ((strOfNums l0).toList == (strOfNums l1).toList)) = true := c15
              (try (have c15b1 : decide (t158 = ((strOfNums l0).toList == (strOfNums l1).toList)) = false := by simpa using c15))
              (try (have c15b2 : (t158 == ((strOfNums l0).toList == (strOfNums l1).toList)) = false := by simpa using c15))
              (try (have c15b3 : ¬ (t158 = ((strOfNums l0).toList == (strOfNums l1).toList)) := by simpa using c15))
              clear c15
              (first | rw [c15b0] | (simp only [i64_w, i32_w]; rw [c15b0]) | skip)
              have H' := Aside0.mk H
              clear H
              try go_wp2
              have n0_ := Aside0.mk (below_drew1 HB.out)
              clear HB
              have HB := n0_
              clear n0_
              refine start_ (n := 42) (S := fun w' => True) (ds := []) #[false, false, false, false, false, false, false, false, false, false, false, false, false, false, false, false, false, false, false, false, false, false, false, false, false, false, false, false, false, false, false, false, false, false, false, false, false, false, false, false, false, false] (by kernel_rfl) rfl rfl trivial (fun hHeld => ?_); refine with_tabW wristbandlaw04_TruncSame.tab5 wristbandlaw04_TruncSame.bits5 (fun HT_ HW_ => ?_)
              generalize wc.drew = w16 at HB hHeld ⊢
              refine pure_ (i := 0) (N := some 27) (v := ?_) (a' := ?_) #[true, false, false, false, false, false, false, false, false, false, false, false, false, false, false, false, false, false, false, false, false, false, false, false, false, false, false, false, false, false, false, false, false, false, false, false, false, false, false, false, false, false] rfl rfl (any_of HT_.out (by kernel_rfl)) (fun _ _ _ h => h) (Or.inl ⟨by rfl, ?_⟩) ?_ ?_
              rotate_left
              · intro w'
                go_simp
                with_reducible rfl
              rotate_left
              · simp only [Act.put, List.setIfInBounds_toArray, List.set_cons_zero, List.set_cons_succ, i64_w, i32_w]
                rfl
              refine pure_ (i := 1) (N := some 28) (v := ?_) (a' := ?_) #[true, true, false, false, false, false, false, false, false, false, false, false, false, false, false, false, false, false, false, false, false, false, false, false, false, false, false, false, false, false, false, false, false, false, false, false, false, false, false, false, false, false] rfl rfl (any_of HT_.out (by kernel_rfl)) (fun _ _ _ h => h) (Or.inl ⟨by rfl, ?_⟩) ?_ ?_
              rotate_left
              · intro w'
                go_simp
                with_reducible rfl
              rotate_left
              · simp only [Act.put, List.setIfInBounds_toArray, List.set_cons_zero, List.set_cons_succ, i64_w, i32_w]
                rfl
              refine pure_ (i := 3) (N := some 30) (v := ?_) (a' := ?_) #[true, true, false, true, false, false, false, false, false, false, false, false, false, false, false, false, false, false, false, false, false, false, false, false, false, false, false, false, false, false, false, false, false, false, false, false, false, false, false, false, false, false] rfl rfl (any_of HT_.out (by kernel_rfl)) (fun _ _ _ h => h) (Or.inl ⟨by rfl, ?_⟩) ?_ ?_
              rotate_left
              · intro w'
                go_simp
                with_reducible rfl
              rotate_left
              · simp only [Act.put, List.setIfInBounds_toArray, List.set_cons_zero, List.set_cons_succ, i64_w, i32_w]
                rfl
              refine pure_ (i := 5) (N := some 32) (v := ?_) (a' := ?_) #[true, true, false, true, false, true, false, false, false, false, false, false, false, false, false, false, false, false, false, false, false, false, false, false, false, false, false, false, false, false, false, false, false, false, false, false, false, false, false, false, false, false] rfl rfl (any_of HT_.out (by kernel_rfl)) (fun _ _ _ h => h) (Or.inl ⟨by rfl, ?_⟩) ?_ ?_
              rotate_left
              · intro w'
                go_simp
                with_reducible rfl
              rotate_left
              · simp only [Act.put, List.setIfInBounds_toArray, List.set_cons_zero, List.set_cons_succ, i64_w, i32_w]
                rfl
              refine inv_at [2, 4, 6, 7, 8, 9, 10, 11, 12, 13, 14, 15, 16, 17, 18, 19, 20, 21, 22, 23, 24, 25, 26, 27, 28, 29, 30, 31, 32, 33, 34, 35, 36, 37, 38, 39, 40, 41] (fun a0_ b a w' => a = putSel a0_ b [(2, 29, .bool t158), (4, 31, .string (strOfNums l0)), (6, 33, .string (strOfNums l1)), (7, 34, .bool ((strOfNums l0).toList == (strOfNums l1).toList)), (8, 35, .bool (t158 != ((strOfNums l0).toList == (strOfNums l1).toList))), (9, 36, .bool (t158 != ((strOfNums l0).toList == (strOfNums l1).toList))), (10, 37, undef), (11, 38, undef), (12, 39, undef), (13, 40, undef), (14, 41, undef), (15, 42, undef), (16, 43, undef), (17, 44, .bool true), (18, 45, .bool true), (19, 46, undef), (20, 47, undef), (21, 48, undef), (22, 49, undef), (23, 50, undef), (24, 51, undef), (25, 52, undef), (26, 53, undef), (27, 54, undef), (28, 55, .bool true), (29, 56, .bool true), (30, 57, undef), (31, 58, undef), (32, 59, undef), (33, 60, undef), (34, 61, undef), (35, 62, undef), (36, 63, undef), (37, 64, undef), (38, 65, undef), (39, 66, undef), (40, 67, undef), (41, 68, .bool true)] ∧ (Below w.heap.size w w')) HT_.out HW_.out (by kernel_rfl) (by kernel_rfl) ?_ ?_ ?_
              · exact ⟨by simp only [putSel, Bool.false_eq_true, if_false], HB.out⟩
              · skip
                clear HB
                refine steps_cons ?_ ?_
                · rintro b a w' ⟨ha, Q_HB⟩ hb_ hon hoff
                  refine ⟨_, rfl, fun K hK => ?_⟩
                  have e27 : a.tmps[27]? = some (.slice A0 l0.length c0) := by rw [ha]; exact (putSel_off rfl).trans rfl
                  have e28 : a.tmps[28]? = some (.slice A1 l1.length c1) := by rw [ha]; exact (putSel_off rfl).trans rfl
                  replace ha := Aside0.mk ha
                  have HB := Aside0.mk Q_HB
                  refine goes_ Try.func25 (by kernel_rfl) rfl #[.slice A0 l0.length c0, .slice A1 l1.length c1] (by first | rfl | (simp [Region.wanted, yielded, *]; done)) rfl rfl (by first | (simp only [List.map_toArray, List.map_cons, List.map_nil, Act.eval, Array.getD_eq_getD_getElem?, Option.getD_some, e27, e28]; done) | (simp only [List.map_toArray, List.map_cons, List.map_nil, Act.eval, Array.getD_eq_getD_getElem?, Option.getD_some, e27, e28]; rfl)) ?_
                  with_reducible refine (trunc_Same.calls kj7 _ _ l0 _ _ l1 t158 _ ?side1 ?side2 ?side3 ?side4 A14.out).mono ?_
                  (case side1 => repeat (first | exact (Kd.C_below HR0.out HB.out) | (with_reducible refine Kd.C_alloc ?_ _) | (with_reducible refine Kd.C_drewN ?_ _) | (with_reducible refine Kd.C_drew ?_)))
                  (case side2 => exact HC0.out)
                  (case side3 => repeat (first | exact (Kd.C_below HR1.out HB.out) | (with_reducible refine Kd.C_alloc ?_ _) | (with_reducible refine Kd.C_drewN ?_ _) | (with_reducible refine Kd.C_drew ?_)))
                  (case side4 => exact HC1.out)
                  rintro e w17 ⟨rfl, hb⟩
                  refine ⟨_, rfl, ?_⟩
                  have n0_ := Aside0.mk (below_step (by repeat (first | (with_reducible first | exact HB.out | apply below_alloc | apply pw_below_drewN | apply below_drew1) | exact HB.out)) hb)
                  clear HB
                  have HB := n0_
                  clear n0_
                  (try clear hb)
                  (try clear hb2)
                  (try clear hk)
                  (try clear hi)
                  refine hK.out _ _ ⟨(by rw [ha.out]; exact putSel_upk 0 hb_ rfl rfl rfl), (by repeat (first | (with_reducible first | exact HB.out | apply below_alloc | apply pw_below_drewN | apply below_drew1) | exact HB.out))⟩
                refine steps_cons ?_ ?_
                · rintro b a w' ⟨ha, Q_HB⟩ hb_ hon hoff
                  refine ⟨_, rfl, fun K hK => ?_⟩
                  have e30 : a.tmps[30]? = some (.slice A0 l0.length c0) := by rw [ha]; exact (putSel_off rfl).trans rfl
                  replace ha := Aside0.mk ha
                  have HB := Aside0.mk Q_HB
                  refine str_step (src := 22) (dst := 9) (x := .tmp 30) ?hw ?ho ?hx (Kd.C_string (P := Try.prog) (A := A0) (c := c0) Try.underlying22 Try.underlying5 Try.underlying9 (Kd.C_below HR0.out HB.out)) ?_
                  case ho => rfl
                  case hw => first | rfl | (simp [Region.wanted, yielded, *]; done)
                  case hx => first | rfl | (simp only [Act.eval, Array.getD_eq_getD_getElem?, Option.getD_some, e30]; done)
                  intro w17 hb
                  have n0_ := Aside0.mk (below_step (by repeat (first | (with_reducible first | exact HB.out | apply below_alloc | apply pw_below_drewN | apply below_drew1) | exact HB.out)) hb)
                  clear HB
                  have HB := n0_
                  clear n0_
                  (try clear hb)
                  refine hK.out _ _ ⟨(by rw [ha.out]; exact putSel_upk 1 hb_ rfl rfl rfl), (by repeat (first | (with_reducible first | exact HB.out | apply below_alloc | apply pw_below_drewN | apply below_drew1) | exact HB.out))⟩
                refine steps_cons ?_ ?_
                · rintro b a w' ⟨ha, Q_HB⟩ hb_ hon hoff
                  refine ⟨_, rfl, fun K hK => ?_⟩
                  have e32 : a.tmps[32]? = some (.slice A1 l1.length c1) := by rw [ha]; exact (putSel_off rfl).trans rfl
                  replace ha := Aside0.mk ha
                  have HB := Aside0.mk Q_HB
                  refine str_step (src := 22) (dst := 9) (x := .tmp 32) ?hw ?ho ?hx (Kd.C_string (P := Try.prog) (A := A1) (c := c1) Try.underlying22 Try.underlying5 Try.underlying9 (Kd.C_below HR1.out HB.out)) ?_
                  case ho => rfl
                  case hw => first | rfl | (simp [Region.wanted, yielded, *]; done)
                  case hx => first | rfl | (simp only [Act.eval, Array.getD_eq_getD_getElem?, Option.getD_some, e32]; done)
                  intro w17 hb
                  have n0_ := Aside0.mk (below_step (by repeat (first | (with_reducible first | exact HB.out | apply below_alloc | apply pw_below_drewN | apply below_drew1) | exact HB.out)) hb)
                  clear HB
                  have HB := n0_
                  clear n0_
                  (try clear hb)
                  refine hK.out _ _ ⟨(by rw [ha.out]; exact putSel_upk 2 hb_ rfl rfl rfl), (by repeat (first | (with_reducible first | exact HB.out | apply below_alloc | apply pw_below_drewN | apply below_drew1) | exact HB.out))⟩
                refine steps_cons ?_ ?_
                · rintro b a w' ⟨ha, Q_HB⟩ hb_ hon hoff
                  refine ⟨_, rfl, fun K hK => ?_⟩
                  have e31 : a.tmps[31]? = some (.string (strOfNums l0)) := by rw [ha]; exact putSel_on (e := (4, 31, .string (strOfNums l0))) 1 rfl rfl (hon 4 (by kernel_rfl)) rfl
                  have e33 : a.tmps[33]? = some (.string (strOfNums l1)) := by rw [ha]; exact putSel_on (e := (6, 33, .string (strOfNums l1))) 2 rfl rfl (hon 6 (by kernel_rfl)) rfl
                  replace ha := Aside0.mk ha
                  have HB := Aside0.mk Q_HB
                  refine value_ (w1 := w') (v := .bool ((strOfNums l0).toList == (strOfNums l1).toList)) (by rfl) rfl ?_ ?_
                  · go_simp
                    (try simp only [i64_w])
                    try rfl
                  refine hK.out _ _ ⟨(by rw [ha.out]; exact putSel_upk 3 hb_ rfl rfl rfl), Q_HB⟩
                refine steps_cons ?_ ?_
                · rintro b a w' ⟨ha, Q_HB⟩ hb_ hon hoff
                  refine ⟨_, rfl, fun K hK => ?_⟩
                  have e29 : a.tmps[29]? = some (.bool t158) := by rw [ha]; exact putSel_on (e := (2, 29, .bool t158)) 0 rfl rfl (hon 2 (by kernel_rfl)) rfl
                  have e34 : a.tmps[34]? = some (.bool ((strOfNums l0).toList == (strOfNums l1).toList)) := by rw [ha]; exact putSel_on (e := (7, 34, .bool ((strOfNums l0).toList == (strOfNums l1).toList))) 3 rfl rfl (hon 7 (by kernel_rfl)) rfl
                  replace ha := Aside0.mk ha
                  have HB := Aside0.mk Q_HB
                  refine value_ (w1 := w') (v := .bool (t158 != ((strOfNums l0).toList == (strOfNums l1).toList))) (by rfl) rfl ?_ ?_
                  · go_simp
                    (try simp only [i64_w])
                    try rfl
                  refine hK.out _ _ ⟨(by rw [ha.out]; exact putSel_upk 4 hb_ rfl rfl rfl), Q_HB⟩
                refine steps_cons ?_ ?_
                · rintro b a w' ⟨ha, Q_HB⟩ hb_ hon hoff
                  refine ⟨_, rfl, fun K hK => ?_⟩
                  have e35 : a.tmps[35]? = some (.bool (t158 != ((strOfNums l0).toList == (strOfNums l1).toList))) := by rw [ha]; exact putSel_on (e := (8, 35, .bool (t158 != ((strOfNums l0).toList == (strOfNums l1).toList)))) 4 rfl rfl (hon 8 (by kernel_rfl)) rfl
                  replace ha := Aside0.mk ha
                  have HB := Aside0.mk Q_HB
                  refine value_ (w1 := w') (v := .bool (t158 != ((strOfNums l0).toList == (strOfNums l1).toList))) (by rfl) rfl ?_ ?_
                  · go_simp
                    (try simp only [i64_w])
                    try rfl
                  refine hK.out _ _ ⟨(by rw [ha.out]; exact putSel_upk 5 hb_ rfl rfl rfl), Q_HB⟩
                refine steps_cons ?_ ?_
                · rintro b a w' ⟨ha, Q_HB⟩ hb_ hon hoff
                  refine ⟨_, rfl, fun K hK => ?_⟩
                  have e36 : a.tmps[36]? = some (.bool (t158 != ((strOfNums l0).toList == (strOfNums l1).toList))) := by rw [ha]; exact putSel_on (e := (9, 36, .bool (t158 != ((strOfNums l0).toList == (strOfNums l1).toList)))) 5 rfl rfl (hon 9 (by kernel_rfl)) rfl
                  replace ha := Aside0.mk ha
                  have HB := Aside0.mk Q_HB
                  refine off_ (wanted_off rfl rfl rfl (e36.trans (by first | rfl | (simp [*]; done)))) ?_
                  refine hK.out _ _ ⟨(by rw [ha.out]; exact putSel_upk 6 hb_ rfl rfl rfl), Q_HB⟩
                refine steps_cons ?_ ?_
                · rintro b a w' ⟨ha, Q_HB⟩ hb_ hon hoff
                  refine ⟨_, rfl, fun K hK => ?_⟩
                  have e36 : a.tmps[36]? = some (.bool (t158 != ((strOfNums l0).toList == (strOfNums l1).toList))) := by rw [ha]; exact putSel_on (e := (9, 36, .bool (t158 != ((strOfNums l0).toList == (strOfNums l1).toList)))) 5 rfl rfl (hon 9 (by kernel_rfl)) rfl
                  replace ha := Aside0.mk ha
                  have HB := Aside0.mk Q_HB
                  refine off_ (wanted_off rfl rfl rfl (e36.trans (by first | rfl | (simp [*]; done)))) ?_
                  refine hK.out _ _ ⟨(by rw [ha.out]; exact putSel_upk 7 hb_ rfl rfl rfl), Q_HB⟩
                refine steps_cons ?_ ?_
                · rintro b a w' ⟨ha, Q_HB⟩ hb_ hon hoff
                  refine ⟨_, rfl, fun K hK => ?_⟩
                  have e36 : a.tmps[36]? = some (.bool (t158 != ((strOfNums l0).toList == (strOfNums l1).toList))) := by rw [ha]; exact putSel_on (e := (9, 36, .bool (t158 != ((strOfNums l0).toList == (strOfNums l1).toList)))) 5 rfl rfl (hon 9 (by kernel_rfl)) rfl
                  replace ha := Aside0.mk ha
                  have HB := Aside0.mk Q_HB
                  refine off_ (wanted_off rfl rfl rfl (e36.trans (by first | rfl | (simp [*]; done)))) ?_
                  refine hK.out _ _ ⟨(by rw [ha.out]; exact putSel_upk 8 hb_ rfl rfl rfl), Q_HB⟩
                refine steps_cons ?_ ?_
                · rintro b a w' ⟨ha, Q_HB⟩ hb_ hon hoff
                  refine ⟨_, rfl, fun K hK => ?_⟩
                  have e36 : a.tmps[36]? = some (.bool (t158 != ((strOfNums l0).toList == (strOfNums l1).toList))) := by rw [ha]; exact putSel_on (e := (9, 36, .bool (t158 != ((strOfNums l0).toList == (strOfNums l1).toList)))) 5 rfl rfl (hon 9 (by kernel_rfl)) rfl
                  replace ha := Aside0.mk ha
                  have HB := Aside0.mk Q_HB
                  refine off_ (wanted_off rfl rfl rfl (e36.trans (by first | rfl | (simp [*]; done)))) ?_
                  refine hK.out _ _ ⟨(by rw [ha.out]; exact putSel_upk 9 hb_ rfl rfl rfl), Q_HB⟩
                refine steps_cons ?_ ?_
                · rintro b a w' ⟨ha, Q_HB⟩ hb_ hon hoff
                  refine ⟨_, rfl, fun K hK => ?_⟩
                  have e36 : a.tmps[36]? = some (.bool (t158 != ((strOfNums l0).toList == (strOfNums l1).toList))) := by rw [ha]; exact putSel_on (e := (9, 36, .bool (t158 != ((strOfNums l0).toList == (strOfNums l1).toList)))) 5 rfl rfl (hon 9 (by kernel_rfl)) rfl
                  replace ha := Aside0.mk ha
                  have HB := Aside0.mk Q_HB
                  refine off_ (wanted_off rfl rfl rfl (e36.trans (by first | rfl | (simp [*]; done)))) ?_
                  refine hK.out _ _ ⟨(by rw [ha.out]; exact putSel_upk 10 hb_ rfl rfl rfl), Q_HB⟩
                refine steps_cons ?_ ?_
                · rintro b a w' ⟨ha, Q_HB⟩ hb_ hon hoff
                  refine ⟨_, rfl, fun K hK => ?_⟩
                  have e36 : a.tmps[36]? = some (.bool (t158 != ((strOfNums l0).toList == (strOfNums l1).toList))) := by rw [ha]; exact putSel_on (e := (9, 36, .bool (t158 != ((strOfNums l0).toList == (strOfNums l1).toList)))) 5 rfl rfl (hon 9 (by kernel_rfl)) rfl
                  replace ha := Aside0.mk ha
                  have HB := Aside0.mk Q_HB
                  refine off_ (wanted_off rfl rfl rfl (e36.trans (by first | rfl | (simp [*]; done)))) ?_
                  refine hK.out _ _ ⟨(by rw [ha.out]; exact putSel_upk 11 hb_ rfl rfl rfl), Q_HB⟩
                refine steps_cons ?_ ?_
                · rintro b a w' ⟨ha, Q_HB⟩ hb_ hon hoff
                  refine ⟨_, rfl, fun K hK => ?_⟩
                  have e36 : a.tmps[36]? = some (.bool (t158 != ((strOfNums l0).toList == (strOfNums l1).toList))) := by rw [ha]; exact putSel_on (e := (9, 36, .bool (t158 != ((strOfNums l0).toList == (strOfNums l1).toList)))) 5 rfl rfl (hon 9 (by kernel_rfl)) rfl
                  replace ha := Aside0.mk ha
                  have HB := Aside0.mk Q_HB
                  refine off_ (wanted_off rfl rfl rfl (e36.trans (by first | rfl | (simp [*]; done)))) ?_
                  refine hK.out _ _ ⟨(by rw [ha.out]; exact putSel_upk 12 hb_ rfl rfl rfl), Q_HB⟩
                refine steps_cons ?_ ?_
                · rintro b a w' ⟨ha, Q_HB⟩ hb_ hon hoff
                  refine ⟨_, rfl, fun K hK => ?_⟩
                  have e36 : a.tmps[36]? = some (.bool (t158 != ((strOfNums l0).toList == (strOfNums l1).toList))) := by rw [ha]; exact putSel_on (e := (9, 36, .bool (t158 != ((strOfNums l0).toList == (strOfNums l1).toList)))) 5 rfl rfl (hon 9 (by kernel_rfl)) rfl
                  have e43 : a.tmps[43]? = some (undef) := by rw [ha]; exact putSel_on (e := (16, 43, undef)) 12 rfl rfl (hon 16 (by kernel_rfl)) rfl
                  replace ha := Aside0.mk ha
                  have HB := Aside0.mk Q_HB
                  refine value_ (w1 := w') (v := .bool true) (by rfl) rfl ?_ ?_
                  · go_simp
                    (try simp only [i64_w])
                    try rfl
                  refine hK.out _ _ ⟨(by rw [ha.out]; exact putSel_upk 13 hb_ rfl rfl rfl), Q_HB⟩
                refine steps_cons ?_ ?_
                · rintro b a w' ⟨ha, Q_HB⟩ hb_ hon hoff
                  refine ⟨_, rfl, fun K hK => ?_⟩
                  have e44 : a.tmps[44]? = some (.bool true) := by rw [ha]; exact putSel_on (e := (17, 44, .bool true)) 13 rfl rfl (hon 17 (by kernel_rfl)) rfl
                  replace ha := Aside0.mk ha
                  have HB := Aside0.mk Q_HB
                  refine value_ (w1 := w') (v := .bool true) (by rfl) rfl ?_ ?_
                  · go_simp
                    (try simp only [i64_w])
                    try rfl
                  refine hK.out _ _ ⟨(by rw [ha.out]; exact putSel_upk 14 hb_ rfl rfl rfl), Q_HB⟩
                refine steps_cons ?_ ?_
                · rintro b a w' ⟨ha, Q_HB⟩ hb_ hon hoff
                  refine ⟨_, rfl, fun K hK => ?_⟩
                  have e45 : a.tmps[45]? = some (.bool true) := by rw [ha]; exact putSel_on (e := (18, 45, .bool true)) 14 rfl rfl (hon 18 (by kernel_rfl)) rfl
                  replace ha := Aside0.mk ha
                  have HB := Aside0.mk Q_HB
                  refine off_ (wanted_off rfl rfl rfl (e45.trans (by first | rfl | (simp [*]; done)))) ?_
                  refine hK.out _ _ ⟨(by rw [ha.out]; exact putSel_upk 15 hb_ rfl rfl rfl), Q_HB⟩
                refine steps_cons ?_ ?_
                · rintro b a w' ⟨ha, Q_HB⟩ hb_ hon hoff
                  refine ⟨_, rfl, fun K hK => ?_⟩
                  have e45 : a.tmps[45]? = some (.bool true) := by rw [ha]; exact putSel_on (e := (18, 45, .bool true)) 14 rfl rfl (hon 18 (by kernel_rfl)) rfl
                  replace ha := Aside0.mk ha
                  have HB := Aside0.mk Q_HB
                  refine off_ (wanted_off rfl rfl rfl (e45.trans (by first | rfl | (simp [*]; done)))) ?_
                  refine hK.out _ _ ⟨(by rw [ha.out]; exact putSel_upk 16 hb_ rfl rfl rfl), Q_HB⟩
                refine steps_cons ?_ ?_
                · rintro b a w' ⟨ha, Q_HB⟩ hb_ hon hoff
                  refine ⟨_, rfl, fun K hK => ?_⟩
                  have e45 : a.tmps[45]? = some (.bool true) := by rw [ha]; exact putSel_on (e := (18, 45, .bool true)) 14 rfl rfl (hon 18 (by kernel_rfl)) rfl
                  replace ha := Aside0.mk ha
                  have HB := Aside0.mk Q_HB
                  refine off_ (wanted_off rfl rfl rfl (e45.trans (by first | rfl | (simp [*]; done)))) ?_
                  refine hK.out _ _ ⟨(by rw [ha.out]; exact putSel_upk 17 hb_ rfl rfl rfl), Q_HB⟩
                refine steps_cons ?_ ?_
                · rintro b a w' ⟨ha, Q_HB⟩ hb_ hon hoff
                  refine ⟨_, rfl, fun K hK => ?_⟩
                  have e45 : a.tmps[45]? = some (.bool true) := by rw [ha]; exact putSel_on (e := (18, 45, .bool true)) 14 rfl rfl (hon 18 (by kernel_rfl)) rfl
                  replace ha := Aside0.mk ha
                  have HB := Aside0.mk Q_HB
                  refine off_ (wanted_off rfl rfl rfl (e45.trans (by first | rfl | (simp [*]; done)))) ?_
                  refine hK.out _ _ ⟨(by rw [ha.out]; exact putSel_upk 18 hb_ rfl rfl rfl), Q_HB⟩
                refine steps_cons ?_ ?_
                · rintro b a w' ⟨ha, Q_HB⟩ hb_ hon hoff
                  refine ⟨_, rfl, fun K hK => ?_⟩
                  have e45 : a.tmps[45]? = some (.bool true) := by rw [ha]; exact putSel_on (e := (18, 45, .bool true)) 14 rfl rfl (hon 18 (by kernel_rfl)) rfl
                  replace ha := Aside0.mk ha
                  have HB := Aside0.mk Q_HB
                  refine off_ (wanted_off rfl rfl rfl (e45.trans (by first | rfl | (simp [*]; done)))) ?_
                  refine hK.out _ _ ⟨(by rw [ha.out]; exact putSel_upk 19 hb_ rfl rfl rfl), Q_HB⟩
                refine steps_cons ?_ ?_
                · rintro b a w' ⟨ha, Q_HB⟩ hb_ hon hoff
                  refine ⟨_, rfl, fun K hK => ?_⟩
                  have e45 : a.tmps[45]? = some (.bool true) := by rw [ha]; exact putSel_on (e := (18, 45, .bool true)) 14 rfl rfl (hon 18 (by kernel_rfl)) rfl
                  replace ha := Aside0.mk ha
                  have HB := Aside0.mk Q_HB
                  refine off_ (wanted_off rfl rfl rfl (e45.trans (by first | rfl | (simp [*]; done)))) ?_
                  refine hK.out _ _ ⟨(by rw [ha.out]; exact putSel_upk 20 hb_ rfl rfl rfl), Q_HB⟩
                refine steps_cons ?_ ?_
                · rintro b a w' ⟨ha, Q_HB⟩ hb_ hon hoff
                  refine ⟨_, rfl, fun K hK => ?_⟩
                  have e45 : a.tmps[45]? = some (.bool true) := by rw [ha]; exact putSel_on (e := (18, 45, .bool true)) 14 rfl rfl (hon 18 (by kernel_rfl)) rfl
                  replace ha := Aside0.mk ha
                  have HB := Aside0.mk Q_HB
                  refine off_ (wanted_off rfl rfl rfl (e45.trans (by first | rfl | (simp [*]; done)))) ?_
                  refine hK.out _ _ ⟨(by rw [ha.out]; exact putSel_upk 21 hb_ rfl rfl rfl), Q_HB⟩
                refine steps_cons ?_ ?_
                · rintro b a w' ⟨ha, Q_HB⟩ hb_ hon hoff
                  refine ⟨_, rfl, fun K hK => ?_⟩
                  have e45 : a.tmps[45]? = some (.bool true) := by rw [ha]; exact putSel_on (e := (18, 45, .bool true)) 14 rfl rfl (hon 18 (by kernel_rfl)) rfl
                  replace ha := Aside0.mk ha
                  have HB := Aside0.mk Q_HB
                  refine off_ (wanted_off rfl rfl rfl (e45.trans (by first | rfl | (simp [*]; done)))) ?_
                  refine hK.out _ _ ⟨(by rw [ha.out]; exact putSel_upk 22 hb_ rfl rfl rfl), Q_HB⟩
                refine steps_cons ?_ ?_
                · rintro b a w' ⟨ha, Q_HB⟩ hb_ hon hoff
                  refine ⟨_, rfl, fun K hK => ?_⟩
                  have e45 : a.tmps[45]? = some (.bool true) := by rw [ha]; exact putSel_on (e := (18, 45, .bool true)) 14 rfl rfl (hon 18 (by kernel_rfl)) rfl
                  replace ha := Aside0.mk ha
                  have HB := Aside0.mk Q_HB
                  refine off_ (wanted_off rfl rfl rfl (e45.trans (by first | rfl | (simp [*]; done)))) ?_
                  refine hK.out _ _ ⟨(by rw [ha.out]; exact putSel_upk 23 hb_ rfl rfl rfl), Q_HB⟩
                refine steps_cons ?_ ?_
                · rintro b a w' ⟨ha, Q_HB⟩ hb_ hon hoff
                  refine ⟨_, rfl, fun K hK => ?_⟩
                  have e45 : a.tmps[45]? = some (.bool true) := by rw [ha]; exact putSel_on (e := (18, 45, .bool true)) 14 rfl rfl (hon 18 (by kernel_rfl)) rfl
                  have e54 : a.tmps[54]? = some (undef) := by rw [ha]; exact putSel_on (e := (27, 54, undef)) 23 rfl rfl (hon 27 (by kernel_rfl)) rfl
                  replace ha := Aside0.mk ha
                  have HB := Aside0.mk Q_HB
                  refine value_ (w1 := w') (v := .bool true) (by rfl) rfl ?_ ?_
                  · go_simp
                    (try simp only [i64_w])
                    try rfl
                  refine hK.out _ _ ⟨(by rw [ha.out]; exact putSel_upk 24 hb_ rfl rfl rfl), Q_HB⟩
                refine steps_cons ?_ ?_
                · rintro b a w' ⟨ha, Q_HB⟩ hb_ hon hoff
                  refine ⟨_, rfl, fun K hK => ?_⟩
                  have e55 : a.tmps[55]? = some (.bool true) := by rw [ha]; exact putSel_on (e := (28, 55, .bool true)) 24 rfl rfl (hon 28 (by kernel_rfl)) rfl
                  replace ha := Aside0.mk ha
                  have HB := Aside0.mk Q_HB
                  refine value_ (w1 := w') (v := .bool true) (by rfl) rfl ?_ ?_
                  · go_simp
                    (try simp only [i64_w])
                    try rfl
                  refine hK.out _ _ ⟨(by rw [ha.out]; exact putSel_upk 25 hb_ rfl rfl rfl), Q_HB⟩
                refine steps_cons ?_ ?_
                · rintro b a w' ⟨ha, Q_HB⟩ hb_ hon hoff
                  refine ⟨_, rfl, fun K hK => ?_⟩
                  have e56 : a.tmps[56]? = some (.bool true) := by rw [ha]; exact putSel_on (e := (29, 56, .bool true)) 25 rfl rfl (hon 29 (by kernel_rfl)) rfl
                  replace ha := Aside0.mk ha
                  have HB := Aside0.mk Q_HB
                  refine off_ (wanted_off rfl rfl rfl (e56.trans (by first | rfl | (simp [*]; done)))) ?_
                  refine hK.out _ _ ⟨(by rw [ha.out]; exact putSel_upk 26 hb_ rfl rfl rfl), Q_HB⟩
                refine steps_cons ?_ ?_
                · rintro b a w' ⟨ha, Q_HB⟩ hb_ hon hoff
                  refine ⟨_, rfl, fun K hK => ?_⟩
                  have e56 : a.tmps[56]? = some (.bool true) := by rw [ha]; exact putSel_on (e := (29, 56, .bool true)) 25 rfl rfl (hon 29 (by kernel_rfl)) rfl
                  replace ha := Aside0.mk ha
                  have HB := Aside0.mk Q_HB
                  refine off_ (wanted_off rfl rfl rfl (e56.trans (by first | rfl | (simp [*]; done)))) ?_
                  refine hK.out _ _ ⟨(by rw [ha.out]; exact putSel_upk 27 hb_ rfl rfl rfl), Q_HB⟩
                refine steps_cons ?_ ?_
                · rintro b a w' ⟨ha, Q_HB⟩ hb_ hon hoff
                  refine ⟨_, rfl, fun K hK => ?_⟩
                  have e56 : a.tmps[56]? = some (.bool true) := by rw [ha]; exact putSel_on (e := (29, 56, .bool true)) 25 rfl rfl (hon 29 (by kernel_rfl)) rfl
                  replace ha := Aside0.mk ha
                  have HB := Aside0.mk Q_HB
                  refine off_ (wanted_off rfl rfl rfl (e56.trans (by first | rfl | (simp [*]; done)))) ?_
                  refine hK.out _ _ ⟨(by rw [ha.out]; exact putSel_upk 28 hb_ rfl rfl rfl), Q_HB⟩
                refine steps_cons ?_ ?_
                · rintro b a w' ⟨ha, Q_HB⟩ hb_ hon hoff
                  refine ⟨_, rfl, fun K hK => ?_⟩
                  have e56 : a.tmps[56]? = some (.bool true) := by rw [ha]; exact putSel_on (e := (29, 56, .bool true)) 25 rfl rfl (hon 29 (by kernel_rfl)) rfl
                  replace ha := Aside0.mk ha
                  have HB := Aside0.mk Q_HB
                  refine off_ (wanted_off rfl rfl rfl (e56.trans (by first | rfl | (simp [*]; done)))) ?_
                  refine hK.out _ _ ⟨(by rw [ha.out]; exact putSel_upk 29 hb_ rfl rfl rfl), Q_HB⟩
                refine steps_cons ?_ ?_
                · rintro b a w' ⟨ha, Q_HB⟩ hb_ hon hoff
                  refine ⟨_, rfl, fun K hK => ?_⟩
                  have e56 : a.tmps[56]? = some (.bool true) := by rw [ha]; exact putSel_on (e := (29, 56, .bool true)) 25 rfl rfl (hon 29 (by kernel_rfl)) rfl
                  replace ha := Aside0.mk ha
                  have HB := Aside0.mk Q_HB
                  refine off_ (wanted_off rfl rfl rfl (e56.trans (by first | rfl | (simp [*]; done)))) ?_
                  refine hK.out _ _ ⟨(by rw [ha.out]; exact putSel_upk 30 hb_ rfl rfl rfl), Q_HB⟩
                refine steps_cons ?_ ?_
                · rintro b a w' ⟨ha, Q_HB⟩ hb_ hon hoff
                  refine ⟨_, rfl, fun K hK => ?_⟩
                  have e56 : a.tmps[56]? = some (.bool true) := by rw [ha]; exact putSel_on (e := (29, 56, .bool true)) 25 rfl rfl (hon 29 (by kernel_rfl)) rfl
                  replace ha := Aside0.mk ha
                  have HB := Aside0.mk Q_HB
                  refine off_ (wanted_off rfl rfl rfl (e56.trans (by first | rfl | (simp [*]; done)))) ?_
                  refine hK.out _ _ ⟨(by rw [ha.out]; exact putSel_upk 31 hb_ rfl rfl rfl), Q_HB⟩
                refine steps_cons ?_ ?_
                · rintro b a w' ⟨ha, Q_HB⟩ hb_ hon hoff
                  refine ⟨_, rfl, fun K hK => ?_⟩
                  have e56 : a.tmps[56]? = some (.bool true) := by rw [ha]; exact putSel_on (e := (29, 56, .bool true)) 25 rfl rfl (hon 29 (by kernel_rfl)) rfl
                  replace ha := Aside0.mk ha
                  have HB := Aside0.mk Q_HB
                  refine off_ (wanted_off rfl rfl rfl (e56.trans (by first | rfl | (simp [*]; done)))) ?_
                  refine hK.out _ _ ⟨(by rw [ha.out]; exact putSel_upk 32 hb_ rfl rfl rfl), Q_HB⟩
                refine steps_cons ?_ ?_
                · rintro b a w' ⟨ha, Q_HB⟩ hb_ hon hoff
                  refine ⟨_, rfl, fun K hK => ?_⟩
                  have e56 : a.tmps[56]? = some (.bool true) := by rw [ha]; exact putSel_on (e := (29, 56, .bool true)) 25 rfl rfl (hon 29 (by kernel_rfl)) rfl
                  replace ha := Aside0.mk ha
                  have HB := Aside0.mk Q_HB
                  refine off_ (wanted_off rfl rfl rfl (e56.trans (by first | rfl | (simp [*]; done)))) ?_
                  refine hK.out _ _ ⟨(by rw [ha.out]; exact putSel_upk 33 hb_ rfl rfl rfl), Q_HB⟩
                refine steps_cons ?_ ?_
                · rintro b a w' ⟨ha, Q_HB⟩ hb_ hon hoff
                  refine ⟨_, rfl, fun K hK => ?_⟩
                  have e56 : a.tmps[56]? = some (.bool true) := by rw [ha]; exact putSel_on (e := (29, 56, .bool true)) 25 rfl rfl (hon 29 (by kernel_rfl)) rfl
                  replace ha := Aside0.mk ha
                  have HB := Aside0.mk Q_HB
                  refine off_ (wanted_off rfl rfl rfl (e56.trans (by first | rfl | (simp [*]; done)))) ?_
                  refine hK.out _ _ ⟨(by rw [ha.out]; exact putSel_upk 34 hb_ rfl rfl rfl), Q_HB⟩
                refine steps_cons ?_ ?_
                · rintro b a w' ⟨ha, Q_HB⟩ hb_ hon hoff
                  refine ⟨_, rfl, fun K hK => ?_⟩
                  have e56 : a.tmps[56]? = some (.bool true) := by rw [ha]; exact putSel_on (e := (29, 56, .bool true)) 25 rfl rfl (hon 29 (by kernel_rfl)) rfl
                  replace ha := Aside0.mk ha
                  have HB := Aside0.mk Q_HB
                  refine off_ (wanted_off rfl rfl rfl (e56.trans (by first | rfl | (simp [*]; done)))) ?_
                  refine hK.out _ _ ⟨(by rw [ha.out]; exact putSel_upk 35 hb_ rfl rfl rfl), Q_HB⟩
                refine steps_cons ?_ ?_
                · rintro b a w' ⟨ha, Q_HB⟩ hb_ hon hoff
                  refine ⟨_, rfl, fun K hK => ?_⟩
                  have e56 : a.tmps[56]? = some (.bool true) := by rw [ha]; exact putSel_on (e := (29, 56, .bool true)) 25 rfl rfl (hon 29 (by kernel_rfl)) rfl
                  replace ha := Aside0.mk ha
                  have HB := Aside0.mk Q_HB
                  refine off_ (wanted_off rfl rfl rfl (e56.trans (by first | rfl | (simp [*]; done)))) ?_
                  refine hK.out _ _ ⟨(by rw [ha.out]; exact putSel_upk 36 hb_ rfl rfl rfl), Q_HB⟩
                refine steps_cons ?_ ?_
                · rintro b a w' ⟨ha, Q_HB⟩ hb_ hon hoff
                  refine ⟨_, rfl, fun K hK => ?_⟩
                  have e56 : a.tmps[56]? = some (.bool true) := by rw [ha]; exact putSel_on (e := (29, 56, .bool true)) 25 rfl rfl (hon 29 (by kernel_rfl)) rfl
                  have e67 : a.tmps[67]? = some (undef) := by rw [ha]; exact putSel_on (e := (40, 67, undef)) 36 rfl rfl (hon 40 (by kernel_rfl)) rfl
                  replace ha := Aside0.mk ha
                  have HB := Aside0.mk Q_HB
                  refine value_ (w1 := w') (v := .bool true) (by rfl) rfl ?_ ?_
                  · go_simp
                    (try simp only [i64_w])
                    try rfl
                  refine hK.out _ _ ⟨(by rw [ha.out]; exact putSel_upk 37 hb_ rfl rfl rfl), Q_HB⟩
                exact steps_nil
              rintro b a w20 hall ⟨ha, Q_HB⟩
              clear HB
              have hb2_ := hall 2 (by kernel_rfl)
              have hb4_ := hall 4 (by kernel_rfl)
              have hb6_ := hall 6 (by kernel_rfl)
              have hb7_ := hall 7 (by kernel_rfl)
              have hb8_ := hall 8 (by kernel_rfl)
              have hb9_ := hall 9 (by kernel_rfl)
              have hb10_ := hall 10 (by kernel_rfl)
              have hb11_ := hall 11 (by kernel_rfl)
              have hb12_ := hall 12 (by kernel_rfl)
              have hb13_ := hall 13 (by kernel_rfl)
              have hb14_ := hall 14 (by kernel_rfl)
              have hb15_ := hall 15 (by kernel_rfl)
              have hb16_ := hall 16 (by kernel_rfl)
              have hb17_ := hall 17 (by kernel_rfl)
              have hb18_ := hall 18 (by kernel_rfl)
              have hb19_ := hall 19 (by kernel_rfl)
              have hb20_ := hall 20 (by kernel_rfl)
              have hb21_ := hall 21 (by kernel_rfl)
              have hb22_ := hall 22 (by kernel_rfl)
              have hb23_ := hall 23 (by kernel_rfl)
              have hb24_ := hall 24 (by kernel_rfl)
              have hb25_ := hall 25 (by kernel_rfl)
              have hb26_ := hall 26 (by kernel_rfl)
              have hb27_ := hall 27 (by kernel_rfl)
              have hb28_ := hall 28 (by kernel_rfl)
              have hb29_ := hall 29 (by kernel_rfl)
              have hb30_ := hall 30 (by kernel_rfl)
              have hb31_ := hall 31 (by kernel_rfl)
              have hb32_ := hall 32 (by kernel_rfl)
              have hb33_ := hall 33 (by kernel_rfl)
              have hb34_ := hall 34 (by kernel_rfl)
              have hb35_ := hall 35 (by kernel_rfl)
              have hb36_ := hall 36 (by kernel_rfl)
              have hb37_ := hall 37 (by kernel_rfl)
              have hb38_ := hall 38 (by kernel_rfl)
              have hb39_ := hall 39 (by kernel_rfl)
              have hb40_ := hall 40 (by kernel_rfl)
              have hb41_ := hall 41 (by kernel_rfl)
              subst ha
              simp only [putSel, hb2_, hb4_, hb6_, hb7_, hb8_, hb9_, hb10_, hb11_, hb12_, hb13_, hb14_, hb15_, hb16_, hb17_, hb18_, hb19_, hb20_, hb21_, hb22_, hb23_, hb24_, hb25_, hb26_, hb27_, hb28_, hb29_, hb30_, hb31_, hb32_, hb33_, hb34_, hb35_, hb36_, hb37_, hb38_, hb39_, hb40_, hb41_, if_true, Act.put, List.setIfInBounds_toArray, List.set_cons_zero, List.set_cons_succ]
              have HB := Aside0.mk Q_HB
              clear Q_HB
              clear hall hb2_ hb4_ hb6_ hb7_ hb8_ hb9_ hb10_ hb11_ hb12_ hb13_ hb14_ hb15_ hb16_ hb17_ hb18_ hb19_ hb20_ hb21_ hb22_ hb23_ hb24_ hb25_ hb26_ hb27_ hb28_ hb29_ hb30_ hb31_ hb32_ hb33_ hb34_ hb35_ hb36_ hb37_ hb38_ hb39_ hb40_ hb41_
              try go_wp2
              go_meet
              case rel => exact ⟨_, (true), (by first | rfl | (simp; done) | (simp [*]; done)), H', ⟨by have := HJ7.out; first | omega | exact Nat.le_refl _⟩, ⟨by repeat (first | (with_reducible first | exact HB.out | apply below_alloc | apply pw_below_drewN | apply below_drew1) | exact HB.out)⟩⟩
            · rw [if_neg c15] at H
              have c15b0 : (t158 != ((strOfNums l0).toList == (strOfNums l1).toList)) = false := by simpa using c15
              (try (have c15b1 : decide (t158 = ((strOfNums l0).toList == (strOfNums l1).toList)) = true := by simpa using c15))
              (try (have c15b2 : (t158 == ((strOfNums l0).toList == (strOfNums l1).toList)) = true := by simpa using c15))
              clear c15
              (first | rw [c15b0] | (simp only [i64_w, i32_w]; rw [c15b0]) | skip)
              replace H := Option.bind_eq_some_iff.mp H
              obtain ⟨t159, A210, H⟩ := H
              replace H : ((trunc_Unlike.f kj7 l1 l0).bind fun t160 => (if t159 = t160 then ((trunc_Unlike.f kj7 l0 l1).bind fun t161 => (if t161 > (mx (l0.length : Int) (l1.length : Int)) then (wristbandlaw04_TruncSame.j1 kj7 l0 a3 a4 true) else ((trunc_Unlike.f kj7 l0 l2).bind fun t162 => ((trunc_Unlike.f kj7 l0 l1).bind fun t163 => ((trunc_Unlike.f kj7 l1 l2).bind fun t164 => (wristbandlaw04_TruncSame.j1 kj7 l0 a3 a4 (decide (t162 > (wrap64 (t163 + t164)))))))))) else (wristbandlaw04_TruncSame.j1 kj7 l0 a3 a4 true))) = some r := H
              have A21 := Aside0.mk A210
              clear A210
              replace H := Option.bind_eq_some_iff.mp H
              obtain ⟨t160, A220, H⟩ := H
              replace H : (if t159 = t160 then ((trunc_Unlike.f kj7 l0 l1).bind fun t161 => (if t161 > (mx (l0.length : Int) (l1.length : Int)) then (wristbandlaw04_TruncSame.j1 kj7 l0 a3 a4 true) else ((trunc_Unlike.f kj7 l0 l2).bind fun t162 => ((trunc_Unlike.f kj7 l0 l1).bind fun t163 => ((trunc_Unlike.f kj7 l1 l2).bind fun t164 => (wristbandlaw04_TruncSame.j1 kj7 l0 a3 a4 (decide (t162 > (wrap64 (t163 + t164)))))))))) else (wristbandlaw04_TruncSame.j1 kj7 l0 a3 a4 true)) = some r := H
              have A22 := Aside0.mk A220
              clear A220
              by_cases c23 : t159 = t160
              · rw [if_pos c23] at H
                have c23b0 : (t159 == t160) = true := beq_iff_eq.mpr c23
                have c23b1 : (t159 != t160) = false := bne_eq_false_iff_eq.mpr c23
                clear c23
                replace H := Option.bind_eq_some_iff.mp H
                obtain ⟨t161, A240, H⟩ := H
                replace H : (if t161 > (mx (l0.length : Int) (l1.length : Int)) then (wristbandlaw04_TruncSame.j1 kj7 l0 a3 a4 true) else ((trunc_Unlike.f kj7 l0 l2).bind fun t162 => ((trunc_Unlike.f kj7 l0 l1).bind fun t163 => ((trunc_Unlike.f kj7 l1 l2).bind fun t164 => (wristbandlaw04_TruncSame.j1 kj7 l0 a3 a4 (decide (t162 > (wrap64 (t163 + t164))))))))) = some r := H
                have A24 := Aside0.mk A240
                clear A240
                obtain ⟨ji25, hji25⟩ : ∃ j_ : Int, (mx (l0.length : Int) (l1.length : Int)) = j_ := ⟨_, rfl⟩
                replace H : (if t161 > (ji25) then (wristbandlaw04_TruncSame.j1 kj7 l0 a3 a4 true) else ((trunc_Unlike.f kj7 l0 l2).bind fun t162 => ((trunc_Unlike.f kj7 l0 l1).bind fun t163 => ((trunc_Unlike.f kj7 l1 l2).bind fun t164 => (wristbandlaw04_TruncSame.j1 kj7 l0 a3 a4 (decide (t162 > (wrap64 (t163 + t164))))))))) = some r := by first | (rw [hji25] at H; exact H) | (simp only [hji25] at H ⊢; exact H)
                (try rw [hji25] at A14)
                (try rw [hji25] at A21)
                (try rw [hji25] at A22)
                (try rw [hji25] at A24)
                (try (have hji25l : 0 ≤ ji25 := by (rw [← hji25]; unfold mx; (repeat' split) <;> omega)))
                (try (have hji25m : 0 ≤ ji25 := by omega))
                have hji25_ : (if (l0.length : Int) < (l1.length : Int) then (l1.length : Int) else (l0.length : Int)) = ji25 := hji25
                (try (have hji25n := hji25_; simp only [Int.ofNat_lt] at hji25n))
                by_cases c26 : t161 > (ji25)
                · rw [if_pos c26] at H
                  have c26b0 : decide ((ji25) < t161) = true := decide_eq_true c26
                  clear c26
                  have H' := Aside0.mk H
                  clear H
                  try go_wp2
                  have n0_ := Aside0.mk (below_drew1 HB.out)
                  clear HB
                  have HB := n0_
                  clear n0_
                  refine start_ (n := 42) (S := fun w' => True) (ds := []) #[false, false, false, false, false, false, false, false, false, false, false, false, false, false, false, false, false, false, false, false, false, false, false, false, false, false, false, false, false, false, false, false, false, false, false, false, false, false, false, false, false, false] (by kernel_rfl) rfl rfl trivial (fun hHeld => ?_); refine with_tabW wristbandlaw04_TruncSame.tab5 wristbandlaw04_TruncSame.bits5 (fun HT_ HW_ => ?_)
                  generalize wc.drew = w27 at HB hHeld ⊢
                  refine pure_ (i := 0) (N := some 27) (v := ?_) (a' := ?_) #[true, false, false, false, false, false, false, false, false, false, false, false, false, false, false, false, false, false, false, false, false, false, false, false, false, false, false, false, false, false, false, false, false, false, false, false, false, false, false, false, false, false] rfl rfl (any_of HT_.out (by kernel_rfl)) (fun _ _ _ h => h) (Or.inl ⟨by rfl, ?_⟩) ?_ ?_
                  rotate_left
                  · intro w'
                    go_simp
                    with_reducible rfl
                  rotate_left
                  · simp only [Act.put, List.setIfInBounds_toArray, List.set_cons_zero, List.set_cons_succ, i64_w, i32_w]
                    rfl
                  refine pure_ (i := 1) (N := some 28) (v := ?_) (a' := ?_) #[true, true, false, false, false, false, false, false, false, false, false, false, false, false, false, false, false, false, false, false, false, false, false, false, false, false, false, false, false, false, false, false, false, false, false, false, false, false, false, false, false, false] rfl rfl (any_of HT_.out (by kernel_rfl)) (fun _ _ _ h => h) (Or.inl ⟨by rfl, ?_⟩) ?_ ?_
                  rotate_left
                  · intro w'
                    go_simp
                    with_reducible rfl
                  rotate_left
                  · simp only [Act.put, List.setIfInBounds_toArray, List.set_cons_zero, List.set_cons_succ, i64_w, i32_w]
                    rfl
                  refine pure_ (i := 3) (N := some 30) (v := ?_) (a' := ?_) #[true, true, false, true, false, false, false, false, false, false, false, false, false, false, false, false, false, false, false, false, false, false, false, false, false, false, false, false, false, false, false, false, false, false, false, false, false, false, false, false, false, false] rfl rfl (any_of HT_.out (by kernel_rfl)) (fun _ _ _ h => h) (Or.inl ⟨by rfl, ?_⟩) ?_ ?_
                  rotate_left
                  · intro w'
                    go_simp
                    with_reducible rfl
                  rotate_left
                  · simp only [Act.put, List.setIfInBounds_toArray, List.set_cons_zero, List.set_cons_succ, i64_w, i32_w]
                    rfl
                  refine pure_ (i := 5) (N := some 32) (v := ?_) (a' := ?_) #[true, true, false, true, false, true, false, false, false, false, false, false, false, false, false, false, false, false, false, false, false, false, false, false, false, false, false, false, false, false, false, false, false, false, false, false, false, false, false, false, false, false] rfl rfl (any_of HT_.out (by kernel_rfl)) (fun _ _ _ h => h) (Or.inl ⟨by rfl, ?_⟩) ?_ ?_
                  rotate_left
                  · intro w'
                    go_simp
                    with_reducible rfl
                  rotate_left
                  · simp only [Act.put, List.setIfInBounds_toArray, List.set_cons_zero, List.set_cons_succ, i64_w, i32_w]
                    rfl
                  refine inv_at [2, 4, 6, 7, 8, 9, 10, 11, 12, 13, 14, 15, 16, 17, 18, 19, 20, 21, 22, 23, 24, 25, 26, 27, 28, 29, 30, 31, 32, 33, 34, 35, 36, 37, 38, 39, 40, 41] (fun a0_ b a w' => a = putSel a0_ b [(2, 29, .bool t158), (4, 31, .string (strOfNums l0)), (6, 33, .string (strOfNums l1)), (7, 34, .bool ((strOfNums l0).toList == (strOfNums l1).toList)), (8, 35, .bool (t158 != ((strOfNums l0).toList == (strOfNums l1).toList))), (9, 36, .bool (t158 != ((strOfNums l0).toList == (strOfNums l1).toList))), (10, 37, .slice A0 l0.length c0), (11, 38, .slice A1 l1.length c1), (12, 39, .int .i64 t159), (13, 40, .slice A1 l1.length c1), (14, 41, .slice A0 l0.length c0), (15, 42, .int .i64 t160), (16, 43, .bool (t159 != t160)), (17, 44, .bool (t159 != t160)), (18, 45, .bool (t159 != t160)), (19, 46, .slice A0 l0.length c0), (20, 47, .slice A1 l1.length c1), (21, 48, .int .i64 t161), (22, 49, .slice A0 l0.length c0), (23, 50, .int .i64 (l0.length : Int)), (24, 51, .slice A1 l1.length c1), (25, 52, .int .i64 (l1.length : Int)), (26, 53, .int .i64 ji25), (27, 54, .bool (decide (t161 > (ji25)))), (28, 55, .bool (decide (t161 > (ji25)))), (29, 56, .bool (decide (t161 > (ji25)))), (30, 57, undef), (31, 58, undef), (32, 59, undef), (33, 60, undef), (34, 61, undef), (35, 62, undef), (36, 63, undef), (37, 64, undef), (38, 65, undef), (39, 66, undef), (40, 67, undef), (41, 68, .bool true)] ∧ (Below w.heap.size w w')) HT_.out HW_.out (by kernel_rfl) (by kernel_rfl) ?_ ?_ ?_
                  · exact ⟨by simp only [putSel, Bool.false_eq_true, if_false], HB.out⟩
                  · skip
                    clear HB
                    refine steps_cons ?_ ?_
                    · rintro b a w' ⟨ha, Q_HB⟩ hb_ hon hoff
                      refine ⟨_, rfl, fun K hK => ?_⟩
                      have e27 : a.tmps[27]? = some (.slice A0 l0.length c0) := by rw [ha]; exact (putSel_off rfl).trans rfl
                      have e28 : a.tmps[28]? = some (.slice A1 l1.length c1) := by rw [ha]; exact (putSel_off rfl).trans rfl
                      replace ha := Aside0.mk ha
                      have HB := Aside0.mk Q_HB
                      refine goes_ Try.func25 (by kernel_rfl) rfl #[.slice A0 l0.length c0, .slice A1 l1.length c1] (by first | rfl | (simp [Region.wanted, yielded, *]; done)) rfl rfl (by first | (simp only [List.map_toArray, List.map_cons, List.map_nil, Act.eval, Array.getD_eq_getD_getElem?, Option.getD_some, e27, e28]; done) | (simp only [List.map_toArray, List.map_cons, List.map_nil, Act.eval, Array.getD_eq_getD_getElem?, Option.getD_some, e27, e28]; rfl)) ?_
                      with_reducible refine (trunc_Same.calls kj7 _ _ l0 _ _ l1 t158 _ ?side1 ?side2 ?side3 ?side4 A14.out).mono ?_
                      (case side1 => repeat (first | exact (Kd.C_below HR0.out HB.out) | (with_reducible refine Kd.C_alloc ?_ _) | (with_reducible refine Kd.C_drewN ?_ _) | (with_reducible refine Kd.C_drew ?_)))
                      (case side2 => exact HC0.out)
                      (case side3 => repeat (first | exact (Kd.C_below HR1.out HB.out) | (with_reducible refine Kd.C_alloc ?_ _) | (with_reducible refine Kd.C_drewN ?_ _) | (with_reducible refine Kd.C_drew ?_)))
                      (case side4 => exact HC1.out)
                      rintro e w28 ⟨rfl, hb⟩
                      refine ⟨_, rfl, ?_⟩
                      have n0_ := Aside0.mk (below_step (by repeat (first | (with_reducible first | exact HB.out | apply below_alloc | apply pw_below_drewN | apply below_drew1) | exact HB.out)) hb)
                      clear HB
                      have HB := n0_
                      clear n0_
                      (try clear hb)
                      (try clear hb2)
                      (try clear hk)
                      (try clear hi)
                      refine hK.out _ _ ⟨(by rw [ha.out]; exact putSel_upk 0 hb_ rfl rfl rfl), (by repeat (first | (with_reducible first | exact HB.out | apply below_alloc | apply pw_below_drewN | apply below_drew1) | exact HB.out))⟩
                    refine steps_cons ?_ ?_
                    · rintro b a w' ⟨ha, Q_HB⟩ hb_ hon hoff
                      refine ⟨_, rfl, fun K hK => ?_⟩
                      have e30 : a.tmps[30]? = some (.slice A0 l0.length c0) := by rw [ha]; exact (putSel_off rfl).trans rfl
                      replace ha := Aside0.mk ha
                      have HB := Aside0.mk Q_HB
                      refine str_step (src := 22) (dst := 9) (x := .tmp 30) ?hw ?ho ?hx (Kd.C_string (P := Try.prog) (A := A0) (c := c0) Try.underlying22 Try.underlying5 Try.underlying9 (Kd.C_below HR0.out HB.out)) ?_
                      case ho => rfl
                      case hw => first | rfl | (simp [Region.wanted, yielded, *]; done)
                      case hx => first | rfl | (simp only [Act.eval, Array.getD_eq_getD_getElem?, Option.getD_some, e30]; done)
                      intro w28 hb
                      have n0_ := Aside0.mk (below_step (by repeat (first | (with_reducible first | exact HB.out | apply below_alloc | apply pw_below_drewN | apply below_drew1) | exact HB.out)) hb)
                      clear HB
                      have HB := n0_
                      clear n0_
                      (try clear hb)
                      refine hK.out _ _ ⟨(by rw [ha.out]; exact putSel_upk 1 hb_ rfl rfl rfl), (by repeat (first | (with_reducible first | exact HB.out | apply below_alloc | apply pw_below_drewN | apply below_drew1) | exact HB.out))⟩
                    refine steps_cons ?_ ?_
                    · rintro b a w' ⟨ha, Q_HB⟩ hb_ hon hoff
                      refine ⟨_, rfl, fun K hK => ?_⟩
                      have e32 : a.tmps[32]? = some (.slice A1 l1.length c1) := by rw [ha]; exact (putSel_off rfl).trans rfl
                      replace ha := Aside0.mk ha
                      have HB := Aside0.mk Q_HB
                      refine str_step (src := 22) (dst := 9) (x := .tmp 32) ?hw ?ho ?hx (Kd.C_string (P := Try.prog) (A := A1) (c := c1) Try.underlying22 Try.underlying5 Try.underlying9 (Kd.C_below HR1.out HB.out)) ?_
                      case ho => rfl
                      case hw => first | rfl | (simp [Region.wanted, yielded, *]; done)
                      case hx => first | rfl | (simp only [Act.eval, Array.getD_eq_getD_getElem?, Option.getD_some, e32]; done)
                      intro w28 hb
                      have n0_ := Aside0.mk (below_step (by repeat (first | (with_reducible first | exact HB.out | apply below_alloc | apply pw_below_drewN | apply below_drew1) | exact HB.out)) hb)
                      clear HB
                      have HB := n0_
                      clear n0_
                      (try clear hb)
                      refine hK.out _ _ ⟨(by rw [ha.out]; exact putSel_upk 2 hb_ rfl rfl rfl), (by repeat (first | (with_reducible first | exact HB.out | apply below_alloc | apply pw_below_drewN | apply below_drew1) | exact HB.out))⟩
                    refine steps_cons ?_ ?_
                    · rintro b a w' ⟨ha, Q_HB⟩ hb_ hon hoff
                      refine ⟨_, rfl, fun K hK => ?_⟩
                      have e31 : a.tmps[31]? = some (.string (strOfNums l0)) := by rw [ha]; exact putSel_on (e := (4, 31, .string (strOfNums l0))) 1 rfl rfl (hon 4 (by kernel_rfl)) rfl
                      have e33 : a.tmps[33]? = some (.string (strOfNums l1)) := by rw [ha]; exact putSel_on (e := (6, 33, .string (strOfNums l1))) 2 rfl rfl (hon 6 (by kernel_rfl)) rfl
                      replace ha := Aside0.mk ha
                      have HB := Aside0.mk Q_HB
                      refine value_ (w1 := w') (v := .bool ((strOfNums l0).toList == (strOfNums l1).toList)) (by rfl) rfl ?_ ?_
                      · go_simp
                        (try simp only [i64_w])
                        try rfl
                      refine hK.out _ _ ⟨(by rw [ha.out]; exact putSel_upk 3 hb_ rfl rfl rfl), Q_HB⟩
                    refine steps_cons ?_ ?_
                    · rintro b a w' ⟨ha, Q_HB⟩ hb_ hon hoff
                      refine ⟨_, rfl, fun K hK => ?_⟩
                      have e29 : a.tmps[29]? = some (.bool t158) := by rw [ha]; exact putSel_on (e := (2, 29, .bool t158)) 0 rfl rfl (hon 2 (by kernel_rfl)) rfl
                      have e34 : a.tmps[34]? = some (.bool ((strOfNums l0).toList == (strOfNums l1).toList)) := by rw [ha]; exact putSel_on (e := (7, 34, .bool ((strOfNums l0).toList == (strOfNums l1).toList))) 3 rfl rfl (hon 7 (by kernel_rfl)) rfl
                      replace ha := Aside0.mk ha
                      have HB := Aside0.mk Q_HB
                      refine value_ (w1 := w') (v := .bool (t158 != ((strOfNums l0).toList == (strOfNums l1).toList))) (by rfl) rfl ?_ ?_
                      · go_simp
                        (try simp only [i64_w])
                        try rfl
                      refine hK.out _ _ ⟨(by rw [ha.out]; exact putSel_upk 4 hb_ rfl rfl rfl), Q_HB⟩
                    refine steps_cons ?_ ?_
                    · rintro b a w' ⟨ha, Q_HB⟩ hb_ hon hoff
                      refine ⟨_, rfl, fun K hK => ?_⟩
                      have e35 : a.tmps[35]? = some (.bool (t158 != ((strOfNums l0).toList == (strOfNums l1).toList))) := by rw [ha]; exact putSel_on (e := (8, 35, .bool (t158 != ((strOfNums l0).toList == (strOfNums l1).toList)))) 4 rfl rfl (hon 8 (by kernel_rfl)) rfl
                      replace ha := Aside0.mk ha
                      have HB := Aside0.mk Q_HB
                      refine value_ (w1 := w') (v := .bool (t158 != ((strOfNums l0).toList == (strOfNums l1).toList))) (by rfl) rfl ?_ ?_
                      · go_simp
                        (try simp only [i64_w])
                        try rfl
                      refine hK.out _ _ ⟨(by rw [ha.out]; exact putSel_upk 5 hb_ rfl rfl rfl), Q_HB⟩
                    refine steps_cons ?_ ?_
                    · rintro b a w' ⟨ha, Q_HB⟩ hb_ hon hoff
                      refine ⟨_, rfl, fun K hK => ?_⟩
                      have e0 : a.tmps[0]? = some (.slice A0 l0.length c0) := by rw [ha]; exact (putSel_off rfl).trans rfl
                      have e36 : a.tmps[36]? = some (.bool (t158 != ((strOfNums l0).toList == (strOfNums l1).toList))) := by rw [ha]; exact putSel_on (e := (9, 36, .bool (t158 != ((strOfNums l0).toList == (strOfNums l1).toList)))) 5 rfl rfl (hon 9 (by kernel_rfl)) rfl
                      replace ha := Aside0.mk ha
                      have HB := Aside0.mk Q_HB
                      refine value_ (w1 := w') (v := .slice A0 l0.length c0) (wanted_on rfl rfl rfl (e36.trans (by first | rfl | (simp [*]; done)))) rfl ?_ ?_
                      · go_simp
                        (try simp only [i64_w])
                        try rfl
                      refine hK.out _ _ ⟨(by rw [ha.out]; exact putSel_upk 6 hb_ rfl rfl rfl), Q_HB⟩
                    refine steps_cons ?_ ?_
                    · rintro b a w' ⟨ha, Q_HB⟩ hb_ hon hoff
                      refine ⟨_, rfl, fun K hK => ?_⟩
                      have e1 : a.tmps[1]? = some (.slice A1 l1.length c1) := by rw [ha]; exact (putSel_off rfl).trans rfl
                      have e36 : a.tmps[36]? = some (.bool (t158 != ((strOfNums l0).toList == (strOfNums l1).toList))) := by rw [ha]; exact putSel_on (e := (9, 36, .bool (t158 != ((strOfNums l0).toList == (strOfNums l1).toList)))) 5 rfl rfl (hon 9 (by kernel_rfl)) rfl
                      replace ha := Aside0.mk ha
                      have HB := Aside0.mk Q_HB
                      refine value_ (w1 := w') (v := .slice A1 l1.length c1) (wanted_on rfl rfl rfl (e36.trans (by first | rfl | (simp [*]; done)))) rfl ?_ ?_
                      · go_simp
                        (try simp only [i64_w])
                        try rfl
                      refine hK.out _ _ ⟨(by rw [ha.out]; exact putSel_upk 7 hb_ rfl rfl rfl), Q_HB⟩
                    refine steps_cons ?_ ?_
                    · rintro b a w' ⟨ha, Q_HB⟩ hb_ hon hoff
                      refine ⟨_, rfl, fun K hK => ?_⟩
                      have e37 : a.tmps[37]? = some (.slice A0 l0.length c0) := by rw [ha]; exact putSel_on (e := (10, 37, .slice A0 l0.length c0)) 6 rfl rfl (hon 10 (by kernel_rfl)) rfl
                      have e38 : a.tmps[38]? = some (.slice A1 l1.length c1) := by rw [ha]; exact putSel_on (e := (11, 38, .slice A1 l1.length c1)) 7 rfl rfl (hon 11 (by kernel_rfl)) rfl
                      have e36 : a.tmps[36]? = some (.bool (t158 != ((strOfNums l0).toList == (strOfNums l1).toList))) := by rw [ha]; exact putSel_on (e := (9, 36, .bool (t158 != ((strOfNums l0).toList == (strOfNums l1).toList)))) 5 rfl rfl (hon 9 (by kernel_rfl)) rfl
                      replace ha := Aside0.mk ha
                      have HB := Aside0.mk Q_HB
                      refine goes_ Try.func24 (by kernel_rfl) rfl #[.slice A0 l0.length c0, .slice A1 l1.length c1] (by first | rfl | (simp [Region.wanted, yielded, *]; done)) rfl rfl (by first | (simp only [List.map_toArray, List.map_cons, List.map_nil, Act.eval, Array.getD_eq_getD_getElem?, Option.getD_some, e37, e38, e36]; done) | (simp only [List.map_toArray, List.map_cons, List.map_nil, Act.eval, Array.getD_eq_getD_getElem?, Option.getD_some, e37, e38, e36]; rfl)) ?_
                      with_reducible refine (trunc_Unlike.calls kj7 _ _ l0 _ _ l1 t159 _ ?side1 ?side2 ?side3 ?side4 A21.out).mono ?_
                      (case side1 => repeat (first | exact (Kd.C_below HR0.out HB.out) | (with_reducible refine Kd.C_alloc ?_ _) | (with_reducible refine Kd.C_drewN ?_ _) | (with_reducible refine Kd.C_drew ?_)))
                      (case side2 => exact HC0.out)
                      (case side3 => repeat (first | exact (Kd.C_below HR1.out HB.out) | (with_reducible refine Kd.C_alloc ?_ _) | (with_reducible refine Kd.C_drewN ?_ _) | (with_reducible refine Kd.C_drew ?_)))
                      (case side4 => exact HC1.out)
                      rintro e w32 ⟨rfl, hb⟩
                      refine ⟨_, rfl, ?_⟩
                      have n0_ := Aside0.mk (below_step (by repeat (first | (with_reducible first | exact HB.out | apply below_alloc | apply pw_below_drewN | apply below_drew1) | exact HB.out)) hb)
                      clear HB
                      have HB := n0_
                      clear n0_
                      (try clear hb)
                      (try clear hb2)
                      (try clear hk)
                      (try clear hi)
                      refine hK.out _ _ ⟨(by rw [ha.out]; exact putSel_upk 8 hb_ rfl rfl rfl), (by repeat (first | (with_reducible first | exact HB.out | apply below_alloc | apply pw_below_drewN | apply below_drew1) | exact HB.out))⟩
                    refine steps_cons ?_ ?_
                    · rintro b a w' ⟨ha, Q_HB⟩ hb_ hon hoff
                      refine ⟨_, rfl, fun K hK => ?_⟩
                      have e1 : a.tmps[1]? = some (.slice A1 l1.length c1) := by rw [ha]; exact (putSel_off rfl).trans rfl
                      have e36 : a.tmps[36]? = some (.bool (t158 != ((strOfNums l0).toList == (strOfNums l1).toList))) := by rw [ha]; exact putSel_on (e := (9, 36, .bool (t158 != ((strOfNums l0).toList == (strOfNums l1).toList)))) 5 rfl rfl (hon 9 (by kernel_rfl)) rfl
                      replace ha := Aside0.mk ha
                      have HB := Aside0.mk Q_HB
                      refine value_ (w1 := w') (v := .slice A1 l1.length c1) (wanted_on rfl rfl rfl (e36.trans (by first | rfl | (simp [*]; done)))) rfl ?_ ?_
                      · go_simp
                        (try simp only [i64_w])
                        try rfl
                      refine hK.out _ _ ⟨(by rw [ha.out]; exact putSel_upk 9 hb_ rfl rfl rfl), Q_HB⟩
                    refine steps_cons ?_ ?_
                    · rintro b a w' ⟨ha, Q_HB⟩ hb_ hon hoff
                      refine ⟨_, rfl, fun K hK => ?_⟩
                      have e0 : a.tmps[0]? = some (.slice A0 l0.length c0) := by rw [ha]; exact (putSel_off rfl).trans rfl
                      have e36 : a.tmps[36]? = some (.bool (t158 != ((strOfNums l0).toList == (strOfNums l1).toList))) := by rw [ha]; exact putSel_on (e := (9, 36, .bool (t158 != ((strOfNums l0).toList == (strOfNums l1).toList)))) 5 rfl rfl (hon 9 (by kernel_rfl)) rfl
                      replace ha := Aside0.mk ha
                      have HB := Aside0.mk Q_HB
                      refine value_ (w1 := w') (v := .slice A0 l0.length c0) (wanted_on rfl rfl rfl (e36.trans (by first | rfl | (simp [*]; done)))) rfl ?_ ?_
                      · go_simp
                        (try simp only [i64_w])
                        try rfl
                      refine hK.out _ _ ⟨(by rw [ha.out]; exact putSel_upk 10 hb_ rfl rfl rfl), Q_HB⟩
                    refine steps_cons ?_ ?_
                    · rintro b a w' ⟨ha, Q_HB⟩ hb_ hon hoff
                      refine ⟨_, rfl, fun K hK => ?_⟩
                      have e40 : a.tmps[40]? = some (.slice A1 l1.length c1) := by rw [ha]; exact putSel_on (e := (13, 40, .slice A1 l1.length c1)) 9 rfl rfl (hon 13 (by kernel_rfl)) rfl
                      have e41 : a.tmps[41]? = some (.slice A0 l0.length c0) := by rw [ha]; exact putSel_on (e := (14, 41, .slice A0 l0.length c0)) 10 rfl rfl (hon 14 (by kernel_rfl)) rfl
                      have e36 : a.tmps[36]? = some (.bool (t158 != ((strOfNums l0).toList == (strOfNums l1).toList))) := by rw [ha]; exact putSel_on (e := (9, 36, .bool (t158 != ((strOfNums l0).toList == (strOfNums l1).toList)))) 5 rfl rfl (hon 9 (by kernel_rfl)) rfl
                      replace ha := Aside0.mk ha
                      have HB := Aside0.mk Q_HB
                      refine goes_ Try.func24 (by kernel_rfl) rfl #[.slice A1 l1.length c1, .slice A0 l0.length c0] (by first | rfl | (simp [Region.wanted, yielded, *]; done)) rfl rfl (by first | (simp only [List.map_toArray, List.map_cons, List.map_nil, Act.eval, Array.getD_eq_getD_getElem?, Option.getD_some, e40, e41, e36]; done) | (simp only [List.map_toArray, List.map_cons, List.map_nil, Act.eval, Array.getD_eq_getD_getElem?, Option.getD_some, e40, e41, e36]; rfl)) ?_
                      with_reducible refine (trunc_Unlike.calls kj7 _ _ l1 _ _ l0 t160 _ ?side1 ?side2 ?side3 ?side4 A22.out).mono ?_
                      (case side1 => repeat (first | exact (Kd.C_below HR1.out HB.out) | (with_reducible refine Kd.C_alloc ?_ _) | (with_reducible refine Kd.C_drewN ?_ _) | (with_reducible refine Kd.C_drew ?_)))
                      (case side2 => exact HC1.out)
                      (case side3 => repeat (first | exact (Kd.C_below HR0.out HB.out) | (with_reducible refine Kd.C_alloc ?_ _) | (with_reducible refine Kd.C_drewN ?_ _) | (with_reducible refine Kd.C_drew ?_)))
                      (case side4 => exact HC0.out)
                      rintro e w33 ⟨rfl, hb⟩
                      refine ⟨_, rfl, ?_⟩
                      have n0_ := Aside0.mk (below_step (by repeat (first | (with_reducible first | exact HB.out | apply below_alloc | apply pw_below_drewN | apply below_drew1) | exact HB.out)) hb)
                      clear HB
                      have HB := n0_
                      clear n0_
                      (try clear hb)
                      (try clear hb2)
                      (try clear hk)
                      (try clear hi)
                      refine hK.out _ _ ⟨(by rw [ha.out]; exact putSel_upk 11 hb_ rfl rfl rfl), (by repeat (first | (with_reducible first | exact HB.out | apply below_alloc | apply pw_below_drewN | apply below_drew1) | exact HB.out))⟩
                    refine steps_cons ?_ ?_
                    · rintro b a w' ⟨ha, Q_HB⟩ hb_ hon hoff
                      refine ⟨_, rfl, fun K hK => ?_⟩
                      have e39 : a.tmps[39]? = some (.int .i64 t159) := by rw [ha]; exact putSel_on (e := (12, 39, .int .i64 t159)) 8 rfl rfl (hon 12 (by kernel_rfl)) rfl
                      have e42 : a.tmps[42]? = some (.int .i64 t160) := by rw [ha]; exact putSel_on (e := (15, 42, .int .i64 t160)) 11 rfl rfl (hon 15 (by kernel_rfl)) rfl
                      have e36 : a.tmps[36]? = some (.bool (t158 != ((strOfNums l0).toList == (strOfNums l1).toList))) := by rw [ha]; exact putSel_on (e := (9, 36, .bool (t158 != ((strOfNums l0).toList == (strOfNums l1).toList)))) 5 rfl rfl (hon 9 (by kernel_rfl)) rfl
                      replace ha := Aside0.mk ha
                      have HB := Aside0.mk Q_HB
                      refine value_ (w1 := w') (v := .bool (t159 != t160)) (wanted_on rfl rfl rfl (e36.trans (by first | rfl | (simp [*]; done)))) rfl ?_ ?_
                      · go_simp
                        (try simp only [i64_w])
                        try rfl
                      refine hK.out _ _ ⟨(by rw [ha.out]; exact putSel_upk 12 hb_ rfl rfl rfl), Q_HB⟩
                    refine steps_cons ?_ ?_
                    · rintro b a w' ⟨ha, Q_HB⟩ hb_ hon hoff
                      refine ⟨_, rfl, fun K hK => ?_⟩
                      have e36 : a.tmps[36]? = some (.bool (t158 != ((strOfNums l0).toList == (strOfNums l1).toList))) := by rw [ha]; exact putSel_on (e := (9, 36, .bool (t158 != ((strOfNums l0).toList == (strOfNums l1).toList)))) 5 rfl rfl (hon 9 (by kernel_rfl)) rfl
                      have e43 : a.tmps[43]? = some (.bool (t159 != t160)) := by rw [ha]; exact putSel_on (e := (16, 43, .bool (t159 != t160))) 12 rfl rfl (hon 16 (by kernel_rfl)) rfl
                      replace ha := Aside0.mk ha
                      have HB := Aside0.mk Q_HB
                      refine value_ (w1 := w') (v := .bool (t159 != t160)) (by rfl) rfl ?_ ?_
                      · go_simp
                        (try simp only [i64_w])
                        try rfl
                      refine hK.out _ _ ⟨(by rw [ha.out]; exact putSel_upk 13 hb_ rfl rfl rfl), Q_HB⟩
                    refine steps_cons ?_ ?_
                    · rintro b a w' ⟨ha, Q_HB⟩ hb_ hon hoff
                      refine ⟨_, rfl, fun K hK => ?_⟩
                      have e44 : a.tmps[44]? = some (.bool (t159 != t160)) := by rw [ha]; exact putSel_on (e := (17, 44, .bool (t159 != t160))) 13 rfl rfl (hon 17 (by kernel_rfl)) rfl
                      replace ha := Aside0.mk ha
                      have HB := Aside0.mk Q_HB
                      refine value_ (w1 := w') (v := .bool (t159 != t160)) (by rfl) rfl ?_ ?_
                      · go_simp
                        (try simp only [i64_w])
                        try rfl
                      refine hK.out _ _ ⟨(by rw [ha.out]; exact putSel_upk 14 hb_ rfl rfl rfl), Q_HB⟩
                    refine steps_cons ?_ ?_
                    · rintro b a w' ⟨ha, Q_HB⟩ hb_ hon hoff
                      refine ⟨_, rfl, fun K hK => ?_⟩
                      have e0 : a.tmps[0]? = some (.slice A0 l0.length c0) := by rw [ha]; exact (putSel_off rfl).trans rfl
                      have e45 : a.tmps[45]? = some (.bool (t159 != t160)) := by rw [ha]; exact putSel_on (e := (18, 45, .bool (t159 != t160))) 14 rfl rfl (hon 18 (by kernel_rfl)) rfl
                      replace ha := Aside0.mk ha
                      have HB := Aside0.mk Q_HB
                      refine value_ (w1 := w') (v := .slice A0 l0.length c0) (wanted_on rfl rfl rfl (e45.trans (by first | rfl | (simp [*]; done)))) rfl ?_ ?_
                      · go_simp
                        (try simp only [i64_w])
                        try rfl
                      refine hK.out _ _ ⟨(by rw [ha.out]; exact putSel_upk 15 hb_ rfl rfl rfl), Q_HB⟩
                    refine steps_cons ?_ ?_
                    · rintro b a w' ⟨ha, Q_HB⟩ hb_ hon hoff
                      refine ⟨_, rfl, fun K hK => ?_⟩
                      have e1 : a.tmps[1]? = some (.slice A1 l1.length c1) := by rw [ha]; exact (putSel_off rfl).trans rfl
                      have e45 : a.tmps[45]? = some (.bool (t159 != t160)) := by rw [ha]; exact putSel_on (e := (18, 45, .bool (t159 != t160))) 14 rfl rfl (hon 18 (by kernel_rfl)) rfl
                      replace ha := Aside0.mk ha
                      have HB := Aside0.mk Q_HB
                      refine value_ (w1 := w') (v := .slice A1 l1.length c1) (wanted_on rfl rfl rfl (e45.trans (by first | rfl | (simp [*]; done)))) rfl ?_ ?_
                      · go_simp
                        (try simp only [i64_w])
                        try rfl
                      refine hK.out _ _ ⟨(by rw [ha.out]; exact putSel_upk 16 hb_ rfl rfl rfl), Q_HB⟩
                    refine steps_cons ?_ ?_
                    · rintro b a w' ⟨ha, Q_HB⟩ hb_ hon hoff
                      refine ⟨_, rfl, fun K hK => ?_⟩
                      have e46 : a.tmps[46]? = some (.slice A0 l0.length c0) := by rw [ha]; exact putSel_on (e := (19, 46, .slice A0 l0.length c0)) 15 rfl rfl (hon 19 (by kernel_rfl)) rfl
                      have e47 : a.tmps[47]? = some (.slice A1 l1.length c1) := by rw [ha]; exact putSel_on (e := (20, 47, .slice A1 l1.length c1)) 16 rfl rfl (hon 20 (by kernel_rfl)) rfl
                      have e45 : a.tmps[45]? = some (.bool (t159 != t160)) := by rw [ha]; exact putSel_on (e := (18, 45, .bool (t159 != t160))) 14 rfl rfl (hon 18 (by kernel_rfl)) rfl
                      replace ha := Aside0.mk ha
                      have HB := Aside0.mk Q_HB
                      refine goes_ Try.func24 (by kernel_rfl) rfl #[.slice A0 l0.length c0, .slice A1 l1.length c1] (by first | rfl | (simp [Region.wanted, yielded, *]; done)) rfl rfl (by first | (simp only [List.map_toArray, List.map_cons, List.map_nil, Act.eval, Array.getD_eq_getD_getElem?, Option.getD_some, e46, e47, e45]; done) | (simp only [List.map_toArray, List.map_cons, List.map_nil, Act.eval, Array.getD_eq_getD_getElem?, Option.getD_some, e46, e47, e45]; rfl)) ?_
                      with_reducible refine (trunc_Unlike.calls kj7 _ _ l0 _ _ l1 t161 _ ?side1 ?side2 ?side3 ?side4 A24.out).mono ?_
                      (case side1 => repeat (first | exact (Kd.C_below HR0.out HB.out) | (with_reducible refine Kd.C_alloc ?_ _) | (with_reducible refine Kd.C_drewN ?_ _) | (with_reducible refine Kd.C_drew ?_)))
                      (case side2 => exact HC0.out)
                      (case side3 => repeat (first | exact (Kd.C_below HR1.out HB.out) | (with_reducible refine Kd.C_alloc ?_ _) | (with_reducible refine Kd.C_drewN ?_ _) | (with_reducible refine Kd.C_drew ?_)))
                      (case side4 => exact HC1.out)
                      rintro e w34 ⟨rfl, hb⟩
                      refine ⟨_, rfl, ?_⟩
                      have n0_ := Aside0.mk (below_step (by repeat (first | (with_reducible first | exact HB.out | apply below_alloc | apply pw_below_drewN | apply below_drew1) | exact HB.out)) hb)
                      clear HB
                      have HB := n0_
                      clear n0_
                      (try clear hb)
                      (try clear hb2)
                      (try clear hk)
                      (try clear hi)
                      refine hK.out _ _ ⟨(by rw [ha.out]; exact putSel_upk 17 hb_ rfl rfl rfl), (by repeat (first | (with_reducible first | exact HB.out | apply below_alloc | apply pw_below_drewN | apply below_drew1) | exact HB.out))⟩
                    refine steps_cons ?_ ?_
                    · rintro b a w' ⟨ha, Q_HB⟩ hb_ hon hoff
                      refine ⟨_, rfl, fun K hK => ?_⟩
                      have e0 : a.tmps[0]? = some (.slice A0 l0.length c0) := by rw [ha]; exact (putSel_off rfl).trans rfl
                      have e45 : a.tmps[45]? = some (.bool (t159 != t160)) := by rw [ha]; exact putSel_on (e := (18, 45, .bool (t159 != t160))) 14 rfl rfl (hon 18 (by kernel_rfl)) rfl
                      replace ha := Aside0.mk ha
                      have HB := Aside0.mk Q_HB
                      refine value_ (w1 := w') (v := .slice A0 l0.length c0) (wanted_on rfl rfl rfl (e45.trans (by first | rfl | (simp [*]; done)))) rfl ?_ ?_
                      · go_simp
                        (try simp only [i64_w])
                        try rfl
                      refine hK.out _ _ ⟨(by rw [ha.out]; exact putSel_upk 18 hb_ rfl rfl rfl), Q_HB⟩
                    refine steps_cons ?_ ?_
                    · rintro b a w' ⟨ha, Q_HB⟩ hb_ hon hoff
                      refine ⟨_, rfl, fun K hK => ?_⟩
                      have e49 : a.tmps[49]? = some (.slice A0 l0.length c0) := by rw [ha]; exact putSel_on (e := (22, 49, .slice A0 l0.length c0)) 18 rfl rfl (hon 22 (by kernel_rfl)) rfl
                      have e45 : a.tmps[45]? = some (.bool (t159 != t160)) := by rw [ha]; exact putSel_on (e := (18, 45, .bool (t159 != t160))) 14 rfl rfl (hon 18 (by kernel_rfl)) rfl
                      replace ha := Aside0.mk ha
                      have HB := Aside0.mk Q_HB
                      refine value_ (w1 := w') (v := .int .i64 (l0.length : Int)) (wanted_on rfl rfl rfl (e45.trans (by first | rfl | (simp [*]; done)))) rfl ?_ ?_
                      · go_simp
                        (try simp only [i64_w])
                        try rfl
                      refine hK.out _ _ ⟨(by rw [ha.out]; exact putSel_upk 19 hb_ rfl rfl rfl), Q_HB⟩
                    refine steps_cons ?_ ?_
                    · rintro b a w' ⟨ha, Q_HB⟩ hb_ hon hoff
                      refine ⟨_, rfl, fun K hK => ?_⟩
                      have e1 : a.tmps[1]? = some (.slice A1 l1.length c1) := by rw [ha]; exact (putSel_off rfl).trans rfl
                      have e45 : a.tmps[45]? = some (.bool (t159 != t160)) := by rw [ha]; exact putSel_on (e := (18, 45, .bool (t159 != t160))) 14 rfl rfl (hon 18 (by kernel_rfl)) rfl
                      replace ha := Aside0.mk ha
                      have HB := Aside0.mk Q_HB
                      refine value_ (w1 := w') (v := .slice A1 l1.length c1) (wanted_on rfl rfl rfl (e45.trans (by first | rfl | (simp [*]; done)))) rfl ?_ ?_
                      · go_simp
                        (try simp only [i64_w])
                        try rfl
                      refine hK.out _ _ ⟨(by rw [ha.out]; exact putSel_upk 20 hb_ rfl rfl rfl), Q_HB⟩
                    refine steps_cons ?_ ?_
                    · rintro b a w' ⟨ha, Q_HB⟩ hb_ hon hoff
                      refine ⟨_, rfl, fun K hK => ?_⟩
                      have e51 : a.tmps[51]? = some (.slice A1 l1.length c1) := by rw [ha]; exact putSel_on (e := (24, 51, .slice A1 l1.length c1)) 20 rfl rfl (hon 24 (by kernel_rfl)) rfl
                      have e45 : a.tmps[45]? = some (.bool (t159 != t160)) := by rw [ha]; exact putSel_on (e := (18, 45, .bool (t159 != t160))) 14 rfl rfl (hon 18 (by kernel_rfl)) rfl
                      replace ha := Aside0.mk ha
                      have HB := Aside0.mk Q_HB
                      refine value_ (w1 := w') (v := .int .i64 (l1.length : Int)) (wanted_on rfl rfl rfl (e45.trans (by first | rfl | (simp [*]; done)))) rfl ?_ ?_
                      · go_simp
                        (try simp only [i64_w])
                        try rfl
                      refine hK.out _ _ ⟨(by rw [ha.out]; exact putSel_upk 21 hb_ rfl rfl rfl), Q_HB⟩
                    refine steps_cons ?_ ?_
                    · rintro b a w' ⟨ha, Q_HB⟩ hb_ hon hoff
                      refine ⟨_, rfl, fun K hK => ?_⟩
                      have e50 : a.tmps[50]? = some (.int .i64 (l0.length : Int)) := by rw [ha]; exact putSel_on (e := (23, 50, .int .i64 (l0.length : Int))) 19 rfl rfl (hon 23 (by kernel_rfl)) rfl
                      have e52 : a.tmps[52]? = some (.int .i64 (l1.length : Int)) := by rw [ha]; exact putSel_on (e := (25, 52, .int .i64 (l1.length : Int))) 21 rfl rfl (hon 25 (by kernel_rfl)) rfl
                      have e45 : a.tmps[45]? = some (.bool (t159 != t160)) := by rw [ha]; exact putSel_on (e := (18, 45, .bool (t159 != t160))) 14 rfl rfl (hon 18 (by kernel_rfl)) rfl
                      replace ha := Aside0.mk ha
                      have HB := Aside0.mk Q_HB
                      refine value_ (w1 := w') (v := .int .i64 ji25) (wanted_on rfl rfl rfl (e45.trans (by first | rfl | (simp [*]; done)))) rfl ?_ ?_
                      · go_simp
                        (try simp only [i64_w])
                        try rfl
                      refine hK.out _ _ ⟨(by rw [ha.out]; exact putSel_upk 22 hb_ rfl rfl rfl), Q_HB⟩
                    refine steps_cons ?_ ?_
                    · rintro b a w' ⟨ha, Q_HB⟩ hb_ hon hoff
                      refine ⟨_, rfl, fun K hK => ?_⟩
                      have e48 : a.tmps[48]? = some (.int .i64 t161) := by rw [ha]; exact putSel_on (e := (21, 48, .int .i64 t161)) 17 rfl rfl (hon 21 (by kernel_rfl)) rfl
                      have e53 : a.tmps[53]? = some (.int .i64 ji25) := by rw [ha]; exact putSel_on (e := (26, 53, .int .i64 ji25)) 22 rfl rfl (hon 26 (by kernel_rfl)) rfl
                      have e45 : a.tmps[45]? = some (.bool (t159 != t160)) := by rw [ha]; exact putSel_on (e := (18, 45, .bool (t159 != t160))) 14 rfl rfl (hon 18 (by kernel_rfl)) rfl
                      replace ha := Aside0.mk ha
                      have HB := Aside0.mk Q_HB
                      refine value_ (w1 := w') (v := .bool (decide (t161 > (ji25)))) (wanted_on rfl rfl rfl (e45.trans (by first | rfl | (simp [*]; done)))) rfl ?_ ?_
                      · go_simp
                        (try simp only [i64_w])
                        try rfl
                      refine hK.out _ _ ⟨(by rw [ha.out]; exact putSel_upk 23 hb_ rfl rfl rfl), Q_HB⟩
                    refine steps_cons ?_ ?_
                    · rintro b a w' ⟨ha, Q_HB⟩ hb_ hon hoff
                      refine ⟨_, rfl, fun K hK => ?_⟩
                      have e45 : a.tmps[45]? = some (.bool (t159 != t160)) := by rw [ha]; exact putSel_on (e := (18, 45, .bool (t159 != t160))) 14 rfl rfl (hon 18 (by kernel_rfl)) rfl
                      have e54 : a.tmps[54]? = some (.bool (decide (t161 > (ji25)))) := by rw [ha]; exact putSel_on (e := (27, 54, .bool (decide (t161 > (ji25))))) 23 rfl rfl (hon 27 (by kernel_rfl)) rfl
                      replace ha := Aside0.mk ha
                      have HB := Aside0.mk Q_HB
                      refine value_ (w1 := w') (v := .bool (decide (t161 > (ji25)))) (by rfl) rfl ?_ ?_
                      · go_simp
                        (try simp only [i64_w])
                        try rfl
                      refine hK.out _ _ ⟨(by rw [ha.out]; exact putSel_upk 24 hb_ rfl rfl rfl), Q_HB⟩
                    refine steps_cons ?_ ?_
                    · rintro b a w' ⟨ha, Q_HB⟩ hb_ hon hoff
                      refine ⟨_, rfl, fun K hK => ?_⟩
                      have e55 : a.tmps[55]? = some (.bool (decide (t161 > (ji25)))) := by rw [ha]; exact putSel_on (e := (28, 55, .bool (decide (t161 > (ji25))))) 24 rfl rfl (hon 28 (by kernel_rfl)) rfl
                      replace ha := Aside0.mk ha
                      have HB := Aside0.mk Q_HB
                      refine value_ (w1 := w') (v := .bool (decide (t161 > (ji25)))) (by rfl) rfl ?_ ?_
                      · go_simp
                        (try simp only [i64_w])
                        try rfl
                      refine hK.out _ _ ⟨(by rw [ha.out]; exact putSel_upk 25 hb_ rfl rfl rfl), Q_HB⟩
                    refine steps_cons ?_ ?_
                    · rintro b a w' ⟨ha, Q_HB⟩ hb_ hon hoff
                      refine ⟨_, rfl, fun K hK => ?_⟩
                      have e56 : a.tmps[56]? = some (.bool (decide (t161 > (ji25)))) := by rw [ha]; exact putSel_on (e := (29, 56, .bool (decide (t161 > (ji25))))) 25 rfl rfl (hon 29 (by kernel_rfl)) rfl
                      replace ha := Aside0.mk ha
                      have HB := Aside0.mk Q_HB
                      refine off_ (wanted_off rfl rfl rfl (e56.trans (by first | rfl | (simp [*]; done)))) ?_
                      refine hK.out _ _ ⟨(by rw [ha.out]; exact putSel_upk 26 hb_ rfl rfl rfl), Q_HB⟩
                    refine steps_cons ?_ ?_
                    · rintro b a w' ⟨ha, Q_HB⟩ hb_ hon hoff
                      refine ⟨_, rfl, fun K hK => ?_⟩
                      have e56 : a.tmps[56]? = some (.bool (decide (t161 > (ji25)))) := by rw [ha]; exact putSel_on (e := (29, 56, .bool (decide (t161 > (ji25))))) 25 rfl rfl (hon 29 (by kernel_rfl)) rfl
                      replace ha := Aside0.mk ha
                      have HB := Aside0.mk Q_HB
                      refine off_ (wanted_off rfl rfl rfl (e56.trans (by first | rfl | (simp [*]; done)))) ?_
                      refine hK.out _ _ ⟨(by rw [ha.out]; exact putSel_upk 27 hb_ rfl rfl rfl), Q_HB⟩
                    refine steps_cons ?_ ?_
                    · rintro b a w' ⟨ha, Q_HB⟩ hb_ hon hoff
                      refine ⟨_, rfl, fun K hK => ?_⟩
                      have e56 : a.tmps[56]? = some (.bool (decide (t161 > (ji25)))) := by rw [ha]; exact putSel_on (e := (29, 56, .bool (decide (t161 > (ji25))))) 25 rfl rfl (hon 29 (by kernel_rfl)) rfl
                      replace ha := Aside0.mk ha
                      have HB := Aside0.mk Q_HB
                      refine off_ (wanted_off rfl rfl rfl (e56.trans (by first | rfl | (simp [*]; done)))) ?_
                      refine hK.out _ _ ⟨(by rw [ha.out]; exact putSel_upk 28 hb_ rfl rfl rfl), Q_HB⟩
                    refine steps_cons ?_ ?_
                    · rintro b a w' ⟨ha, Q_HB⟩ hb_ hon hoff
                      refine ⟨_, rfl, fun K hK => ?_⟩
                      have e56 : a.tmps[56]? = some (.bool (decide (t161 > (ji25)))) := by rw [ha]; exact putSel_on (e := (29, 56, .bool (decide (t161 > (ji25))))) 25 rfl rfl (hon 29 (by kernel_rfl)) rfl
                      replace ha := Aside0.mk ha
                      have HB := Aside0.mk Q_HB
                      refine off_ (wanted_off rfl rfl rfl (e56.trans (by first | rfl | (simp [*]; done)))) ?_
                      refine hK.out _ _ ⟨(by rw [ha.out]; exact putSel_upk 29 hb_ rfl rfl rfl), Q_HB⟩
                    refine steps_cons ?_ ?_
                    · rintro b a w' ⟨ha, Q_HB⟩ hb_ hon hoff
                      refine ⟨_, rfl, fun K hK => ?_⟩
                      have e56 : a.tmps[56]? = some (.bool (decide (t161 > (ji25)))) := by rw [ha]; exact putSel_on (e := (29, 56, .bool (decide (t161 > (ji25))))) 25 rfl rfl (hon 29 (by kernel_rfl)) rfl
                      replace ha := Aside0.mk ha
                      have HB := Aside0.mk Q_HB
                      refine off_ (wanted_off rfl rfl rfl (e56.trans (by first | rfl | (simp [*]; done)))) ?_
                      refine hK.out _ _ ⟨(by rw [ha.out]; exact putSel_upk 30 hb_ rfl rfl rfl), Q_HB⟩
                    refine steps_cons ?_ ?_
                    · rintro b a w' ⟨ha, Q_HB⟩ hb_ hon hoff
                      refine ⟨_, rfl, fun K hK => ?_⟩
                      have e56 : a.tmps[56]? = some (.bool (decide (t161 > (ji25)))) := by rw [ha]; exact putSel_on (e := (29, 56, .bool (decide (t161 > (ji25))))) 25 rfl rfl (hon 29 (by kernel_rfl)) rfl
                      replace ha := Aside0.mk ha
                      have HB := Aside0.mk Q_HB
                      refine off_ (wanted_off rfl rfl rfl (e56.trans (by first | rfl | (simp [*]; done)))) ?_
                      refine hK.out _ _ ⟨(by rw [ha.out]; exact putSel_upk 31 hb_ rfl rfl rfl), Q_HB⟩
                    refine steps_cons ?_ ?_
                    · rintro b a w' ⟨ha, Q_HB⟩ hb_ hon hoff
                      refine ⟨_, rfl, fun K hK => ?_⟩
                      have e56 : a.tmps[56]? = some (.bool (decide (t161 > (ji25)))) := by rw [ha]; exact putSel_on (e := (29, 56, .bool (decide (t161 > (ji25))))) 25 rfl rfl (hon 29 (by kernel_rfl)) rfl
                      replace ha := Aside0.mk ha
                      have HB := Aside0.mk Q_HB
                      refine off_ (wanted_off rfl rfl rfl (e56.trans (by first | rfl | (simp [*]; done)))) ?_
                      refine hK.out _ _ ⟨(by rw [ha.out]; exact putSel_upk 32 hb_ rfl rfl rfl), Q_HB⟩
                    refine steps_cons ?_ ?_
                    · rintro b a w' ⟨ha, Q_HB⟩ hb_ hon hoff
                      refine ⟨_, rfl, fun K hK => ?_⟩
                      have e56 : a.tmps[56]? = some (.bool (decide (t161 > (ji25)))) := by rw [ha]; exact putSel_on (e := (29, 56, .bool (decide (t161 > (ji25))))) 25 rfl rfl (hon 29 (by kernel_rfl)) rfl
                      replace ha := Aside0.mk ha
                      have HB := Aside0.mk Q_HB
                      refine off_ (wanted_off rfl rfl rfl (e56.trans (by first | rfl | (simp [*]; done)))) ?_
                      refine hK.out _ _ ⟨(by rw [ha.out]; exact putSel_upk 33 hb_ rfl rfl rfl), Q_HB⟩
                    refine steps_cons ?_ ?_
                    · rintro b a w' ⟨ha, Q_HB⟩ hb_ hon hoff
                      refine ⟨_, rfl, fun K hK => ?_⟩
                      have e56 : a.tmps[56]? = some (.bool (decide (t161 > (ji25)))) := by rw [ha]; exact putSel_on (e := (29, 56, .bool (decide (t161 > (ji25))))) 25 rfl rfl (hon 29 (by kernel_rfl)) rfl
                      replace ha := Aside0.mk ha
                      have HB := Aside0.mk Q_HB
                      refine off_ (wanted_off rfl rfl rfl (e56.trans (by first | rfl | (simp [*]; done)))) ?_
                      refine hK.out _ _ ⟨(by rw [ha.out]; exact putSel_upk 34 hb_ rfl rfl rfl), Q_HB⟩
                    refine steps_cons ?_ ?_
                    · rintro b a w' ⟨ha, Q_HB⟩ hb_ hon hoff
                      refine ⟨_, rfl, fun K hK => ?_⟩
                      have e56 : a.tmps[56]? = some (.bool (decide (t161 > (ji25)))) := by rw [ha]; exact putSel_on (e := (29, 56, .bool (decide (t161 > (ji25))))) 25 rfl rfl (hon 29 (by kernel_rfl)) rfl
                      replace ha := Aside0.mk ha
                      have HB := Aside0.mk Q_HB
                      refine off_ (wanted_off rfl rfl rfl (e56.trans (by first | rfl | (simp [*]; done)))) ?_
                      refine hK.out _ _ ⟨(by rw [ha.out]; exact putSel_upk 35 hb_ rfl rfl rfl), Q_HB⟩
                    refine steps_cons ?_ ?_
                    · rintro b a w' ⟨ha, Q_HB⟩ hb_ hon hoff
                      refine ⟨_, rfl, fun K hK => ?_⟩
                      have e56 : a.tmps[56]? = some (.bool (decide (t161 > (ji25)))) := by rw [ha]; exact putSel_on (e := (29, 56, .bool (decide (t161 > (ji25))))) 25 rfl rfl (hon 29 (by kernel_rfl)) rfl
                      replace ha := Aside0.mk ha
                      have HB := Aside0.mk Q_HB
                      refine off_ (wanted_off rfl rfl rfl (e56.trans (by first | rfl | (simp [*]; done)))) ?_
                      refine hK.out _ _ ⟨(by rw [ha.out]; exact putSel_upk 36 hb_ rfl rfl rfl), Q_HB⟩
                    refine steps_cons ?_ ?_
                    · rintro b a w' ⟨ha, Q_HB⟩ hb_ hon hoff
                      refine ⟨_, rfl, fun K hK => ?_⟩
                      have e56 : a.tmps[56]? = some (.bool (decide (t161 > (ji25)))) := by rw [ha]; exact putSel_on (e := (29, 56, .bool (decide (t161 > (ji25))))) 25 rfl rfl (hon 29 (by kernel_rfl)) rfl
                      have e67 : a.tmps[67]? = some (undef) := by rw [ha]; exact putSel_on (e := (40, 67, undef)) 36 rfl rfl (hon 40 (by kernel_rfl)) rfl
                      replace ha := Aside0.mk ha
                      have HB := Aside0.mk Q_HB
                      refine value_ (w1 := w') (v := .bool true) (by rfl) rfl ?_ ?_
                      · go_simp
                        (try simp only [i64_w])
                        try rfl
                      refine hK.out _ _ ⟨(by rw [ha.out]; exact putSel_upk 37 hb_ rfl rfl rfl), Q_HB⟩
                    exact steps_nil
                  rintro b a w34 hall ⟨ha, Q_HB⟩
                  clear HB
                  have hb2_ := hall 2 (by kernel_rfl)
                  have hb4_ := hall 4 (by kernel_rfl)
                  have hb6_ := hall 6 (by kernel_rfl)
                  have hb7_ := hall 7 (by kernel_rfl)
                  have hb8_ := hall 8 (by kernel_rfl)
                  have hb9_ := hall 9 (by kernel_rfl)
                  have hb10_ := hall 10 (by kernel_rfl)
                  have hb11_ := hall 11 (by kernel_rfl)
                  have hb12_ := hall 12 (by kernel_rfl)
                  have hb13_ := hall 13 (by kernel_rfl)
                  have hb14_ := hall 14 (by kernel_rfl)
                  have hb15_ := hall 15 (by kernel_rfl)
                  have hb16_ := hall 16 (by kernel_rfl)
                  have hb17_ := hall 17 (by kernel_rfl)
                  have hb18_ := hall 18 (by kernel_rfl)
                  have hb19_ := hall 19 (by kernel_rfl)
                  have hb20_ := hall 20 (by kernel_rfl)
                  have hb21_ := hall 21 (by kernel_rfl)
                  have hb22_ := hall 22 (by kernel_rfl)
                  have hb23_ := hall 23 (by kernel_rfl)
                  have hb24_ := hall 24 (by kernel_rfl)
                  have hb25_ := hall 25 (by kernel_rfl)
                  have hb26_ := hall 26 (by kernel_rfl)
                  have hb27_ := hall 27 (by kernel_rfl)
                  have hb28_ := hall 28 (by kernel_rfl)
                  have hb29_ := hall 29 (by kernel_rfl)
                  have hb30_ := hall 30 (by kernel_rfl)
                  have hb31_ := hall 31 (by kernel_rfl)
                  have hb32_ := hall 32 (by kernel_rfl)
                  have hb33_ := hall 33 (by kernel_rfl)
                  have hb34_ := hall 34 (by kernel_rfl)
                  have hb35_ := hall 35 (by kernel_rfl)
                  have hb36_ := hall 36 (by kernel_rfl)
                  have hb37_ := hall 37 (by kernel_rfl)
                  have hb38_ := hall 38 (by kernel_rfl)
                  have hb39_ := hall 39 (by kernel_rfl)
                  have hb40_ := hall 40 (by kernel_rfl)
                  have hb41_ := hall 41 (by kernel_rfl)
                  subst ha
                  simp only [putSel, hb2_, hb4_, hb6_, hb7_, hb8_, hb9_, hb10_, hb11_, hb12_, hb13_, hb14_, hb15_, hb16_, hb17_, hb18_, hb19_, hb20_, hb21_, hb22_, hb23_, hb24_, hb25_, hb26_, hb27_, hb28_, hb29_, hb30_, hb31_, hb32_, hb33_, hb34_, hb35_, hb36_, hb37_, hb38_, hb39_, hb40_, hb41_, if_true, Act.put, List.setIfInBounds_toArray, List.set_cons_zero, List.set_cons_succ]
                  have HB := Aside0.mk Q_HB
                  clear Q_HB
                  clear hall hb2_ hb4_ hb6_ hb7_ hb8_ hb9_ hb10_ hb11_ hb12_ hb13_ hb14_ hb15_ hb16_ hb17_ hb18_ hb19_ hb20_ hb21_ hb22_ hb23_ hb24_ hb25_ hb26_ hb27_ hb28_ hb29_ hb30_ hb31_ hb32_ hb33_ hb34_ hb35_ hb36_ hb37_ hb38_ hb39_ hb40_ hb41_
                  try go_wp2
                  go_meet
                  case rel => exact ⟨_, (true), (by first | rfl | (simp; done) | (simp [*]; done)), H', ⟨by have := HJ7.out; first | omega | exact Nat.le_refl _⟩, ⟨by repeat (first | (with_reducible first | exact HB.out | apply below_alloc | apply pw_below_drewN | apply below_drew1) | exact HB.out)⟩⟩
                · rw [if_neg c26] at H
                  have c26b0 : decide ((ji25) < t161) = false := decide_eq_false c26
                  clear c26
                  replace H := Option.bind_eq_some_iff.mp H
                  obtain ⟨t162, A350, H⟩ := H
                  replace H : ((trunc_Unlike.f kj7 l0 l1).bind fun t163 => ((trunc_Unlike.f kj7 l1 l2).bind fun t164 => (wristbandlaw04_TruncSame.j1 kj7 l0 a3 a4 (decide (t162 > (wrap64 (t163 + t164))))))) = some r := H
                  have A35 := Aside0.mk A350
                  clear A350
                  replace H := Option.bind_eq_some_iff.mp H
                  obtain ⟨t163, A360, H⟩ := H
                  replace H : ((trunc_Unlike.f kj7 l1 l2).bind fun t164 => (wristbandlaw04_TruncSame.j1 kj7 l0 a3 a4 (decide (t162 > (wrap64 (t163 + t164)))))) = some r := H
                  have A36 := Aside0.mk A360
                  clear A360
                  replace H := Option.bind_eq_some_iff.mp H
                  obtain ⟨t164, A370, H⟩ := H
                  replace H : (wristbandlaw04_TruncSame.j1 kj7 l0 a3 a4 (decide (t162 > (wrap64 (t163 + t164))))) = some r := H
                  have A37 := Aside0.mk A370
                  clear A370
                  have H' := Aside0.mk H
                  clear H
                  try go_wp2
                  have n0_ := Aside0.mk (below_drew1 HB.out)
                  clear HB
                  have HB := n0_
                  clear n0_
                  refine start_ (n := 42) (S := fun w' => True) (ds := []) #[false, false, false, false, false, false, false, false, false, false, false, false, false, false, false, false, false, false, false, false, false, false, false, false, false, false, false, false, false, false, false, false, false, false, false, false, false, false, false, false, false, false] (by kernel_rfl) rfl rfl trivial (fun hHeld => ?_); refine with_tabW wristbandlaw04_TruncSame.tab5 wristbandlaw04_TruncSame.bits5 (fun HT_ HW_ => ?_)
                  generalize wc.drew = w38 at HB hHeld ⊢
                  refine pure_ (i := 0) (N := some 27) (v := ?_) (a' := ?_) #[true, false, false, false, false, false, false, false, false, false, false, false, false, false, false, false, false, false, false, false, false, false, false, false, false, false, false, false, false, false, false, false, false, false, false, false, false, false, false, false, false, false] rfl rfl (any_of HT_.out (by kernel_rfl)) (fun _ _ _ h => h) (Or.inl ⟨by rfl, ?_⟩) ?_ ?_
                  rotate_left
                  · intro w'
                    go_simp
                    with_reducible rfl
                  rotate_left
                  · simp only [Act.put, List.setIfInBounds_toArray, List.set_cons_zero, List.set_cons_succ, i64_w, i32_w]
                    rfl
                  refine pure_ (i := 1) (N := some 28) (v := ?_) (a' := ?_) #[true, true, false, false, false, false, false, false, false, false, false, false, false, false, false, false, false, false, false, false, false, false, false, false, false, false, false, false, false, false, false, false, false, false, false, false, false, false, false, false, false, false] rfl rfl (any_of HT_.out (by kernel_rfl)) (fun _ _ _ h => h) (Or.inl ⟨by rfl, ?_⟩) ?_ ?_
                  rotate_left
                  · intro w'
                    go_simp
                    with_reducible rfl
                  rotate_left
                  · simp only [Act.put, List.setIfInBounds_toArray, List.set_cons_zero, List.set_cons_succ, i64_w, i32_w]
                    rfl
                  refine pure_ (i := 3) (N := some 30) (v := ?_) (a' := ?_) #[true, true, false, true, false, false, false, false, false, false, false, false, false, false, false, false, false, false, false, false, false, false, false, false, false, false, false, false, false, false, false, false, false, false, false, false, false, false, false, false, false, false] rfl rfl (any_of HT_.out (by kernel_rfl)) (fun _ _ _ h => h) (Or.inl ⟨by rfl, ?_⟩) ?_ ?_
                  rotate_left
                  · intro w'
                    go_simp
                    with_reducible rfl
                  rotate_left
                  · simp only [Act.put, List.setIfInBounds_toArray, List.set_cons_zero, List.set_cons_succ, i64_w, i32_w]
                    rfl
                  refine pure_ (i := 5) (N := some 32) (v := ?_) (a' := ?_) #[true, true, false, true, false, true, false, false, false, false, false, false, false, false, false, false, false, false, false, false, false, false, false, false, false, false, false, false, false, false, false, false, false, false, false, false, false, false, false, false, false, false] rfl rfl (any_of HT_.out (by kernel_rfl)) (fun _ _ _ h => h) (Or.inl ⟨by rfl, ?_⟩) ?_ ?_
                  rotate_left
                  · intro w'
                    go_simp
                    with_reducible rfl
                  rotate_left
                  · simp only [Act.put, List.setIfInBounds_toArray, List.set_cons_zero, List.set_cons_succ, i64_w, i32_w]
                    rfl
                  refine inv_at [2, 4, 6, 7, 8, 9, 10, 11, 12, 13, 14, 15, 16, 17, 18, 19, 20, 21, 22, 23, 24, 25, 26, 27, 28, 29, 30, 31, 32, 33, 34, 35, 36, 37, 38, 39, 40, 41] (fun a0_ b a w' => a = putSel a0_ b [(2, 29, .bool t158), (4, 31, .string (strOfNums l0)), (6, 33, .string (strOfNums l1)), (7, 34, .bool ((strOfNums l0).toList == (strOfNums l1).toList)), (8, 35, .bool (t158 != ((strOfNums l0).toList == (strOfNums l1).toList))), (9, 36, .bool (t158 != ((strOfNums l0).toList == (strOfNums l1).toList))), (10, 37, .slice A0 l0.length c0), (11, 38, .slice A1 l1.length c1), (12, 39, .int .i64 t159), (13, 40, .slice A1 l1.length c1), (14, 41, .slice A0 l0.length c0), (15, 42, .int .i64 t160), (16, 43, .bool (t159 != t160)), (17, 44, .bool (t159 != t160)), (18, 45, .bool (t159 != t160)), (19, 46, .slice A0 l0.length c0), (20, 47, .slice A1 l1.length c1), (21, 48, .int .i64 t161), (22, 49, .slice A0 l0.length c0), (23, 50, .int .i64 (l0.length : Int)), (24, 51, .slice A1 l1.length c1), (25, 52, .int .i64 (l1.length : Int)), (26, 53, .int .i64 ji25), (27, 54, .bool (decide (t161 > (ji25)))), (28, 55, .bool (decide (t161 > (ji25)))), (29, 56, .bool (decide (t161 > (ji25)))), (30, 57, .slice A0 l0.length c0), (31, 58, .slice A2 l2.length c2), (32, 59, .int .i64 t162), (33, 60, .slice A0 l0.length c0), (34, 61, .slice A1 l1.length c1), (35, 62, .int .i64 t163), (36, 63, .slice A1 l1.length c1), (37, 64, .slice A2 l2.length c2), (38, 65, .int .i64 t164), (39, 66, .int .i64 (wrap64 (t163 + t164))), (40, 67, .bool (decide (t162 > (wrap64 (t163 + t164))))), (41, 68, .bool (decide (t162 > (wrap64 (t163 + t164)))))] ∧ (Below w.heap.size w w')) HT_.out HW_.out (by kernel_rfl) (by kernel_rfl) ?_ ?_ ?_
                  · exact ⟨by simp only [putSel, Bool.false_eq_true, if_false], HB.out⟩
                  · skip
                    clear HB
                    refine steps_cons ?_ ?_
                    · rintro b a w' ⟨ha, Q_HB⟩ hb_ hon hoff
                      refine ⟨_, rfl, fun K hK => ?_⟩
                      have e27 : a.tmps[27]? = some (.slice A0 l0.length c0) := by rw [ha]; exact (putSel_off rfl).trans rfl
                      have e28 : a.tmps[28]? = some (.slice A1 l1.length c1) := by rw [ha]; exact (putSel_off rfl).trans rfl
                      replace ha := Aside0.mk ha
                      have HB := Aside0.mk Q_HB
                      refine goes_ Try.func25 (by kernel_rfl) rfl #[.slice A0 l0.length c0, .slice A1 l1.length c1] (by first | rfl | (simp [Region.wanted, yielded, *]; done)) rfl rfl (by first | (simp only [List.map_toArray, List.map_cons, List.map_nil, Act.eval, Array.getD_eq_getD_getElem?, Option.getD_some, e27, e28]; done) | (simp only [List.map_toArray, List.map_cons, List.map_nil, Act.eval, Array.getD_eq_getD_getElem?, Option.getD_some, e27, e28]; rfl)) ?_
                      with_reducible refine (trunc_Same.calls kj7 _ _ l0 _ _ l1 t158 _ ?side1 ?side2 ?side3 ?side4 A14.out).mono ?_
                      (case side1 => repeat (first | exact (Kd.C_below HR0.out HB.out) | (with_reducible refine Kd.C_alloc ?_ _) | (with_reducible refine Kd.C_drewN ?_ _) | (with_reducible refine Kd.C_drew ?_)))
                      (case side2 => exact HC0.out)
                      (case side3 => repeat (first | exact (Kd.C_below HR1.out HB.out) | (with_reducible refine Kd.C_alloc ?_ _) | (with_reducible refine Kd.C_drewN ?_ _) | (with_reducible refine Kd.C_drew ?_)))
                      (case side4 => exact HC1.out)
                      rintro e w39 ⟨rfl, hb⟩
                      refine ⟨_, rfl, ?_⟩
                      have n0_ := Aside0.mk (below_step (by repeat (first | (with_reducible first | exact HB.out | apply below_alloc | apply pw_below_drewN | apply below_drew1) | exact HB.out)) hb)
                      clear HB
                      have HB := n0_
                      clear n0_
                      (try clear hb)
                      (try clear hb2)
                      (try clear hk)
                      (try clear hi)
                      refine hK.out _ _ ⟨(by rw [ha.out]; exact putSel_upk 0 hb_ rfl rfl rfl), (by repeat (first | (with_reducible first | exact HB.out | apply below_alloc | apply pw_below_drewN | apply below_drew1) | exact HB.out))⟩
                    refine steps_cons ?_ ?_
                    · rintro b a w' ⟨ha, Q_HB⟩ hb_ hon hoff
                      refine ⟨_, rfl, fun K hK => ?_⟩
                      have e30 : a.tmps[30]? = some (.slice A0 l0.length c0) := by rw [ha]; exact (putSel_off rfl).trans rfl
                      replace ha := Aside0.mk ha
                      have HB := Aside0.mk Q_HB
                      refine str_step (src := 22) (dst := 9) (x := .tmp 30) ?hw ?ho ?hx (Kd.C_string (P := Try.prog) (A := A0) (c := c0) Try.underlying22 Try.underlying5 Try.underlying9 (Kd.C_below HR0.out HB.out)) ?_
                      case ho => rfl
                      case hw => first | rfl | (simp [Region.wanted, yielded, *]; done)
                      case hx => first | rfl | (simp only [Act.eval, Array.getD_eq_getD_getElem?, Option.getD_some, e30]; done)
                      intro w39 hb
                      have n0_ := Aside0.mk (below_step (by repeat (first | (with_reducible first | exact HB.out | apply below_alloc | apply pw_below_drewN | apply below_drew1) | exact HB.out)) hb)
                      clear HB
                      have HB := n0_
                      clear n0_
                      (try clear hb)
                      refine hK.out _ _ ⟨(by rw [ha.out]; exact putSel_upk 1 hb_ rfl rfl rfl), (by repeat (first | (with_reducible first | exact HB.out | apply below_alloc | apply pw_below_drewN | apply below_drew1) | exact HB.out))⟩
                    refine steps_cons ?_ ?_
                    · rintro b a w' ⟨ha, Q_HB⟩ hb_ hon hoff
                      refine ⟨_, rfl, fun K hK => ?_⟩
                      have e32 : a.tmps[32]? = some (.slice A1 l1.length c1) := by rw [ha]; exact (putSel_off rfl).trans rfl
                      replace ha := Aside0.mk ha
                      have HB := Aside0.mk Q_HB
                      refine str_step (src := 22) (dst := 9) (x := .tmp 32) ?hw ?ho ?hx (Kd.C_string (P := Try.prog) (A := A1) (c := c1) Try.underlying22 Try.underlying5 Try.underlying9 (Kd.C_below HR1.out HB.out)) ?_
                      case ho => rfl
                      case hw => first | rfl | (simp [Region.wanted, yielded, *]; done)
                      case hx => first | rfl | (simp only [Act.eval, Array.getD_eq_getD_getElem?, Option.getD_some, e32]; done)
                      intro w39 hb
                      have n0_ := Aside0.mk (below_step (by repeat (first | (with_reducible first | exact HB.out | apply below_alloc | apply pw_below_drewN | apply below_drew1) | exact HB.out)) hb)
                      clear HB
                      have HB := n0_
                      clear n0_
                      (try clear hb)
                      refine hK.out _ _ ⟨(by rw [ha.out]; exact putSel_upk 2 hb_ rfl rfl rfl), (by repeat (first | (with_reducible first | exact HB.out | apply below_alloc | apply pw_below_drewN | apply below_drew1) | exact HB.out))⟩
                    refine steps_cons ?_ ?_
                    · rintro b a w' ⟨ha, Q_HB⟩ hb_ hon hoff
                      refine ⟨_, rfl, fun K hK => ?_⟩
                      have e31 : a.tmps[31]? = some (.string (strOfNums l0)) := by rw [ha]; exact putSel_on (e := (4, 31, .string (strOfNums l0))) 1 rfl rfl (hon 4 (by kernel_rfl)) rfl
                      have e33 : a.tmps[33]? = some (.string (strOfNums l1)) := by rw [ha]; exact putSel_on (e := (6, 33, .string (strOfNums l1))) 2 rfl rfl (hon 6 (by kernel_rfl)) rfl
                      replace ha := Aside0.mk ha
                      have HB := Aside0.mk Q_HB
                      refine value_ (w1 := w') (v := .bool ((strOfNums l0).toList == (strOfNums l1).toList)) (by rfl) rfl ?_ ?_
                      · go_simp
                        (try simp only [i64_w])
                        try rfl
                      refine hK.out _ _ ⟨(by rw [ha.out]; exact putSel_upk 3 hb_ rfl rfl rfl), Q_HB⟩
                    refine steps_cons ?_ ?_
                    · rintro b a w' ⟨ha, Q_HB⟩ hb_ hon hoff
                      refine ⟨_, rfl, fun K hK => ?_⟩
                      have e29 : a.tmps[29]? = some (.bool t158) := by rw [ha]; exact putSel_on (e := (2, 29, .bool t158)) 0 rfl rfl (hon 2 (by kernel_rfl)) rfl
                      have e34 : a.tmps[34]? = some (.bool ((strOfNums l0).toList == (strOfNums l1).toList)) := by rw [ha]; exact putSel_on (e := (7, 34, .bool ((strOfNums l0).toList == (strOfNums l1).toList))) 3 rfl rfl (hon 7 (by kernel_rfl)) rfl
                      replace ha := Aside0.mk ha
                      have HB := Aside0.mk Q_HB
                      refine value_ (w1 := w') (v := .bool (t158 != ((strOfNums l0).toList == (strOfNums l1).toList))) (by rfl) rfl ?_ ?_
                      · go_simp
                        (try simp only [i64_w])
                        try rfl
                      refine hK.out _ _ ⟨(by rw [ha.out]; exact putSel_upk 4 hb_ rfl rfl rfl), Q_HB⟩
                    refine steps_cons ?_ ?_
                    · rintro b a w' ⟨ha, Q_HB⟩ hb_ hon hoff
                      refine ⟨_, rfl, fun K hK => ?_⟩
                      have e35 : a.tmps[35]? = some (.bool (t158 != ((strOfNums l0).toList == (strOfNums l1).toList))) := by rw [ha]; exact putSel_on (e := (8, 35, .bool (t158 != ((strOfNums l0).toList == (strOfNums l1).toList)))) 4 rfl rfl (hon 8 (by kernel_rfl)) rfl
                      replace ha := Aside0.mk ha
                      have HB := Aside0.mk Q_HB
                      refine value_ (w1 := w') (v := .bool (t158 != ((strOfNums l0).toList == (strOfNums l1).toList))) (by rfl) rfl ?_ ?_
                      · go_simp
                        (try simp only [i64_w])
                        try rfl
                      refine hK.out _ _ ⟨(by rw [ha.out]; exact putSel_upk 5 hb_ rfl rfl rfl), Q_HB⟩
                    refine steps_cons ?_ ?_
                    · rintro b a w' ⟨ha, Q_HB⟩ hb_ hon hoff
                      refine ⟨_, rfl, fun K hK => ?_⟩
                      have e0 : a.tmps[0]? = some (.slice A0 l0.length c0) := by rw [ha]; exact (putSel_off rfl).trans rfl
                      have e36 : a.tmps[36]? = some (.bool (t158 != ((strOfNums l0).toList == (strOfNums l1).toList))) := by rw [ha]; exact putSel_on (e := (9, 36, .bool (t158 != ((strOfNums l0).toList == (strOfNums l1).toList)))) 5 rfl rfl (hon 9 (by kernel_rfl)) rfl
                      replace ha := Aside0.mk ha
                      have HB := Aside0.mk Q_HB
                      refine value_ (w1 := w') (v := .slice A0 l0.length c0) (wanted_on rfl rfl rfl (e36.trans (by first | rfl | (simp [*]; done)))) rfl ?_ ?_
                      · go_simp
                        (try simp only [i64_w])
                        try rfl
                      refine hK.out _ _ ⟨(by rw [ha.out]; exact putSel_upk 6 hb_ rfl rfl rfl), Q_HB⟩
                    refine steps_cons ?_ ?_
                    · rintro b a w' ⟨ha, Q_HB⟩ hb_ hon hoff
                      refine ⟨_, rfl, fun K hK => ?_⟩
                      have e1 : a.tmps[1]? = some (.slice A1 l1.length c1) := by rw [ha]; exact (putSel_off rfl).trans rfl
                      have e36 : a.tmps[36]? = some (.bool (t158 != ((strOfNums l0).toList == (strOfNums l1).toList))) := by rw [ha]; exact putSel_on (e := (9, 36, .bool (t158 != ((strOfNums l0).toList == (strOfNums l1).toList)))) 5 rfl rfl (hon 9 (by kernel_rfl)) rfl
                      replace ha := Aside0.mk ha
                      have HB := Aside0.mk Q_HB
                      refine value_ (w1 := w') (v := .slice A1 l1.length c1) (wanted_on rfl rfl rfl (e36.trans (by first | rfl | (simp [*]; done)))) rfl ?_ ?_
                      · go_simp
                        (try simp only [i64_w])
                        try rfl
                      refine hK.out _ _ ⟨(by rw [ha.out]; exact putSel_upk 7 hb_ rfl rfl rfl), Q_HB⟩
                    refine steps_cons ?_ ?_
                    · rintro b a w' ⟨ha, Q_HB⟩ hb_ hon hoff
                      refine ⟨_, rfl, fun K hK => ?_⟩
                      have e37 : a.tmps[37]? = some (.slice A0 l0.length c0) := by rw [ha]; exact putSel_on (e := (10, 37, .slice A0 l0.length c0)) 6 rfl rfl (hon 10 (by kernel_rfl)) rfl
                      have e38 : a.tmps[38]? = some (.slice A1 l1.length c1) := by rw [ha]; exact putSel_on (e := (11, 38, .slice A1 l1.length c1)) 7 rfl rfl (hon 11 (by kernel_rfl)) rfl
                      have e36 : a.tmps[36]? = some (.bool (t158 != ((strOfNums l0).toList == (strOfNums l1).toList))) := by rw [ha]; exact putSel_on (e := (9, 36, .bool (t158 != ((strOfNums l0).toList == (strOfNums l1).toList)))) 5 rfl rfl (hon 9 (by kernel_rfl)) rfl
                      replace ha := Aside0.mk ha
                      have HB := Aside0.mk Q_HB
                      refine goes_ Try.func24 (by kernel_rfl) rfl #[.slice A0 l0.length c0, .slice A1 l1.length c1] (by first | rfl | (simp [Region.wanted, yielded, *]; done)) rfl rfl (by first | (simp only [List.map_toArray, List.map_cons, List.map_nil, Act.eval, Array.getD_eq_getD_getElem?, Option.getD_some, e37, e38, e36]; done) | (simp only [List.map_toArray, List.map_cons, List.map_nil, Act.eval, Array.getD_eq_getD_getElem?, Option.getD_some, e37, e38, e36]; rfl)) ?_
                      with_reducible refine (trunc_Unlike.calls kj7 _ _ l0 _ _ l1 t159 _ ?side1 ?side2 ?side3 ?side4 A21.out).mono ?_
                      (case side1 => repeat (first | exact (Kd.C_below HR0.out HB.out) | (with_reducible refine Kd.C_alloc ?_ _) | (with_reducible refine Kd.C_drewN ?_ _) | (with_reducible refine Kd.C_drew ?_)))
                      (case side2 => exact HC0.out)
                      (case side3 => repeat (first | exact (Kd.C_below HR1.out HB.out) | (with_reducible refine Kd.C_alloc ?_ _) | (with_reducible refine Kd.C_drewN ?_ _) | (with_reducible refine Kd.C_drew ?_)))
                      (case side4 => exact HC1.out)
                      rintro e w43 ⟨rfl, hb⟩
                      refine ⟨_, rfl, ?_⟩
                      have n0_ := Aside0.mk (below_step (by repeat (first | (with_reducible first | exact HB.out | apply below_alloc | apply pw_below_drewN | apply below_drew1) | exact HB.out)) hb)
                      clear HB
                      have HB := n0_
                      clear n0_
                      (try clear hb)
                      (try clear hb2)
                      (try clear hk)
                      (try clear hi)
                      refine hK.out _ _ ⟨(by rw [ha.out]; exact putSel_upk 8 hb_ rfl rfl rfl), (by repeat (first | (with_reducible first | exact HB.out | apply below_alloc | apply pw_below_drewN | apply below_drew1) | exact HB.out))⟩
                    refine steps_cons ?_ ?_
                    · rintro b a w' ⟨ha, Q_HB⟩ hb_ hon hoff
                      refine ⟨_, rfl, fun K hK => ?_⟩
                      have e1 : a.tmps[1]? = some (.slice A1 l1.length c1) := by rw [ha]; exact (putSel_off rfl).trans rfl
                      have e36 : a.tmps[36]? = some (.bool (t158 != ((strOfNums l0).toList == (strOfNums l1).toList))) := by rw [ha]; exact putSel_on (e := (9, 36, .bool (t158 != ((strOfNums l0).toList == (strOfNums l1).toList)))) 5 rfl rfl (hon 9 (by kernel_rfl)) rfl
                      replace ha := Aside0.mk ha
                      have HB := Aside0.mk Q_HB
                      refine value_ (w1 := w') (v := .slice A1 l1.length c1) (wanted_on rfl rfl rfl (e36.trans (by first | rfl | (simp [*]; done)))) rfl ?_ ?_
                      · go_simp
                        (try simp only [i64_w])
                        try rfl
                      refine hK.out _ _ ⟨(by rw [ha.out]; exact putSel_upk 9 hb_ rfl rfl rfl), Q_HB⟩
                    refine steps_cons ?_ ?_
                    · rintro b a w' ⟨ha, Q_HB⟩ hb_ hon hoff
                      refine ⟨_, rfl, fun K hK => ?_⟩
                      have e0 : a.tmps[0]? = some (.slice A0 l0.length c0) := by rw [ha]; exact (putSel_off rfl).trans rfl
                      have e36 : a.tmps[36]? = some (.bool (t158 != ((strOfNums l0).toList == (strOfNums l1).toList))) := by rw [ha]; exact putSel_on (e := (9, 36, .bool (t158 != ((strOfNums l0).toList == (strOfNums l1).toList)))) 5 rfl rfl (hon 9 (by kernel_rfl)) rfl
                      replace ha := Aside0.mk ha
                      have HB := Aside0.mk Q_HB
                      refine value_ (w1 := w') (v := .slice A0 l0.length c0) (wanted_on rfl rfl rfl (e36.trans (by first | rfl | (simp [*]; done)))) rfl ?_ ?_
                      · go_simp
                        (try simp only [i64_w])
                        try rfl
                      refine hK.out _ _ ⟨(by rw [ha.out]; exact putSel_upk 10 hb_ rfl rfl rfl), Q_HB⟩
                    refine steps_cons ?_ ?_
                    · rintro b a w' ⟨ha, Q_HB⟩ hb_ hon hoff
                      refine ⟨_, rfl, fun K hK => ?_⟩
                      have e40 : a.tmps[40]? = some (.slice A1 l1.length c1) := by rw [ha]; exact putSel_on (e := (13, 40, .slice A1 l1.length c1)) 9 rfl rfl (hon 13 (by kernel_rfl)) rfl
                      have e41 : a.tmps[41]? = some (.slice A0 l0.length c0) := by rw [ha]; exact putSel_on (e := (14, 41, .slice A0 l0.length c0)) 10 rfl rfl (hon 14 (by kernel_rfl)) rfl
                      have e36 : a.tmps[36]? = some (.bool (t158 != ((strOfNums l0).toList == (strOfNums l1).toList))) := by rw [ha]; exact putSel_on (e := (9, 36, .bool (t158 != ((strOfNums l0).toList == (strOfNums l1).toList)))) 5 rfl rfl (hon 9 (by kernel_rfl)) rfl
                      replace ha := Aside0.mk ha
                      have HB := Aside0.mk Q_HB
                      refine goes_ Try.func24 (by kernel_rfl) rfl #[.slice A1 l1.length c1, .slice A0 l0.length c0] (by first | rfl | (simp [Region.wanted, yielded, *]; done)) rfl rfl (by first | (simp only [List.map_toArray, List.map_cons, List.map_nil, Act.eval, Array.getD_eq_getD_getElem?, Option.getD_some, e40, e41, e36]; done) | (simp only [List.map_toArray, List.map_cons, List.map_nil, Act.eval, Array.getD_eq_getD_getElem?, Option.getD_some, e40, e41, e36]; rfl)) ?_
                      with_reducible refine (trunc_Unlike.calls kj7 _ _ l1 _ _ l0 t160 _ ?side1 ?side2 ?side3 ?side4 A22.out).mono ?_
                      (case side1 => repeat (first | exact (Kd.C_below HR1.out HB.out) | (with_reducible refine Kd.C_alloc ?_ _) | (with_reducible refine Kd.C_drewN ?_ _) | (with_reducible refine Kd.C_drew ?_)))
                      (case side2 => exact HC1.out)
                      (case side3 => repeat (first | exact (Kd.C_below HR0.out HB.out) | (with_reducible refine Kd.C_alloc ?_ _) | (with_reducible refine Kd.C_drewN ?_ _) | (with_reducible refine Kd.C_drew ?_)))
                      (case side4 => exact HC0.out)
                      rintro e w44 ⟨rfl, hb⟩
                      refine ⟨_, rfl, ?_⟩
                      have n0_ := Aside0.mk (below_step (by repeat (first | (with_reducible first | exact HB.out | apply below_alloc | apply pw_below_drewN | apply below_drew1) | exact HB.out)) hb)
                      clear HB
                      have HB := n0_
                      clear n0_
                      (try clear hb)
                      (try clear hb2)
                      (try clear hk)
                      (try clear hi)
                      refine hK.out _ _ ⟨(by rw [ha.out]; exact putSel_upk 11 hb_ rfl rfl rfl), (by repeat (first | (with_reducible first | exact HB.out | apply below_alloc | apply pw_below_drewN | apply below_drew1) | exact HB.out))⟩
                    refine steps_cons ?_ ?_
                    · rintro b a w' ⟨ha, Q_HB⟩ hb_ hon hoff
                      refine ⟨_, rfl, fun K hK => ?_⟩
                      have e39 : a.tmps[39]? = some (.int .i64 t159) := by rw [ha]; exact putSel_on (e := (12, 39, .int .i64 t159)) 8 rfl rfl (hon 12 (by kernel_rfl)) rfl
                      have e42 : a.tmps[42]? = some (.int .i64 t160) := by rw [ha]; exact putSel_on (e := (15, 42, .int .i64 t160)) 11 rfl rfl (hon 15 (by kernel_rfl)) rfl
                      have e36 : a.tmps[36]? = some (.bool (t158 != ((strOfNums l0).toList == (strOfNums l1).toList))) := by rw [ha]; exact putSel_on (e := (9, 36, .bool (t158 != ((strOfNums l0).toList == (strOfNums l1).toList)))) 5 rfl rfl (hon 9 (by kernel_rfl)) rfl
                      replace ha := Aside0.mk ha
                      have HB := Aside0.mk Q_HB
                      refine value_ (w1 := w') (v := .bool (t159 != t160)) (wanted_on rfl rfl rfl (e36.trans (by first | rfl | (simp [*]; done)))) rfl ?_ ?_
                      · go_simp
                        (try simp only [i64_w])
                        try rfl
                      refine hK.out _ _ ⟨(by rw [ha.out]; exact putSel_upk 12 hb_ rfl rfl rfl), Q_HB⟩
                    refine steps_cons ?_ ?_
                    · rintro b a w' ⟨ha, Q_HB⟩ hb_ hon hoff
                      refine ⟨_, rfl, fun K hK => ?_⟩
                      have e36 : a.tmps[36]? = some (.bool (t158 != ((strOfNums l0).toList == (strOfNums l1).toList))) := by rw [ha]; exact putSel_on (e := (9, 36, .bool (t158 != ((strOfNums l0).toList == (strOfNums l1).toList)))) 5 rfl rfl (hon 9 (by kernel_rfl)) rfl
                      have e43 : a.tmps[43]? = some (.bool (t159 != t160)) := by rw [ha]; exact putSel_on (e := (16, 43, .bool (t159 != t160))) 12 rfl rfl (hon 16 (by kernel_rfl)) rfl
                      replace ha := Aside0.mk ha
                      have HB := Aside0.mk Q_HB
                      refine value_ (w1 := w') (v := .bool (t159 != t160)) (by rfl) rfl ?_ ?_
                      · go_simp
                        (try simp only [i64_w])
                        try rfl
                      refine hK.out _ _ ⟨(by rw [ha.out]; exact putSel_upk 13 hb_ rfl rfl rfl), Q_HB⟩
                    refine steps_cons ?_ ?_
                    · rintro b a w' ⟨ha, Q_HB⟩ hb_ hon hoff
                      refine ⟨_, rfl, fun K hK => ?_⟩
                      have e44 : a.tmps[44]? = some (.bool (t159 != t160)) := by rw [ha]; exact putSel_on (e := (17, 44, .bool (t159 != t160))) 13 rfl rfl (hon 17 (by kernel_rfl)) rfl
                      replace ha := Aside0.mk ha
                      have HB := Aside0.mk Q_HB
                      refine value_ (w1 := w') (v := .bool (t159 != t160)) (by rfl) rfl ?_ ?_
                      · go_simp
                        (try simp only [i64_w])
                        try rfl
                      refine hK.out _ _ ⟨(by rw [ha.out]; exact putSel_upk 14 hb_ rfl rfl rfl), Q_HB⟩
                    refine steps_cons ?_ ?_
                    · rintro b a w' ⟨ha, Q_HB⟩ hb_ hon hoff
                      refine ⟨_, rfl, fun K hK => ?_⟩
                      have e0 : a.tmps[0]? = some (.slice A0 l0.length c0) := by rw [ha]; exact (putSel_off rfl).trans rfl
                      have e45 : a.tmps[45]? = some (.bool (t159 != t160)) := by rw [ha]; exact putSel_on (e := (18, 45, .bool (t159 != t160))) 14 rfl rfl (hon 18 (by kernel_rfl)) rfl
                      replace ha := Aside0.mk ha
                      have HB := Aside0.mk Q_HB
                      refine value_ (w1 := w') (v := .slice A0 l0.length c0) (wanted_on rfl rfl rfl (e45.trans (by first | rfl | (simp [*]; done)))) rfl ?_ ?_
                      · go_simp
                        (try simp only [i64_w])
                        try rfl
                      refine hK.out _ _ ⟨(by rw [ha.out]; exact putSel_upk 15 hb_ rfl rfl rfl), Q_HB⟩
                    refine steps_cons ?_ ?_
                    · rintro b a w' ⟨ha, Q_HB⟩ hb_ hon hoff
                      refine ⟨_, rfl, fun K hK => ?_⟩
                      have e1 : a.tmps[1]? = some (.slice A1 l1.length c1) := by rw [ha]; exact (putSel_off rfl).trans rfl
                      have e45 : a.tmps[45]? = some (.bool (t159 != t160)) := by rw [ha]; exact putSel_on (e := (18, 45, .bool (t159 != t160))) 14 rfl rfl (hon 18 (by kernel_rfl)) rfl
                      replace ha := Aside0.mk ha
                      have HB := Aside0.mk Q_HB
                      refine value_ (w1 := w') (v := .slice A1 l1.length c1) (wanted_on rfl rfl rfl (e45.trans (by first | rfl | (simp [*]; done)))) rfl ?_ ?_
                      · go_simp
                        (try simp only [i64_w])
                        try rfl
                      refine hK.out _ _ ⟨(by rw [ha.out]; exact putSel_upk 16 hb_ rfl rfl rfl), Q_HB⟩
                    refine steps_cons ?_ ?_
                    · rintro b a w' ⟨ha, Q_HB⟩ hb_ hon hoff
                      refine ⟨_, rfl, fun K hK => ?_⟩
                      have e46 : a.tmps[46]? = some (.slice A0 l0.length c0) := by rw [ha]; exact putSel_on (e := (19, 46, .slice A0 l0.length c0)) 15 rfl rfl (hon 19 (by kernel_rfl)) rfl
                      have e47 : a.tmps[47]? = some (.slice A1 l1.length c1) := by rw [ha]; exact putSel_on (e := (20, 47, .slice A1 l1.length c1)) 16 rfl rfl (hon 20 (by kernel_rfl)) rfl
                      have e45 : a.tmps[45]? = some (.bool (t159 != t160)) := by rw [ha]; exact putSel_on (e := (18, 45, .bool (t159 != t160))) 14 rfl rfl (hon 18 (by kernel_rfl)) rfl
                      replace ha := Aside0.mk ha
                      have HB := Aside0.mk Q_HB
                      refine goes_ Try.func24 (by kernel_rfl) rfl #[.slice A0 l0.length c0, .slice A1 l1.length c1] (by first | rfl | (simp [Region.wanted, yielded, *]; done)) rfl rfl (by first | (simp only [List.map_toArray, List.map_cons, List.map_nil, Act.eval, Array.getD_eq_getD_getElem?, Option.getD_some, e46, e47, e45]; done) | (simp only [List.map_toArray, List.map_cons, List.map_nil, Act.eval, Array.getD_eq_getD_getElem?, Option.getD_some, e46, e47, e45]; rfl)) ?_
                      with_reducible refine (trunc_Unlike.calls kj7 _ _ l0 _ _ l1 t161 _ ?side1 ?side2 ?side3 ?side4 A24.out).mono ?_
                      (case side1 => repeat (first | exact (Kd.C_below HR0.out HB.out) | (with_reducible refine Kd.C_alloc ?_ _) | (with_reducible refine Kd.C_drewN ?_ _) | (with_reducible refine Kd.C_drew ?_)))
                      (case side2 => exact HC0.out)
                      (case side3 => repeat (first | exact (Kd.C_below HR1.out HB.out) | (with_reducible refine Kd.C_alloc ?_ _) | (with_reducible refine Kd.C_drewN ?_ _) | (with_reducible refine Kd.C_drew ?_)))
                      (case side4 => exact HC1.out)
                      rintro e w45 ⟨rfl, hb⟩
                      refine ⟨_, rfl, ?_⟩
                      have n0_ := Aside0.mk (below_step (by repeat (first | (with_reducible first | exact HB.out | apply below_alloc | apply pw_below_drewN | apply below_drew1) | exact HB.out)) hb)
                      clear HB
                      have HB := n0_
                      clear n0_
                      (try clear hb)
                      (try clear hb2)
                      (try clear hk)
                      (try clear hi)
                      refine hK.out _ _ ⟨(by rw [ha.out]; exact putSel_upk 17 hb_ rfl rfl rfl), (by repeat (first | (with_reducible first | exact HB.out | apply below_alloc | apply pw_below_drewN | apply below_drew1) | exact HB.out))⟩
                    refine steps_cons ?_ ?_
                    · rintro b a w' ⟨ha, Q_HB⟩ hb_ hon hoff
                      refine ⟨_, rfl, fun K hK => ?_⟩
                      have e0 : a.tmps[0]? = some (.slice A0 l0.length c0) := by rw [ha]; exact (putSel_off rfl).trans rfl
                      have e45 : a.tmps[45]? = some (.bool (t159 != t160)) := by rw [ha]; exact putSel_on (e := (18, 45, .bool (t159 != t160))) 14 rfl rfl (hon 18 (by kernel_rfl)) rfl
                      replace ha := Aside0.mk ha
                      have HB := Aside0.mk Q_HB
                      refine value_ (w1 := w') (v := .slice A0 l0.length c0) (wanted_on rfl rfl rfl (e45.trans (by first | rfl | (simp [*]; done)))) rfl ?_ ?_
                      · go_simp
                        (try simp only [i64_w])
                        try rfl
                      refine hK.out _ _ ⟨(by rw [ha.out]; exact putSel_upk 18 hb_ rfl rfl rfl), Q_HB⟩
                    refine steps_cons ?_ ?_
                    · rintro b a w' ⟨ha, Q_HB⟩ hb_ hon hoff
                      refine ⟨_, rfl, fun K hK => ?_⟩
                      have e49 : a.tmps[49]? = some (.slice A0 l0.length c0) := by rw [ha]; exact putSel_on (e := (22, 49, .slice A0 l0.length c0)) 18 rfl rfl (hon 22 (by kernel_rfl)) rfl
                      have e45 : a.tmps[45]? = some (.bool (t159 != t160)) := by rw [ha]; exact putSel_on (e := (18, 45, .bool (t159 != t160))) 14 rfl rfl (hon 18 (by kernel_rfl)) rfl
                      replace ha := Aside0.mk ha
                      have HB := Aside0.mk Q_HB
                      refine value_ (w1 := w') (v := .int .i64 (l0.length : Int)) (wanted_on rfl rfl rfl (e45.trans (by first | rfl | (simp [*]; done)))) rfl ?_ ?_
                      · go_simp
                        (try simp only [i64_w])
                        try rfl
                      refine hK.out _ _ ⟨(by rw [ha.out]; exact putSel_upk 19 hb_ rfl rfl rfl), Q_HB⟩
                    refine steps_cons ?_ ?_
                    · rintro b a w' ⟨ha, Q_HB⟩ hb_ hon hoff
                      refine ⟨_, rfl, fun K hK => ?_⟩
                      have e1 : a.tmps[1]? = some (.slice A1 l1.length c1) := by rw [ha]; exact (putSel_off rfl).trans rfl
                      have e45 : a.tmps[45]? = some (.bool (t159 != t160)) := by rw [ha]; exact putSel_on (e := (18, 45, .bool (t159 != t160))) 14 rfl rfl (hon 18 (by kernel_rfl)) rfl
                      replace ha := Aside0.mk ha
                      have HB := Aside0.mk Q_HB
                      refine value_ (w1 := w') (v := .slice A1 l1.length c1) (wanted_on rfl rfl rfl (e45.trans (by first | rfl | (simp [*]; done)))) rfl ?_ ?_
                      · go_simp
                        (try simp only [i64_w])
                        try rfl
                      refine hK.out _ _ ⟨(by rw [ha.out]; exact putSel_upk 20 hb_ rfl rfl rfl), Q_HB⟩
                    refine steps_cons ?_ ?_
                    · rintro b a w' ⟨ha, Q_HB⟩ hb_ hon hoff
                      refine ⟨_, rfl, fun K hK => ?_⟩
                      have e51 : a.tmps[51]? = some (.slice A1 l1.length c1) := by rw [ha]; exact putSel_on (e := (24, 51, .slice A1 l1.length c1)) 20 rfl rfl (hon 24 (by kernel_rfl)) rfl
                      have e45 : a.tmps[45]? = some (.bool (t159 != t160)) := by rw [ha]; exact putSel_on (e := (18, 45, .bool (t159 != t160))) 14 rfl rfl (hon 18 (by kernel_rfl)) rfl
                      replace ha := Aside0.mk ha
                      have HB := Aside0.mk Q_HB
                      refine value_ (w1 := w') (v := .int .i64 (l1.length : Int)) (wanted_on rfl rfl rfl (e45.trans (by first | rfl | (simp [*]; done)))) rfl ?_ ?_
                      · go_simp
                        (try simp only [i64_w])
                        try rfl
                      refine hK.out _ _ ⟨(by rw [ha.out]; exact putSel_upk 21 hb_ rfl rfl rfl), Q_HB⟩
                    refine steps_cons ?_ ?_
                    · rintro b a w' ⟨ha, Q_HB⟩ hb_ hon hoff
                      refine ⟨_, rfl, fun K hK => ?_⟩
                      have e50 : a.tmps[50]? = some (.int .i64 (l0.length : Int)) := by rw [ha]; exact putSel_on (e := (23, 50, .int .i64 (l0.length : Int))) 19 rfl rfl (hon 23 (by kernel_rfl)) rfl
                      have e52 : a.tmps[52]? = some (.int .i64 (l1.length : Int)) := by rw [ha]; exact putSel_on (e := (25, 52, .int .i64 (l1.length : Int))) 21 rfl rfl (hon 25 (by kernel_rfl)) rfl
                      have e45 : a.tmps[45]? = some (.bool (t159 != t160)) := by rw [ha]; exact putSel_on (e := (18, 45, .bool (t159 != t160))) 14 rfl rfl (hon 18 (by kernel_rfl)) rfl
                      replace ha := Aside0.mk ha
                      have HB := Aside0.mk Q_HB
                      refine value_ (w1 := w') (v := .int .i64 ji25) (wanted_on rfl rfl rfl (e45.trans (by first | rfl | (simp [*]; done)))) rfl ?_ ?_
                      · go_simp
                        (try simp only [i64_w])
                        try rfl
                      refine hK.out _ _ ⟨(by rw [ha.out]; exact putSel_upk 22 hb_ rfl rfl rfl), Q_HB⟩
                    refine steps_cons ?_ ?_
                    · rintro b a w' ⟨ha, Q_HB⟩ hb_ hon hoff
                      refine ⟨_, rfl, fun K hK => ?_⟩
                      have e48 : a.tmps[48]? = some (.int .i64 t161) := by rw [ha]; exact putSel_on (e := (21, 48, .int .i64 t161)) 17 rfl rfl (hon 21 (by kernel_rfl)) rfl
                      have e53 : a.tmps[53]? = some (.int .i64 ji25) := by rw [ha]; exact putSel_on (e := (26, 53, .int .i64 ji25)) 22 rfl rfl (hon 26 (by kernel_rfl)) rfl
                      have e45 : a.tmps[45]? = some (.bool (t159 != t160)) := by rw [ha]; exact putSel_on (e := (18, 45, .bool (t159 != t160))) 14 rfl rfl (hon 18 (by kernel_rfl)) rfl
                      replace ha := Aside0.mk ha
                      have HB := Aside0.mk Q_HB
                      refine value_ (w1 := w') (v := .bool (decide (t161 > (ji25)))) (wanted_on rfl rfl rfl (e45.trans (by first | rfl | (simp [*]; done)))) rfl ?_ ?_
                      · go_simp
                        (try simp only [i64_w])
                        try rfl
                      refine hK.out _ _ ⟨(by rw [ha.out]; exact putSel_upk 23 hb_ rfl rfl rfl), Q_HB⟩
                    refine steps_cons ?_ ?_
                    · rintro b a w' ⟨ha, Q_HB⟩ hb_ hon hoff
                      refine ⟨_, rfl, fun K hK => ?_⟩
                      have e45 : a.tmps[45]? = some (.bool (t159 != t160)) := by rw [ha]; exact putSel_on (e := (18, 45, .bool (t159 != t160))) 14 rfl rfl (hon 18 (by kernel_rfl)) rfl
                      have e54 : a.tmps[54]? = some (.bool (decide (t161 > (ji25)))) := by rw [ha]; exact putSel_on (e := (27, 54, .bool (decide (t161 > (ji25))))) 23 rfl rfl (hon 27 (by kernel_rfl)) rfl
                      replace ha := Aside0.mk ha
                      have HB := Aside0.mk Q_HB
                      refine value_ (w1 := w') (v := .bool (decide (t161 > (ji25)))) (by rfl) rfl ?_ ?_
                      · go_simp
                        (try simp only [i64_w])
                        try rfl
                      refine hK.out _ _ ⟨(by rw [ha.out]; exact putSel_upk 24 hb_ rfl rfl rfl), Q_HB⟩
                    refine steps_cons ?_ ?_
                    · rintro b a w' ⟨ha, Q_HB⟩ hb_ hon hoff
                      refine ⟨_, rfl, fun K hK => ?_⟩
                      have e55 : a.tmps[55]? = some (.bool (decide (t161 > (ji25)))) := by rw [ha]; exact putSel_on (e := (28, 55, .bool (decide (t161 > (ji25))))) 24 rfl rfl (hon 28 (by kernel_rfl)) rfl
                      replace ha := Aside0.mk ha
                      have HB := Aside0.mk Q_HB
                      refine value_ (w1 := w') (v := .bool (decide (t161 > (ji25)))) (by rfl) rfl ?_ ?_
                      · go_simp
                        (try simp only [i64_w])
                        try rfl
                      refine hK.out _ _ ⟨(by rw [ha.out]; exact putSel_upk 25 hb_ rfl rfl rfl), Q_HB⟩
                    refine steps_cons ?_ ?_
                    · rintro b a w' ⟨ha, Q_HB⟩ hb_ hon hoff
                      refine ⟨_, rfl, fun K hK => ?_⟩
                      have e0 : a.tmps[0]? = some (.slice A0 l0.length c0) := by rw [ha]; exact (putSel_off rfl).trans rfl
                      have e56 : a.tmps[56]? = some (.bool (decide (t161 > (ji25)))) := by rw [ha]; exact putSel_on (e := (29, 56, .bool (decide (t161 > (ji25))))) 25 rfl rfl (hon 29 (by kernel_rfl)) rfl
                      replace ha := Aside0.mk ha
                      have HB := Aside0.mk Q_HB
                      refine value_ (w1 := w') (v := .slice A0 l0.length c0) (wanted_on rfl rfl rfl (e56.trans (by first | rfl | (simp [*]; done)))) rfl ?_ ?_
                      · go_simp
                        (try simp only [i64_w])
                        try rfl
                      refine hK.out _ _ ⟨(by rw [ha.out]; exact putSel_upk 26 hb_ rfl rfl rfl), Q_HB⟩
                    refine steps_cons ?_ ?_
                    · rintro b a w' ⟨ha, Q_HB⟩ hb_ hon hoff
                      refine ⟨_, rfl, fun K hK => ?_⟩
                      have e2 : a.tmps[2]? = some (.slice A2 l2.length c2) := by rw [ha]; exact (putSel_off rfl).trans rfl
                      have e56 : a.tmps[56]? = some (.bool (decide (t161 > (ji25)))) := by rw [ha]; exact putSel_on (e := (29, 56, .bool (decide (t161 > (ji25))))) 25 rfl rfl (hon 29 (by kernel_rfl)) rfl
                      replace ha := Aside0.mk ha
                      have HB := Aside0.mk Q_HB
                      refine value_ (w1 := w') (v := .slice A2 l2.length c2) (wanted_on rfl rfl rfl (e56.trans (by first | rfl | (simp [*]; done)))) rfl ?_ ?_
                      · go_simp
                        (try simp only [i64_w])
                        try rfl
                      refine hK.out _ _ ⟨(by rw [ha.out]; exact putSel_upk 27 hb_ rfl rfl rfl), Q_HB⟩
                    refine steps_cons ?_ ?_
                    · rintro b a w' ⟨ha, Q_HB⟩ hb_ hon hoff
                      refine ⟨_, rfl, fun K hK => ?_⟩
                      have e57 : a.tmps[57]? = some (.slice A0 l0.length c0) := by rw [ha]; exact putSel_on (e := (30, 57, .slice A0 l0.length c0)) 26 rfl rfl (hon 30 (by kernel_rfl)) rfl
                      have e58 : a.tmps[58]? = some (.slice A2 l2.length c2) := by rw [ha]; exact putSel_on (e := (31, 58, .slice A2 l2.length c2)) 27 rfl rfl (hon 31 (by kernel_rfl)) rfl
                      have e56 : a.tmps[56]? = some (.bool (decide (t161 > (ji25)))) := by rw [ha]; exact putSel_on (e := (29, 56, .bool (decide (t161 > (ji25))))) 25 rfl rfl (hon 29 (by kernel_rfl)) rfl
                      replace ha := Aside0.mk ha
                      have HB := Aside0.mk Q_HB
                      refine goes_ Try.func24 (by kernel_rfl) rfl #[.slice A0 l0.length c0, .slice A2 l2.length c2] (by first | rfl | (simp [Region.wanted, yielded, *]; done)) rfl rfl (by first | (simp only [List.map_toArray, List.map_cons, List.map_nil, Act.eval, Array.getD_eq_getD_getElem?, Option.getD_some, e57, e58, e56]; done) | (simp only [List.map_toArray, List.map_cons, List.map_nil, Act.eval, Array.getD_eq_getD_getElem?, Option.getD_some, e57, e58, e56]; rfl)) ?_
                      with_reducible refine (trunc_Unlike.calls kj7 _ _ l0 _ _ l2 t162 _ ?side1 ?side2 ?side3 ?side4 A35.out).mono ?_
                      (case side1 => repeat (first | exact (Kd.C_below HR0.out HB.out) | (with_reducible refine Kd.C_alloc ?_ _) | (with_reducible refine Kd.C_drewN ?_ _) | (with_reducible refine Kd.C_drew ?_)))
                      (case side2 => exact HC0.out)
                      (case side3 => repeat (first | exact (Kd.C_below HR2.out HB.out) | (with_reducible refine Kd.C_alloc ?_ _) | (with_reducible refine Kd.C_drewN ?_ _) | (with_reducible refine Kd.C_drew ?_)))
                      (case side4 => exact HC2.out)
                      rintro e w46 ⟨rfl, hb⟩
                      refine ⟨_, rfl, ?_⟩
                      have n0_ := Aside0.mk (below_step (by repeat (first | (with_reducible first | exact HB.out | apply below_alloc | apply pw_below_drewN | apply below_drew1) | exact HB.out)) hb)
                      clear HB
                      have HB := n0_
                      clear n0_
                      (try clear hb)
                      (try clear hb2)
                      (try clear hk)
                      (try clear hi)
                      refine hK.out _ _ ⟨(by rw [ha.out]; exact putSel_upk 28 hb_ rfl rfl rfl), (by repeat (first | (with_reducible first | exact HB.out | apply below_alloc | apply pw_below_drewN | apply below_drew1) | exact HB.out))⟩
                    refine steps_cons ?_ ?_
                    · rintro b a w' ⟨ha, Q_HB⟩ hb_ hon hoff
                      refine ⟨_, rfl, fun K hK => ?_⟩
                      have e0 : a.tmps[0]? = some (.slice A0 l0.length c0) := by rw [ha]; exact (putSel_off rfl).trans rfl
                      have e56 : a.tmps[56]? = some (.bool (decide (t161 > (ji25)))) := by rw [ha]; exact putSel_on (e := (29, 56, .bool (decide (t161 > (ji25))))) 25 rfl rfl (hon 29 (by kernel_rfl)) rfl
                      replace ha := Aside0.mk ha
                      have HB := Aside0.mk Q_HB
                      refine value_ (w1 := w') (v := .slice A0 l0.length c0) (wanted_on rfl rfl rfl (e56.trans (by first | rfl | (simp [*]; done)))) rfl ?_ ?_
                      · go_simp
                        (try simp only [i64_w])
                        try rfl
                      refine hK.out _ _ ⟨(by rw [ha.out]; exact putSel_upk 29 hb_ rfl rfl rfl), Q_HB⟩
                    refine steps_cons ?_ ?_
                    · rintro b a w' ⟨ha, Q_HB⟩ hb_ hon hoff
                      refine ⟨_, rfl, fun K hK => ?_⟩
                      have e1 : a.tmps[1]? = some (.slice A1 l1.length c1) := by rw [ha]; exact (putSel_off rfl).trans rfl
                      have e56 : a.tmps[56]? = some (.bool (decide (t161 > (ji25)))) := by rw [ha]; exact putSel_on (e := (29, 56, .bool (decide (t161 > (ji25))))) 25 rfl rfl (hon 29 (by kernel_rfl)) rfl
                      replace ha := Aside0.mk ha
                      have HB := Aside0.mk Q_HB
                      refine value_ (w1 := w') (v := .slice A1 l1.length c1) (wanted_on rfl rfl rfl (e56.trans (by first | rfl | (simp [*]; done)))) rfl ?_ ?_
                      · go_simp
                        (try simp only [i64_w])
                        try rfl
                      refine hK.out _ _ ⟨(by rw [ha.out]; exact putSel_upk 30 hb_ rfl rfl rfl), Q_HB⟩
                    refine steps_cons ?_ ?_
                    · rintro b a w' ⟨ha, Q_HB⟩ hb_ hon hoff
                      refine ⟨_, rfl, fun K hK => ?_⟩
                      have e60 : a.tmps[60]? = some (.slice A0 l0.length c0) := by rw [ha]; exact putSel_on (e := (33, 60, .slice A0 l0.length c0)) 29 rfl rfl (hon 33 (by kernel_rfl)) rfl
                      have e61 : a.tmps[61]? = some (.slice A1 l1.length c1) := by rw [ha]; exact putSel_on (e := (34, 61, .slice A1 l1.length c1)) 30 rfl rfl (hon 34 (by kernel_rfl)) rfl
                      have e56 : a.tmps[56]? = some (.bool (decide (t161 > (ji25)))) := by rw [ha]; exact putSel_on (e := (29, 56, .bool (decide (t161 > (ji25))))) 25 rfl rfl (hon 29 (by kernel_rfl)) rfl
                      replace ha := Aside0.mk ha
                      have HB := Aside0.mk Q_HB
                      refine goes_ Try.func24 (by kernel_rfl) rfl #[.slice A0 l0.length c0, .slice A1 l1.length c1] (by first | rfl | (simp [Region.wanted, yielded, *]; done)) rfl rfl (by first | (simp only [List.map_toArray, List.map_cons, List.map_nil, Act.eval, Array.getD_eq_getD_getElem?, Option.getD_some, e60, e61, e56]; done) | (simp only [List.map_toArray, List.map_cons, List.map_nil, Act.eval, Array.getD_eq_getD_getElem?, Option.getD_some, e60, e61, e56]; rfl)) ?_
                      with_reducible refine (trunc_Unlike.calls kj7 _ _ l0 _ _ l1 t163 _ ?side1 ?side2 ?side3 ?side4 A36.out).mono ?_
                      (case side1 => repeat (first | exact (Kd.C_below HR0.out HB.out) | (with_reducible refine Kd.C_alloc ?_ _) | (with_reducible refine Kd.C_drewN ?_ _) | (with_reducible refine Kd.C_drew ?_)))
                      (case side2 => exact HC0.out)
                      (case side3 => repeat (first | exact (Kd.C_below HR1.out HB.out) | (with_reducible refine Kd.C_alloc ?_ _) | (with_reducible refine Kd.C_drewN ?_ _) | (with_reducible refine Kd.C_drew ?_)))
                      (case side4 => exact HC1.out)
                      rintro e w47 ⟨rfl, hb⟩
                      refine ⟨_, rfl, ?_⟩
                      have n0_ := Aside0.mk (below_step (by repeat (first | (with_reducible first | exact HB.out | apply below_alloc | apply pw_below_drewN | apply below_drew1) | exact HB.out)) hb)
                      clear HB
                      have HB := n0_
                      clear n0_
                      (try clear hb)
                      (try clear hb2)
                      (try clear hk)
                      (try clear hi)
                      refine hK.out _ _ ⟨(by rw [ha.out]; exact putSel_upk 31 hb_ rfl rfl rfl), (by repeat (first | (with_reducible first | exact HB.out | apply below_alloc | apply pw_below_drewN | apply below_drew1) | exact HB.out))⟩
                    refine steps_cons ?_ ?_
                    · rintro b a w' ⟨ha, Q_HB⟩ hb_ hon hoff
                      refine ⟨_, rfl, fun K hK => ?_⟩
                      have e1 : a.tmps[1]? = some (.slice A1 l1.length c1) := by rw [ha]; exact (putSel_off rfl).trans rfl
                      have e56 : a.tmps[56]? = some (.bool (decide (t161 > (ji25)))) := by rw [ha]; exact putSel_on (e := (29, 56, .bool (decide (t161 > (ji25))))) 25 rfl rfl (hon 29 (by kernel_rfl)) rfl
                      replace ha := Aside0.mk ha
                      have HB := Aside0.mk Q_HB
                      refine value_ (w1 := w') (v := .slice A1 l1.length c1) (wanted_on rfl rfl rfl (e56.trans (by first | rfl | (simp [*]; done)))) rfl ?_ ?_
                      · go_simp
                        (try simp only [i64_w])
                        try rfl
                      refine hK.out _ _ ⟨(by rw [ha.out]; exact putSel_upk 32 hb_ rfl rfl rfl), Q_HB⟩
                    refine steps_cons ?_ ?_
                    · rintro b a w' ⟨ha, Q_HB⟩ hb_ hon hoff
                      refine ⟨_, rfl, fun K hK => ?_⟩
                      have e2 : a.tmps[2]? = some (.slice A2 l2.length c2) := by rw [ha]; exact (putSel_off rfl).trans rfl
                      have e56 : a.tmps[56]? = some (.bool (decide (t161 > (ji25)))) := by rw [ha]; exact putSel_on (e := (29, 56, .bool (decide (t161 > (ji25))))) 25 rfl rfl (hon 29 (by kernel_rfl)) rfl
                      replace ha := Aside0.mk ha
                      have HB := Aside0.mk Q_HB
                      refine value_ (w1 := w') (v := .slice A2 l2.length c2) (wanted_on rfl rfl rfl (e56.trans (by first | rfl | (simp [*]; done)))) rfl ?_ ?_
                      · go_simp
                        (try simp only [i64_w])
                        try rfl
                      refine hK.out _ _ ⟨(by rw [ha.out]; exact putSel_upk 33 hb_ rfl rfl rfl), Q_HB⟩
                    refine steps_cons ?_ ?_
                    · rintro b a w' ⟨ha, Q_HB⟩ hb_ hon hoff
                      refine ⟨_, rfl, fun K hK => ?_⟩
                      have e63 : a.tmps[63]? = some (.slice A1 l1.length c1) := by rw [ha]; exact putSel_on (e := (36, 63, .slice A1 l1.length c1)) 32 rfl rfl (hon 36 (by kernel_rfl)) rfl
                      have e64 : a.tmps[64]? = some (.slice A2 l2.length c2) := by rw [ha]; exact putSel_on (e := (37, 64, .slice A2 l2.length c2)) 33 rfl rfl (hon 37 (by kernel_rfl)) rfl
                      have e56 : a.tmps[56]? = some (.bool (decide (t161 > (ji25)))) := by rw [ha]; exact putSel_on (e := (29, 56, .bool (decide (t161 > (ji25))))) 25 rfl rfl (hon 29 (by kernel_rfl)) rfl
                      replace ha := Aside0.mk ha
                      have HB := Aside0.mk Q_HB
                      refine goes_ Try.func24 (by kernel_rfl) rfl #[.slice A1 l1.length c1, .slice A2 l2.length c2] (by first | rfl | (simp [Region.wanted, yielded, *]; done)) rfl rfl (by first | (simp only [List.map_toArray, List.map_cons, List.map_nil, Act.eval, Array.getD_eq_getD_getElem?, Option.getD_some, e63, e64, e56]; done) | (simp only [List.map_toArray, List.map_cons, List.map_nil, Act.eval, Array.getD_eq_getD_getElem?, Option.getD_some, e63, e64, e56]; rfl)) ?_
                      with_reducible refine (trunc_Unlike.calls kj7 _ _ l1 _ _ l2 t164 _ ?side1 ?side2 ?side3 ?side4 A37.out).mono ?_
                      (case side1 => repeat (first | exact (Kd.C_below HR1.out HB.out) | (with_reducible refine Kd.C_alloc ?_ _) | (with_reducible refine Kd.C_drewN ?_ _) | (with_reducible refine Kd.C_drew ?_)))
                      (case side2 => exact HC1.out)
                      (case side3 => repeat (first | exact (Kd.C_below HR2.out HB.out) | (with_reducible refine Kd.C_alloc ?_ _) | (with_reducible refine Kd.C_drewN ?_ _) | (with_reducible refine Kd.C_drew ?_)))
                      (case side4 => exact HC2.out)
                      rintro e w48 ⟨rfl, hb⟩
                      refine ⟨_, rfl, ?_⟩
                      have n0_ := Aside0.mk (below_step (by repeat (first | (with_reducible first | exact HB.out | apply below_alloc | apply pw_below_drewN | apply below_drew1) | exact HB.out)) hb)
                      clear HB
                      have HB := n0_
                      clear n0_
                      (try clear hb)
                      (try clear hb2)
                      (try clear hk)
                      (try clear hi)
                      refine hK.out _ _ ⟨(by rw [ha.out]; exact putSel_upk 34 hb_ rfl rfl rfl), (by repeat (first | (with_reducible first | exact HB.out | apply below_alloc | apply pw_below_drewN | apply below_drew1) | exact HB.out))⟩
                    refine steps_cons ?_ ?_
                    · rintro b a w' ⟨ha, Q_HB⟩ hb_ hon hoff
                      refine ⟨_, rfl, fun K hK => ?_⟩
                      have e62 : a.tmps[62]? = some (.int .i64 t163) := by rw [ha]; exact putSel_on (e := (35, 62, .int .i64 t163)) 31 rfl rfl (hon 35 (by kernel_rfl)) rfl
                      have e65 : a.tmps[65]? = some (.int .i64 t164) := by rw [ha]; exact putSel_on (e := (38, 65, .int .i64 t164)) 34 rfl rfl (hon 38 (by kernel_rfl)) rfl
                      have e56 : a.tmps[56]? = some (.bool (decide (t161 > (ji25)))) := by rw [ha]; exact putSel_on (e := (29, 56, .bool (decide (t161 > (ji25))))) 25 rfl rfl (hon 29 (by kernel_rfl)) rfl
                      replace ha := Aside0.mk ha
                      have HB := Aside0.mk Q_HB
                      refine value_ (w1 := w') (v := .int .i64 (wrap64 (t163 + t164))) (wanted_on rfl rfl rfl (e56.trans (by first | rfl | (simp [*]; done)))) rfl ?_ ?_
                      · go_simp
                        (try simp only [i64_w])
                        try rfl
                      refine hK.out _ _ ⟨(by rw [ha.out]; exact putSel_upk 35 hb_ rfl rfl rfl), Q_HB⟩
                    refine steps_cons ?_ ?_
                    · rintro b a w' ⟨ha, Q_HB⟩ hb_ hon hoff
                      refine ⟨_, rfl, fun K hK => ?_⟩
                      have e59 : a.tmps[59]? = some (.int .i64 t162) := by rw [ha]; exact putSel_on (e := (32, 59, .int .i64 t162)) 28 rfl rfl (hon 32 (by kernel_rfl)) rfl
                      have e66 : a.tmps[66]? = some (.int .i64 (wrap64 (t163 + t164))) := by rw [ha]; exact putSel_on (e := (39, 66, .int .i64 (wrap64 (t163 + t164)))) 35 rfl rfl (hon 39 (by kernel_rfl)) rfl
                      have e56 : a.tmps[56]? = some (.bool (decide (t161 > (ji25)))) := by rw [ha]; exact putSel_on (e := (29, 56, .bool (decide (t161 > (ji25))))) 25 rfl rfl (hon 29 (by kernel_rfl)) rfl
                      replace ha := Aside0.mk ha
                      have HB := Aside0.mk Q_HB
                      refine value_ (w1 := w') (v := .bool (decide (t162 > (wrap64 (t163 + t164))))) (wanted_on rfl rfl rfl (e56.trans (by first | rfl | (simp [*]; done)))) rfl ?_ ?_
                      · go_simp
                        (try simp only [i64_w])
                        try rfl
                      refine hK.out _ _ ⟨(by rw [ha.out]; exact putSel_upk 36 hb_ rfl rfl rfl), Q_HB⟩
                    refine steps_cons ?_ ?_
                    · rintro b a w' ⟨ha, Q_HB⟩ hb_ hon hoff
                      refine ⟨_, rfl, fun K hK => ?_⟩
                      have e56 : a.tmps[56]? = some (.bool (decide (t161 > (ji25)))) := by rw [ha]; exact putSel_on (e := (29, 56, .bool (decide (t161 > (ji25))))) 25 rfl rfl (hon 29 (by kernel_rfl)) rfl
                      have e67 : a.tmps[67]? = some (.bool (decide (t162 > (wrap64 (t163 + t164))))) := by rw [ha]; exact putSel_on (e := (40, 67, .bool (decide (t162 > (wrap64 (t163 + t164)))))) 36 rfl rfl (hon 40 (by kernel_rfl)) rfl
                      replace ha := Aside0.mk ha
                      have HB := Aside0.mk Q_HB
                      refine value_ (w1 := w') (v := .bool (decide (t162 > (wrap64 (t163 + t164))))) (by rfl) rfl ?_ ?_
                      · go_simp
                        (try simp only [i64_w])
                        try rfl
                      refine hK.out _ _ ⟨(by rw [ha.out]; exact putSel_upk 37 hb_ rfl rfl rfl), Q_HB⟩
                    exact steps_nil
                  rintro b a w48 hall ⟨ha, Q_HB⟩
                  clear HB
                  have hb2_ := hall 2 (by kernel_rfl)
                  have hb4_ := hall 4 (by kernel_rfl)
                  have hb6_ := hall 6 (by kernel_rfl)
                  have hb7_ := hall 7 (by kernel_rfl)
                  have hb8_ := hall 8 (by kernel_rfl)
                  have hb9_ := hall 9 (by kernel_rfl)
                  have hb10_ := hall 10 (by kernel_rfl)
                  have hb11_ := hall 11 (by kernel_rfl)
                  have hb12_ := hall 12 (by kernel_rfl)
                  have hb13_ := hall 13 (by kernel_rfl)
                  have hb14_ := hall 14 (by kernel_rfl)
                  have hb15_ := hall 15 (by kernel_rfl)
                  have hb16_ := hall 16 (by kernel_rfl)
                  have hb17_ := hall 17 (by kernel_rfl)
                  have hb18_ := hall 18 (by kernel_rfl)
                  have hb19_ := hall 19 (by kernel_rfl)
                  have hb20_ := hall 20 (by kernel_rfl)
                  have hb21_ := hall 21 (by kernel_rfl)
                  have hb22_ := hall 22 (by kernel_rfl)
                  have hb23_ := hall 23 (by kernel_rfl)
                  have hb24_ := hall 24 (by kernel_rfl)
                  have hb25_ := hall 25 (by kernel_rfl)
                  have hb26_ := hall 26 (by kernel_rfl)
                  have hb27_ := hall 27 (by kernel_rfl)
                  have hb28_ := hall 28 (by kernel_rfl)
                  have hb29_ := hall 29 (by kernel_rfl)
                  have hb30_ := hall 30 (by kernel_rfl)
                  have hb31_ := hall 31 (by kernel_rfl)
                  have hb32_ := hall 32 (by kernel_rfl)
                  have hb33_ := hall 33 (by kernel_rfl)
                  have hb34_ := hall 34 (by kernel_rfl)
                  have hb35_ := hall 35 (by kernel_rfl)
                  have hb36_ := hall 36 (by kernel_rfl)
                  have hb37_ := hall 37 (by kernel_rfl)
                  have hb38_ := hall 38 (by kernel_rfl)
                  have hb39_ := hall 39 (by kernel_rfl)
                  have hb40_ := hall 40 (by kernel_rfl)
                  have hb41_ := hall 41 (by kernel_rfl)
                  subst ha
                  simp only [putSel, hb2_, hb4_, hb6_, hb7_, hb8_, hb9_, hb10_, hb11_, hb12_, hb13_, hb14_, hb15_, hb16_, hb17_, hb18_, hb19_, hb20_, hb21_, hb22_, hb23_, hb24_, hb25_, hb26_, hb27_, hb28_, hb29_, hb30_, hb31_, hb32_, hb33_, hb34_, hb35_, hb36_, hb37_, hb38_, hb39_, hb40_, hb41_, if_true, Act.put, List.setIfInBounds_toArray, List.set_cons_zero, List.set_cons_succ]
                  have HB := Aside0.mk Q_HB
                  clear Q_HB
                  clear hall hb2_ hb4_ hb6_ hb7_ hb8_ hb9_ hb10_ hb11_ hb12_ hb13_ hb14_ hb15_ hb16_ hb17_ hb18_ hb19_ hb20_ hb21_ hb22_ hb23_ hb24_ hb25_ hb26_ hb27_ hb28_ hb29_ hb30_ hb31_ hb32_ hb33_ hb34_ hb35_ hb36_ hb37_ hb38_ hb39_ hb40_ hb41_
                  try go_wp2
                  go_meet
                  case rel => exact ⟨_, (decide (t162 > (wrap64 (t163 + t164)))), (by first | rfl | (simp; done) | (simp [*]; done)), H', ⟨by have := HJ7.out; first | omega | exact Nat.le_refl _⟩, ⟨by repeat (first | (with_reducible first | exact HB.out | apply below_alloc | apply pw_below_drewN | apply below_drew1) | exact HB.out)⟩⟩
              · rw [if_neg c23] at H
                have c23b0 : (t159 == t160) = false := beq_eq_false_iff_ne.mpr c23
                have c23b1 : (t159 != t160) = true := bne_iff_ne.mpr c23
                have H' := Aside0.mk H
                clear H
                try go_wp2
                have n0_ := Aside0.mk (below_drew1 HB.out)
                clear HB
                have HB := n0_
                clear n0_
                refine start_ (n := 42) (S := fun w' => True) (ds := []) #[false, false, false, false, false, false, false, false, false, false, false, false, false, false, false, false, false, false, false, false, false, false, false, false, false, false, false, false, false, false, false, false, false, false, false, false, false, false, false, false, false, false] (by kernel_rfl) rfl rfl trivial (fun hHeld => ?_); refine with_tabW wristbandlaw04_TruncSame.tab5 wristbandlaw04_TruncSame.bits5 (fun HT_ HW_ => ?_)
                generalize wc.drew = w49 at HB hHeld ⊢
                refine pure_ (i := 0) (N := some 27) (v := ?_) (a' := ?_) #[true, false, false, false, false, false, false, false, false, false, false, false, false, false, false, false, false, false, false, false, false, false, false, false, false, false, false, false, false, false, false, false, false, false, false, false, false, false, false, false, false, false] rfl rfl (any_of HT_.out (by kernel_rfl)) (fun _ _ _ h => h) (Or.inl ⟨by rfl, ?_⟩) ?_ ?_
                rotate_left
                · intro w'
                  go_simp
                  with_reducible rfl
                rotate_left
                · simp only [Act.put, List.setIfInBounds_toArray, List.set_cons_zero, List.set_cons_succ, i64_w, i32_w]
                  rfl
                refine pure_ (i := 1) (N := some 28) (v := ?_) (a' := ?_) #[true, true, false, false, false, false, false, false, false, false, false, false, false, false, false, false, false, false, false, false, false, false, false, false, false, false, false, false, false, false, false, false, false, false, false, false, false, false, false, false, false, false] rfl rfl (any_of HT_.out (by kernel_rfl)) (fun _ _ _ h => h) (Or.inl ⟨by rfl, ?_⟩) ?_ ?_
                rotate_left
                · intro w'
                  go_simp
                  with_reducible rfl
                rotate_left
                · simp only [Act.put, List.setIfInBounds_toArray, List.set_cons_zero, List.set_cons_succ, i64_w, i32_w]
                  rfl
                refine pure_ (i := 3) (N := some 30) (v := ?_) (a' := ?_) #[true, true, false, true, false, false, false, false, false, false, false, false, false, false, false, false, false, false, false, false, false, false, false, false, false, false, false, false, false, false, false, false, false, false, false, false, false, false, false, false, false, false] rfl rfl (any_of HT_.out (by kernel_rfl)) (fun _ _ _ h => h) (Or.inl ⟨by rfl, ?_⟩) ?_ ?_
                rotate_left
                · intro w'
                  go_simp
                  with_reducible rfl
                rotate_left
                · simp only [Act.put, List.setIfInBounds_toArray, List.set_cons_zero, List.set_cons_succ, i64_w, i32_w]
                  rfl
                refine pure_ (i := 5) (N := some 32) (v := ?_) (a' := ?_) #[true, true, false, true, false, true, false, false, false, false, false, false, false, false, false, false, false, false, false, false, false, false, false, false, false, false, false, false, false, false, false, false, false, false, false, false, false, false, false, false, false, false] rfl rfl (any_of HT_.out (by kernel_rfl)) (fun _ _ _ h => h) (Or.inl ⟨by rfl, ?_⟩) ?_ ?_
                rotate_left
                · intro w'
                  go_simp
                  with_reducible rfl
                rotate_left
                · simp only [Act.put, List.setIfInBounds_toArray, List.set_cons_zero, List.set_cons_succ, i64_w, i32_w]
                  rfl
                refine inv_at [2, 4, 6, 7, 8, 9, 10, 11, 12, 13, 14, 15, 16, 17, 18, 19, 20, 21, 22, 23, 24, 25, 26, 27, 28, 29, 30, 31, 32, 33, 34, 35, 36, 37, 38, 39, 40, 41] (fun a0_ b a w' => a = putSel a0_ b [(2, 29, .bool t158), (4, 31, .string (strOfNums l0)), (6, 33, .string (strOfNums l1)), (7, 34, .bool ((strOfNums l0).toList == (strOfNums l1).toList)), (8, 35, .bool (t158 != ((strOfNums l0).toList == (strOfNums l1).toList))), (9, 36, .bool (t158 != ((strOfNums l0).toList == (strOfNums l1).toList))), (10, 37, .slice A0 l0.length c0), (11, 38, .slice A1 l1.length c1), (12, 39, .int .i64 t159), (13, 40, .slice A1 l1.length c1), (14, 41, .slice A0 l0.length c0), (15, 42, .int .i64 t160), (16, 43, .bool (t159 != t160)), (17, 44, .bool (t159 != t160)), (18, 45, .bool (t159 != t160)), (19, 46, undef), (20, 47, undef), (21, 48, undef), (22, 49, undef), (23, 50, undef), (24, 51, undef), (25, 52, undef), (26, 53, undef), (27, 54, undef), (28, 55, .bool true), (29, 56, .bool true), (30, 57, undef), (31, 58, undef), (32, 59, undef), (33, 60, undef), (34, 61, undef), (35, 62, undef), (36, 63, undef), (37, 64, undef), (38, 65, undef), (39, 66, undef), (40, 67, undef), (41, 68, .bool true)] ∧ (Below w.heap.size w w')) HT_.out HW_.out (by kernel_rfl) (by kernel_rfl) ?_ ?_ ?_
                · exact ⟨by simp only [putSel, Bool.false_eq_true, if_false], HB.out⟩
                · skip
                  clear HB
                  refine steps_cons ?_ ?_
                  · rintro b a w' ⟨ha, Q_HB⟩ hb_ hon hoff
                    refine ⟨_, rfl, fun K hK => ?_⟩
                    have e27 : a.tmps[27]? = some (.slice A0 l0.length c0) := by rw [ha]; exact (putSel_off rfl).trans rfl
                    have e28 : a.tmps[28]? = some (.slice A1 l1.length c1) := by rw [ha]; exact (putSel_off rfl).trans rfl
                    replace ha := Aside0.mk ha
                    have HB := Aside0.mk Q_HB
                    refine goes_ Try.func25 (by kernel_rfl) rfl #[.slice A0 l0.length c0, .slice A1 l1.length c1] (by first | rfl | (simp [Region.wanted, yielded, *]; done)) rfl rfl (by first | (simp only [List.map_toArray, List.map_cons, List.map_nil, Act.eval, Array.getD_eq_getD_getElem?, Option.getD_some, e27, e28]; done) | (simp only [List.map_toArray, List.map_cons, List.map_nil, Act.eval, Array.getD_eq_getD_getElem?, Option.getD_some, e27, e28]; rfl)) ?_
                    with_reducible refine (trunc_Same.calls kj7 _ _ l0 _ _ l1 t158 _ ?side1 ?side2 ?side3 ?side4 A14.out).mono ?_
                    (case side1 => repeat (first | exact (Kd.C_below HR0.out HB.out) | (with_reducible refine Kd.C_alloc ?_ _) | (with_reducible refine Kd.C_drewN ?_ _) | (with_reducible refine Kd.C_drew ?_)))
                    (case side2 => exact HC0.out)
                    (case side3 => repeat (first | exact (Kd.C_below HR1.out HB.out) | (with_reducible refine Kd.C_alloc ?_ _) | (with_reducible refine Kd.C_drewN ?_ _) | (with_reducible refine Kd.C_drew ?_)))
                    (case side4 => exact HC1.out)
                    rintro e w50 ⟨rfl, hb⟩
                    refine ⟨_, rfl, ?_⟩
                    have n0_ := Aside0.mk (below_step (by repeat (first | (with_reducible first | exact HB.out | apply below_alloc | apply pw_below_drewN | apply below_drew1) | exact HB.out)) hb)
                    clear HB
                    have HB := n0_
                    clear n0_
                    (try clear hb)
                    (try clear hb2)
                    (try clear hk)
                    (try clear hi)
                    refine hK.out _ _ ⟨(by rw [ha.out]; exact putSel_upk 0 hb_ rfl rfl rfl), (by repeat (first | (with_reducible first | exact HB.out | apply below_alloc | apply pw_below_drewN | apply below_drew1) | exact HB.out))⟩
                  refine steps_cons ?_ ?_
                  · rintro b a w' ⟨ha, Q_HB⟩ hb_ hon hoff
                    refine ⟨_, rfl, fun K hK => ?_⟩
                    have e30 : a.tmps[30]? = some (.slice A0 l0.length c0) := by rw [ha]; exact (putSel_off rfl).trans rfl
                    replace ha := Aside0.mk ha
                    have HB := Aside0.mk Q_HB
                    refine str_step (src := 22) (dst := 9) (x := .tmp 30) ?hw ?ho ?hx (Kd.C_string (P := Try.prog) (A := A0) (c := c0) Try.underlying22 Try.underlying5 Try.underlying9 (Kd.C_below HR0.out HB.out)) ?_
                    case ho => rfl
                    case hw => first | rfl | (simp [Region.wanted, yielded, *]; done)
                    case hx => first | rfl | (simp only [Act.eval, Array.getD_eq_getD_getElem?, Option.getD_some, e30]; done)
                    intro w50 hb
                    have n0_ := Aside0.mk (below_step (by repeat (first | (with_reducible first | exact HB.out | apply below_alloc | apply pw_below_drewN | apply below_drew1) | exact HB.out)) hb)
                    clear HB
                    have HB := n0_
                    clear n0_
                    (try clear hb)
                    refine hK.out _ _ ⟨(by rw [ha.out]; exact putSel_upk 1 hb_ rfl rfl rfl), (by repeat (first | (with_reducible first | exact HB.out | apply below_alloc | apply pw_below_drewN | apply below_drew1) | exact HB.out))⟩
                  refine steps_cons ?_ ?_
                  · rintro b a w' ⟨ha, Q_HB⟩ hb_ hon hoff
                    refine ⟨_, rfl, fun K hK => ?_⟩
                    have e32 : a.tmps[32]? = some (.slice A1 l1.length c1) := by rw [ha]; exact (putSel_off rfl).trans rfl
                    replace ha := Aside0.mk ha
                    have HB := Aside0.mk Q_HB
                    refine str_step (src := 22) (dst := 9) (x := .tmp 32) ?hw ?ho ?hx (Kd.C_string (P := Try.prog) (A := A1) (c := c1) Try.underlying22 Try.underlying5 Try.underlying9 (Kd.C_below HR1.out HB.out)) ?_
                    case ho => rfl
                    case hw => first | rfl | (simp [Region.wanted, yielded, *]; done)
                    case hx => first | rfl | (simp only [Act.eval, Array.getD_eq_getD_getElem?, Option.getD_some, e32]; done)
                    intro w50 hb
                    have n0_ := Aside0.mk (below_step (by repeat (first | (with_reducible first | exact HB.out | apply below_alloc | apply pw_below_drewN | apply below_drew1) | exact HB.out)) hb)
                    clear HB
                    have HB := n0_
                    clear n0_
                    (try clear hb)
                    refine hK.out _ _ ⟨(by rw [ha.out]; exact putSel_upk 2 hb_ rfl rfl rfl), (by repeat (first | (with_reducible first | exact HB.out | apply below_alloc | apply pw_below_drewN | apply below_drew1) | exact HB.out))⟩
                  refine steps_cons ?_ ?_
                  · rintro b a w' ⟨ha, Q_HB⟩ hb_ hon hoff
                    refine ⟨_, rfl, fun K hK => ?_⟩
                    have e31 : a.tmps[31]? = some (.string (strOfNums l0)) := by rw [ha]; exact putSel_on (e := (4, 31, .string (strOfNums l0))) 1 rfl rfl (hon 4 (by kernel_rfl)) rfl
                    have e33 : a.tmps[33]? = some (.string (strOfNums l1)) := by rw [ha]; exact putSel_on (e := (6, 33, .string (strOfNums l1))) 2 rfl rfl (hon 6 (by kernel_rfl)) rfl
                    replace ha := Aside0.mk ha
                    have HB := Aside0.mk Q_HB
                    refine value_ (w1 := w') (v := .bool ((strOfNums l0).toList == (strOfNums l1).toList)) (by rfl) rfl ?_ ?_
                    · go_simp
                      (try simp only [i64_w])
                      try rfl
                    refine hK.out _ _ ⟨(by rw [ha.out]; exact putSel_upk 3 hb_ rfl rfl rfl), Q_HB⟩
                  refine steps_cons ?_ ?_
                  · rintro b a w' ⟨ha, Q_HB⟩ hb_ hon hoff
                    refine ⟨_, rfl, fun K hK => ?_⟩
                    have e29 : a.tmps[29]? = some (.bool t158) := by rw [ha]; exact putSel_on (e := (2, 29, .bool t158)) 0 rfl rfl (hon 2 (by kernel_rfl)) rfl
                    have e34 : a.tmps[34]? = some (.bool ((strOfNums l0).toList == (strOfNums l1).toList)) := by rw [ha]; exact putSel_on (e := (7, 34, .bool ((strOfNums l0).toList == (strOfNums l1).toList))) 3 rfl rfl (hon 7 (by kernel_rfl)) rfl
                    replace ha := Aside0.mk ha
                    have HB := Aside0.mk Q_HB
                    refine value_ (w1 := w') (v := .bool (t158 != ((strOfNums l0).toList == (strOfNums l1).toList))) (by rfl) rfl ?_ ?_
                    · go_simp
                      (try simp only [i64_w])
                      try rfl
                    refine hK.out _ _ ⟨(by rw [ha.out]; exact putSel_upk 4 hb_ rfl rfl rfl), Q_HB⟩
                  refine steps_cons ?_ ?_
                  · rintro b a w' ⟨ha, Q_HB⟩ hb_ hon hoff
                    refine ⟨_, rfl, fun K hK => ?_⟩
                    have e35 : a.tmps[35]? = some (.bool (t158 != ((strOfNums l0).toList == (strOfNums l1).toList))) := by rw [ha]; exact putSel_on (e := (8, 35, .bool (t158 != ((strOfNums l0).toList == (strOfNums l1).toList)))) 4 rfl rfl (hon 8 (by kernel_rfl)) rfl
                    replace ha := Aside0.mk ha
                    have HB := Aside0.mk Q_HB
                    refine value_ (w1 := w') (v := .bool (t158 != ((strOfNums l0).toList == (strOfNums l1).toList))) (by rfl) rfl ?_ ?_
                    · go_simp
                      (try simp only [i64_w])
                      try rfl
                    refine hK.out _ _ ⟨(by rw [ha.out]; exact putSel_upk 5 hb_ rfl rfl rfl), Q_HB⟩
                  refine steps_cons ?_ ?_
                  · rintro b a w' ⟨ha, Q_HB⟩ hb_ hon hoff
                    refine ⟨_, rfl, fun K hK => ?_⟩
                    have e0 : a.tmps[0]? = some (.slice A0 l0.length c0) := by rw [ha]; exact (putSel_off rfl).trans rfl
                    have e36 : a.tmps[36]? = some (.bool (t158 != ((strOfNums l0).toList == (strOfNums l1).toList))) := by rw [ha]; exact putSel_on (e := (9, 36, .bool (t158 != ((strOfNums l0).toList == (strOfNums l1).toList)))) 5 rfl rfl (hon 9 (by kernel_rfl)) rfl
                    replace ha := Aside0.mk ha
                    have HB := Aside0.mk Q_HB
                    refine value_ (w1 := w') (v := .slice A0 l0.length c0) (wanted_on rfl rfl rfl (e36.trans (by first | rfl | (simp [*]; done)))) rfl ?_ ?_
                    · go_simp
                      (try simp only [i64_w])
                      try rfl
                    refine hK.out _ _ ⟨(by rw [ha.out]; exact putSel_upk 6 hb_ rfl rfl rfl), Q_HB⟩
                  refine steps_cons ?_ ?_
                  · rintro b a w' ⟨ha, Q_HB⟩ hb_ hon hoff
                    refine ⟨_, rfl, fun K hK => ?_⟩
                    have e1 : a.tmps[1]? = some (.slice A1 l1.length c1) := by rw [ha]; exact (putSel_off rfl).trans rfl
                    have e36 : a.tmps[36]? = some (.bool (t158 != ((strOfNums l0).toList == (strOfNums l1).toList))) := by rw [ha]; exact putSel_on (e := (9, 36, .bool (t158 != ((strOfNums l0).toList == (strOfNums l1).toList)))) 5 rfl rfl (hon 9 (by kernel_rfl)) rfl
                    replace ha := Aside0.mk ha
                    have HB := Aside0.mk Q_HB
                    refine value_ (w1 := w') (v := .slice A1 l1.length c1) (wanted_on rfl rfl rfl (e36.trans (by first | rfl | (simp [*]; done)))) rfl ?_ ?_
                    · go_simp
                      (try simp only [i64_w])
                      try rfl
                    refine hK.out _ _ ⟨(by rw [ha.out]; exact putSel_upk 7 hb_ rfl rfl rfl), Q_HB⟩
                  refine steps_cons ?_ ?_
                  · rintro b a w' ⟨ha, Q_HB⟩ hb_ hon hoff
                    refine ⟨_, rfl, fun K hK => ?_⟩
                    have e37 : a.tmps[37]? = some (.slice A0 l0.length c0) := by rw [ha]; exact putSel_on (e := (10, 37, .slice A0 l0.length c0)) 6 rfl rfl (hon 10 (by kernel_rfl)) rfl
                    have e38 : a.tmps[38]? = some (.slice A1 l1.length c1) := by rw [ha]; exact putSel_on (e := (11, 38, .slice A1 l1.length c1)) 7 rfl rfl (hon 11 (by kernel_rfl)) rfl
                    have e36 : a.tmps[36]? = some (.bool (t158 != ((strOfNums l0).toList == (strOfNums l1).toList))) := by rw [ha]; exact putSel_on (e := (9, 36, .bool (t158 != ((strOfNums l0).toList == (strOfNums l1).toList)))) 5 rfl rfl (hon 9 (by kernel_rfl)) rfl
                    replace ha := Aside0.mk ha
                    have HB := Aside0.mk Q_HB
                    refine goes_ Try.func24 (by kernel_rfl) rfl #[.slice A0 l0.length c0, .slice A1 l1.length c1] (by first | rfl | (simp [Region.wanted, yielded, *]; done)) rfl rfl (by first | (simp only [List.map_toArray, List.map_cons, List.map_nil, Act.eval, Array.getD_eq_getD_getElem?, Option.getD_some, e37, e38, e36]; done) | (simp only [List.map_toArray, List.map_cons, List.map_nil, Act.eval, Array.getD_eq_getD_getElem?, Option.getD_some, e37, e38, e36]; rfl)) ?_
                    with_reducible refine (trunc_Unlike.calls kj7 _ _ l0 _ _ l1 t159 _ ?side1 ?side2 ?side3 ?side4 A21.out).mono ?_
                    (case side1 => repeat (first | exact (Kd.C_below HR0.out HB.out) | (with_reducible refine Kd.C_alloc ?_ _) | (with_reducible refine Kd.C_drewN ?_ _) | (with_reducible refine Kd.C_drew ?_)))
                    (case side2 => exact HC0.out)
                    (case side3 => repeat (first | exact (Kd.C_below HR1.out HB.out) | (with_reducible refine Kd.C_alloc ?_ _) | (with_reducible refine Kd.C_drewN ?_ _) | (with_reducible refine Kd.C_drew ?_)))
                    (case side4 => exact HC1.out)
                    rintro e w54 ⟨rfl, hb⟩
                    refine ⟨_, rfl, ?_⟩
                    have n0_ := Aside0.mk (below_step (by repeat (first | (with_reducible first | exact HB.out | apply below_alloc | apply pw_below_drewN | apply below_drew1) | exact HB.out)) hb)
                    clear HB
                    have HB := n0_
                    clear n0_
                    (try clear hb)
                    (try clear hb2)
                    (try clear hk)
                    (try clear hi)
                    refine hK.out _ _ ⟨(by rw [ha.out]; exact putSel_upk 8 hb_ rfl rfl rfl), (by repeat (first | (with_reducible first | exact HB.out | apply below_alloc | apply pw_below_drewN | apply below_drew1) | exact HB.out))⟩
                  refine steps_cons ?_ ?_
                  · rintro b a w' ⟨ha, Q_HB⟩ hb_ hon hoff
                    refine ⟨_, rfl, fun K hK => ?_⟩
                    have e1 : a.tmps[1]? = some (.slice A1 l1.length c1) := by rw [ha]; exact (putSel_off rfl).trans rfl
                    have e36 : a.tmps[36]? = some (.bool (t158 != ((strOfNums l0).toList == (strOfNums l1).toList))) := by rw [ha]; exact putSel_on (e := (9, 36, .bool (t158 != ((strOfNums l0).toList == (strOfNums l1).toList)))) 5 rfl rfl (hon 9 (by kernel_rfl)) rfl
                    replace ha := Aside0.mk ha
                    have HB := Aside0.mk Q_HB
                    refine value_ (w1 := w') (v := .slice A1 l1.length c1) (wanted_on rfl rfl rfl (e36.trans (by first | rfl | (simp [*]; done)))) rfl ?_ ?_
                    · go_simp
                      (try simp only [i64_w])
                      try rfl
                    refine hK.out _ _ ⟨(by rw [ha.out]; exact putSel_upk 9 hb_ rfl rfl rfl), Q_HB⟩
                  refine steps_cons ?_ ?_
                  · rintro b a w' ⟨ha, Q_HB⟩ hb_ hon hoff
                    refine ⟨_, rfl, fun K hK => ?_⟩
                    have e0 : a.tmps[0]? = some (.slice A0 l0.length c0) := by rw [ha]; exact (putSel_off rfl).trans rfl
                    have e36 : a.tmps[36]? = some (.bool (t158 != ((strOfNums l0).toList == (strOfNums l1).toList))) := by rw [ha]; exact putSel_on (e := (9, 36, .bool (t158 != ((strOfNums l0).toList == (strOfNums l1).toList)))) 5 rfl rfl (hon 9 (by kernel_rfl)) rfl
                    replace ha := Aside0.mk ha
                    have HB := Aside0.mk Q_HB
                    refine value_ (w1 := w') (v := .slice A0 l0.length c0) (wanted_on rfl rfl rfl (e36.trans (by first | rfl | (simp [*]; done)))) rfl ?_ ?_
                    · go_simp
                      (try simp only [i64_w])
                      try rfl
                    refine hK.out _ _ ⟨(by rw [ha.out]; exact putSel_upk 10 hb_ rfl rfl rfl), Q_HB⟩
                  refine steps_cons ?_ ?_
                  · rintro b a w' ⟨ha, Q_HB⟩ hb_ hon hoff
                    refine ⟨_, rfl, fun K hK => ?_⟩
                    have e40 : a.tmps[40]? = some (.slice A1 l1.length c1) := by rw [ha]; exact putSel_on (e := (13, 40, .slice A1 l1.length c1)) 9 rfl rfl (hon 13 (by kernel_rfl)) rfl
                    have e41 : a.tmps[41]? = some (.slice A0 l0.length c0) := by rw [ha]; exact putSel_on (e := (14, 41, .slice A0 l0.length c0)) 10 rfl rfl (hon 14 (by kernel_rfl)) rfl
                    have e36 : a.tmps[36]? = some (.bool (t158 != ((strOfNums l0).toList == (strOfNums l1).toList))) := by rw [ha]; exact putSel_on (e := (9, 36, .bool (t158 != ((strOfNums l0).toList == (strOfNums l1).toList)))) 5 rfl rfl (hon 9 (by kernel_rfl)) rfl
                    replace ha := Aside0.mk ha
                    have HB := Aside0.mk Q_HB
                    refine goes_ Try.func24 (by kernel_rfl) rfl #[.slice A1 l1.length c1, .slice A0 l0.length c0] (by first | rfl | (simp [Region.wanted, yielded, *]; done)) rfl rfl (by first | (simp only [List.map_toArray, List.map_cons, List.map_nil, Act.eval, Array.getD_eq_getD_getElem?, Option.getD_some, e40, e41, e36]; done) | (simp only [List.map_toArray, List.map_cons, List.map_nil, Act.eval, Array.getD_eq_getD_getElem?, Option.getD_some, e40, e41, e36]; rfl)) ?_
                    with_reducible refine (trunc_Unlike.calls kj7 _ _ l1 _ _ l0 t160 _ ?side1 ?side2 ?side3 ?side4 A22.out).mono ?_
                    (case side1 => repeat (first | exact (Kd.C_below HR1.out HB.out) | (with_reducible refine Kd.C_alloc ?_ _) | (with_reducible refine Kd.C_drewN ?_ _) | (with_reducible refine Kd.C_drew ?_)))
                    (case side2 => exact HC1.out)
                    (case side3 => repeat (first | exact (Kd.C_below HR0.out HB.out) | (with_reducible refine Kd.C_alloc ?_ _) | (with_reducible refine Kd.C_drewN ?_ _) | (with_reducible refine Kd.C_drew ?_)))
                    (case side4 => exact HC0.out)
                    rintro e w55 ⟨rfl, hb⟩
                    refine ⟨_, rfl, ?_⟩
                    have n0_ := Aside0.mk (below_step (by repeat (first | (with_reducible first | exact HB.out | apply below_alloc | apply pw_below_drewN | apply below_drew1) | exact HB.out)) hb)
                    clear HB
                    have HB := n0_
                    clear n0_
                    (try clear hb)
                    (try clear hb2)
                    (try clear hk)
                    (try clear hi)
                    refine hK.out _ _ ⟨(by rw [ha.out]; exact putSel_upk 11 hb_ rfl rfl rfl), (by repeat (first | (with_reducible first | exact HB.out | apply below_alloc | apply pw_below_drewN | apply below_drew1) | exact HB.out))⟩
                  refine steps_cons ?_ ?_
                  · rintro b a w' ⟨ha, Q_HB⟩ hb_ hon hoff
                    refine ⟨_, rfl, fun K hK => ?_⟩
                    have e39 : a.tmps[39]? = some (.int .i64 t159) := by rw [ha]; exact putSel_on (e := (12, 39, .int .i64 t159)) 8 rfl rfl (hon 12 (by kernel_rfl)) rfl
                    have e42 : a.tmps[42]? = some (.int .i64 t160) := by rw [ha]; exact putSel_on (e := (15, 42, .int .i64 t160)) 11 rfl rfl (hon 15 (by kernel_rfl)) rfl
                    have e36 : a.tmps[36]? = some (.bool (t158 != ((strOfNums l0).toList == (strOfNums l1).toList))) := by rw [ha]; exact putSel_on (e := (9, 36, .bool (t158 != ((strOfNums l0).toList == (strOfNums l1).toList)))) 5 rfl rfl (hon 9 (by kernel_rfl)) rfl
                    replace ha := Aside0.mk ha
                    have HB := Aside0.mk Q_HB
                    refine value_ (w1 := w') (v := .bool (t159 != t160)) (wanted_on rfl rfl rfl (e36.trans (by first | rfl | (simp [*]; done)))) rfl ?_ ?_
                    · go_simp
                      (try simp only [i64_w])
                      try rfl
                    refine hK.out _ _ ⟨(by rw [ha.out]; exact putSel_upk 12 hb_ rfl rfl rfl), Q_HB⟩
                  refine steps_cons ?_ ?_
                  · rintro b a w' ⟨ha, Q_HB⟩ hb_ hon hoff
                    refine ⟨_, rfl, fun K hK => ?_⟩
                    have e36 : a.tmps[36]? = some (.bool (t158 != ((strOfNums l0).toList == (strOfNums l1).toList))) := by rw [ha]; exact putSel_on (e := (9, 36, .bool (t158 != ((strOfNums l0).toList == (strOfNums l1).toList)))) 5 rfl rfl (hon 9 (by kernel_rfl)) rfl
                    have e43 : a.tmps[43]? = some (.bool (t159 != t160)) := by rw [ha]; exact putSel_on (e := (16, 43, .bool (t159 != t160))) 12 rfl rfl (hon 16 (by kernel_rfl)) rfl
                    replace ha := Aside0.mk ha
                    have HB := Aside0.mk Q_HB
                    refine value_ (w1 := w') (v := .bool (t159 != t160)) (by rfl) rfl ?_ ?_
                    · go_simp
                      (try simp only [i64_w])
                      try rfl
                    refine hK.out _ _ ⟨(by rw [ha.out]; exact putSel_upk 13 hb_ rfl rfl rfl), Q_HB⟩
                  refine steps_cons ?_ ?_
                  · rintro b a w' ⟨ha, Q_HB⟩ hb_ hon hoff
                    refine ⟨_, rfl, fun K hK => ?_⟩
                    have e44 : a.tmps[44]? = some (.bool (t159 != t160)) := by rw [ha]; exact putSel_on (e := (17, 44, .bool (t159 != t160))) 13 rfl rfl (hon 17 (by kernel_rfl)) rfl
                    replace ha := Aside0.mk ha
                    have HB := Aside0.mk Q_HB
                    refine value_ (w1 := w') (v := .bool (t159 != t160)) (by rfl) rfl ?_ ?_
                    · go_simp
                      (try simp only [i64_w])
                      try rfl
                    refine hK.out _ _ ⟨(by rw [ha.out]; exact putSel_upk 14 hb_ rfl rfl rfl), Q_HB⟩
                  refine steps_cons ?_ ?_
                  · rintro b a w' ⟨ha, Q_HB⟩ hb_ hon hoff
                    refine ⟨_, rfl, fun K hK => ?_⟩
                    have e45 : a.tmps[45]? = some (.bool (t159 != t160)) := by rw [ha]; exact putSel_on (e := (18, 45, .bool (t159 != t160))) 14 rfl rfl (hon 18 (by kernel_rfl)) rfl
                    replace ha := Aside0.mk ha
                    have HB := Aside0.mk Q_HB
                    refine off_ (wanted_off rfl rfl rfl (e45.trans (by first | rfl | (simp [*]; done)))) ?_
                    refine hK.out _ _ ⟨(by rw [ha.out]; exact putSel_upk 15 hb_ rfl rfl rfl), Q_HB⟩
                  refine steps_cons ?_ ?_
                  · rintro b a w' ⟨ha, Q_HB⟩ hb_ hon hoff
                    refine ⟨_, rfl, fun K hK => ?_⟩
                    have e45 : a.tmps[45]? = some (.bool (t159 != t160)) := by rw [ha]; exact putSel_on (e := (18, 45, .bool (t159 != t160))) 14 rfl rfl (hon 18 (by kernel_rfl)) rfl
                    replace ha := Aside0.mk ha
                    have HB := Aside0.mk Q_HB
                    refine off_ (wanted_off rfl rfl rfl (e45.trans (by first | rfl | (simp [*]; done)))) ?_
                    refine hK.out _ _ ⟨(by rw [ha.out]; exact putSel_upk 16 hb_ rfl rfl rfl), Q_HB⟩
                  refine steps_cons ?_ ?_
                  · rintro b a w' ⟨ha, Q_HB⟩ hb_ hon hoff
                    refine ⟨_, rfl, fun K hK => ?_⟩
                    have e45 : a.tmps[45]? = some (.bool (t159 != t160)) := by rw [ha]; exact putSel_on (e := (18, 45, .bool (t159 != t160))) 14 rfl rfl (hon 18 (by kernel_rfl)) rfl
                    replace ha := Aside0.mk ha
                    have HB := Aside0.mk Q_HB
                    refine off_ (wanted_off rfl rfl rfl (e45.trans (by first | rfl | (simp [*]; done)))) ?_
                    refine hK.out _ _ ⟨(by rw [ha.out]; exact putSel_upk 17 hb_ rfl rfl rfl), Q_HB⟩
                  refine steps_cons ?_ ?_
                  · rintro b a w' ⟨ha, Q_HB⟩ hb_ hon hoff
                    refine ⟨_, rfl, fun K hK => ?_⟩
                    have e45 : a.tmps[45]? = some (.bool (t159 != t160)) := by rw [ha]; exact putSel_on (e := (18, 45, .bool (t159 != t160))) 14 rfl rfl (hon 18 (by kernel_rfl)) rfl
                    replace ha := Aside0.mk ha
                    have HB := Aside0.mk Q_HB
                    refine off_ (wanted_off rfl rfl rfl (e45.trans (by first | rfl | (simp [*]; done)))) ?_
                    refine hK.out _ _ ⟨(by rw [ha.out]; exact putSel_upk 18 hb_ rfl rfl rfl), Q_HB⟩
                  refine steps_cons ?_ ?_
                  · rintro b a w' ⟨ha, Q_HB⟩ hb_ hon hoff
                    refine ⟨_, rfl, fun K hK => ?_⟩
                    have e45 : a.tmps[45]? = some (.bool (t159 != t160)) := by rw [ha]; exact putSel_on (e := (18, 45, .bool (t159 != t160))) 14 rfl rfl (hon 18 (by kernel_rfl)) rfl
                    replace ha := Aside0.mk ha
                    have HB := Aside0.mk Q_HB
                    refine off_ (wanted_off rfl rfl rfl (e45.trans (by first | rfl | (simp [*]; done)))) ?_
                    refine hK.out _ _ ⟨(by rw [ha.out]; exact putSel_upk 19 hb_ rfl rfl rfl), Q_HB⟩
                  refine steps_cons ?_ ?_
                  · rintro b a w' ⟨ha, Q_HB⟩ hb_ hon hoff
                    refine ⟨_, rfl, fun K hK => ?_⟩
                    have e45 : a.tmps[45]? = some (.bool (t159 != t160)) := by rw [ha]; exact putSel_on (e := (18, 45, .bool (t159 != t160))) 14 rfl rfl (hon 18 (by kernel_rfl)) rfl
                    replace ha := Aside0.mk ha
                    have HB := Aside0.mk Q_HB
                    refine off_ (wanted_off rfl rfl rfl (e45.trans (by first | rfl | (simp [*]; done)))) ?_
                    refine hK.out _ _ ⟨(by rw [ha.out]; exact putSel_upk 20 hb_ rfl rfl rfl), Q_HB⟩
                  refine steps_cons ?_ ?_
                  · rintro b a w' ⟨ha, Q_HB⟩ hb_ hon hoff
                    refine ⟨_, rfl, fun K hK => ?_⟩
                    have e45 : a.tmps[45]? = some (.bool (t159 != t160)) := by rw [ha]; exact putSel_on (e := (18, 45, .bool (t159 != t160))) 14 rfl rfl (hon 18 (by kernel_rfl)) rfl
                    replace ha := Aside0.mk ha
                    have HB := Aside0.mk Q_HB
                    refine off_ (wanted_off rfl rfl rfl (e45.trans (by first | rfl | (simp [*]; done)))) ?_
                    refine hK.out _ _ ⟨(by rw [ha.out]; exact putSel_upk 21 hb_ rfl rfl rfl), Q_HB⟩
                  refine steps_cons ?_ ?_
                  · rintro b a w' ⟨ha, Q_HB⟩ hb_ hon hoff
                    refine ⟨_, rfl, fun K hK => ?_⟩
                    have e45 : a.tmps[45]? = some (.bool (t159 != t160)) := by rw [ha]; exact putSel_on (e := (18, 45, .bool (t159 != t160))) 14 rfl rfl (hon 18 (by kernel_rfl)) rfl
                    replace ha := Aside0.mk ha
                    have HB := Aside0.mk Q_HB
                    refine off_ (wanted_off rfl rfl rfl (e45.trans (by first | rfl | (simp [*]; done)))) ?_
                    refine hK.out _ _ ⟨(by rw [ha.out]; exact putSel_upk 22 hb_ rfl rfl rfl), Q_HB⟩
                  refine steps_cons ?_ ?_
                  · rintro b a w' ⟨ha, Q_HB⟩ hb_ hon hoff
                    refine ⟨_, rfl, fun K hK => ?_⟩
                    have e45 : a.tmps[45]? = some (.bool (t159 != t160)) := by rw [ha]; exact putSel_on (e := (18, 45, .bool (t159 != t160))) 14 rfl rfl (hon 18 (by kernel_rfl)) rfl
                    replace ha := Aside0.mk ha
                    have HB := Aside0.mk Q_HB
                    refine off_ (wanted_off rfl rfl rfl (e45.trans (by first | rfl | (simp [*]; done)))) ?_
                    refine hK.out _ _ ⟨(by rw [ha.out]; exact putSel_upk 23 hb_ rfl rfl rfl), Q_HB⟩
                  refine steps_cons ?_ ?_
                  · rintro b a w' ⟨ha, Q_HB⟩ hb_ hon hoff
                    refine ⟨_, rfl, fun K hK => ?_⟩
                    have e45 : a.tmps[45]? = some (.bool (t159 != t160)) := by rw [ha]; exact putSel_on (e := (18, 45, .bool (t159 != t160))) 14 rfl rfl (hon 18 (by kernel_rfl)) rfl
                    have e54 : a.tmps[54]? = some (undef) := by rw [ha]; exact putSel_on (e := (27, 54, undef)) 23 rfl rfl (hon 27 (by kernel_rfl)) rfl
                    replace ha := Aside0.mk ha
                    have HB := Aside0.mk Q_HB
                    refine value_ (w1 := w') (v := .bool true) (by rfl) rfl ?_ ?_
                    · go_simp
                      (try simp only [i64_w])
                      try rfl
                    refine hK.out _ _ ⟨(by rw [ha.out]; exact putSel_upk 24 hb_ rfl rfl rfl), Q_HB⟩
                  refine steps_cons ?_ ?_
                  · rintro b a w' ⟨ha, Q_HB⟩ hb_ hon hoff
                    refine ⟨_, rfl, fun K hK => ?_⟩
                    have e55 : a.tmps[55]? = some (.bool true) := by rw [ha]; exact putSel_on (e := (28, 55, .bool true)) 24 rfl rfl (hon 28 (by kernel_rfl)) rfl
                    replace ha := Aside0.mk ha
                    have HB := Aside0.mk Q_HB
                    refine value_ (w1 := w') (v := .bool true) (by rfl) rfl ?_ ?_
                    · go_simp
                      (try simp only [i64_w])
                      try rfl
                    refine hK.out _ _ ⟨(by rw [ha.out]; exact putSel_upk 25 hb_ rfl rfl rfl), Q_HB⟩
                  refine steps_cons ?_ ?_
                  · rintro b a w' ⟨ha, Q_HB⟩ hb_ hon hoff
                    refine ⟨_, rfl, fun K hK => ?_⟩
                    have e56 : a.tmps[56]? = some (.bool true) := by rw [ha]; exact putSel_on (e := (29, 56, .bool true)) 25 rfl rfl (hon 29 (by kernel_rfl)) rfl
                    replace ha := Aside0.mk ha
                    have HB := Aside0.mk Q_HB
                    refine off_ (wanted_off rfl rfl rfl (e56.trans (by first | rfl | (simp [*]; done)))) ?_
                    refine hK.out _ _ ⟨(by rw [ha.out]; exact putSel_upk 26 hb_ rfl rfl rfl), Q_HB⟩
                  refine steps_cons ?_ ?_
                  · rintro b a w' ⟨ha, Q_HB⟩ hb_ hon hoff
                    refine ⟨_, rfl, fun K hK => ?_⟩
                    have e56 : a.tmps[56]? = some (.bool true) := by rw [ha]; exact putSel_on (e := (29, 56, .bool true)) 25 rfl rfl (hon 29 (by kernel_rfl)) rfl
                    replace ha := Aside0.mk ha
                    have HB := Aside0.mk Q_HB
                    refine off_ (wanted_off rfl rfl rfl (e56.trans (by first | rfl | (simp [*]; done)))) ?_
                    refine hK.out _ _ ⟨(by rw [ha.out]; exact putSel_upk 27 hb_ rfl rfl rfl), Q_HB⟩
                  refine steps_cons ?_ ?_
                  · rintro b a w' ⟨ha, Q_HB⟩ hb_ hon hoff
                    refine ⟨_, rfl, fun K hK => ?_⟩
                    have e56 : a.tmps[56]? = some (.bool true) := by rw [ha]; exact putSel_on (e := (29, 56, .bool true)) 25 rfl rfl (hon 29 (by kernel_rfl)) rfl
                    replace ha := Aside0.mk ha
                    have HB := Aside0.mk Q_HB
                    refine off_ (wanted_off rfl rfl rfl (e56.trans (by first | rfl | (simp [*]; done)))) ?_
                    refine hK.out _ _ ⟨(by rw [ha.out]; exact putSel_upk 28 hb_ rfl rfl rfl), Q_HB⟩
                  refine steps_cons ?_ ?_
                  · rintro b a w' ⟨ha, Q_HB⟩ hb_ hon hoff
                    refine ⟨_, rfl, fun K hK => ?_⟩
                    have e56 : a.tmps[56]? = some (.bool true) := by rw [ha]; exact putSel_on (e := (29, 56, .bool true)) 25 rfl rfl (hon 29 (by kernel_rfl)) rfl
                    replace ha := Aside0.mk ha
                    have HB := Aside0.mk Q_HB
                    refine off_ (wanted_off rfl rfl rfl (e56.trans (by first | rfl | (simp [*]; done)))) ?_
                    refine hK.out _ _ ⟨(by rw [ha.out]; exact putSel_upk 29 hb_ rfl rfl rfl), Q_HB⟩
                  refine steps_cons ?_ ?_
                  · rintro b a w' ⟨ha, Q_HB⟩ hb_ hon hoff
                    refine ⟨_, rfl, fun K hK => ?_⟩
                    have e56 : a.tmps[56]? = some (.bool true) := by rw [ha]; exact putSel_on (e := (29, 56, .bool true)) 25 rfl rfl (hon 29 (by kernel_rfl)) rfl
                    replace ha := Aside0.mk ha
                    have HB := Aside0.mk Q_HB
                    refine off_ (wanted_off rfl rfl rfl (e56.trans (by first | rfl | (simp [*]; done)))) ?_
                    refine hK.out _ _ ⟨(by rw [ha.out]; exact putSel_upk 30 hb_ rfl rfl rfl), Q_HB⟩
                  refine steps_cons ?_ ?_
                  · rintro b a w' ⟨ha, Q_HB⟩ hb_ hon hoff
                    refine ⟨_, rfl, fun K hK => ?_⟩
                    have e56 : a.tmps[56]? = some (.bool true) := by rw [ha]; exact putSel_on (e := (29, 56, .bool true)) 25 rfl rfl (hon 29 (by kernel_rfl)) rfl
                    replace ha := Aside0.mk ha
                    have HB := Aside0.mk Q_HB
                    refine off_ (wanted_off rfl rfl rfl (e56.trans (by first | rfl | (simp [*]; done)))) ?_
                    refine hK.out _ _ ⟨(by rw [ha.out]; exact putSel_upk 31 hb_ rfl rfl rfl), Q_HB⟩
                  refine steps_cons ?_ ?_
                  · rintro b a w' ⟨ha, Q_HB⟩ hb_ hon hoff
                    refine ⟨_, rfl, fun K hK => ?_⟩
                    have e56 : a.tmps[56]? = some (.bool true) := by rw [ha]; exact putSel_on (e := (29, 56, .bool true)) 25 rfl rfl (hon 29 (by kernel_rfl)) rfl
                    replace ha := Aside0.mk ha
                    have HB := Aside0.mk Q_HB
                    refine off_ (wanted_off rfl rfl rfl (e56.trans (by first | rfl | (simp [*]; done)))) ?_
                    refine hK.out _ _ ⟨(by rw [ha.out]; exact putSel_upk 32 hb_ rfl rfl rfl), Q_HB⟩
                  refine steps_cons ?_ ?_
                  · rintro b a w' ⟨ha, Q_HB⟩ hb_ hon hoff
                    refine ⟨_, rfl, fun K hK => ?_⟩
                    have e56 : a.tmps[56]? = some (.bool true) := by rw [ha]; exact putSel_on (e := (29, 56, .bool true)) 25 rfl rfl (hon 29 (by kernel_rfl)) rfl
                    replace ha := Aside0.mk ha
                    have HB := Aside0.mk Q_HB
                    refine off_ (wanted_off rfl rfl rfl (e56.trans (by first | rfl | (simp [*]; done)))) ?_
                    refine hK.out _ _ ⟨(by rw [ha.out]; exact putSel_upk 33 hb_ rfl rfl rfl), Q_HB⟩
                  refine steps_cons ?_ ?_
                  · rintro b a w' ⟨ha, Q_HB⟩ hb_ hon hoff
                    refine ⟨_, rfl, fun K hK => ?_⟩
                    have e56 : a.tmps[56]? = some (.bool true) := by rw [ha]; exact putSel_on (e := (29, 56, .bool true)) 25 rfl rfl (hon 29 (by kernel_rfl)) rfl
                    replace ha := Aside0.mk ha
                    have HB := Aside0.mk Q_HB
                    refine off_ (wanted_off rfl rfl rfl (e56.trans (by first | rfl | (simp [*]; done)))) ?_
                    refine hK.out _ _ ⟨(by rw [ha.out]; exact putSel_upk 34 hb_ rfl rfl rfl), Q_HB⟩
                  refine steps_cons ?_ ?_
                  · rintro b a w' ⟨ha, Q_HB⟩ hb_ hon hoff
                    refine ⟨_, rfl, fun K hK => ?_⟩
                    have e56 : a.tmps[56]? = some (.bool true) := by rw [ha]; exact putSel_on (e := (29, 56, .bool true)) 25 rfl rfl (hon 29 (by kernel_rfl)) rfl
                    replace ha := Aside0.mk ha
                    have HB := Aside0.mk Q_HB
                    refine off_ (wanted_off rfl rfl rfl (e56.trans (by first | rfl | (simp [*]; done)))) ?_
                    refine hK.out _ _ ⟨(by rw [ha.out]; exact putSel_upk 35 hb_ rfl rfl rfl), Q_HB⟩
                  refine steps_cons ?_ ?_
                  · rintro b a w' ⟨ha, Q_HB⟩ hb_ hon hoff
                    refine ⟨_, rfl, fun K hK => ?_⟩
                    have e56 : a.tmps[56]? = some (.bool true) := by rw [ha]; exact putSel_on (e := (29, 56, .bool true)) 25 rfl rfl (hon 29 (by kernel_rfl)) rfl
                    replace ha := Aside0.mk ha
                    have HB := Aside0.mk Q_HB
                    refine off_ (wanted_off rfl rfl rfl (e56.trans (by first | rfl | (simp [*]; done)))) ?_
                    refine hK.out _ _ ⟨(by rw [ha.out]; exact putSel_upk 36 hb_ rfl rfl rfl), Q_HB⟩
                  refine steps_cons ?_ ?_
                  · rintro b a w' ⟨ha, Q_HB⟩ hb_ hon hoff
                    refine ⟨_, rfl, fun K hK => ?_⟩
                    have e56 : a.tmps[56]? = some (.bool true) := by rw [ha]; exact putSel_on (e := (29, 56, .bool true)) 25 rfl rfl (hon 29 (by kernel_rfl)) rfl
                    have e67 : a.tmps[67]? = some (undef) := by rw [ha]; exact putSel_on (e := (40, 67, undef)) 36 rfl rfl (hon 40 (by kernel_rfl)) rfl
                    replace ha := Aside0.mk ha
                    have HB := Aside0.mk Q_HB
                    refine value_ (w1 := w') (v := .bool true) (by rfl) rfl ?_ ?_
                    · go_simp
                      (try simp only [i64_w])
                      try rfl
                    refine hK.out _ _ ⟨(by rw [ha.out]; exact putSel_upk 37 hb_ rfl rfl rfl), Q_HB⟩
                  exact steps_nil
                rintro b a w55 hall ⟨ha, Q_HB⟩
                clear HB
                have hb2_ := hall 2 (by kernel_rfl)
                have hb4_ := hall 4 (by kernel_rfl)
                have hb6_ := hall 6 (by kernel_rfl)
                have hb7_ := hall 7 (by kernel_rfl)
                have hb8_ := hall 8 (by kernel_rfl)
                have hb9_ := hall 9 (by kernel_rfl)
                have hb10_ := hall 10 (by kernel_rfl)
                have hb11_ := hall 11 (by kernel_rfl)
                have hb12_ := hall 12 (by kernel_rfl)
                have hb13_ := hall 13 (by kernel_rfl)
                have hb14_ := hall 14 (by kernel_rfl)
                have hb15_ := hall 15 (by kernel_rfl)
                have hb16_ := hall 16 (by kernel_rfl)
                have hb17_ := hall 17 (by kernel_rfl)
                have hb18_ := hall 18 (by kernel_rfl)
                have hb19_ := hall 19 (by kernel_rfl)
                have hb20_ := hall 20 (by kernel_rfl)
                have hb21_ := hall 21 (by kernel_rfl)
                have hb22_ := hall 22 (by kernel_rfl)
                have hb23_ := hall 23 (by kernel_rfl)
                have hb24_ := hall 24 (by kernel_rfl)
                have hb25_ := hall 25 (by kernel_rfl)
                have hb26_ := hall 26 (by kernel_rfl)
                have hb27_ := hall 27 (by kernel_rfl)
                have hb28_ := hall 28 (by kernel_rfl)
                have hb29_ := hall 29 (by kernel_rfl)
                have hb30_ := hall 30 (by kernel_rfl)
                have hb31_ := hall 31 (by kernel_rfl)
                have hb32_ := hall 32 (by kernel_rfl)
                have hb33_ := hall 33 (by kernel_rfl)
                have hb34_ := hall 34 (by kernel_rfl)
                have hb35_ := hall 35 (by kernel_rfl)
                have hb36_ := hall 36 (by kernel_rfl)
                have hb37_ := hall 37 (by kernel_rfl)
                have hb38_ := hall 38 (by kernel_rfl)
                have hb39_ := hall 39 (by kernel_rfl)
                have hb40_ := hall 40 (by kernel_rfl)
                have hb41_ := hall 41 (by kernel_rfl)
                subst ha
                simp only [putSel, hb2_, hb4_, hb6_, hb7_, hb8_, hb9_, hb10_, hb11_, hb12_, hb13_, hb14_, hb15_, hb16_, hb17_, hb18_, hb19_, hb20_, hb21_, hb22_, hb23_, hb24_, hb25_, hb26_, hb27_, hb28_, hb29_, hb30_, hb31_, hb32_, hb33_, hb34_, hb35_, hb36_, hb37_, hb38_, hb39_, hb40_, hb41_, if_true, Act.put, List.setIfInBounds_toArray, List.set_cons_zero, List.set_cons_succ]
                have HB := Aside0.mk Q_HB
                clear Q_HB
                clear hall hb2_ hb4_ hb6_ hb7_ hb8_ hb9_ hb10_ hb11_ hb12_ hb13_ hb14_ hb15_ hb16_ hb17_ hb18_ hb19_ hb20_ hb21_ hb22_ hb23_ hb24_ hb25_ hb26_ hb27_ hb28_ hb29_ hb30_ hb31_ hb32_ hb33_ hb34_ hb35_ hb36_ hb37_ hb38_ hb39_ hb40_ hb41_
                try go_wp2
                go_meet
                case rel => exact ⟨_, (true), (by first | rfl | (simp; done) | (simp [*]; done)), H', ⟨by have := HJ7.out; first | omega | exact Nat.le_refl _⟩, ⟨by repeat (first | (with_reducible first | exact HB.out | apply below_alloc | apply pw_below_drewN | apply below_drew1) | exact HB.out)⟩⟩
          case rest =>
            clear HC13
            try clear c1
            try clear c2
            try clear p2
            try clear p6
            try clear c23
            try clear c23b0
            try clear c23b1
            try clear c24
            try clear c25
            obtain ⟨kq, x68_12, rfl, HA, HJ12, HB⟩ := hcut
            cases kq with
            | zero => exact absurd HA.out (by simp [wristbandlaw04_TruncSame.j1])
            | succ kj12 =>
              have H := HA.out
              clear HA
              simp only [wristbandlaw04_TruncSame.j1] at H
              by_cases c56 : x68_12 = true
              · subst c56
                have H1 : (some false) = some r := by rw [if_pos rfl] at H; exact H
                clear H
                have H := H1
                clear H1
                obtain rfl := Option.some.inj H
                go_wp2
                go_ret
                exact ⟨by first | rfl | (simp [errW_none, errW_some] <;> rfl) | (simp [*, errW_none, errW_some] <;> rfl), by repeat (first | (with_reducible first | exact HB.out | apply below_alloc | apply pw_below_drewN | apply below_drew1) | exact HB.out)⟩
              · replace c56 := Bool.eq_false_iff.mpr c56
                subst c56
                have H1 : (if (l0.length : Int) = 0 then (wristbandlaw04_TruncSame.j2 kj12 l0 a3 a4 true) else (wristbandlaw04_TruncSame.j2 kj12 l0 a3 a4 (a4 == 0))) = some r := by rw [if_neg (show ¬ (false = true) by decide)] at H; exact H
                clear H
                have H := H1
                clear H1
                have HC57 := Aside0.mk H
                clear H
                go_upto_region 7 with (fail)
                go_cut [75] (fun v75 wc => ∃ (kq : Nat) (x75_56 : Bool), v75 = .bool x75_56 ∧ Aside0 (wristbandlaw04_TruncSame.j2 kq l0 a3 a4 x75_56 = some r) ∧ Aside0 (kq ≤ kj12) ∧ Aside0 (Below w.heap.size w wc))
                case first =>
                  have H := HC57.out
                  clear HC57
                  by_cases c58 : (l0.length : Int) = 0
                  · rw [if_pos c58] at H
                    have c58b0 : ((l0.length : Int) == 0) = true := beq_iff_eq.mpr c58
                    have c58b1 : ((l0.length : Int) != 0) = false := bne_eq_false_iff_eq.mpr c58
                    clear c58
                    (first | rw [c58b0] | (simp only [i64_w, i32_w]; rw [c58b0]) | skip)
                    have H' := Aside0.mk H
                    clear H
                    go_wp2
                    go_meet
                    case rel => exact ⟨_, (true), (by first | rfl | (simp; done) | (simp [*]; done)), H', ⟨by have := HJ7.out; have := HJ12.out; first | omega | exact Nat.le_refl _⟩, ⟨by repeat (first | (with_reducible first | exact HB.out | apply below_alloc | apply pw_below_drewN | apply below_drew1) | exact HB.out)⟩⟩
                  · rw [if_neg c58] at H
                    have c58b0 : ((l0.length : Int) == 0) = false := beq_eq_false_iff_ne.mpr c58
                    have c58b1 : ((l0.length : Int) != 0) = true := bne_iff_ne.mpr c58
                    have c58b2 : ¬ (l0 = []) := fun h_ => c58 (by rw [h_]; rfl)
                    (first | rw [c58b0] | (simp only [i64_w, i32_w]; rw [c58b0]) | skip)
                    have H' := Aside0.mk H
                    clear H
                    go_wp2
                    go_meet
                    case rel => exact ⟨_, ((a4 == 0)), (by first | rfl | (simp; done) | (simp [*]; done)), H', ⟨by have := HJ7.out; have := HJ12.out; first | omega | exact Nat.le_refl _⟩, ⟨by repeat (first | (with_reducible first | exact HB.out | apply below_alloc | apply pw_below_drewN | apply below_drew1) | exact HB.out)⟩⟩
                case rest =>
                  clear HC57
                  try clear c1
                  try clear c2
                  try clear p2
                  try clear c5
                  try clear p6
                  try clear c23
                  try clear c23b0
                  try clear c23b1
                  try clear c24
                  try clear c25
                  try clear c56
                  try clear c58
                  try clear c58b0
                  try clear c58b1
                  try clear c58b2
                  try clear p2
                  try clear p6
                  obtain ⟨kq, x75_56, rfl, HA, HJ56, HB⟩ := hcut
                  cases kq with
                  | zero => exact absurd HA.out (by simp [wristbandlaw04_TruncSame.j2])
                  | succ kj56 =>
                    have H := HA.out
                    clear HA
                    simp only [wristbandlaw04_TruncSame.j2] at H
                    by_cases c59 : x75_56 = true
                    · subst c59
                      have H1 : (some true) = some r := by rw [if_pos rfl] at H; exact H
                      clear H
                      have H := H1
                      clear H1
                      obtain rfl := Option.some.inj H
                      go_wp2
                      go_ret
                      exact ⟨by first | rfl | (simp [errW_none, errW_some] <;> rfl) | (simp [*, errW_none, errW_some] <;> rfl), by repeat (first | (with_reducible first | exact HB.out | apply below_alloc | apply pw_below_drewN | apply below_drew1) | exact HB.out)⟩
                    · replace c59 := Bool.eq_false_iff.mpr c59
                      subst c59
                      have H1 : ((some (([] : List Int) : List Int)).bind fun y165 => (if y165.length + l0.length < 140737488355328 then ((some (y165 ++ l0 : List Int)).bind fun y168 => (if (l0.length : Int) = 0 then (none) else (if 0 ≤ (Int.tmod (wrap64 (a3)) (l0.length : Int)) then (if (Int.tmod (wrap64 (a3)) (l0.length : Int)) < (y168.length : Int) then ((some (y168.set ((Int.tmod (wrap64 (a3)) (l0.length : Int)) : Int).toNat (Go.bits .xor .u8 (rd y168 (Int.tmod (wrap64 (a3)) (l0.length : Int))) a4) : List Int)).bind fun y172 => ((trunc_Unlike.f kj56 l0 y172).bind fun t173 => (if t173 = 1 then ((trunc_Same.f kj56 l0 y172).bind fun t174 => (some (!t174))) else (some false)))) else (none)) else (none)))) else (none))) = some r := by rw [if_neg (show ¬ (false = true) by decide)] at H; exact H
                      clear H
                      have H := H1
                      clear H1
                      obtain ⟨y165, hy165⟩ : ∃ y_ : List Int, y_ = (([] : List Int)) := ⟨_, rfl⟩
                      replace H : (if y165.length + l0.length < 140737488355328 then ((some (y165 ++ l0 : List Int)).bind fun y168 => (if (l0.length : Int) = 0 then (none) else (if 0 ≤ (Int.tmod (wrap64 (a3)) (l0.length : Int)) then (if (Int.tmod (wrap64 (a3)) (l0.length : Int)) < (y168.length : Int) then ((some (y168.set ((Int.tmod (wrap64 (a3)) (l0.length : Int)) : Int).toNat (Go.bits .xor .u8 (rd y168 (Int.tmod (wrap64 (a3)) (l0.length : Int))) a4) : List Int)).bind fun y172 => ((trunc_Unlike.f kj56 l0 y172).bind fun t173 => (if t173 = 1 then ((trunc_Same.f kj56 l0 y172).bind fun t174 => (some (!t174))) else (some false)))) else (none)) else (none)))) else (none)) = some r := by first | (rw [hy165]; with_reducible exact H) | (have H2_ := (Option.bind_some _ _).symm.trans H; rw [hy165]; with_reducible exact H2_) | (have H2_ := (Option.bind_some _ _).symm.trans H; with_reducible exact H2_) | with_reducible exact H | (rw [hy165]; exact H) | exact H
                      have Ny165 := Aside0.mk hy165
                      clear hy165
                      by_cases c60 : y165.length + l0.length < 140737488355328
                      · rw [if_pos c60] at H
                        have LMc60 := Aside0.mk c60
                        clear c60
                        obtain ⟨y168, hy168⟩ : ∃ y_ : List Int, y_ = (y165 ++ l0) := ⟨_, rfl⟩
                        replace H : (if (l0.length : Int) = 0 then (none) else (if 0 ≤ (Int.tmod (wrap64 (a3)) (l0.length : Int)) then (if (Int.tmod (wrap64 (a3)) (l0.length : Int)) < (y168.length : Int) then ((some (y168.set ((Int.tmod (wrap64 (a3)) (l0.length : Int)) : Int).toNat (Go.bits .xor .u8 (rd y168 (Int.tmod (wrap64 (a3)) (l0.length : Int))) a4) : List Int)).bind fun y172 => ((trunc_Unlike.f kj56 l0 y172).bind fun t173 => (if t173 = 1 then ((trunc_Same.f kj56 l0 y172).bind fun t174 => (some (!t174))) else (some false)))) else (none)) else (none))) = some r := by first | (rw [hy168]; with_reducible exact H) | (have H2_ := (Option.bind_some _ _).symm.trans H; rw [hy168]; with_reducible exact H2_) | (have H2_ := (Option.bind_some _ _).symm.trans H; with_reducible exact H2_) | with_reducible exact H | (rw [hy168]; exact H) | exact H
                        have Ny168 := Aside0.mk hy168
                        clear hy168
                        by_cases c61 : (l0.length : Int) = 0
                        · rw [if_pos c61] at H
                          exact absurd H (by simp)
                        · rw [if_neg c61] at H
                          have c61b0 : ((l0.length : Int) == 0) = false := beq_eq_false_iff_ne.mpr c61
                          have c61b1 : ((l0.length : Int) != 0) = true := bne_iff_ne.mpr c61
                          have c61b2 : ¬ (l0 = []) := fun h_ => c61 (by rw [h_]; rfl)
                          obtain ⟨ji62, hji62⟩ : ∃ j_ : Int, (Int.tmod (wrap64 (a3)) (l0.length : Int)) = j_ := ⟨_, rfl⟩
                          replace H : (if 0 ≤ (ji62) then (if (ji62) < (y168.length : Int) then ((some (y168.set ((ji62) : Int).toNat (Go.bits .xor .u8 (rd y168 (ji62)) a4) : List Int)).bind fun y172 => ((trunc_Unlike.f kj56 l0 y172).bind fun t173 => (if t173 = 1 then ((trunc_Same.f kj56 l0 y172).bind fun t174 => (some (!t174))) else (some false)))) else (none)) else (none)) = some r := by first | (rw [hji62] at H; exact H) | (simp only [hji62] at H ⊢; exact H)
                          by_cases c63 : 0 ≤ (ji62)
                          · rw [if_pos c63] at H
                            have c63b0 : decide (0 ≤ (ji62)) = true := decide_eq_true c63
                            clear c63
                            by_cases c64 : (ji62) < (y168.length : Int)
                            · rw [if_pos c64] at H
                              have c64b0 : decide ((ji62) < (y168.length : Int)) = true := decide_eq_true c64
                              clear c64
                              obtain ⟨y172, hy172⟩ : ∃ y_ : List Int, y_ = (y168.set ((ji62) : Int).toNat (Go.bits .xor .u8 (rd y168 (ji62)) a4)) := ⟨_, rfl⟩
                              replace H : ((trunc_Unlike.f kj56 l0 y172).bind fun t173 => (if t173 = 1 then ((trunc_Same.f kj56 l0 y172).bind fun t174 => (some (!t174))) else (some false))) = some r := by first | (rw [hy172]; with_reducible exact H) | (have H2_ := (Option.bind_some _ _).symm.trans H; rw [hy172]; with_reducible exact H2_) | (have H2_ := (Option.bind_some _ _).symm.trans H; with_reducible exact H2_) | with_reducible exact H | (rw [hy172]; exact H) | exact H
                              have Ny172 := Aside0.mk hy172
                              clear hy172
                              replace H := Option.bind_eq_some_iff.mp H
                              obtain ⟨t173, A660, H⟩ := H
                              replace H : (if t173 = 1 then ((trunc_Same.f kj56 l0 y172).bind fun t174 => (some (!t174))) else (some false)) = some r := H
                              have A66 := Aside0.mk A660
                              clear A660
                              by_cases c67 : t173 = 1
                              · rw [if_pos c67] at H
                                have c67b0 : (t173 == 1) = true := beq_iff_eq.mpr c67
                                have c67b1 : (t173 != 1) = false := bne_eq_false_iff_eq.mpr c67
                                clear c67
                                replace H := Option.bind_eq_some_iff.mp H
                                obtain ⟨t174, A680, H⟩ := H
                                replace H : (some (!t174)) = some r := H
                                have A68 := Aside0.mk A680
                                clear A680
                                obtain rfl := Option.some.inj H
                                go_wp2_with (first | ((with_reducible refine gate_dst (N := 76) rfl ?_); (try (refine gate_guard (by rfl) ?_; dsimp only)); refine Kd.R_lit (Kd.int .u8) _ 5 ?hg (N := 76) ?hd (xs := ([] : List Int)) (inner := []) (ok := fun _ => True) (okp := fun _ => True) ?hr ?hp (fun _ hk => hk) trivial (Below.refl _ _) (Nat.le_refl _) (by simp) ?_; (case hd => rfl); (case hg => rfl); (case hr => first | (go_simp; done) | (go_simp; rfl)); (case hp => exact (Reps.none _ _)); intro v166 w69 ho70 hb hg_ hnew_; clear hg_ hnew_; (first | rw [← Ny165.out] at ho70 | (simp only [Int.reduceToNat] at ho70; rw [← Ny165.out] at ho70)); have n0_ := Aside0.mk (Kd.R_lower ho70 (below_size (by repeat (first | (with_reducible first | exact HB.out | apply below_alloc | apply pw_below_drewN | apply below_drew1) | exact HB.out)))); have n1_ := Aside0.mk (below_step (by repeat (first | (with_reducible first | exact HB.out | apply below_alloc | apply pw_below_drewN | apply below_drew1) | exact HB.out)) hb); clear HB; have HO167 := n0_; have HB := n1_; clear n0_ n1_; clear hb ho70) | ((with_reducible refine gate_builtin (b := .append) (xs := #[.tmp 76, .tmp 77]) rfl ?_); (try (refine gate_guard (by rfl) ?_; dsimp only)); at_builtin; refine Kd.R_append_rows (Kd.int .u8) (w0 := w) w.heap.size rfl (.tmp 76) (.tmp 77) 22 5 (.int .u8 0) 1 rfl Try.underlying22 info5 rfl (by decide) (by omega) v166 y165 l0 _ _ _ (fun _ => True) (fun _ => False) rfl rfl ?aO ?aR (fun _ _ h => h) (fun _ h => h.elim) ?aF ?aB ?aS ?aL ?_; (case aR => repeat (first | exact (Kd.C_below HR0.out HB.out) | (with_reducible refine Kd.C_alloc ?_ _) | (with_reducible refine Kd.C_drewN ?_ _) | (with_reducible refine Kd.C_drew ?_))); (case aB => exact (by repeat (first | (with_reducible first | exact HB.out | apply below_alloc | apply pw_below_drewN | apply below_drew1) | exact HB.out))); (case aF => exact (fun _ _ => trivial)); (case aO => exact (by (with_reducible repeat (first | apply Kd.R_alloc | apply Kd.R_drewN | apply Kd.R_drew)); exact HO167.out)); (case aS => exact (below_size (by repeat (first | (with_reducible first | exact HB.out | apply below_alloc | apply pw_below_drewN | apply below_drew1) | exact HB.out)))); (case aL => have := LMc60.out; omega); intro v169 w71 ho hb hg hat; rw [← Ny168.out] at ho; have n0_ := Aside0.mk (hb); have n1_ := Aside0.mk (ho); clear HB; clear HO167; have HB := n0_; have HO170 := n1_; clear n0_ n1_; clear ho hb hg hat; obtain ⟨Ao72, co72, eo72⟩ := Kd.R_slice HO170.out; subst eo72; have p171 : 0 ≤ ((ji62) : Int) := of_decide_eq_true (by first | (with_reducible assumption) | assumption); have q171 : (ji62) < (y168.length : Int) := of_decide_eq_true (by first | (with_reducible assumption) | assumption); obtain ⟨ad171, e171, hx171_0⟩ := Kd.at_int (Kd.R_reads' HO170.out).2.2 (ji62) p171 q171; cases e171; replace p171 := eq_true p171; replace q171 := eq_true q171; have p65 : 0 ≤ ((ji62) : Int) := of_decide_eq_true (by first | (with_reducible assumption) | assumption); have q65 : ((ji62) : Int) < ((y168.length : Int) : Int) := of_decide_eq_true (by first | (with_reducible assumption) | assumption); obtain ⟨go65, co65, eo65, gb65, gl65, cl65, HG65⟩ := Kd.R_form HO170.out (by omega); (first | cases eo65 | (injection eo65 with ea_ en_ ec_; (first | subst ea_ | (injection ea_ with ea_; subst ea_)); subst ec_; clear en_)); have GB65 := Aside0.mk gb65; have GG65 := Aside0.mk HG65; clear gb65 gl65 HG65; (first | simp only [add_plain] at hx171_0 | skip); obtain ⟨hx65_0, hf65_0⟩ := Kd.R_celln 0 HO170.out ((ji62) : Int) p65 q65; replace p65 := eq_true p65; replace q65 := eq_true q65; obtain ⟨hy73_, hz73_⟩ := Kd.R_celln 0 HO170.out ((ji62) : Int) (of_decide_eq_true (by first | (with_reducible assumption) | assumption)) (of_decide_eq_true (by first | (with_reducible assumption) | assumption)); have HP73 := Kd.R_putg HO170.out ((ji62) : Int) (Go.bits .xor .u8 (rd y168 (ji62)) a4)) | ((with_reducible refine gate_store (t := 5) (p := 89) rfl ?_); refine store_event (t := 5) (p := 89) (v := ?vo_w74) (w1 := (w71.setCell ⟨go65, ((ji62) : Int).toNat, none⟩ (.int .u8 (Go.bits .xor .u8 (rd y168 (ji62)) a4)))) ?hg ?ho ?hn ?hr ?_; (case ho => rfl); (case hg => rfl); (case hn => rfl); (case hr => first | (go_simp; done) | (go_simp; rfl)); intro w74 hw; have hg : w71.grownBy w74 (some go65) := (by rw [hw]; exact HP73.2); have hp_ : Kd.R (Kd.int .u8) 5 w74 w.heap.size (fun _ => True) (.slice (some ⟨go65, 0, none⟩) y168.length co72) y172 := (by rw [hw, Ny172.out]; exact HP73.1); clear HP73; have n0_ := Aside0.mk (hp_); have n1_ := Aside0.mk ((by rw [hw]; exact below_set (HB.out) GB65.out : Below w.heap.size w w74)); clear HO170; clear HB; have HO170 := n0_; have HB := n1_; clear n0_ n1_; clear hg hw hp_) | ((with_reducible refine gate_callee (f := 24) rfl ?_); refine goesL_ (some 92) rfl rfl Try.func24 (by kernel_rfl) rfl #[.slice A0 l0.length c0, .slice (some ⟨go65, 0, none⟩) y172.length co72] rfl (by (try simp only [List.map_toArray, List.map_cons, List.map_nil]); first | done | (rw [show y172.length = y168.length from (Kd.R_reads' HO170.out).1.symm] <;> rfl) | rfl | (simp only [List.length_drop, List.length_take]; rfl)) ?_; (with_reducible refine (trunc_Unlike.calls kj56 _ _ l0 _ _ y172 t173 _ ?side1 ?side2 ?side3 ?side4 A66.out).mono ?_); (case side1 => repeat (first | exact (Kd.C_below HR0.out HB.out) | (with_reducible refine Kd.C_alloc ?_ _) | (with_reducible refine Kd.C_drewN ?_ _) | (with_reducible refine Kd.C_drew ?_))); (case side2 => exact HC0.out); (case side3 => repeat (first | exact (Kd.R_reads' HO170.out).2.2 | (with_reducible refine Kd.C_alloc ?_ _) | (with_reducible refine Kd.C_drewN ?_ _) | (with_reducible refine Kd.C_drew ?_))); (case side4 => rw [show y172.length = y168.length from (Kd.R_reads' HO170.out).1.symm]; exact (Kd.R_reads' HO170.out).2.1); rintro e w75 ⟨rfl, hb⟩; refine ⟨_, rfl, ?_⟩; have n0_ := Aside0.mk (Kd.R_below (by (with_reducible repeat (first | apply Kd.R_alloc | apply Kd.R_drewN | apply Kd.R_drew)); exact HO170.out) hb); have n1_ := Aside0.mk (below_step (by repeat (first | (with_reducible first | exact HB.out | apply below_alloc | apply pw_below_drewN | apply below_drew1) | exact HB.out)) hb); clear HO170; clear HB; have HO170 := n0_; have HB := n1_; clear n0_ n1_; (try clear hb); (try clear hb2); (try clear hk); (try clear hi)) | (go_at_call 25; refine calls_of_args (args' := #[.slice A0 l0.length c0, .slice (some ⟨go65, 0, none⟩) y172.length co72]) (by first | (rw [show y172.length = y168.length from (Kd.R_reads' HO170.out).1.symm] <;> rfl) | rfl) ?_; (with_reducible refine (trunc_Same.calls kj56 _ _ l0 _ _ y172 t174 _ ?side1 ?side2 ?side3 ?side4 A68.out).mono ?_); (case side1 => repeat (first | exact (Kd.C_below HR0.out HB.out) | (with_reducible refine Kd.C_alloc ?_ _) | (with_reducible refine Kd.C_drewN ?_ _) | (with_reducible refine Kd.C_drew ?_))); (case side2 => exact HC0.out); (case side3 => repeat (first | exact (Kd.R_reads' HO170.out).2.2 | (with_reducible refine Kd.C_alloc ?_ _) | (with_reducible refine Kd.C_drewN ?_ _) | (with_reducible refine Kd.C_drew ?_))); (case side4 => rw [show y172.length = y168.length from (Kd.R_reads' HO170.out).1.symm]; exact (Kd.R_reads' HO170.out).2.1); rintro e w76 ⟨rfl, hb⟩; have n0_ := Aside0.mk (Kd.R_below (by (with_reducible repeat (first | apply Kd.R_alloc | apply Kd.R_drewN | apply Kd.R_drew)); exact HO170.out) hb); have n1_ := Aside0.mk (below_step (by repeat (first | (with_reducible first | exact HB.out | apply below_alloc | apply pw_below_drewN | apply below_drew1) | exact HB.out)) hb); clear HO170; clear HB; have HO170 := n0_; have HB := n1_; clear n0_ n1_; (try clear hb); (try clear hb2); (try clear hk); (try clear hi)))
                                go_ret
                                exact ⟨by first | rfl | (simp [errW_none, errW_some] <;> rfl) | (simp only [← hji62]; first | rfl | (simp [errW_none, errW_some] <;> rfl)) | (simp [*, errW_none, errW_some] <;> rfl), by repeat (first | (with_reducible first | exact HB.out | apply below_alloc | apply pw_below_drewN | apply below_drew1) | exact HB.out)⟩
                              · rw [if_neg c67] at H
                                have c67b0 : (t173 == 1) = false := beq_eq_false_iff_ne.mpr c67
                                have c67b1 : (t173 != 1) = true := bne_iff_ne.mpr c67
                                obtain rfl := Option.some.inj H
                                go_wp2_with (first | ((with_reducible refine gate_dst (N := 76) rfl ?_); (try (refine gate_guard (by rfl) ?_; dsimp only)); refine Kd.R_lit (Kd.int .u8) _ 5 ?hg (N := 76) ?hd (xs := ([] : List Int)) (inner := []) (ok := fun _ => True) (okp := fun _ => True) ?hr ?hp (fun _ hk => hk) trivial (Below.refl _ _) (Nat.le_refl _) (by simp) ?_; (case hd => rfl); (case hg => rfl); (case hr => first | (go_simp; done) | (go_simp; rfl)); (case hp => exact (Reps.none _ _)); intro v166 w77 ho78 hb hg_ hnew_; clear hg_ hnew_; (first | rw [← Ny165.out] at ho78 | (simp only [Int.reduceToNat] at ho78; rw [← Ny165.out] at ho78)); have n0_ := Aside0.mk (Kd.R_lower ho78 (below_size (by repeat (first | (with_reducible first | exact HB.out | apply below_alloc | apply pw_below_drewN | apply below_drew1) | exact HB.out)))); have n1_ := Aside0.mk (below_step (by repeat (first | (with_reducible first | exact HB.out | apply below_alloc | apply pw_below_drewN | apply below_drew1) | exact HB.out)) hb); clear HB; have HO167 := n0_; have HB := n1_; clear n0_ n1_; clear hb ho78) | ((with_reducible refine gate_builtin (b := .append) (xs := #[.tmp 76, .tmp 77]) rfl ?_); (try (refine gate_guard (by rfl) ?_; dsimp only)); at_builtin; refine Kd.R_append_rows (Kd.int .u8) (w0 := w) w.heap.size rfl (.tmp 76) (.tmp 77) 22 5 (.int .u8 0) 1 rfl Try.underlying22 info5 rfl (by decide) (by omega) v166 y165 l0 _ _ _ (fun _ => True) (fun _ => False) rfl rfl ?aO ?aR (fun _ _ h => h) (fun _ h => h.elim) ?aF ?aB ?aS ?aL ?_; (case aR => repeat (first | exact (Kd.C_below HR0.out HB.out) | (with_reducible refine Kd.C_alloc ?_ _) | (with_reducible refine Kd.C_drewN ?_ _) | (with_reducible refine Kd.C_drew ?_))); (case aB => exact (by repeat (first | (with_reducible first | exact HB.out | apply below_alloc | apply pw_below_drewN | apply below_drew1) | exact HB.out))); (case aF => exact (fun _ _ => trivial)); (case aO => exact (by (with_reducible repeat (first | apply Kd.R_alloc | apply Kd.R_drewN | apply Kd.R_drew)); exact HO167.out)); (case aS => exact (below_size (by repeat (first | (with_reducible first | exact HB.out | apply below_alloc | apply pw_below_drewN | apply below_drew1) | exact HB.out)))); (case aL => have := LMc60.out; omega); intro v169 w79 ho hb hg hat; rw [← Ny168.out] at ho; have n0_ := Aside0.mk (hb); have n1_ := Aside0.mk (ho); clear HB; clear HO167; have HB := n0_; have HO170 := n1_; clear n0_ n1_; clear ho hb hg hat; obtain ⟨Ao80, co80, eo80⟩ := Kd.R_slice HO170.out; subst eo80; have p171 : 0 ≤ ((ji62) : Int) := of_decide_eq_true (by first | (with_reducible assumption) | assumption); have q171 : (ji62) < (y168.length : Int) := of_decide_eq_true (by first | (with_reducible assumption) | assumption); obtain ⟨ad171, e171, hx171_0⟩ := Kd.at_int (Kd.R_reads' HO170.out).2.2 (ji62) p171 q171; cases e171; replace p171 := eq_true p171; replace q171 := eq_true q171; have p65 : 0 ≤ ((ji62) : Int) := of_decide_eq_true (by first | (with_reducible assumption) | assumption); have q65 : ((ji62) : Int) < ((y168.length : Int) : Int) := of_decide_eq_true (by first | (with_reducible assumption) | assumption); obtain ⟨go65, co65, eo65, gb65, gl65, cl65, HG65⟩ := Kd.R_form HO170.out (by omega); (first | cases eo65 | (injection eo65 with ea_ en_ ec_; (first | subst ea_ | (injection ea_ with ea_; subst ea_)); subst ec_; clear en_)); have GB65 := Aside0.mk gb65; have GG65 := Aside0.mk HG65; clear gb65 gl65 HG65; (first | simp only [add_plain] at hx171_0 | skip); obtain ⟨hx65_0, hf65_0⟩ := Kd.R_celln 0 HO170.out ((ji62) : Int) p65 q65; replace p65 := eq_true p65; replace q65 := eq_true q65; obtain ⟨hy81_, hz81_⟩ := Kd.R_celln 0 HO170.out ((ji62) : Int) (of_decide_eq_true (by first | (with_reducible assumption) | assumption)) (of_decide_eq_true (by first | (with_reducible assumption) | assumption)); have HP81 := Kd.R_putg HO170.out ((ji62) : Int) (Go.bits .xor .u8 (rd y168 (ji62)) a4)) | ((with_reducible refine gate_store (t := 5) (p := 89) rfl ?_); refine store_event (t := 5) (p := 89) (v := ?vo_w82) (w1 := (w79.setCell ⟨go65, ((ji62) : Int).toNat, none⟩ (.int .u8 (Go.bits .xor .u8 (rd y168 (ji62)) a4)))) ?hg ?ho ?hn ?hr ?_; (case ho => rfl); (case hg => rfl); (case hn => rfl); (case hr => first | (go_simp; done) | (go_simp; rfl)); intro w82 hw; have hg : w79.grownBy w82 (some go65) := (by rw [hw]; exact HP81.2); have hp_ : Kd.R (Kd.int .u8) 5 w82 w.heap.size (fun _ => True) (.slice (some ⟨go65, 0, none⟩) y168.length co80) y172 := (by rw [hw, Ny172.out]; exact HP81.1); clear HP81; have n0_ := Aside0.mk (hp_); have n1_ := Aside0.mk ((by rw [hw]; exact below_set (HB.out) GB65.out : Below w.heap.size w w82)); clear HO170; clear HB; have HO170 := n0_; have HB := n1_; clear n0_ n1_; clear hg hw hp_) | ((with_reducible refine gate_callee (f := 24) rfl ?_); refine goesL_ (some 92) rfl rfl Try.func24 (by kernel_rfl) rfl #[.slice A0 l0.length c0, .slice (some ⟨go65, 0, none⟩) y172.length co80] rfl (by (try simp only [List.map_toArray, List.map_cons, List.map_nil]); first | done | (rw [show y172.length = y168.length from (Kd.R_reads' HO170.out).1.symm] <;> rfl) | rfl | (simp only [List.length_drop, List.length_take]; rfl)) ?_; (with_reducible refine (trunc_Unlike.calls kj56 _ _ l0 _ _ y172 t173 _ ?side1 ?side2 ?side3 ?side4 A66.out).mono ?_); (case side1 => repeat (first | exact (Kd.C_below HR0.out HB.out) | (with_reducible refine Kd.C_alloc ?_ _) | (with_reducible refine Kd.C_drewN ?_ _) | (with_reducible refine Kd.C_drew ?_))); (case side2 => exact HC0.out); (case side3 => repeat (first | exact (Kd.R_reads' HO170.out).2.2 | (with_reducible refine Kd.C_alloc ?_ _) | (with_reducible refine Kd.C_drewN ?_ _) | (with_reducible refine Kd.C_drew ?_))); (case side4 => rw [show y172.length = y168.length from (Kd.R_reads' HO170.out).1.symm]; exact (Kd.R_reads' HO170.out).2.1); rintro e w83 ⟨rfl, hb⟩; refine ⟨_, rfl, ?_⟩; have n0_ := Aside0.mk (Kd.R_below (by (with_reducible repeat (first | apply Kd.R_alloc | apply Kd.R_drewN | apply Kd.R_drew)); exact HO170.out) hb); have n1_ := Aside0.mk (below_step (by repeat (first | (with_reducible first | exact HB.out | apply below_alloc | apply pw_below_drewN | apply below_drew1) | exact HB.out)) hb); clear HO170; clear HB; have HO170 := n0_; have HB := n1_; clear n0_ n1_; (try clear hb); (try clear hb2); (try clear hk); (try clear hi)))
                                go_ret
                                exact ⟨by first | rfl | (simp [errW_none, errW_some] <;> rfl) | (simp only [← hji62]; first | rfl | (simp [errW_none, errW_some] <;> rfl)) | (simp [*, errW_none, errW_some] <;> rfl), by repeat (first | (with_reducible first | exact HB.out | apply below_alloc | apply pw_below_drewN | apply below_drew1) | exact HB.out)⟩
                            · rw [if_neg c64] at H
                              exact absurd H (by simp)
                          · rw [if_neg c63] at H
                            exact absurd H (by simp)
                      · rw [if_neg c60] at H
                        exact absurd H (by simp)
  · replace c7 := Bool.eq_false_iff.mpr c7
    subst c7
    have H1 : (some false) = some r := by rw [if_neg (show ¬ (false = true) by decide)] at H; exact H
    clear H
    have H := H1
    clear H1
    obtain rfl := Option.some.inj H
    go_enter Try.func4, Try.ntmps4
    go_wp2_with (first | ((with_reducible refine gate_callee (f := 18) rfl ?_); refine goesL_ (some 12) rfl rfl Try.func18 (by kernel_rfl) rfl #[] rfl (by (try simp only [List.map_toArray, List.map_cons, List.map_nil]); first | done | rfl | (simp only [List.length_drop, List.length_take]; rfl)) ?_; (with_reducible refine (wristbandlaw04_awake.calls k  false _ A6.out).mono ?_); rintro e w84 ⟨rfl, hb⟩; refine ⟨_, rfl, ?_⟩; have n0_ := Aside0.mk (below_step (by repeat (first | (with_reducible first | exact HB.out | apply below_alloc | apply pw_below_drewN | apply below_drew1) | exact HB.out)) hb); clear HB; have HB := n0_; clear n0_; (try clear hb); (try clear hb2); (try clear hk); (try clear hi)))
    go_ret
    exact ⟨by first | rfl | (simp [errW_none, errW_some] <;> rfl) | (simp [*, errW_none, errW_some] <;> rfl), by repeat (first | (with_reducible first | exact HB.out | apply below_alloc | apply pw_below_drewN | apply below_drew1) | exact HB.out)⟩

/-- THE ONE PURE STATEMENT of wristbandlaw04_TruncSame: yours. -/
def wristbandlaw04_TruncSame.Pure : Prop := ∀ (l0 : List Int) (l1 : List Int) (l2 : List Int) (a3 : Int) (a4 : Int), l0.length ≤ maxLen → l0.length * 1 ≤ 140737488351232 → (∀ x ∈ l0, (Lit.int .u8 x).wf = true) → l1.length ≤ maxLen → l1.length * 1 ≤ 140737488351232 → (∀ x ∈ l1, (Lit.int .u8 x).wf = true) → l2.length ≤ maxLen → l2.length * 1 ≤ 140737488351232 → (∀ x ∈ l2, (Lit.int .u8 x).wf = true) → (Lit.int .u16 a3).wf = true → (Lit.int .u8 a4).wf = true → ∃ k, wristbandlaw04_TruncSame.f k l0 l1 l2 a3 a4 = some true
theorem wristbandlaw04_TruncSame.walk (P : wristbandlaw04_TruncSame.Pure) (a0 : Option Addr) (len0 cap0 : Nat) (z0 : List Int) (a1 : Option Addr) (len1 cap1 : Nat) (z1 : List Int) (a2 : Option Addr) (len2 cap2 : Nat) (z2 : List Int) (a3 : Int) (a4 : Int) (w : World) (w0 : (a0 = none ∧ len0 = 0 ∧ cap0 = 0 ∧ z0 = []) ∨ ∃ x, a0 = some x ∧ len0 ≤ cap0 ∧ cap0 ≤ maxLen ∧ z0.length = cap0 ∧ (∀ i, i < z0.length → w.cell? (x.add i) = some (.int .u8 (z0.getD i 0))) ∧ ∀ n ∈ z0, (Lit.int .u8 n).wf = true) (y0 : len0 * 1 ≤ 140737488351232) (w1 : (a1 = none ∧ len1 = 0 ∧ cap1 = 0 ∧ z1 = []) ∨ ∃ x, a1 = some x ∧ len1 ≤ cap1 ∧ cap1 ≤ maxLen ∧ z1.length = cap1 ∧ (∀ i, i < z1.length → w.cell? (x.add i) = some (.int .u8 (z1.getD i 0))) ∧ ∀ n ∈ z1, (Lit.int .u8 n).wf = true) (y1 : len1 * 1 ≤ 140737488351232) (w2 : (a2 = none ∧ len2 = 0 ∧ cap2 = 0 ∧ z2 = []) ∨ ∃ x, a2 = some x ∧ len2 ≤ cap2 ∧ cap2 ≤ maxLen ∧ z2.length = cap2 ∧ (∀ i, i < z2.length → w.cell? (x.add i) = some (.int .u8 (z2.getD i 0))) ∧ ∀ n ∈ z2, (Lit.int .u8 n).wf = true) (y2 : len2 * 1 ≤ 140737488351232) (w3 : (Lit.int .u16 a3).wf = true) (w4 : (Lit.int .u8 a4).wf = true) :
    Calls Try.prog 4 #[.slice a0 len0 cap0, .slice a1 len1 cap1, .slice a2 len2 cap2, .int .u16 a3, .int .u8 a4] w fun e w' => e = .returned (.bool true) ∧ Below w.heap.size w w' := by
  obtain ⟨l0, rfl, hr0, hm0, hw0, hc0⟩ := ReadsInt.ofRowC w0
  obtain ⟨l1, rfl, hr1, hm1, hw1, hc1⟩ := ReadsInt.ofRowC w1
  obtain ⟨l2, rfl, hr2, hm2, hw2, hc2⟩ := ReadsInt.ofRowC w2
  obtain ⟨k, h⟩ := P l0 l1 l2 a3 a4 hm0 y0 hw0 hm1 y1 hw1 hm2 y2 hw2 w3 w4
  refine (wristbandlaw04_TruncSame.calls k _ _ l0 _ _ l1 _ _ l2 a3 a4 true w (Kd.C_of_reads (d := (0 : Int)) (h1 := fun _ => rfl) hr0) hc0 (Kd.C_of_reads (d := (0 : Int)) (h1 := fun _ => rfl) hr1) hc1 (Kd.C_of_reads (d := (0 : Int)) (h1 := fun _ => rfl) hr2) hc2 h).mono ?_
  rintro e w' ⟨rfl, hd⟩
  exact ⟨rfl, hd⟩

end Go.Proofs.Ytnpkhkhlofkbhaa.PTruncSame
