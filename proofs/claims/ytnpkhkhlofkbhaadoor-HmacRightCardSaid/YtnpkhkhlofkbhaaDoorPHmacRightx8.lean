-- made by a program of this session (its printer) out of what Lean prints of the given program
import Derived.Test.YtnpkhkhlofkbhaaDoorPHmacRightx0
import Derived.Test.YtnpkhkhlofkbhaaDoorPHmacRightx3
import Derived.Test.YtnpkhkhlofkbhaaDoorPHmacRightx4
import Derived.Test.YtnpkhkhlofkbhaaDoorPHmacRightx7
namespace Go.Proofs.YtnpkhkhlofkbhaaDoor.PHmacRight
open Go.RowKit Go.Proofs.YtnpkhkhlofkbhaaDoorW.PrintWords Go.Proofs.YtnpkhkhlofkbhaaDoorW.PrintLast Go.Proofs.YtnpkhkhlofkbhaaDoorW.PrintMore
attribute [local go_sem] max2_int min2_int max_two min_two max_three min_three max_four min_four   -- for this text's walks alone
set_option linter.unusedVariables false
set_option linter.unusedSimpArgs false

/-! ### wristbandlaw03_HmacRight: function 6 -/
def wristbandlaw03_HmacRight.j0 : Nat → List Int → List Int → Bool → Option (Bool)
  | 0, _, _, _ => none
  | k + 1, x0, x1, x14 => if x14 = true then (some true) else ((hmac_Block.f k x0).bind fun t330 => ((wristbandref03_Block.f k x0).bind fun t333 => (if (strOfNums t330).toList = (strOfNums t333).toList then ((hmac_Mac.f k x0 x1).bind fun t336 => ((wristbandref03_Mac.f k x0 x1).bind fun t339 => (some ((strOfNums t336).toList == (strOfNums t339).toList)))) else (some false))))
def wristbandlaw03_HmacRight.f (k : Nat) (l0 : List Int) (l1 : List Int) : Option (Bool) := (wristbandlaw03_awake.f k).bind fun t329 => (if t329 = true then (if (l0.length : Int) > 2000 then (wristbandlaw03_HmacRight.j0 k l0 l1 true) else (wristbandlaw03_HmacRight.j0 k l0 l1 (decide ((l1.length : Int) > 2000)))) else (some false))
theorem wristbandlaw03_HmacRight.mono_l : ∀ k, (∀ y0 y1 y2, LeO (wristbandlaw03_HmacRight.j0 k y0 y1 y2) (wristbandlaw03_HmacRight.j0 (k + 1) y0 y1 y2))
  | 0 => fun _ _ _ r h => by simp [wristbandlaw03_HmacRight.j0] at h
  | k + 1 => by
    have ih0 := wristbandlaw03_HmacRight.mono_l k
    · intro y0 y1 y2
      unfold wristbandlaw03_HmacRight.j0
      repeat' first
      | (with_reducible exact ih0 _ _ _)
      | (with_reducible exact hmac_Block.mono _ _)
      | (with_reducible exact hmac_Mac.mono _ _ _)
      | (with_reducible exact wristbandlaw03_awake.mono _)
      | (with_reducible exact wristbandref03_Block.mono _ _)
      | (with_reducible exact wristbandref03_Mac.mono _ _ _)
      | (with_reducible exact LeO.refl _)
      | (with_reducible exact LeO.none _)
      | (with_reducible refine LeO.ite ?_ ?_)
      | (with_reducible refine LeO.bind ?_ (fun _ => ?_))
      | exact ih0 _ _ _
      | exact hmac_Block.mono _ _
      | exact hmac_Mac.mono _ _ _
      | exact wristbandlaw03_awake.mono _
      | exact wristbandref03_Block.mono _ _
      | exact wristbandref03_Mac.mono _ _ _
      | exact LeO.none _
      | refine LeO.ite ?_ ?_
      | refine LeO.bind ?_ (fun _ => ?_)
theorem wristbandlaw03_HmacRight.mono : ∀ a0 a1 k, LeO (wristbandlaw03_HmacRight.f k a0 a1) (wristbandlaw03_HmacRight.f (k + 1) a0 a1) := by
  intro a0 a1 k
  have ih0 := wristbandlaw03_HmacRight.mono_l k
  unfold wristbandlaw03_HmacRight.f
  repeat' first
      | (with_reducible exact ih0 _ _ _)
      | (with_reducible exact hmac_Block.mono _ _)
      | (with_reducible exact hmac_Mac.mono _ _ _)
      | (with_reducible exact wristbandlaw03_awake.mono _)
      | (with_reducible exact wristbandref03_Block.mono _ _)
      | (with_reducible exact wristbandref03_Mac.mono _ _ _)
      | (with_reducible exact LeO.refl _)
      | (with_reducible exact LeO.none _)
      | (with_reducible refine LeO.ite ?_ ?_)
      | (with_reducible refine LeO.bind ?_ (fun _ => ?_))
      | exact ih0 _ _ _
      | exact hmac_Block.mono _ _
      | exact hmac_Mac.mono _ _ _
      | exact wristbandlaw03_awake.mono _
      | exact wristbandref03_Block.mono _ _
      | exact wristbandref03_Mac.mono _ _ _
      | exact LeO.none _
      | refine LeO.ite ?_ ?_
      | refine LeO.bind ?_ (fun _ => ?_)
def wristbandlaw03_HmacRight.T5 : Bool × List (List Nat × List Nat) := (true, [([], []), ([0], [0]), ([1], [1]), ([], []), ([3, 1], [3]), ([4], [4]), ([2, 5], [2, 5]), ([6, 4], [6]), ([7], [7]), ([7], [7]), ([8, 9, 7, 7], [7, 8, 9]), ([10, 7], [7, 10]), ([7], [7]), ([7], [7]), ([12, 13, 10, 7], [7, 12, 13]), ([14, 7], [7, 14]), ([11, 15, 7], [7, 11, 15]), ([7, 16], [7, 16]), ([17, 14, 0, 1, 2, 3, 4, 5, 6, 7, 8, 9, 10, 11, 12, 13, 14, 15, 16, 17], [17])])
def wristbandlaw03_HmacRight.B5 : List Nat := [0, 1, 3, 0, 11, 27, 63, 127, 255, 255, 1023, 2047, 255, 255, 14335, 30719, 65535, 131071, 262143]
theorem wristbandlaw03_HmacRight.tab5 : rtab .any (opsOf Tryd.f6 5) = wristbandlaw03_HmacRight.T5 := by kernel_rfl
theorem wristbandlaw03_HmacRight.bits5 : waitsOk wristbandlaw03_HmacRight.T5.2 wristbandlaw03_HmacRight.B5 = true := by kernel_rfl
set_option maxHeartbeats 8000000 in
set_option maxRecDepth 100000 in
theorem wristbandlaw03_HmacRight.calls (k : Nat) (A0 : Option Addr) (c0 : Nat) (l0 : List Int) (A1 : Option Addr) (c1 : Nat) (l1 : List Int) (r : Bool) (w : World) (hr0 : Kd.C (Kd.int .u8) w A0 l0.length l0) (hc0 : l0.length ≤ c0) (hr1 : Kd.C (Kd.int .u8) w A1 l1.length l1) (hc1 : l1.length ≤ c1) (hL0_ : Kd.C (Kd.int .u32) w (some ⟨0, 0, none⟩) 64 shaK) (hL1_ : Kd.C (Kd.int .u32) w (some ⟨1, 0, none⟩) 8 shaF) (h : wristbandlaw03_HmacRight.f k l0 l1 = some r) (hT_ : r = true) :
    Calls Tryd.prog 6 #[.slice A0 l0.length c0, .slice A1 l1.length c1] w fun e w' => e = .returned (.bool r) ∧ Below w.heap.size w w' := by
  have HR0 := Aside0.mk hr0
  have HC0 := Aside0.mk hc0
  clear hr0 hc0
  have HR1 := Aside0.mk hr1
  have HC1 := Aside0.mk hc1
  clear hr1 hc1
  have HRL0_ := Aside0.mk hL0_
  have HRL1_ := Aside0.mk hL1_
  clear hL0_ hL1_
  have HB := Aside0.mk (Below.refl w.heap.size w)
  have HR_ := Aside0.mk hT_
  clear hT_
  have H : ((wristbandlaw03_awake.f k).bind fun t329 => (if t329 = true then (if (l0.length : Int) > 2000 then (wristbandlaw03_HmacRight.j0 k l0 l1 true) else (wristbandlaw03_HmacRight.j0 k l0 l1 (decide ((l1.length : Int) > 2000)))) else (some false))) = some r := h
  clear h
  replace H := Option.bind_eq_some_iff.mp H
  obtain ⟨t329, A30, H⟩ := H
  replace H : (if t329 = true then (if (l0.length : Int) > 2000 then (wristbandlaw03_HmacRight.j0 k l0 l1 true) else (wristbandlaw03_HmacRight.j0 k l0 l1 (decide ((l1.length : Int) > 2000)))) else (some false)) = some r := H
  have A3 := Aside0.mk A30
  clear A30
  by_cases c4 : t329 = true
  · subst c4
    have H1 : (if (l0.length : Int) > 2000 then (wristbandlaw03_HmacRight.j0 k l0 l1 true) else (wristbandlaw03_HmacRight.j0 k l0 l1 (decide ((l1.length : Int) > 2000)))) = some r := by rw [if_pos rfl] at H; exact H
    clear H
    have H := H1
    clear H1
    have HC5 := Aside0.mk H
    clear H
    go_enter Tryd.func6, Tryd.ntmps6
    go_upto_region 3 with (first | ((with_reducible refine gate_callee (f := 27) rfl ?_); refine goesL_ (some 5) rfl rfl Tryd.func27 (by kernel_rfl) rfl #[] rfl (by (try simp only [List.map_toArray, List.map_cons, List.map_nil]); first | done | rfl | (simp only [List.length_drop, List.length_take]; rfl)) ?_; (with_reducible refine (wristbandlaw03_awake.calls k  true _ ?side1 ?side2 A3.out).mono ?_); (case side1 => repeat (first | exact HRL0_.out | (with_reducible refine Kd.C_alloc ?_ _) | (with_reducible refine Kd.C_drewN ?_ _) | (with_reducible refine Kd.C_drew ?_))); (case side2 => repeat (first | exact HRL1_.out | (with_reducible refine Kd.C_alloc ?_ _) | (with_reducible refine Kd.C_drewN ?_ _) | (with_reducible refine Kd.C_drew ?_))); rintro e w6 ⟨rfl, hb⟩; refine ⟨_, rfl, ?_⟩; have n0_ := Aside0.mk (below_step (by repeat (first | (with_reducible first | exact HB.out | apply below_alloc | apply pw_below_drewN | apply below_drew1) | exact HB.out)) hb); clear HB; have HB := n0_; clear n0_; (try clear hb); (try clear hb2); (try clear hk); (try clear hi)))
    (try simp only [Act.put, List.setIfInBounds_toArray, List.set_cons_zero, List.set_cons_succ])
    go_cut [14] (fun v14 wc => ∃ (kq : Nat) (x14_4 : Bool), v14 = .bool x14_4 ∧ Aside0 (wristbandlaw03_HmacRight.j0 kq l0 l1 x14_4 = some r) ∧ Aside0 (kq ≤ k) ∧ Aside0 (Below w.heap.size w wc))
    case first =>
      have H := HC5.out
      clear HC5
      by_cases c7 : (l0.length : Int) > 2000
      · rw [if_pos c7] at H
        have c7b0 : decide (2000 < (l0.length : Int)) = true := decide_eq_true c7
        have c7b1 : decide (2000 < l0.length) = true := decide_eq_true (by omega)
        clear c7
        (first | rw [c7b0] | (simp only [i64_w, i32_w]; rw [c7b0]) | skip)
        have H' := Aside0.mk H
        clear H
        go_wp2
        go_meet
        case rel => exact ⟨_, (true), (by first | rfl | (simp; done) | (simp [*]; done)), H', ⟨by first | omega | exact Nat.le_refl _⟩, ⟨by repeat (first | (with_reducible first | exact HB.out | apply below_alloc | apply pw_below_drewN | apply below_drew1) | exact HB.out)⟩⟩
      · rw [if_neg c7] at H
        have c7b0 : decide (2000 < (l0.length : Int)) = false := decide_eq_false c7
        have c7b1 : decide (2000 < l0.length) = false := decide_eq_false (by omega)
        clear c7
        (first | rw [c7b0] | (simp only [i64_w, i32_w]; rw [c7b0]) | skip)
        have H' := Aside0.mk H
        clear H
        go_wp2
        go_meet
        case rel => exact ⟨_, (decide ((l1.length : Int) > 2000)), (by first | rfl | (simp; done) | (simp [*]; done)), H', ⟨by first | omega | exact Nat.le_refl _⟩, ⟨by repeat (first | (with_reducible first | exact HB.out | apply below_alloc | apply pw_below_drewN | apply below_drew1) | exact HB.out)⟩⟩
    case rest =>
      clear HC5
      try clear c1
      try clear c2
      try clear p2
      try clear c4
      try clear c6
      try clear c7
      try clear c7b0
      try clear c7b1
      obtain ⟨kq, x14_4, rfl, HA, HJ4, HB⟩ := hcut
      cases kq with
      | zero => exact absurd HA.out (by simp [wristbandlaw03_HmacRight.j0])
      | succ kj4 =>
        have H := HA.out
        clear HA
        simp only [wristbandlaw03_HmacRight.j0] at H
        by_cases c8 : x14_4 = true
        · subst c8
          have H1 : (some true) = some r := by rw [if_pos rfl] at H; exact H
          clear H
          have H := H1
          clear H1
          obtain rfl := Option.some.inj H
          go_wp2
          go_ret
          exact ⟨by first | rfl | (simp [errW_none, errW_some] <;> rfl) | (simp [*, errW_none, errW_some] <;> rfl), by repeat (first | (with_reducible first | exact HB.out | apply below_alloc | apply pw_below_drewN | apply below_drew1) | exact HB.out)⟩
        · replace c8 := Bool.eq_false_iff.mpr c8
          subst c8
          have H1 : ((hmac_Block.f kj4 l0).bind fun t330 => ((wristbandref03_Block.f kj4 l0).bind fun t333 => (if (strOfNums t330).toList = (strOfNums t333).toList then ((hmac_Mac.f kj4 l0 l1).bind fun t336 => ((wristbandref03_Mac.f kj4 l0 l1).bind fun t339 => (some ((strOfNums t336).toList == (strOfNums t339).toList)))) else (some false)))) = some r := by rw [if_neg (show ¬ (false = true) by decide)] at H; exact H
          clear H
          have H := H1
          clear H1
          replace H := Option.bind_eq_some_iff.mp H
          obtain ⟨t330, A90, H⟩ := H
          replace H : ((wristbandref03_Block.f kj4 l0).bind fun t333 => (if (strOfNums t330).toList = (strOfNums t333).toList then ((hmac_Mac.f kj4 l0 l1).bind fun t336 => ((wristbandref03_Mac.f kj4 l0 l1).bind fun t339 => (some ((strOfNums t336).toList == (strOfNums t339).toList)))) else (some false))) = some r := H
          have A9 := Aside0.mk A90
          clear A90
          replace H := Option.bind_eq_some_iff.mp H
          obtain ⟨t333, A100, H⟩ := H
          replace H : (if (strOfNums t330).toList = (strOfNums t333).toList then ((hmac_Mac.f kj4 l0 l1).bind fun t336 => ((wristbandref03_Mac.f kj4 l0 l1).bind fun t339 => (some ((strOfNums t336).toList == (strOfNums t339).toList)))) else (some false)) = some r := H
          have A10 := Aside0.mk A100
          clear A100
          by_cases c11 : (strOfNums t330).toList = (strOfNums t333).toList
          · rw [if_pos c11] at H
            have c11b0 : ((strOfNums t330).toList == (strOfNums t333).toList) = true := beq_iff_eq.mpr c11
            have c11b1 : ((strOfNums t330).toList != (strOfNums t333).toList) = false := bne_eq_false_iff_eq.mpr c11
            clear c11
            replace H := Option.bind_eq_some_iff.mp H
            obtain ⟨t336, A120, H⟩ := H
            replace H : ((wristbandref03_Mac.f kj4 l0 l1).bind fun t339 => (some ((strOfNums t336).toList == (strOfNums t339).toList))) = some r := H
            have A12 := Aside0.mk A120
            clear A120
            replace H := Option.bind_eq_some_iff.mp H
            obtain ⟨t339, A130, H⟩ := H
            replace H : (some ((strOfNums t336).toList == (strOfNums t339).toList)) = some r := H
            have A13 := Aside0.mk A130
            clear A130
            obtain rfl := Option.some.inj H
            try go_wp2
            have n0_ := Aside0.mk (below_drew1 HB.out)
            clear HB
            have HB := n0_
            clear n0_
            refine start_ (n := 19) (S := fun w' => True) (ds := []) #[false, false, false, false, false, false, false, false, false, false, false, false, false, false, false, false, false, false, false] (by kernel_rfl) rfl rfl trivial (fun hHeld => ?_); refine with_tabW wristbandlaw03_HmacRight.tab5 wristbandlaw03_HmacRight.bits5 (fun HT_ HW_ => ?_)
            generalize wc.drew = w14 at HB hHeld ⊢
            refine pure_ (i := 0) (N := some 15) (v := ?_) (a' := ?_) #[true, false, false, false, false, false, false, false, false, false, false, false, false, false, false, false, false, false, false] rfl rfl (any_of HT_.out (by kernel_rfl)) (fun _ _ _ h => h) (Or.inl ⟨by rfl, ?_⟩) ?_ ?_
            rotate_left
            · intro w'
              go_simp
              with_reducible rfl
            rotate_left
            · simp only [Act.put, List.setIfInBounds_toArray, List.set_cons_zero, List.set_cons_succ, i64_w, i32_w]
              rfl
            refine pure_ (i := 3) (N := some 18) (v := ?_) (a' := ?_) #[true, false, false, true, false, false, false, false, false, false, false, false, false, false, false, false, false, false, false] rfl rfl (any_of HT_.out (by kernel_rfl)) (fun _ _ _ h => h) (Or.inl ⟨by rfl, ?_⟩) ?_ ?_
            rotate_left
            · intro w'
              go_simp
              with_reducible rfl
            rotate_left
            · simp only [Act.put, List.setIfInBounds_toArray, List.set_cons_zero, List.set_cons_succ, i64_w, i32_w]
              rfl
            refine inv_at [1, 2, 4, 5, 6, 7, 8, 9, 10, 11, 12, 13, 14, 15, 16, 17, 18] (fun a0_ b a w' => ∃ (v331 : Value) (v334 : Value) (v337 : Value) (v340 : Value), a = putSel a0_ b [(1, 16, v331), (2, 17, .string (strOfNums t330)), (4, 19, v334), (5, 20, .string (strOfNums t333)), (6, 21, .bool ((strOfNums t330).toList == (strOfNums t333).toList)), (7, 22, .bool ((strOfNums t330).toList == (strOfNums t333).toList)), (8, 23, .slice A0 l0.length c0), (9, 24, .slice A1 l1.length c1), (10, 25, v337), (11, 26, .string (strOfNums t336)), (12, 27, .slice A0 l0.length c0), (13, 28, .slice A1 l1.length c1), (14, 29, v340), (15, 30, .string (strOfNums t339)), (16, 31, .bool ((strOfNums t336).toList == (strOfNums t339).toList)), (17, 32, .bool ((strOfNums t336).toList == (strOfNums t339).toList)), (18, 4, .bool ((strOfNums t336).toList == (strOfNums t339).toList))] ∧ (Below w.heap.size w w') ∧ (b 1 = true → Kd.R (Kd.int .u8) 5 w' w.heap.size (fun _ => True) v331 t330) ∧ (b 4 = true → Kd.R (Kd.int .u8) 5 w' w.heap.size (fun _ => True) v334 t333) ∧ (b 10 = true → Kd.R (Kd.int .u8) 5 w' w.heap.size (fun _ => True) v337 t336) ∧ (b 14 = true → Kd.R (Kd.int .u8) 5 w' w.heap.size (fun _ => True) v340 t339)) HT_.out HW_.out (by kernel_rfl) (by kernel_rfl) ?_ ?_ ?_
            · exact ⟨.bool false, .bool false, .bool false, .bool false, by simp only [putSel, Bool.false_eq_true, if_false], HB.out, fun h_ => absurd h_ (by decide), fun h_ => absurd h_ (by decide), fun h_ => absurd h_ (by decide), fun h_ => absurd h_ (by decide)⟩
            · skip
              clear HB
              refine steps_cons ?_ ?_
              · rintro b a w' ⟨v331, v334, v337, v340, ha, Q_HB, Q_HO332, Q_HO335, Q_HO338, Q_HO341⟩ hb_ hon hoff
                refine ⟨_, rfl, fun K hK => ?_⟩
                have e15 : a.tmps[15]? = some (.slice A0 l0.length c0) := by rw [ha]; exact (putSel_off rfl).trans rfl
                replace ha := Aside0.mk ha
                have HB := Aside0.mk Q_HB
                refine goes_ Tryd.func28 (by kernel_rfl) rfl #[.slice A0 l0.length c0] (by first | rfl | (simp [Region.wanted, yielded, *]; done)) rfl rfl (by first | (simp only [List.map_toArray, List.map_cons, List.map_nil, Act.eval, Array.getD_eq_getD_getElem?, Option.getD_some, e15]; done) | (simp only [List.map_toArray, List.map_cons, List.map_nil, Act.eval, Array.getD_eq_getD_getElem?, Option.getD_some, e15]; rfl)) ?_
                with_reducible refine (hmac_Block.calls kj4 _ _ l0 t330 _ ?side1 ?side2 ?side3 ?side4 A9.out).mono ?_
                (case side1 => repeat (first | exact (Kd.C_below HR0.out HB.out) | (with_reducible refine Kd.C_alloc ?_ _) | (with_reducible refine Kd.C_drewN ?_ _) | (with_reducible refine Kd.C_drew ?_)))
                (case side2 => exact HC0.out)
                (case side3 => repeat (first | exact (Kd.C_below HRL0_.out HB.out) | (with_reducible refine Kd.C_alloc ?_ _) | (with_reducible refine Kd.C_drewN ?_ _) | (with_reducible refine Kd.C_drew ?_)))
                (case side4 => repeat (first | exact (Kd.C_below HRL1_.out HB.out) | (with_reducible refine Kd.C_alloc ?_ _) | (with_reducible refine Kd.C_drewN ?_ _) | (with_reducible refine Kd.C_drew ?_)))
                rintro e w15 ⟨v331, rfl, ho0, hb⟩
                refine ⟨_, rfl, ?_⟩
                have n0_ := Aside0.mk (Kd.R_lower ho0 (below_size (by repeat (first | (with_reducible first | exact HB.out | apply below_alloc | apply pw_below_drewN | apply below_drew1) | exact HB.out))))
                have n1_ := Aside0.mk (below_step (by repeat (first | (with_reducible first | exact HB.out | apply below_alloc | apply pw_below_drewN | apply below_drew1) | exact HB.out)) hb)
                clear HB
                have HO332 := n0_
                have HB := n1_
                clear n0_ n1_
                (try clear hb)
                (try clear hb2)
                (try clear hk)
                (try clear hi)
                (try clear ho0)
                refine hK.out _ _ ⟨v331, v334, v337, v340, (by rw [ha.out]; exact putSel_upk 0 hb_ rfl rfl rfl), (by repeat (first | (with_reducible first | exact HB.out | apply below_alloc | apply pw_below_drewN | apply below_drew1) | exact HB.out)), fun _ => (by (with_reducible repeat (first | apply Kd.R_alloc | apply Kd.R_drewN | apply Kd.R_drew)); exact HO332.out), fun h0_ => absurd ((hoff 4 (by kernel_rfl)).symm.trans h0_) (by decide), fun h0_ => absurd ((hoff 10 (by kernel_rfl)).symm.trans h0_) (by decide), fun h0_ => absurd ((hoff 14 (by kernel_rfl)).symm.trans h0_) (by decide)⟩
              refine steps_cons ?_ ?_
              · rintro b a w' ⟨v331, v334, v337, v340, ha, Q_HB, Q_HO332, Q_HO335, Q_HO338, Q_HO341⟩ hb_ hon hoff
                refine ⟨_, rfl, fun K hK => ?_⟩
                have e16 : a.tmps[16]? = some (v331) := by rw [ha]; exact putSel_on (e := (1, 16, v331)) 0 rfl rfl (hon 1 (by kernel_rfl)) rfl
                replace ha := Aside0.mk ha
                have HB := Aside0.mk Q_HB
                have HO332 := Aside0.mk (Q_HO332 (hon 1 (by kernel_rfl)))
                refine str_step (src := 24) (dst := 9) (x := .tmp 16) ?hw ?ho ?hx (v := v331) (s := strOfNums t330) (by obtain ⟨A_, c_, rfl⟩ := Kd.R_slice HO332.out; exact Kd.C_string (P := Tryd.prog) (A := A_) (c := c_) Tryd.underlying24 Tryd.underlying5 Tryd.underlying9 (Kd.R_reads' (by (with_reducible repeat (first | apply Kd.R_alloc | apply Kd.R_drewN | apply Kd.R_drew)); exact HO332.out)).2.2) ?_
                case ho => rfl
                case hw => first | rfl | (simp [Region.wanted, yielded, *]; done)
                case hx => first | rfl | (simp only [Act.eval, Array.getD_eq_getD_getElem?, Option.getD_some, e16]; done)
                intro w17 hb
                have n0_ := Aside0.mk (Kd.R_below (by (with_reducible repeat (first | apply Kd.R_alloc | apply Kd.R_drewN | apply Kd.R_drew)); exact HO332.out) hb)
                have n1_ := Aside0.mk (below_step (by repeat (first | (with_reducible first | exact HB.out | apply below_alloc | apply pw_below_drewN | apply below_drew1) | exact HB.out)) hb)
                have z_HO335 := fun (h0_ : b 4 = true) => (show Kd.R (Kd.int .u8) 5 w17 w.heap.size (fun _ => True) v334 t333 from by first | exact (Kd.R_below (by (with_reducible repeat (first | apply Kd.R_alloc | apply Kd.R_drewN | apply Kd.R_drew)); exact (Q_HO335 h0_)) hb) | exact Kd.R_mono (Kd.R_below (by (with_reducible repeat (first | apply Kd.R_alloc | apply Kd.R_drewN | apply Kd.R_drew)); exact (Q_HO335 h0_)) hb) (fun _ h_ => by first | trivial | exact h_ | exact h_.1))
                clear HO332
                clear HB
                have HO332 := n0_
                have HB := n1_
                clear n0_ n1_
                (try clear hb)
                refine hK.out _ _ ⟨v331, v334, v337, v340, (by rw [ha.out]; exact putSel_upk 1 hb_ rfl rfl rfl), (by repeat (first | (with_reducible first | exact HB.out | apply below_alloc | apply pw_below_drewN | apply below_drew1) | exact HB.out)), fun _ => (by (with_reducible repeat (first | apply Kd.R_alloc | apply Kd.R_drewN | apply Kd.R_drew)); exact HO332.out), z_HO335, fun h0_ => absurd ((hoff 10 (by kernel_rfl)).symm.trans h0_) (by decide), fun h0_ => absurd ((hoff 14 (by kernel_rfl)).symm.trans h0_) (by decide)⟩
              refine steps_cons ?_ ?_
              · rintro b a w' ⟨v331, v334, v337, v340, ha, Q_HB, Q_HO332, Q_HO335, Q_HO338, Q_HO341⟩ hb_ hon hoff
                refine ⟨_, rfl, fun K hK => ?_⟩
                have e18 : a.tmps[18]? = some (.slice A0 l0.length c0) := by rw [ha]; exact (putSel_off rfl).trans rfl
                replace ha := Aside0.mk ha
                have HB := Aside0.mk Q_HB
                have HO332 := Aside0.mk (Q_HO332 (hon 1 (by kernel_rfl)))
                refine goes_ Tryd.func29 (by kernel_rfl) rfl #[.slice A0 l0.length c0] (by first | rfl | (simp [Region.wanted, yielded, *]; done)) rfl rfl (by first | (simp only [List.map_toArray, List.map_cons, List.map_nil, Act.eval, Array.getD_eq_getD_getElem?, Option.getD_some, e18]; done) | (simp only [List.map_toArray, List.map_cons, List.map_nil, Act.eval, Array.getD_eq_getD_getElem?, Option.getD_some, e18]; rfl)) ?_
                with_reducible refine (wristbandref03_Block.calls kj4 _ _ l0 t333 _ ?side1 ?side2 A10.out).mono ?_
                (case side1 => repeat (first | exact (Kd.C_below HR0.out HB.out) | (with_reducible refine Kd.C_alloc ?_ _) | (with_reducible refine Kd.C_drewN ?_ _) | (with_reducible refine Kd.C_drew ?_)))
                (case side2 => exact HC0.out)
                rintro e w17 ⟨v334, rfl, ho0, hb⟩
                refine ⟨_, rfl, ?_⟩
                have n0_ := Aside0.mk (Kd.R_elder' (by (with_reducible repeat (first | apply Kd.R_alloc | apply Kd.R_drewN | apply Kd.R_drew)); exact HO332.out) (Kd.R_base ho0) hb)
                have n1_ := Aside0.mk (Kd.R_lower (Kd.R_new' ho0 (Kd.R_lt (by (with_reducible repeat (first | apply Kd.R_alloc | apply Kd.R_drewN | apply Kd.R_drew)); exact HO332.out))) (below_size (by repeat (first | (with_reducible first | exact HB.out | apply below_alloc | apply pw_below_drewN | apply below_drew1) | exact HB.out))))
                have n2_ := Aside0.mk (below_step (by repeat (first | (with_reducible first | exact HB.out | apply below_alloc | apply pw_below_drewN | apply below_drew1) | exact HB.out)) hb)
                clear HO332
                clear HB
                have HO332 := n0_
                have HO335 := n1_
                have HB := n2_
                clear n0_ n1_ n2_
                (try clear hb)
                (try clear hb2)
                (try clear hk)
                (try clear hi)
                (try clear ho0)
                refine hK.out _ _ ⟨v331, v334, v337, v340, (by rw [ha.out]; exact putSel_upk 2 hb_ rfl rfl rfl), (by repeat (first | (with_reducible first | exact HB.out | apply below_alloc | apply pw_below_drewN | apply below_drew1) | exact HB.out)), fun _ => (by (with_reducible repeat (first | apply Kd.R_alloc | apply Kd.R_drewN | apply Kd.R_drew)); first | exact Kd.R_mono HO332.out (fun _ hk => hk.2) | exact Kd.R_mono (HO332.out) (fun _ hk => by first | trivial | exact hk | exact hk.1 | ((repeat' apply And.intro) <;> first | exact hk.2 | exact hk.1.2 | exact hk.1.1.2))), fun _ => (by (with_reducible repeat (first | apply Kd.R_alloc | apply Kd.R_drewN | apply Kd.R_drew)); first | exact Kd.R_mono HO335.out (fun _ hk => hk.2) | exact Kd.R_mono (HO335.out) (fun _ hk => by first | trivial | exact hk | exact hk.1 | ((repeat' apply And.intro) <;> first | exact hk.2 | exact hk.1.2 | exact hk.1.1.2))), fun h0_ => absurd ((hoff 10 (by kernel_rfl)).symm.trans h0_) (by decide), fun h0_ => absurd ((hoff 14 (by kernel_rfl)).symm.trans h0_) (by decide)⟩
              refine steps_cons ?_ ?_
              · rintro b a w' ⟨v331, v334, v337, v340, ha, Q_HB, Q_HO332, Q_HO335, Q_HO338, Q_HO341⟩ hb_ hon hoff
                refine ⟨_, rfl, fun K hK => ?_⟩
                have e19 : a.tmps[19]? = some (v334) := by rw [ha]; exact putSel_on (e := (4, 19, v334)) 2 rfl rfl (hon 4 (by kernel_rfl)) rfl
                replace ha := Aside0.mk ha
                have HB := Aside0.mk Q_HB
                have HO332 := Aside0.mk (Q_HO332 (hon 1 (by kernel_rfl)))
                have HO335 := Aside0.mk (Q_HO335 (hon 4 (by kernel_rfl)))
                refine str_step (src := 24) (dst := 9) (x := .tmp 19) ?hw ?ho ?hx (v := v334) (s := strOfNums t333) (by obtain ⟨A_, c_, rfl⟩ := Kd.R_slice HO335.out; exact Kd.C_string (P := Tryd.prog) (A := A_) (c := c_) Tryd.underlying24 Tryd.underlying5 Tryd.underlying9 (Kd.R_reads' (by (with_reducible repeat (first | apply Kd.R_alloc | apply Kd.R_drewN | apply Kd.R_drew)); exact HO335.out)).2.2) ?_
                case ho => rfl
                case hw => first | rfl | (simp [Region.wanted, yielded, *]; done)
                case hx => first | rfl | (simp only [Act.eval, Array.getD_eq_getD_getElem?, Option.getD_some, e19]; done)
                intro w18 hb
                have n0_ := Aside0.mk (Kd.R_below (by (with_reducible repeat (first | apply Kd.R_alloc | apply Kd.R_drewN | apply Kd.R_drew)); exact HO332.out) hb)
                have n1_ := Aside0.mk (Kd.R_below (by (with_reducible repeat (first | apply Kd.R_alloc | apply Kd.R_drewN | apply Kd.R_drew)); exact HO335.out) hb)
                have n2_ := Aside0.mk (below_step (by repeat (first | (with_reducible first | exact HB.out | apply below_alloc | apply pw_below_drewN | apply below_drew1) | exact HB.out)) hb)
                clear HO332
                clear HO335
                clear HB
                have HO332 := n0_
                have HO335 := n1_
                have HB := n2_
                clear n0_ n1_ n2_
                (try clear hb)
                refine hK.out _ _ ⟨v331, v334, v337, v340, (by rw [ha.out]; exact putSel_upk 3 hb_ rfl rfl rfl), (by repeat (first | (with_reducible first | exact HB.out | apply below_alloc | apply pw_below_drewN | apply below_drew1) | exact HB.out)), fun _ => (by (with_reducible repeat (first | apply Kd.R_alloc | apply Kd.R_drewN | apply Kd.R_drew)); first | exact HO332.out | exact Kd.R_mono (HO332.out) (fun _ hk => by first | trivial | exact hk | exact hk.1 | ((repeat' apply And.intro) <;> first | exact hk.2 | exact hk.1.2 | exact hk.1.1.2))), fun _ => (by (with_reducible repeat (first | apply Kd.R_alloc | apply Kd.R_drewN | apply Kd.R_drew)); first | exact HO335.out | exact Kd.R_mono (HO335.out) (fun _ hk => by first | trivial | exact hk | exact hk.1 | ((repeat' apply And.intro) <;> first | exact hk.2 | exact hk.1.2 | exact hk.1.1.2))), fun h0_ => absurd ((hoff 10 (by kernel_rfl)).symm.trans h0_) (by decide), fun h0_ => absurd ((hoff 14 (by kernel_rfl)).symm.trans h0_) (by decide)⟩
              refine steps_cons ?_ ?_
              · rintro b a w' ⟨v331, v334, v337, v340, ha, Q_HB, Q_HO332, Q_HO335, Q_HO338, Q_HO341⟩ hb_ hon hoff
                refine ⟨_, rfl, fun K hK => ?_⟩
                have e17 : a.tmps[17]? = some (.string (strOfNums t330)) := by rw [ha]; exact putSel_on (e := (2, 17, .string (strOfNums t330))) 1 rfl rfl (hon 2 (by kernel_rfl)) rfl
                have e20 : a.tmps[20]? = some (.string (strOfNums t333)) := by rw [ha]; exact putSel_on (e := (5, 20, .string (strOfNums t333))) 3 rfl rfl (hon 5 (by kernel_rfl)) rfl
                replace ha := Aside0.mk ha
                have HB := Aside0.mk Q_HB
                have HO332 := Aside0.mk (Q_HO332 (hon 1 (by kernel_rfl)))
                have HO335 := Aside0.mk (Q_HO335 (hon 4 (by kernel_rfl)))
                refine value_ (w1 := w') (v := .bool ((strOfNums t330).toList == (strOfNums t333).toList)) (by rfl) rfl ?_ ?_
                · go_simp
                  (try simp only [i64_w])
                  try first | rfl | (simp [bne]; done)
                refine hK.out _ _ ⟨v331, v334, v337, v340, (by rw [ha.out]; exact putSel_upk 4 hb_ rfl rfl rfl), Q_HB, Q_HO332, Q_HO335, fun h0_ => absurd ((hoff 10 (by kernel_rfl)).symm.trans h0_) (by decide), fun h0_ => absurd ((hoff 14 (by kernel_rfl)).symm.trans h0_) (by decide)⟩
              refine steps_cons ?_ ?_
              · rintro b a w' ⟨v331, v334, v337, v340, ha, Q_HB, Q_HO332, Q_HO335, Q_HO338, Q_HO341⟩ hb_ hon hoff
                refine ⟨_, rfl, fun K hK => ?_⟩
                have e21 : a.tmps[21]? = some (.bool ((strOfNums t330).toList == (strOfNums t333).toList)) := by rw [ha]; exact putSel_on (e := (6, 21, .bool ((strOfNums t330).toList == (strOfNums t333).toList))) 4 rfl rfl (hon 6 (by kernel_rfl)) rfl
                replace ha := Aside0.mk ha
                have HB := Aside0.mk Q_HB
                have HO332 := Aside0.mk (Q_HO332 (hon 1 (by kernel_rfl)))
                have HO335 := Aside0.mk (Q_HO335 (hon 4 (by kernel_rfl)))
                refine value_ (w1 := w') (v := .bool ((strOfNums t330).toList == (strOfNums t333).toList)) (by rfl) rfl ?_ ?_
                · go_simp
                  (try simp only [i64_w])
                  try first | rfl | (simp [bne]; done)
                refine hK.out _ _ ⟨v331, v334, v337, v340, (by rw [ha.out]; exact putSel_upk 5 hb_ rfl rfl rfl), Q_HB, Q_HO332, Q_HO335, fun h0_ => absurd ((hoff 10 (by kernel_rfl)).symm.trans h0_) (by decide), fun h0_ => absurd ((hoff 14 (by kernel_rfl)).symm.trans h0_) (by decide)⟩
              refine steps_cons ?_ ?_
              · rintro b a w' ⟨v331, v334, v337, v340, ha, Q_HB, Q_HO332, Q_HO335, Q_HO338, Q_HO341⟩ hb_ hon hoff
                refine ⟨_, rfl, fun K hK => ?_⟩
                have e0 : a.tmps[0]? = some (.slice A0 l0.length c0) := by rw [ha]; exact (putSel_off rfl).trans rfl
                have e22 : a.tmps[22]? = some (.bool ((strOfNums t330).toList == (strOfNums t333).toList)) := by rw [ha]; exact putSel_on (e := (7, 22, .bool ((strOfNums t330).toList == (strOfNums t333).toList))) 5 rfl rfl (hon 7 (by kernel_rfl)) rfl
                replace ha := Aside0.mk ha
                have HB := Aside0.mk Q_HB
                have HO332 := Aside0.mk (Q_HO332 (hon 1 (by kernel_rfl)))
                have HO335 := Aside0.mk (Q_HO335 (hon 4 (by kernel_rfl)))
                refine value_ (w1 := w') (v := .slice A0 l0.length c0) (wanted_on rfl rfl rfl (e22.trans (by first | rfl | (simp [*]; done)))) rfl ?_ ?_
                · go_simp
                  (try simp only [i64_w])
                  try first | rfl | (simp [bne]; done)
                refine hK.out _ _ ⟨v331, v334, v337, v340, (by rw [ha.out]; exact putSel_upk 6 hb_ rfl rfl rfl), Q_HB, Q_HO332, Q_HO335, fun h0_ => absurd ((hoff 10 (by kernel_rfl)).symm.trans h0_) (by decide), fun h0_ => absurd ((hoff 14 (by kernel_rfl)).symm.trans h0_) (by decide)⟩
              refine steps_cons ?_ ?_
              · rintro b a w' ⟨v331, v334, v337, v340, ha, Q_HB, Q_HO332, Q_HO335, Q_HO338, Q_HO341⟩ hb_ hon hoff
                refine ⟨_, rfl, fun K hK => ?_⟩
                have e1 : a.tmps[1]? = some (.slice A1 l1.length c1) := by rw [ha]; exact (putSel_off rfl).trans rfl
                have e22 : a.tmps[22]? = some (.bool ((strOfNums t330).toList == (strOfNums t333).toList)) := by rw [ha]; exact putSel_on (e := (7, 22, .bool ((strOfNums t330).toList == (strOfNums t333).toList))) 5 rfl rfl (hon 7 (by kernel_rfl)) rfl
                replace ha := Aside0.mk ha
                have HB := Aside0.mk Q_HB
                have HO332 := Aside0.mk (Q_HO332 (hon 1 (by kernel_rfl)))
                have HO335 := Aside0.mk (Q_HO335 (hon 4 (by kernel_rfl)))
                refine value_ (w1 := w') (v := .slice A1 l1.length c1) (wanted_on rfl rfl rfl (e22.trans (by first | rfl | (simp [*]; done)))) rfl ?_ ?_
                · go_simp
                  (try simp only [i64_w])
                  try first | rfl | (simp [bne]; done)
                refine hK.out _ _ ⟨v331, v334, v337, v340, (by rw [ha.out]; exact putSel_upk 7 hb_ rfl rfl rfl), Q_HB, Q_HO332, Q_HO335, fun h0_ => absurd ((hoff 10 (by kernel_rfl)).symm.trans h0_) (by decide), fun h0_ => absurd ((hoff 14 (by kernel_rfl)).symm.trans h0_) (by decide)⟩
              refine steps_cons ?_ ?_
              · rintro b a w' ⟨v331, v334, v337, v340, ha, Q_HB, Q_HO332, Q_HO335, Q_HO338, Q_HO341⟩ hb_ hon hoff
                refine ⟨_, rfl, fun K hK => ?_⟩
                have e23 : a.tmps[23]? = some (.slice A0 l0.length c0) := by rw [ha]; exact putSel_on (e := (8, 23, .slice A0 l0.length c0)) 6 rfl rfl (hon 8 (by kernel_rfl)) rfl
                have e24 : a.tmps[24]? = some (.slice A1 l1.length c1) := by rw [ha]; exact putSel_on (e := (9, 24, .slice A1 l1.length c1)) 7 rfl rfl (hon 9 (by kernel_rfl)) rfl
                have e22 : a.tmps[22]? = some (.bool ((strOfNums t330).toList == (strOfNums t333).toList)) := by rw [ha]; exact putSel_on (e := (7, 22, .bool ((strOfNums t330).toList == (strOfNums t333).toList))) 5 rfl rfl (hon 7 (by kernel_rfl)) rfl
                replace ha := Aside0.mk ha
                have HB := Aside0.mk Q_HB
                have HO332 := Aside0.mk (Q_HO332 (hon 1 (by kernel_rfl)))
                have HO335 := Aside0.mk (Q_HO335 (hon 4 (by kernel_rfl)))
                refine goes_ Tryd.func30 (by kernel_rfl) rfl #[.slice A0 l0.length c0, .slice A1 l1.length c1] (by first | rfl | (simp [Region.wanted, yielded, *]; done)) rfl rfl (by first | (simp only [List.map_toArray, List.map_cons, List.map_nil, Act.eval, Array.getD_eq_getD_getElem?, Option.getD_some, e23, e24, e22]; done) | (simp only [List.map_toArray, List.map_cons, List.map_nil, Act.eval, Array.getD_eq_getD_getElem?, Option.getD_some, e23, e24, e22]; rfl)) ?_
                with_reducible refine (hmac_Mac.calls kj4 _ _ l0 (fun k_ => k_ < w.heap.size) _ _ l1 t336 _ ?side1 ?side2 ?side3 ?side4 ?side5 A12.out).mono ?_
                (case side1 => repeat (first | exact (Kd.C_below HR0.out HB.out) | (with_reducible refine Kd.C_alloc ?_ _) | (with_reducible refine Kd.C_drewN ?_ _) | (with_reducible refine Kd.C_drew ?_)))
                (case side2 => exact HC0.out)
                (case side3 => exact Kd.V_mk HC1.out (Kd.F_below (Kd.C_F (Kd.heap_int .u8) HR1.out) (by repeat (first | (with_reducible first | exact HB.out | apply below_alloc | apply pw_below_drewN | apply below_drew1) | exact HB.out))))
                (case side4 => repeat (first | exact (Kd.C_below HRL0_.out HB.out) | (with_reducible refine Kd.C_alloc ?_ _) | (with_reducible refine Kd.C_drewN ?_ _) | (with_reducible refine Kd.C_drew ?_)))
                (case side5 => repeat (first | exact (Kd.C_below HRL1_.out HB.out) | (with_reducible refine Kd.C_alloc ?_ _) | (with_reducible refine Kd.C_drewN ?_ _) | (with_reducible refine Kd.C_drew ?_)))
                rintro e w20 ⟨v337, rfl, ho0, hb⟩
                refine ⟨_, rfl, ?_⟩
                have n0_ := Aside0.mk (Kd.R_elder' (by (with_reducible repeat (first | apply Kd.R_alloc | apply Kd.R_drewN | apply Kd.R_drew)); exact HO332.out) (Kd.R_base ho0) hb)
                have n1_ := Aside0.mk (Kd.R_elder' (by (with_reducible repeat (first | apply Kd.R_alloc | apply Kd.R_drewN | apply Kd.R_drew)); exact HO335.out) (Kd.R_base ho0) hb)
                have n2_ := Aside0.mk (Kd.R_lower (Kd.R_new' (Kd.R_new' (Kd.R_mono (ok' := fun k_ => True) ho0 (fun _ hk_ => trivial)) (Kd.R_lt (by (with_reducible repeat (first | apply Kd.R_alloc | apply Kd.R_drewN | apply Kd.R_drew)); exact HO332.out))) (Kd.R_lt (by (with_reducible repeat (first | apply Kd.R_alloc | apply Kd.R_drewN | apply Kd.R_drew)); exact HO335.out))) (below_size (by repeat (first | (with_reducible first | exact HB.out | apply below_alloc | apply pw_below_drewN | apply below_drew1) | exact HB.out))))
                have n3_ := Aside0.mk (below_step (by repeat (first | (with_reducible first | exact HB.out | apply below_alloc | apply pw_below_drewN | apply below_drew1) | exact HB.out)) hb)
                clear HO332
                clear HO335
                clear HB
                have HO332 := n0_
                have HO335 := n1_
                have HO338 := n2_
                have HB := n3_
                clear n0_ n1_ n2_ n3_
                (try clear hb)
                (try clear hb2)
                (try clear hk)
                (try clear hi)
                (try clear ho0)
                refine hK.out _ _ ⟨v331, v334, v337, v340, (by rw [ha.out]; exact putSel_upk 8 hb_ rfl rfl rfl), (by repeat (first | (with_reducible first | exact HB.out | apply below_alloc | apply pw_below_drewN | apply below_drew1) | exact HB.out)), fun _ => (by (with_reducible repeat (first | apply Kd.R_alloc | apply Kd.R_drewN | apply Kd.R_drew)); first | exact HO332.out | exact Kd.R_mono (HO332.out) (fun _ hk => by first | trivial | exact hk | exact hk.1 | ((repeat' apply And.intro) <;> first | exact hk.2 | exact hk.1.2 | exact hk.1.1.2))), fun _ => (by (with_reducible repeat (first | apply Kd.R_alloc | apply Kd.R_drewN | apply Kd.R_drew)); first | exact HO335.out | exact Kd.R_mono (HO335.out) (fun _ hk => by first | trivial | exact hk | exact hk.1 | ((repeat' apply And.intro) <;> first | exact hk.2 | exact hk.1.2 | exact hk.1.1.2))), fun _ => (by (with_reducible repeat (first | apply Kd.R_alloc | apply Kd.R_drewN | apply Kd.R_drew)); first | exact Kd.R_mono HO338.out (fun _ hk => ⟨hk.1.2, hk.2⟩) | exact Kd.R_mono (HO338.out) (fun _ hk => by first | trivial | exact hk | exact hk.1 | ((repeat' apply And.intro) <;> first | exact hk.2 | exact hk.1.2 | exact hk.1.1.2))), fun h0_ => absurd ((hoff 14 (by kernel_rfl)).symm.trans h0_) (by decide)⟩
              refine steps_cons ?_ ?_
              · rintro b a w' ⟨v331, v334, v337, v340, ha, Q_HB, Q_HO332, Q_HO335, Q_HO338, Q_HO341⟩ hb_ hon hoff
                refine ⟨_, rfl, fun K hK => ?_⟩
                have e25 : a.tmps[25]? = some (v337) := by rw [ha]; exact putSel_on (e := (10, 25, v337)) 8 rfl rfl (hon 10 (by kernel_rfl)) rfl
                have e22 : a.tmps[22]? = some (.bool ((strOfNums t330).toList == (strOfNums t333).toList)) := by rw [ha]; exact putSel_on (e := (7, 22, .bool ((strOfNums t330).toList == (strOfNums t333).toList))) 5 rfl rfl (hon 7 (by kernel_rfl)) rfl
                replace ha := Aside0.mk ha
                have HB := Aside0.mk Q_HB
                have HO332 := Aside0.mk (Q_HO332 (hon 1 (by kernel_rfl)))
                have HO335 := Aside0.mk (Q_HO335 (hon 4 (by kernel_rfl)))
                have HO338 := Aside0.mk (Q_HO338 (hon 10 (by kernel_rfl)))
                refine str_step (src := 24) (dst := 9) (x := .tmp 25) ?hw ?ho ?hx (v := v337) (s := strOfNums t336) (by obtain ⟨A_, c_, rfl⟩ := Kd.R_slice HO338.out; exact Kd.C_string (P := Tryd.prog) (A := A_) (c := c_) Tryd.underlying24 Tryd.underlying5 Tryd.underlying9 (Kd.R_reads' (by (with_reducible repeat (first | apply Kd.R_alloc | apply Kd.R_drewN | apply Kd.R_drew)); exact HO338.out)).2.2) ?_
                case ho => rfl
                case hw => first | rfl | (simp [Region.wanted, yielded, *]; done)
                case hx => first | rfl | (simp only [Act.eval, Array.getD_eq_getD_getElem?, Option.getD_some, e25]; done)
                intro w21 hb
                have n0_ := Aside0.mk (Kd.R_below (by (with_reducible repeat (first | apply Kd.R_alloc | apply Kd.R_drewN | apply Kd.R_drew)); exact HO332.out) hb)
                have n1_ := Aside0.mk (Kd.R_below (by (with_reducible repeat (first | apply Kd.R_alloc | apply Kd.R_drewN | apply Kd.R_drew)); exact HO335.out) hb)
                have n2_ := Aside0.mk (Kd.R_below (by (with_reducible repeat (first | apply Kd.R_alloc | apply Kd.R_drewN | apply Kd.R_drew)); exact HO338.out) hb)
                have n3_ := Aside0.mk (below_step (by repeat (first | (with_reducible first | exact HB.out | apply below_alloc | apply pw_below_drewN | apply below_drew1) | exact HB.out)) hb)
                have z_HO341 := fun (h0_ : b 14 = true) => (show Kd.R (Kd.int .u8) 5 w21 w.heap.size (fun _ => True) v340 t339 from by first | exact (Kd.R_below (by (with_reducible repeat (first | apply Kd.R_alloc | apply Kd.R_drewN | apply Kd.R_drew)); exact (Q_HO341 h0_)) hb) | exact Kd.R_mono (Kd.R_below (by (with_reducible repeat (first | apply Kd.R_alloc | apply Kd.R_drewN | apply Kd.R_drew)); exact (Q_HO341 h0_)) hb) (fun _ h_ => by first | trivial | exact h_ | exact h_.1))
                clear HO332
                clear HO335
                clear HO338
                clear HB
                have HO332 := n0_
                have HO335 := n1_
                have HO338 := n2_
                have HB := n3_
                clear n0_ n1_ n2_ n3_
                (try clear hb)
                refine hK.out _ _ ⟨v331, v334, v337, v340, (by rw [ha.out]; exact putSel_upk 9 hb_ rfl rfl rfl), (by repeat (first | (with_reducible first | exact HB.out | apply below_alloc | apply pw_below_drewN | apply below_drew1) | exact HB.out)), fun _ => (by (with_reducible repeat (first | apply Kd.R_alloc | apply Kd.R_drewN | apply Kd.R_drew)); first | exact HO332.out | exact Kd.R_mono (HO332.out) (fun _ hk => by first | trivial | exact hk | exact hk.1 | ((repeat' apply And.intro) <;> first | exact hk.2 | exact hk.1.2 | exact hk.1.1.2))), fun _ => (by (with_reducible repeat (first | apply Kd.R_alloc | apply Kd.R_drewN | apply Kd.R_drew)); first | exact HO335.out | exact Kd.R_mono (HO335.out) (fun _ hk => by first | trivial | exact hk | exact hk.1 | ((repeat' apply And.intro) <;> first | exact hk.2 | exact hk.1.2 | exact hk.1.1.2))), fun _ => (by (with_reducible repeat (first | apply Kd.R_alloc | apply Kd.R_drewN | apply Kd.R_drew)); first | exact HO338.out | exact Kd.R_mono (HO338.out) (fun _ hk => by first | trivial | exact hk | exact hk.1 | ((repeat' apply And.intro) <;> first | exact hk.2 | exact hk.1.2 | exact hk.1.1.2))), z_HO341⟩
              refine steps_cons ?_ ?_
              · rintro b a w' ⟨v331, v334, v337, v340, ha, Q_HB, Q_HO332, Q_HO335, Q_HO338, Q_HO341⟩ hb_ hon hoff
                refine ⟨_, rfl, fun K hK => ?_⟩
                have e0 : a.tmps[0]? = some (.slice A0 l0.length c0) := by rw [ha]; exact (putSel_off rfl).trans rfl
                have e22 : a.tmps[22]? = some (.bool ((strOfNums t330).toList == (strOfNums t333).toList)) := by rw [ha]; exact putSel_on (e := (7, 22, .bool ((strOfNums t330).toList == (strOfNums t333).toList))) 5 rfl rfl (hon 7 (by kernel_rfl)) rfl
                replace ha := Aside0.mk ha
                have HB := Aside0.mk Q_HB
                have HO332 := Aside0.mk (Q_HO332 (hon 1 (by kernel_rfl)))
                have HO335 := Aside0.mk (Q_HO335 (hon 4 (by kernel_rfl)))
                refine value_ (w1 := w') (v := .slice A0 l0.length c0) (wanted_on rfl rfl rfl (e22.trans (by first | rfl | (simp [*]; done)))) rfl ?_ ?_
                · go_simp
                  (try simp only [i64_w])
                  try first | rfl | (simp [bne]; done)
                refine hK.out _ _ ⟨v331, v334, v337, v340, (by rw [ha.out]; exact putSel_upk 10 hb_ rfl rfl rfl), Q_HB, Q_HO332, Q_HO335, Q_HO338, fun h0_ => absurd ((hoff 14 (by kernel_rfl)).symm.trans h0_) (by decide)⟩
              refine steps_cons ?_ ?_
              · rintro b a w' ⟨v331, v334, v337, v340, ha, Q_HB, Q_HO332, Q_HO335, Q_HO338, Q_HO341⟩ hb_ hon hoff
                refine ⟨_, rfl, fun K hK => ?_⟩
                have e1 : a.tmps[1]? = some (.slice A1 l1.length c1) := by rw [ha]; exact (putSel_off rfl).trans rfl
                have e22 : a.tmps[22]? = some (.bool ((strOfNums t330).toList == (strOfNums t333).toList)) := by rw [ha]; exact putSel_on (e := (7, 22, .bool ((strOfNums t330).toList == (strOfNums t333).toList))) 5 rfl rfl (hon 7 (by kernel_rfl)) rfl
                replace ha := Aside0.mk ha
                have HB := Aside0.mk Q_HB
                have HO332 := Aside0.mk (Q_HO332 (hon 1 (by kernel_rfl)))
                have HO335 := Aside0.mk (Q_HO335 (hon 4 (by kernel_rfl)))
                refine value_ (w1 := w') (v := .slice A1 l1.length c1) (wanted_on rfl rfl rfl (e22.trans (by first | rfl | (simp [*]; done)))) rfl ?_ ?_
                · go_simp
                  (try simp only [i64_w])
                  try first | rfl | (simp [bne]; done)
                refine hK.out _ _ ⟨v331, v334, v337, v340, (by rw [ha.out]; exact putSel_upk 11 hb_ rfl rfl rfl), Q_HB, Q_HO332, Q_HO335, Q_HO338, fun h0_ => absurd ((hoff 14 (by kernel_rfl)).symm.trans h0_) (by decide)⟩
              refine steps_cons ?_ ?_
              · rintro b a w' ⟨v331, v334, v337, v340, ha, Q_HB, Q_HO332, Q_HO335, Q_HO338, Q_HO341⟩ hb_ hon hoff
                refine ⟨_, rfl, fun K hK => ?_⟩
                have e27 : a.tmps[27]? = some (.slice A0 l0.length c0) := by rw [ha]; exact putSel_on (e := (12, 27, .slice A0 l0.length c0)) 10 rfl rfl (hon 12 (by kernel_rfl)) rfl
                have e28 : a.tmps[28]? = some (.slice A1 l1.length c1) := by rw [ha]; exact putSel_on (e := (13, 28, .slice A1 l1.length c1)) 11 rfl rfl (hon 13 (by kernel_rfl)) rfl
                have e22 : a.tmps[22]? = some (.bool ((strOfNums t330).toList == (strOfNums t333).toList)) := by rw [ha]; exact putSel_on (e := (7, 22, .bool ((strOfNums t330).toList == (strOfNums t333).toList))) 5 rfl rfl (hon 7 (by kernel_rfl)) rfl
                replace ha := Aside0.mk ha
                have HB := Aside0.mk Q_HB
                have HO332 := Aside0.mk (Q_HO332 (hon 1 (by kernel_rfl)))
                have HO335 := Aside0.mk (Q_HO335 (hon 4 (by kernel_rfl)))
                have HO338 := Aside0.mk (Q_HO338 (hon 10 (by kernel_rfl)))
                refine goes_ Tryd.func31 (by kernel_rfl) rfl #[.slice A0 l0.length c0, .slice A1 l1.length c1] (by first | rfl | (simp [Region.wanted, yielded, *]; done)) rfl rfl (by first | (simp only [List.map_toArray, List.map_cons, List.map_nil, Act.eval, Array.getD_eq_getD_getElem?, Option.getD_some, e27, e28, e22]; done) | (simp only [List.map_toArray, List.map_cons, List.map_nil, Act.eval, Array.getD_eq_getD_getElem?, Option.getD_some, e27, e28, e22]; rfl)) ?_
                with_reducible refine (wristbandref03_Mac.calls kj4 _ _ l0 _ _ l1 t339 _ ?side1 ?side2 ?side3 ?side4 A13.out).mono ?_
                (case side1 => repeat (first | exact (Kd.C_below HR0.out HB.out) | (with_reducible refine Kd.C_alloc ?_ _) | (with_reducible refine Kd.C_drewN ?_ _) | (with_reducible refine Kd.C_drew ?_)))
                (case side2 => exact HC0.out)
                (case side3 => repeat (first | exact (Kd.C_below HR1.out HB.out) | (with_reducible refine Kd.C_alloc ?_ _) | (with_reducible refine Kd.C_drewN ?_ _) | (with_reducible refine Kd.C_drew ?_)))
                (case side4 => exact HC1.out)
                rintro e w21 ⟨v340, rfl, ho0, hb⟩
                refine ⟨_, rfl, ?_⟩
                have n0_ := Aside0.mk (Kd.R_elder' (by (with_reducible repeat (first | apply Kd.R_alloc | apply Kd.R_drewN | apply Kd.R_drew)); exact HO332.out) (Kd.R_base ho0) hb)
                have n1_ := Aside0.mk (Kd.R_elder' (by (with_reducible repeat (first | apply Kd.R_alloc | apply Kd.R_drewN | apply Kd.R_drew)); exact HO335.out) (Kd.R_base ho0) hb)
                have n2_ := Aside0.mk (Kd.R_elder' (by (with_reducible repeat (first | apply Kd.R_alloc | apply Kd.R_drewN | apply Kd.R_drew)); exact HO338.out) (Kd.R_base ho0) hb)
                have n3_ := Aside0.mk (Kd.R_lower (Kd.R_new' (Kd.R_new' (Kd.R_new' ho0 (Kd.R_lt (by (with_reducible repeat (first | apply Kd.R_alloc | apply Kd.R_drewN | apply Kd.R_drew)); exact HO332.out))) (Kd.R_lt (by (with_reducible repeat (first | apply Kd.R_alloc | apply Kd.R_drewN | apply Kd.R_drew)); exact HO335.out))) (Kd.R_lt (by (with_reducible repeat (first | apply Kd.R_alloc | apply Kd.R_drewN | apply Kd.R_drew)); exact HO338.out))) (below_size (by repeat (first | (with_reducible first | exact HB.out | apply below_alloc | apply pw_below_drewN | apply below_drew1) | exact HB.out))))
                have n4_ := Aside0.mk (below_step (by repeat (first | (with_reducible first | exact HB.out | apply below_alloc | apply pw_below_drewN | apply below_drew1) | exact HB.out)) hb)
                clear HO332
                clear HO335
                clear HO338
                clear HB
                have HO332 := n0_
                have HO335 := n1_
                have HO338 := n2_
                have HO341 := n3_
                have HB := n4_
                clear n0_ n1_ n2_ n3_ n4_
                (try clear hb)
                (try clear hb2)
                (try clear hk)
                (try clear hi)
                (try clear ho0)
                refine hK.out _ _ ⟨v331, v334, v337, v340, (by rw [ha.out]; exact putSel_upk 12 hb_ rfl rfl rfl), (by repeat (first | (with_reducible first | exact HB.out | apply below_alloc | apply pw_below_drewN | apply below_drew1) | exact HB.out)), fun _ => (by (with_reducible repeat (first | apply Kd.R_alloc | apply Kd.R_drewN | apply Kd.R_drew)); first | exact Kd.R_mono HO332.out (fun _ hk => ⟨hk.1.1, ⟨hk.1.2, hk.2⟩⟩) | exact Kd.R_mono (HO332.out) (fun _ hk => by first | trivial | exact hk | exact hk.1 | ((repeat' apply And.intro) <;> first | exact hk.2 | exact hk.1.2 | exact hk.1.1.2))), fun _ => (by (with_reducible repeat (first | apply Kd.R_alloc | apply Kd.R_drewN | apply Kd.R_drew)); first | exact Kd.R_mono HO335.out (fun _ hk => ⟨hk.1.1, ⟨hk.1.2, hk.2⟩⟩) | exact Kd.R_mono (HO335.out) (fun _ hk => by first | trivial | exact hk | exact hk.1 | ((repeat' apply And.intro) <;> first | exact hk.2 | exact hk.1.2 | exact hk.1.1.2))), fun _ => (by (with_reducible repeat (first | apply Kd.R_alloc | apply Kd.R_drewN | apply Kd.R_drew)); first | exact Kd.R_mono HO338.out (fun _ hk => ⟨hk.1.1, ⟨hk.1.2, hk.2⟩⟩) | exact Kd.R_mono (HO338.out) (fun _ hk => by first | trivial | exact hk | exact hk.1 | ((repeat' apply And.intro) <;> first | exact hk.2 | exact hk.1.2 | exact hk.1.1.2))), fun _ => (by (with_reducible repeat (first | apply Kd.R_alloc | apply Kd.R_drewN | apply Kd.R_drew)); first | exact Kd.R_mono HO341.out (fun _ hk => ⟨hk.1.1.2, ⟨hk.1.2, hk.2⟩⟩) | exact Kd.R_mono (HO341.out) (fun _ hk => by first | trivial | exact hk | exact hk.1 | ((repeat' apply And.intro) <;> first | exact hk.2 | exact hk.1.2 | exact hk.1.1.2)))⟩
              refine steps_cons ?_ ?_
              · rintro b a w' ⟨v331, v334, v337, v340, ha, Q_HB, Q_HO332, Q_HO335, Q_HO338, Q_HO341⟩ hb_ hon hoff
                refine ⟨_, rfl, fun K hK => ?_⟩
                have e29 : a.tmps[29]? = some (v340) := by rw [ha]; exact putSel_on (e := (14, 29, v340)) 12 rfl rfl (hon 14 (by kernel_rfl)) rfl
                have e22 : a.tmps[22]? = some (.bool ((strOfNums t330).toList == (strOfNums t333).toList)) := by rw [ha]; exact putSel_on (e := (7, 22, .bool ((strOfNums t330).toList == (strOfNums t333).toList))) 5 rfl rfl (hon 7 (by kernel_rfl)) rfl
                replace ha := Aside0.mk ha
                have HB := Aside0.mk Q_HB
                have HO332 := Aside0.mk (Q_HO332 (hon 1 (by kernel_rfl)))
                have HO335 := Aside0.mk (Q_HO335 (hon 4 (by kernel_rfl)))
                have HO338 := Aside0.mk (Q_HO338 (hon 10 (by kernel_rfl)))
                have HO341 := Aside0.mk (Q_HO341 (hon 14 (by kernel_rfl)))
                refine str_step (src := 24) (dst := 9) (x := .tmp 29) ?hw ?ho ?hx (v := v340) (s := strOfNums t339) (by obtain ⟨A_, c_, rfl⟩ := Kd.R_slice HO341.out; exact Kd.C_string (P := Tryd.prog) (A := A_) (c := c_) Tryd.underlying24 Tryd.underlying5 Tryd.underlying9 (Kd.R_reads' (by (with_reducible repeat (first | apply Kd.R_alloc | apply Kd.R_drewN | apply Kd.R_drew)); exact HO341.out)).2.2) ?_
                case ho => rfl
                case hw => first | rfl | (simp [Region.wanted, yielded, *]; done)
                case hx => first | rfl | (simp only [Act.eval, Array.getD_eq_getD_getElem?, Option.getD_some, e29]; done)
                intro w22 hb
                have n0_ := Aside0.mk (Kd.R_below (by (with_reducible repeat (first | apply Kd.R_alloc | apply Kd.R_drewN | apply Kd.R_drew)); exact HO332.out) hb)
                have n1_ := Aside0.mk (Kd.R_below (by (with_reducible repeat (first | apply Kd.R_alloc | apply Kd.R_drewN | apply Kd.R_drew)); exact HO335.out) hb)
                have n2_ := Aside0.mk (Kd.R_below (by (with_reducible repeat (first | apply Kd.R_alloc | apply Kd.R_drewN | apply Kd.R_drew)); exact HO338.out) hb)
                have n3_ := Aside0.mk (Kd.R_below (by (with_reducible repeat (first | apply Kd.R_alloc | apply Kd.R_drewN | apply Kd.R_drew)); exact HO341.out) hb)
                have n4_ := Aside0.mk (below_step (by repeat (first | (with_reducible first | exact HB.out | apply below_alloc | apply pw_below_drewN | apply below_drew1) | exact HB.out)) hb)
                clear HO332
                clear HO335
                clear HO338
                clear HO341
                clear HB
                have HO332 := n0_
                have HO335 := n1_
                have HO338 := n2_
                have HO341 := n3_
                have HB := n4_
                clear n0_ n1_ n2_ n3_ n4_
                (try clear hb)
                refine hK.out _ _ ⟨v331, v334, v337, v340, (by rw [ha.out]; exact putSel_upk 13 hb_ rfl rfl rfl), (by repeat (first | (with_reducible first | exact HB.out | apply below_alloc | apply pw_below_drewN | apply below_drew1) | exact HB.out)), fun _ => (by (with_reducible repeat (first | apply Kd.R_alloc | apply Kd.R_drewN | apply Kd.R_drew)); first | exact HO332.out | exact Kd.R_mono (HO332.out) (fun _ hk => by first | trivial | exact hk | exact hk.1 | ((repeat' apply And.intro) <;> first | exact hk.2 | exact hk.1.2 | exact hk.1.1.2))), fun _ => (by (with_reducible repeat (first | apply Kd.R_alloc | apply Kd.R_drewN | apply Kd.R_drew)); first | exact HO335.out | exact Kd.R_mono (HO335.out) (fun _ hk => by first | trivial | exact hk | exact hk.1 | ((repeat' apply And.intro) <;> first | exact hk.2 | exact hk.1.2 | exact hk.1.1.2))), fun _ => (by (with_reducible repeat (first | apply Kd.R_alloc | apply Kd.R_drewN | apply Kd.R_drew)); first | exact HO338.out | exact Kd.R_mono (HO338.out) (fun _ hk => by first | trivial | exact hk | exact hk.1 | ((repeat' apply And.intro) <;> first | exact hk.2 | exact hk.1.2 | exact hk.1.1.2))), fun _ => (by (with_reducible repeat (first | apply Kd.R_alloc | apply Kd.R_drewN | apply Kd.R_drew)); first | exact HO341.out | exact Kd.R_mono (HO341.out) (fun _ hk => by first | trivial | exact hk | exact hk.1 | ((repeat' apply And.intro) <;> first | exact hk.2 | exact hk.1.2 | exact hk.1.1.2)))⟩
              refine steps_cons ?_ ?_
              · rintro b a w' ⟨v331, v334, v337, v340, ha, Q_HB, Q_HO332, Q_HO335, Q_HO338, Q_HO341⟩ hb_ hon hoff
                refine ⟨_, rfl, fun K hK => ?_⟩
                have e26 : a.tmps[26]? = some (.string (strOfNums t336)) := by rw [ha]; exact putSel_on (e := (11, 26, .string (strOfNums t336))) 9 rfl rfl (hon 11 (by kernel_rfl)) rfl
                have e30 : a.tmps[30]? = some (.string (strOfNums t339)) := by rw [ha]; exact putSel_on (e := (15, 30, .string (strOfNums t339))) 13 rfl rfl (hon 15 (by kernel_rfl)) rfl
                have e22 : a.tmps[22]? = some (.bool ((strOfNums t330).toList == (strOfNums t333).toList)) := by rw [ha]; exact putSel_on (e := (7, 22, .bool ((strOfNums t330).toList == (strOfNums t333).toList))) 5 rfl rfl (hon 7 (by kernel_rfl)) rfl
                replace ha := Aside0.mk ha
                have HB := Aside0.mk Q_HB
                have HO332 := Aside0.mk (Q_HO332 (hon 1 (by kernel_rfl)))
                have HO335 := Aside0.mk (Q_HO335 (hon 4 (by kernel_rfl)))
                have HO338 := Aside0.mk (Q_HO338 (hon 10 (by kernel_rfl)))
                have HO341 := Aside0.mk (Q_HO341 (hon 14 (by kernel_rfl)))
                refine value_ (w1 := w') (v := .bool ((strOfNums t336).toList == (strOfNums t339).toList)) (wanted_on rfl rfl rfl (e22.trans (by first | rfl | (simp [*]; done)))) rfl ?_ ?_
                · go_simp
                  (try simp only [i64_w])
                  try first | rfl | (simp [bne]; done)
                refine hK.out _ _ ⟨v331, v334, v337, v340, (by rw [ha.out]; exact putSel_upk 14 hb_ rfl rfl rfl), Q_HB, Q_HO332, Q_HO335, Q_HO338, Q_HO341⟩
              refine steps_cons ?_ ?_
              · rintro b a w' ⟨v331, v334, v337, v340, ha, Q_HB, Q_HO332, Q_HO335, Q_HO338, Q_HO341⟩ hb_ hon hoff
                refine ⟨_, rfl, fun K hK => ?_⟩
                have e22 : a.tmps[22]? = some (.bool ((strOfNums t330).toList == (strOfNums t333).toList)) := by rw [ha]; exact putSel_on (e := (7, 22, .bool ((strOfNums t330).toList == (strOfNums t333).toList))) 5 rfl rfl (hon 7 (by kernel_rfl)) rfl
                have e31 : a.tmps[31]? = some (.bool ((strOfNums t336).toList == (strOfNums t339).toList)) := by rw [ha]; exact putSel_on (e := (16, 31, .bool ((strOfNums t336).toList == (strOfNums t339).toList))) 14 rfl rfl (hon 16 (by kernel_rfl)) rfl
                replace ha := Aside0.mk ha
                have HB := Aside0.mk Q_HB
                have HO332 := Aside0.mk (Q_HO332 (hon 1 (by kernel_rfl)))
                have HO335 := Aside0.mk (Q_HO335 (hon 4 (by kernel_rfl)))
                have HO338 := Aside0.mk (Q_HO338 (hon 10 (by kernel_rfl)))
                have HO341 := Aside0.mk (Q_HO341 (hon 14 (by kernel_rfl)))
                refine value_ (w1 := w') (v := .bool ((strOfNums t336).toList == (strOfNums t339).toList)) (by rfl) rfl ?_ ?_
                · go_simp
                  (try simp only [i64_w])
                  try first | rfl | (simp [bne]; done)
                refine hK.out _ _ ⟨v331, v334, v337, v340, (by rw [ha.out]; exact putSel_upk 15 hb_ rfl rfl rfl), Q_HB, Q_HO332, Q_HO335, Q_HO338, Q_HO341⟩
              refine steps_cons ?_ ?_
              · rintro b a w' ⟨v331, v334, v337, v340, ha, Q_HB, Q_HO332, Q_HO335, Q_HO338, Q_HO341⟩ hb_ hon hoff
                refine ⟨_, rfl, fun K hK => ?_⟩
                have e32 : a.tmps[32]? = some (.bool ((strOfNums t336).toList == (strOfNums t339).toList)) := by rw [ha]; exact putSel_on (e := (17, 32, .bool ((strOfNums t336).toList == (strOfNums t339).toList))) 15 rfl rfl (hon 17 (by kernel_rfl)) rfl
                replace ha := Aside0.mk ha
                have HB := Aside0.mk Q_HB
                have HO332 := Aside0.mk (Q_HO332 (hon 1 (by kernel_rfl)))
                have HO335 := Aside0.mk (Q_HO335 (hon 4 (by kernel_rfl)))
                have HO338 := Aside0.mk (Q_HO338 (hon 10 (by kernel_rfl)))
                have HO341 := Aside0.mk (Q_HO341 (hon 14 (by kernel_rfl)))
                refine value_ (w1 := w') (v := .bool ((strOfNums t336).toList == (strOfNums t339).toList)) (by rfl) rfl ?_ ?_
                · go_simp
                  (try simp only [i64_w])
                  try first | rfl | (simp [bne]; done)
                refine hK.out _ _ ⟨v331, v334, v337, v340, (by rw [ha.out]; exact putSel_upk 16 hb_ rfl rfl rfl), Q_HB, Q_HO332, Q_HO335, Q_HO338, Q_HO341⟩
              exact steps_nil
            rintro b a w23 hall ⟨v331, v334, v337, v340, ha, Q_HB, Q_HO332, Q_HO335, Q_HO338, Q_HO341⟩
            clear HB
            have hb1_ := hall 1 (by kernel_rfl)
            have hb2_ := hall 2 (by kernel_rfl)
            have hb4_ := hall 4 (by kernel_rfl)
            have hb5_ := hall 5 (by kernel_rfl)
            have hb6_ := hall 6 (by kernel_rfl)
            have hb7_ := hall 7 (by kernel_rfl)
            have hb8_ := hall 8 (by kernel_rfl)
            have hb9_ := hall 9 (by kernel_rfl)
            have hb10_ := hall 10 (by kernel_rfl)
            have hb11_ := hall 11 (by kernel_rfl)
            have hb12_ := hall 12 (by kernel_rfl)
            have hb13_ := hall 13 (by kernel_rfl)
            have hb14_ := hall 14 (by kernel_rfl)
            have hb15_ := hall 15 (by kernel_rfl)
            have hb16_ := hall 16 (by kernel_rfl)
            have hb17_ := hall 17 (by kernel_rfl)
            have hb18_ := hall 18 (by kernel_rfl)
            subst ha
            simp only [putSel, hb1_, hb2_, hb4_, hb5_, hb6_, hb7_, hb8_, hb9_, hb10_, hb11_, hb12_, hb13_, hb14_, hb15_, hb16_, hb17_, hb18_, if_true, Act.put, List.setIfInBounds_toArray, List.set_cons_zero, List.set_cons_succ]
            have HB := Aside0.mk Q_HB
            clear Q_HB
            have HO332 := Aside0.mk (Q_HO332 hb1_)
            clear Q_HO332
            have HO335 := Aside0.mk (Q_HO335 hb4_)
            clear Q_HO335
            have HO338 := Aside0.mk (Q_HO338 hb10_)
            clear Q_HO338
            have HO341 := Aside0.mk (Q_HO341 hb14_)
            clear Q_HO341
            clear hall hb1_ hb2_ hb4_ hb5_ hb6_ hb7_ hb8_ hb9_ hb10_ hb11_ hb12_ hb13_ hb14_ hb15_ hb16_ hb17_ hb18_
            try go_wp2
            go_ret
            exact ⟨by first | rfl | (simp [errW_none, errW_some] <;> rfl) | (simp [*, errW_none, errW_some] <;> rfl), by repeat (first | (with_reducible first | exact HB.out | apply below_alloc | apply pw_below_drewN | apply below_drew1) | exact HB.out)⟩
          · rw [if_neg c11] at H
            have c11b0 : ((strOfNums t330).toList == (strOfNums t333).toList) = false := beq_eq_false_iff_ne.mpr c11
            have c11b1 : ((strOfNums t330).toList != (strOfNums t333).toList) = true := bne_iff_ne.mpr c11
            exact absurd (Option.some.inj H) (by rw [HR_.out]; decide)
  · replace c4 := Bool.eq_false_iff.mpr c4
    subst c4
    have H1 : (some false) = some r := by rw [if_neg (show ¬ (false = true) by decide)] at H; exact H
    clear H
    have H := H1
    clear H1
    exact absurd (Option.some.inj H) (by rw [HR_.out]; decide)

/-- THE ONE PURE STATEMENT of wristbandlaw03_HmacRight: yours. -/
def wristbandlaw03_HmacRight.Pure : Prop := ∀ (l0 : List Int) (l1 : List Int), l0.length ≤ maxLen → l0.length * 1 ≤ 140737488351232 → (∀ x ∈ l0, (Lit.int .u8 x).wf = true) → l1.length ≤ maxLen → l1.length * 1 ≤ 140737488351232 → (∀ x ∈ l1, (Lit.int .u8 x).wf = true) → ∃ k, wristbandlaw03_HmacRight.f k l0 l1 = some true
theorem wristbandlaw03_HmacRight.walk (P : wristbandlaw03_HmacRight.Pure) (a0 : Option Addr) (len0 cap0 : Nat) (z0 : List Int) (a1 : Option Addr) (len1 cap1 : Nat) (z1 : List Int) (w : World) (w0 : (a0 = none ∧ len0 = 0 ∧ cap0 = 0 ∧ z0 = []) ∨ ∃ x, a0 = some x ∧ len0 ≤ cap0 ∧ cap0 ≤ maxLen ∧ z0.length = cap0 ∧ (∀ i, i < z0.length → w.cell? (x.add i) = some (.int .u8 (z0.getD i 0))) ∧ ∀ n ∈ z0, (Lit.int .u8 n).wf = true) (y0 : len0 * 1 ≤ 140737488351232) (w1 : (a1 = none ∧ len1 = 0 ∧ cap1 = 0 ∧ z1 = []) ∨ ∃ x, a1 = some x ∧ len1 ≤ cap1 ∧ cap1 ≤ maxLen ∧ z1.length = cap1 ∧ (∀ i, i < z1.length → w.cell? (x.add i) = some (.int .u8 (z1.getD i 0))) ∧ ∀ n ∈ z1, (Lit.int .u8 n).wf = true) (y1 : len1 * 1 ≤ 140737488351232) (hL0_ : Kd.C (Kd.int .u32) w (some ⟨0, 0, none⟩) 64 shaK) (hL1_ : Kd.C (Kd.int .u32) w (some ⟨1, 0, none⟩) 8 shaF) :
    Calls Tryd.prog 6 #[.slice a0 len0 cap0, .slice a1 len1 cap1] w fun e w' => e = .returned (.bool true) ∧ Below w.heap.size w w' := by
  obtain ⟨l0, rfl, hr0, hm0, hw0, hc0⟩ := ReadsInt.ofRowC w0
  obtain ⟨l1, rfl, hr1, hm1, hw1, hc1⟩ := ReadsInt.ofRowC w1
  obtain ⟨k, h⟩ := P l0 l1 hm0 y0 hw0 hm1 y1 hw1
  refine (wristbandlaw03_HmacRight.calls k _ _ l0 _ _ l1 true w (Kd.C_of_reads (d := (0 : Int)) (h1 := fun _ => rfl) hr0) hc0 (Kd.C_of_reads (d := (0 : Int)) (h1 := fun _ => rfl) hr1) hc1 hL0_ hL1_ h rfl).mono ?_
  rintro e w' ⟨rfl, hd⟩
  exact ⟨rfl, hd⟩

end Go.Proofs.YtnpkhkhlofkbhaaDoor.PHmacRight
