-- made by a program of this session (its printer) out of what Lean prints of the given program
import Derived.Test.YtnpkhkhlofkbhaaDoorPShaGoesOnx0
import Derived.Test.YtnpkhkhlofkbhaaDoorPShaGoesOnx3
import Derived.Test.YtnpkhkhlofkbhaaDoorPShaGoesOnx4
namespace Go.Proofs.YtnpkhkhlofkbhaaDoor.PShaGoesOn
open Go.RowKit Go.Proofs.YtnpkhkhlofkbhaaDoorW.PrintWords Go.Proofs.YtnpkhkhlofkbhaaDoorW.PrintLast Go.Proofs.YtnpkhkhlofkbhaaDoorW.PrintMore
attribute [local go_sem] max2_int min2_int max_two min_two max_three min_three max_four min_four   -- for this text's walks alone
set_option linter.unusedVariables false
set_option linter.unusedSimpArgs false

/-! ### wristbandlaw02_ShaGoesOn: function 4 -/
mutual
def wristbandlaw02_ShaGoesOn.l0 : Nat → List (List Int) → List Int → Int → Int → Int → Int → Int → Int → Int → Int → Int → List Int → Int → Option (Bool)
  | 0, _, _, _, _, _, _, _, _, _, _, _, _, _ => none
  | k + 1, x0, x4, x5, x216000, x216001, x216002, x216003, x216004, x216005, x216006, x216007, x216008, x216009 => if x5 < (x0.length : Int) then (if 0 ≤ x5 then (if ((rd_L2 x0 x5).length : Int) > 300 then (some true) else ((sha_More.f k x216000 x216001 x216002 x216003 x216004 x216005 x216006 x216007 x216008 x216009 (rd_L2 x0 x5)).bind fun bt218 => (if bt218.2.2.2.2.2.2.2.2.2.2 = 0 then (wristbandlaw02_ShaGoesOn.j1 k x0 x4 x5 (decide ((bt218.2.2.2.2.2.2.2.2.1.length : Int) > 63)) bt218.1 bt218.2.1 bt218.2.2.1 bt218.2.2.2.1 bt218.2.2.2.2.1 bt218.2.2.2.2.2.1 bt218.2.2.2.2.2.2.1 bt218.2.2.2.2.2.2.2.1 bt218.2.2.2.2.2.2.2.2.1 bt218.2.2.2.2.2.2.2.2.2.1) else (wristbandlaw02_ShaGoesOn.j1 k x0 x4 x5 true bt218.1 bt218.2.1 bt218.2.2.1 bt218.2.2.2.1 bt218.2.2.2.2.1 bt218.2.2.2.2.2.1 bt218.2.2.2.2.2.2.1 bt218.2.2.2.2.2.2.2.1 bt218.2.2.2.2.2.2.2.2.1 bt218.2.2.2.2.2.2.2.2.2.1)))) else (none)) else (some (x216009 == (IntKind.u64.wrap ((x4.length : Int)))))
def wristbandlaw02_ShaGoesOn.j1 : Nat → List (List Int) → List Int → Int → Bool → Int → Int → Int → Int → Int → Int → Int → Int → List Int → Int → Option (Bool)
  | 0, _, _, _, _, _, _, _, _, _, _, _, _, _, _ => none
  | k + 1, x0, x4, x5, x44, x232000, x232001, x232002, x232003, x232004, x232005, x232006, x232007, x232008, x232009 => if x44 = true then (some false) else (if 0 ≤ x5 then (if x5 < (x0.length : Int) then (if x4.length + (rd_L2 x0 x5).length < 140737488355328 then ((some (x4 ++ (rd_L2 x0 x5) : List Int)).bind fun y233 => ((sha_End.f k x232000 x232001 x232002 x232003 x232004 x232005 x232006 x232007 x232008 x232009).bind fun bt236 => (if bt236.2 = 0 then ((sha_Sum.f k y233).bind fun t240 => (if (strOfNums bt236.1).toList = (strOfNums t240).toList then (if (bt236.1.length : Int) = 32 then (wristbandlaw02_ShaGoesOn.l0 k x0 y233 (wrap64 (x5 + 1)) x232000 x232001 x232002 x232003 x232004 x232005 x232006 x232007 x232008 x232009) else (some false)) else (some false))) else (some false)))) else (none)) else (none)) else (none))
end
def wristbandlaw02_ShaGoesOn.f (k : Nat) (l0 : List (List Int)) : Option (Bool) := (wristbandlaw02_awake.f k).bind fun t202 => (if t202 = true then (if (l0.length : Int) > 20 then (some true) else ((sha_Start.f).bind fun bt203 => (wristbandlaw02_ShaGoesOn.l0 k l0 ([] : List Int) 0 bt203.1 bt203.2.1 bt203.2.2.1 bt203.2.2.2.1 bt203.2.2.2.2.1 bt203.2.2.2.2.2.1 bt203.2.2.2.2.2.2.1 bt203.2.2.2.2.2.2.2.1 bt203.2.2.2.2.2.2.2.2.1 bt203.2.2.2.2.2.2.2.2.2))) else (some false))
theorem wristbandlaw02_ShaGoesOn.mono_l : ∀ k, (∀ y0 y1 y2 y3 y4 y5 y6 y7 y8 y9 y10 y11 y12, LeO (wristbandlaw02_ShaGoesOn.l0 k y0 y1 y2 y3 y4 y5 y6 y7 y8 y9 y10 y11 y12) (wristbandlaw02_ShaGoesOn.l0 (k + 1) y0 y1 y2 y3 y4 y5 y6 y7 y8 y9 y10 y11 y12)) ∧ (∀ y0 y1 y2 y3 y4 y5 y6 y7 y8 y9 y10 y11 y12 y13, LeO (wristbandlaw02_ShaGoesOn.j1 k y0 y1 y2 y3 y4 y5 y6 y7 y8 y9 y10 y11 y12 y13) (wristbandlaw02_ShaGoesOn.j1 (k + 1) y0 y1 y2 y3 y4 y5 y6 y7 y8 y9 y10 y11 y12 y13))
  | 0 => ⟨fun _ _ _ _ _ _ _ _ _ _ _ _ _ r h => by simp [wristbandlaw02_ShaGoesOn.l0] at h, fun _ _ _ _ _ _ _ _ _ _ _ _ _ _ r h => by simp [wristbandlaw02_ShaGoesOn.j1] at h⟩
  | k + 1 => by
    obtain ⟨ih0, ih1⟩ := wristbandlaw02_ShaGoesOn.mono_l k
    refine ⟨?_, ?_⟩
    · intro y0 y1 y2 y3 y4 y5 y6 y7 y8 y9 y10 y11 y12
      unfold wristbandlaw02_ShaGoesOn.l0
      repeat' first
      | (with_reducible exact ih0 _ _ _ _ _ _ _ _ _ _ _ _ _)
      | (with_reducible exact ih1 _ _ _ _ _ _ _ _ _ _ _ _ _ _)
      | (with_reducible exact sha_End.mono _ _ _ _ _ _ _ _ _ _ _)
      | (with_reducible exact sha_More.mono _ _ _ _ _ _ _ _ _ _ _ _)
      | (with_reducible exact sha_Sum.mono _ _)
      | (with_reducible exact wristbandlaw02_awake.mono _)
      | (with_reducible exact LeO.refl _)
      | (with_reducible exact LeO.none _)
      | (with_reducible refine LeO.ite ?_ ?_)
      | (with_reducible refine LeO.bind ?_ (fun _ => ?_))
      | exact ih0 _ _ _ _ _ _ _ _ _ _ _ _ _
      | exact ih1 _ _ _ _ _ _ _ _ _ _ _ _ _ _
      | exact sha_End.mono _ _ _ _ _ _ _ _ _ _ _
      | exact sha_More.mono _ _ _ _ _ _ _ _ _ _ _ _
      | exact sha_Sum.mono _ _
      | exact wristbandlaw02_awake.mono _
      | exact LeO.none _
      | refine LeO.ite ?_ ?_
      | refine LeO.bind ?_ (fun _ => ?_)
    · intro y0 y1 y2 y3 y4 y5 y6 y7 y8 y9 y10 y11 y12 y13
      unfold wristbandlaw02_ShaGoesOn.j1
      repeat' first
      | (with_reducible exact ih0 _ _ _ _ _ _ _ _ _ _ _ _ _)
      | (with_reducible exact ih1 _ _ _ _ _ _ _ _ _ _ _ _ _ _)
      | (with_reducible exact sha_End.mono _ _ _ _ _ _ _ _ _ _ _)
      | (with_reducible exact sha_More.mono _ _ _ _ _ _ _ _ _ _ _ _)
      | (with_reducible exact sha_Sum.mono _ _)
      | (with_reducible exact wristbandlaw02_awake.mono _)
      | (with_reducible exact LeO.refl _)
      | (with_reducible exact LeO.none _)
      | (with_reducible refine LeO.ite ?_ ?_)
      | (with_reducible refine LeO.bind ?_ (fun _ => ?_))
      | exact ih0 _ _ _ _ _ _ _ _ _ _ _ _ _
      | exact ih1 _ _ _ _ _ _ _ _ _ _ _ _ _ _
      | exact sha_End.mono _ _ _ _ _ _ _ _ _ _ _
      | exact sha_More.mono _ _ _ _ _ _ _ _ _ _ _ _
      | exact sha_Sum.mono _ _
      | exact wristbandlaw02_awake.mono _
      | exact LeO.none _
      | refine LeO.ite ?_ ?_
      | refine LeO.bind ?_ (fun _ => ?_)
theorem wristbandlaw02_ShaGoesOn.mono : ∀ a0 k, LeO (wristbandlaw02_ShaGoesOn.f k a0) (wristbandlaw02_ShaGoesOn.f (k + 1) a0) := by
  intro a0 k
  obtain ⟨ih0, ih1⟩ := wristbandlaw02_ShaGoesOn.mono_l k
  unfold wristbandlaw02_ShaGoesOn.f
  repeat' first
      | (with_reducible exact ih0 _ _ _ _ _ _ _ _ _ _ _ _ _)
      | (with_reducible exact ih1 _ _ _ _ _ _ _ _ _ _ _ _ _ _)
      | (with_reducible exact sha_End.mono _ _ _ _ _ _ _ _ _ _ _)
      | (with_reducible exact sha_More.mono _ _ _ _ _ _ _ _ _ _ _ _)
      | (with_reducible exact sha_Sum.mono _ _)
      | (with_reducible exact wristbandlaw02_awake.mono _)
      | (with_reducible exact LeO.refl _)
      | (with_reducible exact LeO.none _)
      | (with_reducible refine LeO.ite ?_ ?_)
      | (with_reducible refine LeO.bind ?_ (fun _ => ?_))
      | exact ih0 _ _ _ _ _ _ _ _ _ _ _ _ _
      | exact ih1 _ _ _ _ _ _ _ _ _ _ _ _ _ _
      | exact sha_End.mono _ _ _ _ _ _ _ _ _ _ _
      | exact sha_More.mono _ _ _ _ _ _ _ _ _ _ _ _
      | exact sha_Sum.mono _ _
      | exact wristbandlaw02_awake.mono _
      | exact LeO.none _
      | refine LeO.ite ?_ ?_
      | refine LeO.bind ?_ (fun _ => ?_)
def wristbandlaw02_ShaGoesOn.T12 : Bool × List (List Nat × List Nat) := (true, [([], []), ([], []), ([], []), ([1, 2], [1, 2]), ([3], [3]), ([0, 4], [0, 4]), ([5], [5]), ([6], [6]), ([6], [6]), ([], []), ([9, 7, 5, 0, 1, 2, 3, 4, 5, 6, 7, 9], [7, 9]), ([8, 10, 0, 1, 2, 3, 4, 5, 6, 7, 8, 9, 10], [8])])
def wristbandlaw02_ShaGoesOn.B12 : List Nat := [0, 0, 0, 6, 14, 31, 63, 127, 127, 0, 767, 2047]
theorem wristbandlaw02_ShaGoesOn.tab12 : rtab .any (opsOf Tryd.f4 12) = wristbandlaw02_ShaGoesOn.T12 := by kernel_rfl
theorem wristbandlaw02_ShaGoesOn.bits12 : waitsOk wristbandlaw02_ShaGoesOn.T12.2 wristbandlaw02_ShaGoesOn.B12 = true := by kernel_rfl
def wristbandlaw02_ShaGoesOn.T18 : Bool × List (List Nat × List Nat) := (true, [([], []), ([0], [0]), ([1], [1]), ([2], [2]), ([3, 2], [2, 3]), ([2], [2]), ([5, 2, 2], [2, 5]), ([6, 2], [2, 6]), ([4, 7, 2], [2, 4, 7]), ([2, 8], [2, 8]), ([9, 6], [9]), ([10], [10]), ([11, 10], [10, 11]), ([12, 10], [10, 12]), ([10, 13], [10, 13])])
def wristbandlaw02_ShaGoesOn.B18 : List Nat := [0, 1, 3, 7, 15, 7, 39, 103, 255, 511, 1023, 2047, 4095, 8191, 16383]
theorem wristbandlaw02_ShaGoesOn.tab18 : rtab .any (opsOf Tryd.f4 18) = wristbandlaw02_ShaGoesOn.T18 := by kernel_rfl
theorem wristbandlaw02_ShaGoesOn.bits18 : waitsOk wristbandlaw02_ShaGoesOn.T18.2 wristbandlaw02_ShaGoesOn.B18 = true := by kernel_rfl
set_option maxHeartbeats 8000000 in
set_option maxRecDepth 100000 in
theorem wristbandlaw02_ShaGoesOn.calls (k : Nat) (A0 : Option Addr) (c0 : Nat) (l0 : List (List Int)) (r : Bool) (w : World) (hr0 : Kd.C (Kd.slice 5 (Kd.int .u8)) w A0 l0.length l0) (hc0 : l0.length ≤ c0) (hL0_ : Kd.C (Kd.int .u32) w (some ⟨0, 0, none⟩) 64 shaK) (hL1_ : Kd.C (Kd.int .u32) w (some ⟨1, 0, none⟩) 8 shaF) (h : wristbandlaw02_ShaGoesOn.f k l0 = some r) (hT_ : r = true) :
    Calls Tryd.prog 4 #[.slice A0 l0.length c0] w fun e w' => e = .returned (.bool r) ∧ Below w.heap.size w w' := by
  have hu27 := Tryd.underlying27
  have HR0 := Aside0.mk hr0
  have HC0 := Aside0.mk hc0
  clear hr0 hc0
  have HRL0_ := Aside0.mk hL0_
  have HRL1_ := Aside0.mk hL1_
  clear hL0_ hL1_
  have HB := Aside0.mk (Below.refl w.heap.size w)
  have HR_ := Aside0.mk hT_
  clear hT_
  have H : ((wristbandlaw02_awake.f k).bind fun t202 => (if t202 = true then (if (l0.length : Int) > 20 then (some true) else ((sha_Start.f).bind fun bt203 => (wristbandlaw02_ShaGoesOn.l0 k l0 ([] : List Int) 0 bt203.1 bt203.2.1 bt203.2.2.1 bt203.2.2.2.1 bt203.2.2.2.2.1 bt203.2.2.2.2.2.1 bt203.2.2.2.2.2.2.1 bt203.2.2.2.2.2.2.2.1 bt203.2.2.2.2.2.2.2.2.1 bt203.2.2.2.2.2.2.2.2.2))) else (some false))) = some r := h
  clear h
  replace H := Option.bind_eq_some_iff.mp H
  obtain ⟨t202, A20, H⟩ := H
  replace H : (if t202 = true then (if (l0.length : Int) > 20 then (some true) else ((sha_Start.f).bind fun bt203 => (wristbandlaw02_ShaGoesOn.l0 k l0 ([] : List Int) 0 bt203.1 bt203.2.1 bt203.2.2.1 bt203.2.2.2.1 bt203.2.2.2.2.1 bt203.2.2.2.2.2.1 bt203.2.2.2.2.2.2.1 bt203.2.2.2.2.2.2.2.1 bt203.2.2.2.2.2.2.2.2.1 bt203.2.2.2.2.2.2.2.2.2))) else (some false)) = some r := H
  have A2 := Aside0.mk A20
  clear A20
  by_cases c3 : t202 = true
  · subst c3
    have H1 : (if (l0.length : Int) > 20 then (some true) else ((sha_Start.f).bind fun bt203 => (wristbandlaw02_ShaGoesOn.l0 k l0 ([] : List Int) 0 bt203.1 bt203.2.1 bt203.2.2.1 bt203.2.2.2.1 bt203.2.2.2.2.1 bt203.2.2.2.2.2.1 bt203.2.2.2.2.2.2.1 bt203.2.2.2.2.2.2.2.1 bt203.2.2.2.2.2.2.2.2.1 bt203.2.2.2.2.2.2.2.2.2))) = some r := by rw [if_pos rfl] at H; exact H
    clear H
    have H := H1
    clear H1
    by_cases c4 : (l0.length : Int) > 20
    · rw [if_pos c4] at H
      have c4b0 : decide (20 < (l0.length : Int)) = true := decide_eq_true c4
      have c4b1 : decide (20 < l0.length) = true := decide_eq_true (by omega)
      clear c4
      obtain rfl := Option.some.inj H
      go_enter Tryd.func4, Tryd.ntmps4
      go_wp2_with (first | ((with_reducible refine gate_callee (f := 13) rfl ?_); refine goesL_ (some 10) rfl rfl Tryd.func13 (by kernel_rfl) rfl #[] rfl (by (try simp only [List.map_toArray, List.map_cons, List.map_nil]); first | done | rfl | (simp only [List.length_drop, List.length_take]; rfl)) ?_; (with_reducible refine (wristbandlaw02_awake.calls k  true _ ?side1 ?side2 A2.out).mono ?_); (case side1 => repeat (first | exact HRL0_.out | (with_reducible refine Kd.C_alloc ?_ _) | (with_reducible refine Kd.C_drewN ?_ _) | (with_reducible refine Kd.C_drew ?_))); (case side2 => repeat (first | exact HRL1_.out | (with_reducible refine Kd.C_alloc ?_ _) | (with_reducible refine Kd.C_drewN ?_ _) | (with_reducible refine Kd.C_drew ?_))); rintro e w5 ⟨rfl, hb⟩; refine ⟨_, rfl, ?_⟩; have n0_ := Aside0.mk (below_step (by repeat (first | (with_reducible first | exact HB.out | apply below_alloc | apply pw_below_drewN | apply below_drew1) | exact HB.out)) hb); clear HB; have HB := n0_; clear n0_; (try clear hb); (try clear hb2); (try clear hk); (try clear hi)))
      go_ret
      exact ⟨by first | rfl | (simp [errW_none, errW_some] <;> rfl) | (simp [*, errW_none, errW_some] <;> rfl), by repeat (first | (with_reducible first | exact HB.out | apply below_alloc | apply pw_below_drewN | apply below_drew1) | exact HB.out)⟩
    · rw [if_neg c4] at H
      have c4b0 : decide (20 < (l0.length : Int)) = false := decide_eq_false c4
      have c4b1 : decide (20 < l0.length) = false := decide_eq_false (by omega)
      clear c4
      replace H := Option.bind_eq_some_iff.mp H
      obtain ⟨⟨t203, t204, t205, t206, t207, t208, t209, t210, t211, t214⟩, A60, H⟩ := H
      replace H : (wristbandlaw02_ShaGoesOn.l0 k l0 ([] : List Int) 0 t203 t204 t205 t206 t207 t208 t209 t210 t211 t214) = some r := H
      have A6 := Aside0.mk A60
      clear A60
      have H' := Aside0.mk H
      clear H
      go_enter Tryd.func4, Tryd.ntmps4
      go_wp2_with (first | ((with_reducible refine gate_callee (f := 13) rfl ?_); refine goesL_ (some 10) rfl rfl Tryd.func13 (by kernel_rfl) rfl #[] rfl (by (try simp only [List.map_toArray, List.map_cons, List.map_nil]); first | done | rfl | (simp only [List.length_drop, List.length_take]; rfl)) ?_; (with_reducible refine (wristbandlaw02_awake.calls k  true _ ?side1 ?side2 A2.out).mono ?_); (case side1 => repeat (first | exact HRL0_.out | (with_reducible refine Kd.C_alloc ?_ _) | (with_reducible refine Kd.C_drewN ?_ _) | (with_reducible refine Kd.C_drew ?_))); (case side2 => repeat (first | exact HRL1_.out | (with_reducible refine Kd.C_alloc ?_ _) | (with_reducible refine Kd.C_drewN ?_ _) | (with_reducible refine Kd.C_drew ?_))); rintro e w7 ⟨rfl, hb⟩; refine ⟨_, rfl, ?_⟩; have n0_ := Aside0.mk (below_step (by repeat (first | (with_reducible first | exact HB.out | apply below_alloc | apply pw_below_drewN | apply below_drew1) | exact HB.out)) hb); clear HB; have HB := n0_; clear n0_; (try clear hb); (try clear hb2); (try clear hk); (try clear hi)) | ((with_reducible refine gate_callee (f := 26) rfl ?_); refine goesL_ (some 15) rfl rfl Tryd.func26 (by kernel_rfl) rfl #[] rfl (by (try simp only [List.map_toArray, List.map_cons, List.map_nil]); first | done | rfl | (simp only [List.length_drop, List.length_take]; rfl)) ?_; (with_reducible refine (sha_Start.calls  t203 t204 t205 t206 t207 t208 t209 t210 t211 t214 _ ?side1 ?side2 A6.out).mono ?_); (case side1 => repeat (first | exact (Kd.C_below HRL0_.out HB.out) | (with_reducible refine Kd.C_alloc ?_ _) | (with_reducible refine Kd.C_drewN ?_ _) | (with_reducible refine Kd.C_drew ?_))); (case side2 => repeat (first | exact (Kd.C_below HRL1_.out HB.out) | (with_reducible refine Kd.C_alloc ?_ _) | (with_reducible refine Kd.C_drewN ?_ _) | (with_reducible refine Kd.C_drew ?_))); rintro e w8 ⟨v212, rfl, ho0, hb⟩; refine ⟨_, rfl, ?_⟩; have n0_ := Aside0.mk (Kd.R_lower ho0 (below_size (by repeat (first | (with_reducible first | exact HB.out | apply below_alloc | apply pw_below_drewN | apply below_drew1) | exact HB.out)))); have n1_ := Aside0.mk (below_step (by repeat (first | (with_reducible first | exact HB.out | apply below_alloc | apply pw_below_drewN | apply below_drew1) | exact HB.out)) hb); clear HB; have HO213 := n0_; have HB := n1_; clear n0_ n1_; (try clear hb); (try clear hb2); (try clear hk); (try clear hi); (try clear ho0)) | ((with_reducible refine gate_dst (N := 3) rfl ?_); (try (refine gate_guard (by rfl) ?_; dsimp only)); refine box_event ?hg (N := 3) ?hd (cs := #[.int .u32 0, .int .u32 0, .int .u32 0, .int .u32 0, .int .u32 0, .int .u32 0, .int .u32 0, .int .u32 0, .slice none 0 0, .int .u64 0]) (t := 27) ?hr ?_; (case hd => rfl); (case hg => rfl); (case hr => first | (go_simp; done) | (go_simp; rfl)); intro gb215 hg w9 hbox hb; have n0_ := Aside0.mk (Kd.R_below (by (with_reducible repeat (first | apply Kd.R_alloc | apply Kd.R_drewN | apply Kd.R_drew)); exact HO213.out) hb); have n1_ := Aside0.mk (below_step (by repeat (first | (with_reducible first | exact HB.out | apply below_alloc | apply pw_below_drewN | apply below_drew1) | exact HB.out)) hb); have n2_ := Aside0.mk (hbox); have n3_ := Aside0.mk ((by rw [hg]; exact (below_size (by repeat (first | (with_reducible first | exact HB.out | apply below_alloc | apply pw_below_drewN | apply below_drew1) | exact HB.out))) : w.heap.size ≤ gb215)); have n4_ := Aside0.mk ((by rw [hg]; exact (below_size (by repeat (first | (with_reducible first | exact HB.out | apply below_alloc | apply pw_below_drewN | apply below_drew1) | exact HB.out))) : w.heap.size ≤ gb215)); clear HO213; clear HB; have HO213 := n0_; have HB := n1_; have BK215 := n2_; have GW215 := n3_; have GE215 := n4_; clear n0_ n1_ n2_ n3_ n4_; clear hb hbox hg; have hcz10_0 : w9.cell? ⟨gb215, 0, none⟩ = some (.int .u32 0) := (blk_cell BK215.out 0).trans rfl; have hcz10_1 : w9.cell? ⟨gb215, 1, none⟩ = some (.int .u32 0) := (blk_cell BK215.out 1).trans rfl; have hcz10_2 : w9.cell? ⟨gb215, 2, none⟩ = some (.int .u32 0) := (blk_cell BK215.out 2).trans rfl; have hcz10_3 : w9.cell? ⟨gb215, 3, none⟩ = some (.int .u32 0) := (blk_cell BK215.out 3).trans rfl; have hcz10_4 : w9.cell? ⟨gb215, 4, none⟩ = some (.int .u32 0) := (blk_cell BK215.out 4).trans rfl; have hcz10_5 : w9.cell? ⟨gb215, 5, none⟩ = some (.int .u32 0) := (blk_cell BK215.out 5).trans rfl; have hcz10_6 : w9.cell? ⟨gb215, 6, none⟩ = some (.int .u32 0) := (blk_cell BK215.out 6).trans rfl; have hcz10_7 : w9.cell? ⟨gb215, 7, none⟩ = some (.int .u32 0) := (blk_cell BK215.out 7).trans rfl; have hcz10_8 : w9.cell? ⟨gb215, 8, none⟩ = some (.slice none 0 0) := (blk_cell BK215.out 8).trans rfl; have hcz10_9 : w9.cell? ⟨gb215, 9, none⟩ = some (.int .u64 0) := (blk_cell BK215.out 9).trans rfl; have hfz10_0 := blk_frozen BK215.out 0; have hfz10_1 := blk_frozen BK215.out 1; have hfz10_2 := blk_frozen BK215.out 2; have hfz10_3 := blk_frozen BK215.out 3; have hfz10_4 := blk_frozen BK215.out 4; have hfz10_5 := blk_frozen BK215.out 5; have hfz10_6 := blk_frozen BK215.out 6; have hfz10_7 := blk_frozen BK215.out 7; have hfz10_8 := blk_frozen BK215.out 8; have hfz10_9 := blk_frozen BK215.out 9; obtain ⟨Ao11, co11, eo11⟩ := Kd.R_slice HO213.out; subst eo11))
      go_loopg [4, 5] k (fun kq v4 v5 w' => ∃ (x4_1 : List Int) (x5_1 : Int) (x216000_1 : Int) (x216001_1 : Int) (x216002_1 : Int) (x216003_1 : Int) (x216004_1 : Int) (x216005_1 : Int) (x216006_1 : Int) (x216007_1 : Int) (x216008_1 : List Int) (x216009_1 : Int) (u216008 : Value), v5 = .int .i64 x5_1 ∧ Aside0 (wristbandlaw02_ShaGoesOn.l0 kq l0 x4_1 x5_1 x216000_1 x216001_1 x216002_1 x216003_1 x216004_1 x216005_1 x216006_1 x216007_1 x216008_1 x216009_1 = some r) ∧ Aside0 (kq ≤ k) ∧ Aside0 (Kd.R (Kd.int .u8) 5 w' w.heap.size (fun k_ => some k_ ≠ (u216008 : Value).ownBlock) v4 x4_1) ∧ Aside0 (Kd.R (Kd.int .u8) 5 w' w.heap.size (fun k_ => some k_ ≠ (v4 : Value).ownBlock) u216008 x216008_1) ∧ Aside0 (w'.heap[gb215]? = some (.cells #[.int .u32 x216000_1, .int .u32 x216001_1, .int .u32 x216002_1, .int .u32 x216003_1, .int .u32 x216004_1, .int .u32 x216005_1, .int .u32 x216006_1, .int .u32 x216007_1, u216008, .int .u64 x216009_1] 27 (0, 0))) ∧ Aside0 (Below w.heap.size w w'))
      case atStart => exact ⟨(([] : List Int)), (0), (t203), (t204), (t205), (t206), (t207), (t208), (t209), (t210), (t211), (t214), (.slice Ao11 t211.length co11), (by first | rfl | (simp; done) | (simp [*]; done)), H', ⟨Nat.le_refl _⟩, ⟨by first | exact Kd.R_nil _ _ _ _ _ | exact Kd.N_nil _ _ _ _ _ | exact Kd.V_nil _ _ _ _ _ | exact Kd.Q_nil _ _ _ _ _ | exact Kd.S_nil _ _ _ _ _⟩, ⟨by (with_reducible repeat (first | apply Kd.R_alloc | apply Kd.R_drewN | apply Kd.R_drew)); exact Kd.R_mono (Kd.R_far (p := ⟨gb215, 9, none⟩) (Kd.R_far (p := ⟨gb215, 8, none⟩) (Kd.R_far (p := ⟨gb215, 7, none⟩) (Kd.R_far (p := ⟨gb215, 6, none⟩) (Kd.R_far (p := ⟨gb215, 5, none⟩) (Kd.R_far (p := ⟨gb215, 4, none⟩) (Kd.R_far (p := ⟨gb215, 3, none⟩) (Kd.R_far (p := ⟨gb215, 2, none⟩) (Kd.R_far (p := ⟨gb215, 1, none⟩) (Kd.R_far (p := ⟨gb215, 0, none⟩) (Kd.R_types HO213.out BK215.out (by decide)) (fun _ hk => hk.2) (.int .u32 t203)) (fun _ hk => hk.2) (.int .u32 t204)) (fun _ hk => hk.2) (.int .u32 t205)) (fun _ hk => hk.2) (.int .u32 t206)) (fun _ hk => hk.2) (.int .u32 t207)) (fun _ hk => hk.2) (.int .u32 t208)) (fun _ hk => hk.2) (.int .u32 t209)) (fun _ hk => hk.2) (.int .u32 t210)) (fun _ hk => hk.2) (.slice Ao11 t211.length co11)) (fun _ hk => hk.2) (.int .u64 t214)) (fun _ hk => (by simp [Value.ownBlock]))⟩, ⟨by (with_reducible repeat (first | refine blk_drewN ?_ _ | refine blk_drew ?_ | refine blk_alloc ?_ _)); refine blk_put (cs := #[.int .u32 t203, .int .u32 t204, .int .u32 t205, .int .u32 t206, .int .u32 t207, .int .u32 t208, .int .u32 t209, .int .u32 t210, .slice Ao11 t211.length co11, .int .u64 0]) ?_ 9 _ rfl; (with_reducible repeat (first | refine blk_drewN ?_ _ | refine blk_drew ?_ | refine blk_alloc ?_ _)); refine blk_put (cs := #[.int .u32 t203, .int .u32 t204, .int .u32 t205, .int .u32 t206, .int .u32 t207, .int .u32 t208, .int .u32 t209, .int .u32 t210, .slice none 0 0, .int .u64 0]) ?_ 8 _ rfl; (with_reducible repeat (first | refine blk_drewN ?_ _ | refine blk_drew ?_ | refine blk_alloc ?_ _)); refine blk_put (cs := #[.int .u32 t203, .int .u32 t204, .int .u32 t205, .int .u32 t206, .int .u32 t207, .int .u32 t208, .int .u32 t209, .int .u32 0, .slice none 0 0, .int .u64 0]) ?_ 7 _ rfl; (with_reducible repeat (first | refine blk_drewN ?_ _ | refine blk_drew ?_ | refine blk_alloc ?_ _)); refine blk_put (cs := #[.int .u32 t203, .int .u32 t204, .int .u32 t205, .int .u32 t206, .int .u32 t207, .int .u32 t208, .int .u32 0, .int .u32 0, .slice none 0 0, .int .u64 0]) ?_ 6 _ rfl; (with_reducible repeat (first | refine blk_drewN ?_ _ | refine blk_drew ?_ | refine blk_alloc ?_ _)); refine blk_put (cs := #[.int .u32 t203, .int .u32 t204, .int .u32 t205, .int .u32 t206, .int .u32 t207, .int .u32 0, .int .u32 0, .int .u32 0, .slice none 0 0, .int .u64 0]) ?_ 5 _ rfl; (with_reducible repeat (first | refine blk_drewN ?_ _ | refine blk_drew ?_ | refine blk_alloc ?_ _)); refine blk_put (cs := #[.int .u32 t203, .int .u32 t204, .int .u32 t205, .int .u32 t206, .int .u32 0, .int .u32 0, .int .u32 0, .int .u32 0, .slice none 0 0, .int .u64 0]) ?_ 4 _ rfl; (with_reducible repeat (first | refine blk_drewN ?_ _ | refine blk_drew ?_ | refine blk_alloc ?_ _)); refine blk_put (cs := #[.int .u32 t203, .int .u32 t204, .int .u32 t205, .int .u32 0, .int .u32 0, .int .u32 0, .int .u32 0, .int .u32 0, .slice none 0 0, .int .u64 0]) ?_ 3 _ rfl; (with_reducible repeat (first | refine blk_drewN ?_ _ | refine blk_drew ?_ | refine blk_alloc ?_ _)); refine blk_put (cs := #[.int .u32 t203, .int .u32 t204, .int .u32 0, .int .u32 0, .int .u32 0, .int .u32 0, .int .u32 0, .int .u32 0, .slice none 0 0, .int .u64 0]) ?_ 2 _ rfl; (with_reducible repeat (first | refine blk_drewN ?_ _ | refine blk_drew ?_ | refine blk_alloc ?_ _)); refine blk_put (cs := #[.int .u32 t203, .int .u32 0, .int .u32 0, .int .u32 0, .int .u32 0, .int .u32 0, .int .u32 0, .int .u32 0, .slice none 0 0, .int .u64 0]) ?_ 1 _ rfl; (with_reducible repeat (first | refine blk_drewN ?_ _ | refine blk_drew ?_ | refine blk_alloc ?_ _)); refine blk_put (cs := #[.int .u32 0, .int .u32 0, .int .u32 0, .int .u32 0, .int .u32 0, .int .u32 0, .int .u32 0, .int .u32 0, .slice none 0 0, .int .u64 0]) ?_ 0 _ rfl; (with_reducible repeat (first | refine blk_drewN ?_ _ | refine blk_drew ?_ | refine blk_alloc ?_ _)); exact BK215.out⟩, ⟨by repeat (first | (with_reducible first | exact HB.out | apply below_alloc | apply pw_below_drewN | apply below_drew1 | refine below_set ?_ GE215.out) | exact HB.out)⟩⟩
      case round =>
        clear H'
        try clear c1
        try clear c2
        try clear p2
        try clear c3
        try clear c4
        try clear c4b0
        try clear c4b1
        try clear hcz10_0
        try clear hcz10_1
        try clear hcz10_2
        try clear hcz10_3
        try clear hcz10_4
        try clear hcz10_5
        try clear hcz10_6
        try clear hcz10_7
        try clear hcz10_8
        try clear hcz10_9
        try clear hfz10_0
        try clear hfz10_1
        try clear hfz10_2
        try clear hfz10_3
        try clear hfz10_4
        try clear hfz10_5
        try clear hfz10_6
        try clear hfz10_7
        try clear hfz10_8
        try clear hfz10_9
        obtain ⟨x4_1, x5_1, x216000_1, x216001_1, x216002_1, x216003_1, x216004_1, x216005_1, x216006_1, x216007_1, x216008_1, x216009_1, u216008, rfl, HA, HK1, HO_4, HO_216008, BK215, HB⟩ := hrel
        cases gk with
        | zero => exact absurd HA.out (by simp [wristbandlaw02_ShaGoesOn.l0])
        | succ k1 =>
          have H := HA.out
          clear HA
          simp only [wristbandlaw02_ShaGoesOn.l0] at H
          by_cases c12 : x5_1 < (l0.length : Int)
          · rw [if_pos c12] at H
            have c12b0 : decide (x5_1 < (l0.length : Int)) = true := decide_eq_true c12
            clear c12
            by_cases c13 : 0 ≤ x5_1
            · rw [if_pos c13] at H
              have c13b0 : decide (0 ≤ x5_1) = true := decide_eq_true c13
              clear c13
              by_cases c14 : ((rd_L2 l0 x5_1).length : Int) > 300
              · rw [if_pos c14] at H
                have c14b0 : decide (300 < ((rd_L2 l0 x5_1).length : Int)) = true := decide_eq_true c14
                have c14b1 : decide (300 < (rd_L2 l0 x5_1).length) = true := decide_eq_true (by omega)
                clear c14
                obtain rfl := Option.some.inj H
                have p216 : 0 ≤ (x5_1 : Int) := of_decide_eq_true (by first | (with_reducible assumption) | assumption)
                have q216 : x5_1 < (l0.length : Int) := of_decide_eq_true (by first | (with_reducible assumption) | assumption)
                obtain ⟨ad216, A216_0, c216_0, e216, hx216_0, hl216_0, hi216_0⟩ := at_L2 HR0.out x5_1 p216 q216
                cases e216
                replace hx216_0 := (HB.out.cell (World.block_lt_of_cell? w _ hx216_0)).trans hx216_0
                have HR216_0 := Aside0.mk hi216_0
                have HC216_0 := Aside0.mk hl216_0
                clear hi216_0 hl216_0
                replace p216 := eq_true p216
                replace q216 := eq_true q216
                go_wp2
                go_ret
                exact ⟨by first | rfl | (simp [errW_none, errW_some] <;> rfl) | (simp [*, errW_none, errW_some] <;> rfl), by repeat (first | (with_reducible first | exact HB.out | apply below_alloc | apply pw_below_drewN | apply below_drew1 | refine below_set ?_ GE215.out) | exact HB.out)⟩
              · rw [if_neg c14] at H
                have c14b0 : decide (300 < ((rd_L2 l0 x5_1).length : Int)) = false := decide_eq_false c14
                have c14b1 : decide (300 < (rd_L2 l0 x5_1).length) = false := decide_eq_false (by omega)
                clear c14
                replace H := Option.bind_eq_some_iff.mp H
                obtain ⟨⟨t218, t219, t220, t221, t222, t223, t224, t225, t226, t229, t230⟩, A150, H⟩ := H
                replace H : (if t230 = 0 then (wristbandlaw02_ShaGoesOn.j1 k1 l0 x4_1 x5_1 (decide ((t226.length : Int) > 63)) t218 t219 t220 t221 t222 t223 t224 t225 t226 t229) else (wristbandlaw02_ShaGoesOn.j1 k1 l0 x4_1 x5_1 true t218 t219 t220 t221 t222 t223 t224 t225 t226 t229)) = some r := H
                have A15 := Aside0.mk A150
                clear A150
                have HC16 := Aside0.mk H
                clear H
                have p216 : 0 ≤ (x5_1 : Int) := of_decide_eq_true (by first | (with_reducible assumption) | assumption)
                have q216 : x5_1 < (l0.length : Int) := of_decide_eq_true (by first | (with_reducible assumption) | assumption)
                obtain ⟨ad216, A216_0, c216_0, e216, hx216_0, hl216_0, hi216_0⟩ := at_L2 HR0.out x5_1 p216 q216
                cases e216
                replace hx216_0 := (HB.out.cell (World.block_lt_of_cell? w _ hx216_0)).trans hx216_0
                have HR216_0 := Aside0.mk hi216_0
                have HC216_0 := Aside0.mk hl216_0
                clear hi216_0 hl216_0
                replace p216 := eq_true p216
                replace q216 := eq_true q216
                obtain ⟨Ao17, co17, eo17⟩ := Kd.R_slice HO_216008.out
                subst eo17
                try go_wp2
                have n0_ := Aside0.mk (Kd.R_drew HO_4.out)
                have n1_ := Aside0.mk (Kd.R_drew HO_216008.out)
                have n2_ := Aside0.mk (blk_drew BK215.out)
                have n3_ := Aside0.mk (below_drew1 HB.out)
                clear HO_4
                clear HO_216008
                clear BK215
                clear HB
                have HO_4 := n0_
                have HO_216008 := n1_
                have BK215 := n2_
                have HB := n3_
                clear n0_ n1_ n2_ n3_
                have p217 : 0 ≤ (x5_1 : Int) := of_decide_eq_true (by first | (with_reducible assumption) | assumption)
                have q217 : x5_1 < (l0.length : Int) := of_decide_eq_true (by first | (with_reducible assumption) | assumption)
                obtain ⟨ad217, A217_0, c217_0, e217, hx217_0, hl217_0, hi217_0⟩ := at_L2 HR0.out x5_1 p217 q217
                have hw217_0 := hx217_0
                obtain rfl : ad216 = ad217 := (by injection e217)
                replace hx217_0 := (HB.out.cell (World.block_lt_of_cell? w _ hx217_0)).trans hx217_0
                have HR217_0 := Aside0.mk hi217_0
                have HC217_0 := Aside0.mk hl217_0
                clear hi217_0 hl217_0
                replace p217 := eq_true p217
                replace q217 := eq_true q217
                refine start_ (n := 12) (S := fun w' => w'.cell? ⟨gb215, 0, none⟩ = some (.int .u32 x216000_1) ∧ w'.cell? ⟨gb215, 1, none⟩ = some (.int .u32 x216001_1) ∧ w'.cell? ⟨gb215, 2, none⟩ = some (.int .u32 x216002_1) ∧ w'.cell? ⟨gb215, 3, none⟩ = some (.int .u32 x216003_1) ∧ w'.cell? ⟨gb215, 4, none⟩ = some (.int .u32 x216004_1) ∧ w'.cell? ⟨gb215, 5, none⟩ = some (.int .u32 x216005_1) ∧ w'.cell? ⟨gb215, 6, none⟩ = some (.int .u32 x216006_1) ∧ w'.cell? ⟨gb215, 7, none⟩ = some (.int .u32 x216007_1) ∧ w'.cell? ⟨gb215, 8, none⟩ = some (.slice Ao17 x216008_1.length co17) ∧ w'.cell? ⟨gb215, 9, none⟩ = some (.int .u64 x216009_1) ∧ w'.cell? (ad216.add (x5_1).toNat) = some (.slice A217_0 (rd_L2 l0 x5_1).length c217_0)) (ds := []) #[false, false, false, false, false, false, false, false, false, false, false, false] (by kernel_rfl) rfl rfl ⟨(blk_cell BK215.out 0).trans rfl, (blk_cell BK215.out 1).trans rfl, (blk_cell BK215.out 2).trans rfl, (blk_cell BK215.out 3).trans rfl, (blk_cell BK215.out 4).trans rfl, (blk_cell BK215.out 5).trans rfl, (blk_cell BK215.out 6).trans rfl, (blk_cell BK215.out 7).trans rfl, (blk_cell BK215.out 8).trans rfl, (blk_cell BK215.out 9).trans rfl, ((HB.out.cell (World.block_lt_of_cell? w _ hw217_0)).trans hw217_0)⟩ (fun hHeld => ?_); refine with_tabW wristbandlaw02_ShaGoesOn.tab12 wristbandlaw02_ShaGoesOn.bits12 (fun HT_ HW_ => ?_)
                generalize wr.drew = w18 at HO_4 HO_216008 BK215 HB HR217_0 hx217_0 hHeld ⊢
                refine pure_ (i := 1) (N := some 30) (v := ?_) (a' := ?_) #[false, true, false, false, false, false, false, false, false, false, false, false] rfl rfl (any_of HT_.out (by kernel_rfl)) (fun _ _ _ h => h) (Or.inl ⟨by rfl, ?_⟩) ?_ ?_
                rotate_left
                · intro w'
                  go_simp
                  with_reducible rfl
                rotate_left
                · simp only [Act.put, List.setIfInBounds_toArray, List.set_cons_zero, List.set_cons_succ, i64_w, i32_w]
                  rfl
                refine pure_ (i := 2) (N := some 31) (v := ?_) (a' := ?_) #[false, true, true, false, false, false, false, false, false, false, false, false] rfl rfl (any_of HT_.out (by kernel_rfl)) (fun _ _ _ h => h) (Or.inl ⟨by rfl, ?_⟩) ?_ ?_
                rotate_left
                · intro w'
                  go_simp
                  with_reducible rfl
                rotate_left
                · simp only [Act.put, List.setIfInBounds_toArray, List.set_cons_zero, List.set_cons_succ, i64_w, i32_w]
                  rfl
                refine pure_ (i := 3) (N := some 32) (v := ?_) (a' := ?_) #[false, true, true, true, false, false, false, false, false, false, false, false] rfl rfl (any_of HT_.out (by kernel_rfl)) (fun _ _ _ h => h) (Or.inl ⟨by rfl, ?_⟩) ?_ ?_
                rotate_left
                · intro w'
                  go_simp
                  with_reducible rfl
                rotate_left
                · simp only [Act.put, List.setIfInBounds_toArray, List.set_cons_zero, List.set_cons_succ, i64_w, i32_w]
                  rfl
                refine take_ (i := 0) (N := some 29) (v := ?_) (a' := ?_) #[true, true, true, true, false, false, false, false, false, false, false, false] rfl rfl (take_ofW HT_.out HW_.out (by kernel_rfl)) (fun _ _ _ h => h) (Or.inl ⟨by rfl, ?_⟩) hHeld ?_ ?_
                rotate_left
                · rintro w' ⟨s0, s1, s2, s3, s4, s5, s6, s7, s8, s9, s10⟩
                  go_simp
                  with_reducible rfl
                rotate_left
                · simp only [Act.put, List.setIfInBounds_toArray, List.set_cons_zero, List.set_cons_succ, i64_w, i32_w]
                  rfl
                refine take_ (i := 4) (N := some 33) (v := ?_) (a' := ?_) #[true, true, true, true, true, false, false, false, false, false, false, false] rfl rfl (take_ofW HT_.out HW_.out (by kernel_rfl)) (fun _ _ _ h => h) (Or.inl ⟨by rfl, ?_⟩) hHeld ?_ ?_
                rotate_left
                · rintro w' ⟨s0, s1, s2, s3, s4, s5, s6, s7, s8, s9, s10⟩
                  go_simp
                  with_reducible rfl
                rotate_left
                · simp only [Act.put, List.setIfInBounds_toArray, List.set_cons_zero, List.set_cons_succ, i64_w, i32_w]
                  rfl
                refine join_ (σ := Value × Nat) 2 #[true, true, true, true, true, true, true, true, true, true, false, false] (fun s_ => [(34, .tuple #[.agg #[.int .u32 t218, .int .u32 t219, .int .u32 t220, .int .u32 t221, .int .u32 t222, .int .u32 t223, .int .u32 t224, .int .u32 t225, s_.1, .int .u64 t229], .int .i64 t230]), (6, .pointer (some ⟨s_.2, 0, none⟩)), (28, .tuple #[.agg #[.int .u32 t218, .int .u32 t219, .int .u32 t220, .int .u32 t221, .int .u32 t222, .int .u32 t223, .int .u32 t224, .int .u32 t225, s_.1, .int .u64 t229], .int .i64 t230]), (35, .agg #[.int .u32 t218, .int .u32 t219, .int .u32 t220, .int .u32 t221, .int .u32 t222, .int .u32 t223, .int .u32 t224, .int .u32 t225, s_.1, .int .u64 t229]), (36, .int .i64 t230)]) (fun s_ w' => (w'.cell? ⟨gb215, 0, none⟩ = some (.int .u32 x216000_1) ∧ w'.cell? ⟨gb215, 1, none⟩ = some (.int .u32 x216001_1) ∧ w'.cell? ⟨gb215, 2, none⟩ = some (.int .u32 x216002_1) ∧ w'.cell? ⟨gb215, 3, none⟩ = some (.int .u32 x216003_1) ∧ w'.cell? ⟨gb215, 4, none⟩ = some (.int .u32 x216004_1) ∧ w'.cell? ⟨gb215, 5, none⟩ = some (.int .u32 x216005_1) ∧ w'.cell? ⟨gb215, 6, none⟩ = some (.int .u32 x216006_1) ∧ w'.cell? ⟨gb215, 7, none⟩ = some (.int .u32 x216007_1) ∧ w'.cell? ⟨gb215, 8, none⟩ = some (.slice Ao17 x216008_1.length co17) ∧ w'.cell? ⟨gb215, 9, none⟩ = some (.int .u64 x216009_1) ∧ w'.cell? (ad216.add (x5_1).toNat) = some (.slice A217_0 (rd_L2 l0 x5_1).length c217_0)) ∧ (Kd.R (Kd.int .u8) 5 w' w.heap.size (fun k_ => some k_ ≠ (.slice Ao17 x216008_1.length co17 : Value).ownBlock ∧ some k_ ≠ (u4 : Value).ownBlock) s_.1 t226) ∧ (Kd.R (Kd.int .u8) 5 w' w.heap.size (fun k_ => some k_ ≠ (s_.1 : Value).ownBlock ∧ some k_ ≠ (u4 : Value).ownBlock) (.slice Ao17 x216008_1.length co17) x216008_1) ∧ (Kd.R (Kd.int .u8) 5 w' w.heap.size (fun k_ => some k_ ≠ (s_.1 : Value).ownBlock ∧ some k_ ≠ (.slice Ao17 x216008_1.length co17 : Value).ownBlock) u4 x4_1) ∧ (w'.heap[gb215]? = some (.cells #[.int .u32 x216000_1, .int .u32 x216001_1, .int .u32 x216002_1, .int .u32 x216003_1, .int .u32 x216004_1, .int .u32 x216005_1, .int .u32 x216006_1, .int .u32 x216007_1, .slice Ao17 x216008_1.length co17, .int .u64 x216009_1] 27 (0, 0))) ∧ (w'.heap[s_.2]? = some (.cells #[.int .u32 0, .int .u32 0, .int .u32 0, .int .u32 0, .int .u32 0, .int .u32 0, .int .u32 0, .int .u32 0, .slice none 0 0, .int .u64 0] 27 (0, 0))) ∧ (w.heap.size ≤ s_.2) ∧ (w.heap.size ≤ s_.2) ∧ (gb215 ≠ s_.2) ∧ (s_.2 ≠ gb215) ∧ (Below w.heap.size w w')) ?_ ?_
                rotate_left
                · intro hCont
                  refine two_ (i := 5) (j := 9) (Ni := some 34) (Nj := some 6) #[true, true, true, true, true, true, false, false, false, false, false, false] #[true, true, true, true, true, false, false, false, false, true, false, false] rfl rfl rfl rfl (two_of HT_.out (by kernel_rfl)) (by decide) (by decide) (fun K hK => ?_) (fun K hK => ?_)
                  · skip
                    refine goes_ Tryd.func20 (by kernel_rfl) rfl #[.agg #[.int .u32 x216000_1, .int .u32 x216001_1, .int .u32 x216002_1, .int .u32 x216003_1, .int .u32 x216004_1, .int .u32 x216005_1, .int .u32 x216006_1, .int .u32 x216007_1, .slice Ao17 x216008_1.length co17, .int .u64 x216009_1], .slice A217_0 (rd_L2 l0 x5_1).length c217_0] (by first | rfl | (simp [Region.wanted, yielded, *]; done)) rfl rfl (by (try simp only [List.map_toArray, List.map_cons, List.map_nil]); first | done | rfl | (simp only [List.length_drop, List.length_take]; rfl)) ?_
                    with_reducible refine (sha_More.calls k1 x216000_1 x216001_1 x216002_1 x216003_1 x216004_1 x216005_1 x216006_1 x216007_1 _ _ x216008_1 x216009_1 _ _ (rd_L2 l0 x5_1) t218 t219 t220 t221 t222 t223 t224 t225 t226 t229 t230 _ ?side1 ?side2 ?side3 ?side4 ?side5 ?side6 A15.out).mono ?_
                    (case side1 => repeat (first | exact (Kd.R_reads' HO_216008.out).2.2 | (with_reducible refine Kd.C_alloc ?_ _) | (with_reducible refine Kd.C_drewN ?_ _) | (with_reducible refine Kd.C_drew ?_)))
                    (case side2 => exact (Kd.R_reads' HO_216008.out).2.1)
                    (case side3 => repeat (first | exact (Kd.C_below HR217_0.out HB.out) | (with_reducible refine Kd.C_alloc ?_ _) | (with_reducible refine Kd.C_drewN ?_ _) | (with_reducible refine Kd.C_drew ?_)))
                    (case side4 => exact HC217_0.out)
                    (case side5 => repeat (first | exact (Kd.C_below HRL0_.out HB.out) | (with_reducible refine Kd.C_alloc ?_ _) | (with_reducible refine Kd.C_drewN ?_ _) | (with_reducible refine Kd.C_drew ?_)))
                    (case side6 => repeat (first | exact (Kd.C_below HRL1_.out HB.out) | (with_reducible refine Kd.C_alloc ?_ _) | (with_reducible refine Kd.C_drewN ?_ _) | (with_reducible refine Kd.C_drew ?_)))
                    rintro e w19 ⟨v227, rfl, ho0, hb⟩
                    refine ⟨_, rfl, ?_⟩
                    have n0_ := Aside0.mk (Kd.R_elder' (by (with_reducible repeat (first | apply Kd.R_alloc | apply Kd.R_drewN | apply Kd.R_drew)); exact HO_4.out) (Kd.R_base ho0) hb)
                    have n1_ := Aside0.mk (Kd.R_elder' (by (with_reducible repeat (first | apply Kd.R_alloc | apply Kd.R_drewN | apply Kd.R_drew)); exact HO_216008.out) (Kd.R_base ho0) hb)
                    have n2_ := Aside0.mk (Kd.R_lower (Kd.R_new' (Kd.R_new' ho0 (Kd.R_lt (by (with_reducible repeat (first | apply Kd.R_alloc | apply Kd.R_drewN | apply Kd.R_drew)); exact HO_4.out))) (Kd.R_lt (by (with_reducible repeat (first | apply Kd.R_alloc | apply Kd.R_drewN | apply Kd.R_drew)); exact HO_216008.out))) (below_size (by repeat (first | (with_reducible first | exact HB.out | apply below_alloc | apply pw_below_drewN | apply below_drew1 | refine below_set ?_ GE215.out) | exact HB.out))))
                    have n3_ := Aside0.mk (blk_below (g := gb215) (o := .cells #[.int .u32 x216000_1, .int .u32 x216001_1, .int .u32 x216002_1, .int .u32 x216003_1, .int .u32 x216004_1, .int .u32 x216005_1, .int .u32 x216006_1, .int .u32 x216007_1, .slice Ao17 x216008_1.length co17, .int .u64 x216009_1] 27 (0, 0)) (by (with_reducible repeat (first | refine blk_drewN ?_ _ | refine blk_drew ?_ | refine blk_alloc ?_ _)); exact BK215.out) hb)
                    have n4_ := Aside0.mk (below_step (by repeat (first | (with_reducible first | exact HB.out | apply below_alloc | apply pw_below_drewN | apply below_drew1 | refine below_set ?_ GE215.out) | exact HB.out)) hb)
                    clear HO_4
                    clear HO_216008
                    clear BK215
                    clear HB
                    have HO_4 := n0_
                    have HO_216008 := n1_
                    have HO228 := n2_
                    have BK215 := n3_
                    have HB := n4_
                    clear n0_ n1_ n2_ n3_ n4_
                    (try clear hb)
                    (try clear hb2)
                    (try clear hk)
                    (try clear hi)
                    (try clear ho0)
                    refine hK.out _ _ ⟨(blk_cell BK215.out 0).trans rfl, (blk_cell BK215.out 1).trans rfl, (blk_cell BK215.out 2).trans rfl, (blk_cell BK215.out 3).trans rfl, (blk_cell BK215.out 4).trans rfl, (blk_cell BK215.out 5).trans rfl, (blk_cell BK215.out 6).trans rfl, (blk_cell BK215.out 7).trans rfl, (blk_cell BK215.out 8).trans rfl, (blk_cell BK215.out 9).trans rfl, ((HB.out.cell (World.block_lt_of_cell? w _ hw217_0)).trans hw217_0)⟩ (fun hHeld => ?_)
                    clear hK K
                    refine norm_ (a' := ?_) ?_ ?_
                    rotate_left
                    · show Act.put _ (some 34) _ = _
                      simp only [Act.put, List.setIfInBounds_toArray, List.set_cons_zero, List.set_cons_succ, i64_w, i32_w]
                      rfl
                    refine pure_ (i := 6) (N := some 28) (v := ?_) (a' := ?_) #[true, true, true, true, true, true, true, false, false, false, false, false] rfl rfl (any_of HT_.out (by kernel_rfl)) (fun _ _ _ h => h) (Or.inl ⟨by rfl, ?_⟩) ?_ ?_
                    rotate_left
                    · intro w'
                      go_simp
                      with_reducible rfl
                    rotate_left
                    · simp only [Act.put, List.setIfInBounds_toArray, List.set_cons_zero, List.set_cons_succ, i64_w, i32_w]
                      rfl
                    refine pure_ (i := 7) (N := some 35) (v := ?_) (a' := ?_) #[true, true, true, true, true, true, true, true, false, false, false, false] rfl rfl (any_of HT_.out (by kernel_rfl)) (fun _ _ _ h => h) (Or.inl ⟨by rfl, ?_⟩) ?_ ?_
                    rotate_left
                    · intro w'
                      go_simp
                      with_reducible rfl
                    rotate_left
                    · simp only [Act.put, List.setIfInBounds_toArray, List.set_cons_zero, List.set_cons_succ, i64_w, i32_w]
                      rfl
                    refine pure_ (i := 8) (N := some 36) (v := ?_) (a' := ?_) #[true, true, true, true, true, true, true, true, true, false, false, false] rfl rfl (any_of HT_.out (by kernel_rfl)) (fun _ _ _ h => h) (Or.inl ⟨by rfl, ?_⟩) ?_ ?_
                    rotate_left
                    · intro w'
                      go_simp
                      with_reducible rfl
                    rotate_left
                    · simp only [Act.put, List.setIfInBounds_toArray, List.set_cons_zero, List.set_cons_succ, i64_w, i32_w]
                      rfl
                    refine one_ (i := 9) (N := some 6) #[true, true, true, true, true, true, true, true, true, true, false, false] rfl rfl (one_of HT_.out (by kernel_rfl)) (by decide) (fun K hK => ?_)
                    refine box_step ?hg (N := 6) ?hd (cs := #[.int .u32 0, .int .u32 0, .int .u32 0, .int .u32 0, .int .u32 0, .int .u32 0, .int .u32 0, .int .u32 0, .slice none 0 0, .int .u64 0]) (t := 27) ?hr ?_; (case hd => rfl); (case hg => rfl); (case hr => first | (go_simp; done) | (go_simp; rfl))
                    intro gb231 hg w20 hbox hb
                    have n0_ := Aside0.mk (Kd.R_below (by (with_reducible repeat (first | apply Kd.R_alloc | apply Kd.R_drewN | apply Kd.R_drew)); exact HO_4.out) hb)
                    have n1_ := Aside0.mk (Kd.R_below (by (with_reducible repeat (first | apply Kd.R_alloc | apply Kd.R_drewN | apply Kd.R_drew)); exact HO_216008.out) hb)
                    have n2_ := Aside0.mk (Kd.R_below (by (with_reducible repeat (first | apply Kd.R_alloc | apply Kd.R_drewN | apply Kd.R_drew)); exact HO228.out) hb)
                    have n3_ := Aside0.mk (blk_below (g := gb215) (o := .cells #[.int .u32 x216000_1, .int .u32 x216001_1, .int .u32 x216002_1, .int .u32 x216003_1, .int .u32 x216004_1, .int .u32 x216005_1, .int .u32 x216006_1, .int .u32 x216007_1, .slice Ao17 x216008_1.length co17, .int .u64 x216009_1] 27 (0, 0)) (by (with_reducible repeat (first | refine blk_drewN ?_ _ | refine blk_drew ?_ | refine blk_alloc ?_ _)); exact BK215.out) hb)
                    have n4_ := Aside0.mk (below_step (by repeat (first | (with_reducible first | exact HB.out | apply below_alloc | apply pw_below_drewN | apply below_drew1 | refine below_set ?_ GE215.out) | exact HB.out)) hb)
                    have n5_ := Aside0.mk (hbox)
                    have n6_ := Aside0.mk ((by rw [hg]; exact (below_size (by repeat (first | (with_reducible first | exact HB.out | apply below_alloc | apply pw_below_drewN | apply below_drew1 | refine below_set ?_ GE215.out) | exact HB.out))) : w.heap.size ≤ gb231))
                    have n7_ := Aside0.mk ((by rw [hg]; exact (below_size (by repeat (first | (with_reducible first | exact HB.out | apply below_alloc | apply pw_below_drewN | apply below_drew1 | refine below_set ?_ GE215.out) | exact HB.out))) : w.heap.size ≤ gb231))
                    have n8_ := Aside0.mk ((by rw [hg]; exact Nat.ne_of_lt (blk_lt (g := gb215) (o := .cells #[.int .u32 x216000_1, .int .u32 x216001_1, .int .u32 x216002_1, .int .u32 x216003_1, .int .u32 x216004_1, .int .u32 x216005_1, .int .u32 x216006_1, .int .u32 x216007_1, .slice Ao17 x216008_1.length co17, .int .u64 x216009_1] 27 (0, 0)) (by (with_reducible repeat (first | refine blk_drewN ?_ _ | refine blk_drew ?_ | refine blk_alloc ?_ _)); exact BK215.out)) : gb215 ≠ gb231))
                    have n9_ := Aside0.mk ((by rw [hg]; exact Nat.ne_of_gt (blk_lt (g := gb215) (o := .cells #[.int .u32 x216000_1, .int .u32 x216001_1, .int .u32 x216002_1, .int .u32 x216003_1, .int .u32 x216004_1, .int .u32 x216005_1, .int .u32 x216006_1, .int .u32 x216007_1, .slice Ao17 x216008_1.length co17, .int .u64 x216009_1] 27 (0, 0)) (by (with_reducible repeat (first | refine blk_drewN ?_ _ | refine blk_drew ?_ | refine blk_alloc ?_ _)); exact BK215.out)) : gb231 ≠ gb215))
                    clear HO_4
                    clear HO_216008
                    clear HO228
                    clear BK215
                    clear HB
                    have HO_4 := n0_
                    have HO_216008 := n1_
                    have HO228 := n2_
                    have BK215 := n3_
                    have HB := n4_
                    have BK231 := n5_
                    have GW231 := n6_
                    have GE231 := n7_
                    have NB215_231 := n8_
                    have NB231_215 := n9_
                    clear n0_ n1_ n2_ n3_ n4_ n5_ n6_ n7_ n8_ n9_
                    clear hb hbox hg
                    refine hK.out _ _ ⟨(blk_cell BK215.out 0).trans rfl, (blk_cell BK215.out 1).trans rfl, (blk_cell BK215.out 2).trans rfl, (blk_cell BK215.out 3).trans rfl, (blk_cell BK215.out 4).trans rfl, (blk_cell BK215.out 5).trans rfl, (blk_cell BK215.out 6).trans rfl, (blk_cell BK215.out 7).trans rfl, (blk_cell BK215.out 8).trans rfl, (blk_cell BK215.out 9).trans rfl, ((HB.out.cell (World.block_lt_of_cell? w _ hw217_0)).trans hw217_0)⟩ (fun hHeld => ?_)
                    clear hK K
                    refine norm_ (a' := ?_) ?_ ?_
                    rotate_left
                    · show Act.put _ (some 6) _ = _
                      simp only [Act.put, List.setIfInBounds_toArray, List.set_cons_zero, List.set_cons_succ, i64_w, i32_w]
                      rfl
                    exact norm_ (by simp only [putAll, Act.put, List.setIfInBounds_toArray, List.set_cons_zero, List.set_cons_succ]) (hCont (v227, gb231) _ ⟨hHeld, (by (with_reducible repeat (first | apply Kd.R_alloc | apply Kd.R_drewN | apply Kd.R_drew)); exact Kd.R_mono HO228.out (fun _ hk => ⟨hk.2, hk.1.2⟩)), (by (with_reducible repeat (first | apply Kd.R_alloc | apply Kd.R_drewN | apply Kd.R_drew)); exact Kd.R_mono HO_216008.out (fun _ hk => ⟨hk.2, hk.1⟩)), (by (with_reducible repeat (first | apply Kd.R_alloc | apply Kd.R_drewN | apply Kd.R_drew)); exact Kd.R_mono HO_4.out (fun _ hk => ⟨hk.2, hk.1⟩)), (by (with_reducible repeat (first | refine blk_drewN ?_ _ | refine blk_drew ?_ | refine blk_alloc ?_ _)); exact BK215.out), (by (with_reducible repeat (first | refine blk_drewN ?_ _ | refine blk_drew ?_ | refine blk_alloc ?_ _)); exact BK231.out), GW231.out, GE231.out, NB215_231.out, NB231_215.out, (by repeat (first | (with_reducible first | exact HB.out | apply below_alloc | apply pw_below_drewN | apply below_drew1 | refine below_set ?_ GE215.out | refine below_set ?_ GE231.out) | exact HB.out))⟩)
                  · skip
                    refine box_step ?hg (N := 6) ?hd (cs := #[.int .u32 0, .int .u32 0, .int .u32 0, .int .u32 0, .int .u32 0, .int .u32 0, .int .u32 0, .int .u32 0, .slice none 0 0, .int .u64 0]) (t := 27) ?hr ?_; (case hd => rfl); (case hg => rfl); (case hr => first | (go_simp; done) | (go_simp; rfl))
                    intro gb231 hg w19 hbox hb
                    have n0_ := Aside0.mk (Kd.R_below (by (with_reducible repeat (first | apply Kd.R_alloc | apply Kd.R_drewN | apply Kd.R_drew)); exact HO_4.out) hb)
                    have n1_ := Aside0.mk (Kd.R_below (by (with_reducible repeat (first | apply Kd.R_alloc | apply Kd.R_drewN | apply Kd.R_drew)); exact HO_216008.out) hb)
                    have n2_ := Aside0.mk (blk_below (g := gb215) (o := .cells #[.int .u32 x216000_1, .int .u32 x216001_1, .int .u32 x216002_1, .int .u32 x216003_1, .int .u32 x216004_1, .int .u32 x216005_1, .int .u32 x216006_1, .int .u32 x216007_1, .slice Ao17 x216008_1.length co17, .int .u64 x216009_1] 27 (0, 0)) (by (with_reducible repeat (first | refine blk_drewN ?_ _ | refine blk_drew ?_ | refine blk_alloc ?_ _)); exact BK215.out) hb)
                    have n3_ := Aside0.mk (below_step (by repeat (first | (with_reducible first | exact HB.out | apply below_alloc | apply pw_below_drewN | apply below_drew1 | refine below_set ?_ GE215.out) | exact HB.out)) hb)
                    have n4_ := Aside0.mk (hbox)
                    have n5_ := Aside0.mk ((by rw [hg]; exact (below_size (by repeat (first | (with_reducible first | exact HB.out | apply below_alloc | apply pw_below_drewN | apply below_drew1 | refine below_set ?_ GE215.out) | exact HB.out))) : w.heap.size ≤ gb231))
                    have n6_ := Aside0.mk ((by rw [hg]; exact (below_size (by repeat (first | (with_reducible first | exact HB.out | apply below_alloc | apply pw_below_drewN | apply below_drew1 | refine below_set ?_ GE215.out) | exact HB.out))) : w.heap.size ≤ gb231))
                    have n7_ := Aside0.mk ((by rw [hg]; exact Nat.ne_of_lt (blk_lt (g := gb215) (o := .cells #[.int .u32 x216000_1, .int .u32 x216001_1, .int .u32 x216002_1, .int .u32 x216003_1, .int .u32 x216004_1, .int .u32 x216005_1, .int .u32 x216006_1, .int .u32 x216007_1, .slice Ao17 x216008_1.length co17, .int .u64 x216009_1] 27 (0, 0)) (by (with_reducible repeat (first | refine blk_drewN ?_ _ | refine blk_drew ?_ | refine blk_alloc ?_ _)); exact BK215.out)) : gb215 ≠ gb231))
                    have n8_ := Aside0.mk ((by rw [hg]; exact Nat.ne_of_gt (blk_lt (g := gb215) (o := .cells #[.int .u32 x216000_1, .int .u32 x216001_1, .int .u32 x216002_1, .int .u32 x216003_1, .int .u32 x216004_1, .int .u32 x216005_1, .int .u32 x216006_1, .int .u32 x216007_1, .slice Ao17 x216008_1.length co17, .int .u64 x216009_1] 27 (0, 0)) (by (with_reducible repeat (first | refine blk_drewN ?_ _ | refine blk_drew ?_ | refine blk_alloc ?_ _)); exact BK215.out)) : gb231 ≠ gb215))
                    clear HO_4
                    clear HO_216008
                    clear BK215
                    clear HB
                    have HO_4 := n0_
                    have HO_216008 := n1_
                    have BK215 := n2_
                    have HB := n3_
                    have BK231 := n4_
                    have GW231 := n5_
                    have GE231 := n6_
                    have NB215_231 := n7_
                    have NB231_215 := n8_
                    clear n0_ n1_ n2_ n3_ n4_ n5_ n6_ n7_ n8_
                    clear hb hbox hg
                    refine hK.out _ _ ⟨(blk_cell BK215.out 0).trans rfl, (blk_cell BK215.out 1).trans rfl, (blk_cell BK215.out 2).trans rfl, (blk_cell BK215.out 3).trans rfl, (blk_cell BK215.out 4).trans rfl, (blk_cell BK215.out 5).trans rfl, (blk_cell BK215.out 6).trans rfl, (blk_cell BK215.out 7).trans rfl, (blk_cell BK215.out 8).trans rfl, (blk_cell BK215.out 9).trans rfl, ((HB.out.cell (World.block_lt_of_cell? w _ hw217_0)).trans hw217_0)⟩ (fun hHeld => ?_)
                    clear hK K
                    refine norm_ (a' := ?_) ?_ ?_
                    rotate_left
                    · show Act.put _ (some 6) _ = _
                      simp only [Act.put, List.setIfInBounds_toArray, List.set_cons_zero, List.set_cons_succ, i64_w, i32_w]
                      rfl
                    refine one_ (i := 5) (N := some 34) #[true, true, true, true, true, true, false, false, false, true, false, false] rfl rfl (one_of HT_.out (by kernel_rfl)) (by decide) (fun K hK => ?_)
                    refine goes_ Tryd.func20 (by kernel_rfl) rfl #[.agg #[.int .u32 x216000_1, .int .u32 x216001_1, .int .u32 x216002_1, .int .u32 x216003_1, .int .u32 x216004_1, .int .u32 x216005_1, .int .u32 x216006_1, .int .u32 x216007_1, .slice Ao17 x216008_1.length co17, .int .u64 x216009_1], .slice A217_0 (rd_L2 l0 x5_1).length c217_0] (by first | rfl | (simp [Region.wanted, yielded, *]; done)) rfl rfl (by (try simp only [List.map_toArray, List.map_cons, List.map_nil]); first | done | rfl | (simp only [List.length_drop, List.length_take]; rfl)) ?_
                    with_reducible refine (sha_More.calls k1 x216000_1 x216001_1 x216002_1 x216003_1 x216004_1 x216005_1 x216006_1 x216007_1 _ _ x216008_1 x216009_1 _ _ (rd_L2 l0 x5_1) t218 t219 t220 t221 t222 t223 t224 t225 t226 t229 t230 _ ?side1 ?side2 ?side3 ?side4 ?side5 ?side6 A15.out).mono ?_
                    (case side1 => repeat (first | exact (Kd.R_reads' HO_216008.out).2.2 | (with_reducible refine Kd.C_alloc ?_ _) | (with_reducible refine Kd.C_drewN ?_ _) | (with_reducible refine Kd.C_drew ?_)))
                    (case side2 => exact (Kd.R_reads' HO_216008.out).2.1)
                    (case side3 => repeat (first | exact (Kd.C_below HR217_0.out HB.out) | (with_reducible refine Kd.C_alloc ?_ _) | (with_reducible refine Kd.C_drewN ?_ _) | (with_reducible refine Kd.C_drew ?_)))
                    (case side4 => exact HC217_0.out)
                    (case side5 => repeat (first | exact (Kd.C_below HRL0_.out HB.out) | (with_reducible refine Kd.C_alloc ?_ _) | (with_reducible refine Kd.C_drewN ?_ _) | (with_reducible refine Kd.C_drew ?_)))
                    (case side6 => repeat (first | exact (Kd.C_below HRL1_.out HB.out) | (with_reducible refine Kd.C_alloc ?_ _) | (with_reducible refine Kd.C_drewN ?_ _) | (with_reducible refine Kd.C_drew ?_)))
                    rintro e w20 ⟨v227, rfl, ho0, hb⟩
                    refine ⟨_, rfl, ?_⟩
                    have n0_ := Aside0.mk (Kd.R_elder' (by (with_reducible repeat (first | apply Kd.R_alloc | apply Kd.R_drewN | apply Kd.R_drew)); exact HO_4.out) (Kd.R_base ho0) hb)
                    have n1_ := Aside0.mk (Kd.R_elder' (by (with_reducible repeat (first | apply Kd.R_alloc | apply Kd.R_drewN | apply Kd.R_drew)); exact HO_216008.out) (Kd.R_base ho0) hb)
                    have n2_ := Aside0.mk (Kd.R_lower (Kd.R_new' (Kd.R_new' ho0 (Kd.R_lt (by (with_reducible repeat (first | apply Kd.R_alloc | apply Kd.R_drewN | apply Kd.R_drew)); exact HO_4.out))) (Kd.R_lt (by (with_reducible repeat (first | apply Kd.R_alloc | apply Kd.R_drewN | apply Kd.R_drew)); exact HO_216008.out))) (below_size (by repeat (first | (with_reducible first | exact HB.out | apply below_alloc | apply pw_below_drewN | apply below_drew1 | refine below_set ?_ GE215.out | refine below_set ?_ GE231.out) | exact HB.out))))
                    have n3_ := Aside0.mk (blk_below (g := gb215) (o := .cells #[.int .u32 x216000_1, .int .u32 x216001_1, .int .u32 x216002_1, .int .u32 x216003_1, .int .u32 x216004_1, .int .u32 x216005_1, .int .u32 x216006_1, .int .u32 x216007_1, .slice Ao17 x216008_1.length co17, .int .u64 x216009_1] 27 (0, 0)) (by (with_reducible repeat (first | refine blk_drewN ?_ _ | refine blk_drew ?_ | refine blk_alloc ?_ _)); exact BK215.out) hb)
                    have n4_ := Aside0.mk (blk_below (g := gb231) (o := .cells #[.int .u32 0, .int .u32 0, .int .u32 0, .int .u32 0, .int .u32 0, .int .u32 0, .int .u32 0, .int .u32 0, .slice none 0 0, .int .u64 0] 27 (0, 0)) (by (with_reducible repeat (first | refine blk_drewN ?_ _ | refine blk_drew ?_ | refine blk_alloc ?_ _)); exact BK231.out) hb)
                    have n5_ := Aside0.mk (below_step (by repeat (first | (with_reducible first | exact HB.out | apply below_alloc | apply pw_below_drewN | apply below_drew1 | refine below_set ?_ GE215.out | refine below_set ?_ GE231.out) | exact HB.out)) hb)
                    clear HO_4
                    clear HO_216008
                    clear BK215
                    clear BK231
                    clear HB
                    have HO_4 := n0_
                    have HO_216008 := n1_
                    have HO228 := n2_
                    have BK215 := n3_
                    have BK231 := n4_
                    have HB := n5_
                    clear n0_ n1_ n2_ n3_ n4_ n5_
                    (try clear hb)
                    (try clear hb2)
                    (try clear hk)
                    (try clear hi)
                    (try clear ho0)
                    refine hK.out _ _ ⟨(blk_cell BK215.out 0).trans rfl, (blk_cell BK215.out 1).trans rfl, (blk_cell BK215.out 2).trans rfl, (blk_cell BK215.out 3).trans rfl, (blk_cell BK215.out 4).trans rfl, (blk_cell BK215.out 5).trans rfl, (blk_cell BK215.out 6).trans rfl, (blk_cell BK215.out 7).trans rfl, (blk_cell BK215.out 8).trans rfl, (blk_cell BK215.out 9).trans rfl, ((HB.out.cell (World.block_lt_of_cell? w _ hw217_0)).trans hw217_0)⟩ (fun hHeld => ?_)
                    clear hK K
                    refine norm_ (a' := ?_) ?_ ?_
                    rotate_left
                    · show Act.put _ (some 34) _ = _
                      simp only [Act.put, List.setIfInBounds_toArray, List.set_cons_zero, List.set_cons_succ, i64_w, i32_w]
                      rfl
                    refine pure_ (i := 6) (N := some 28) (v := ?_) (a' := ?_) #[true, true, true, true, true, true, true, false, false, true, false, false] rfl rfl (any_of HT_.out (by kernel_rfl)) (fun _ _ _ h => h) (Or.inl ⟨by rfl, ?_⟩) ?_ ?_
                    rotate_left
                    · intro w'
                      go_simp
                      with_reducible rfl
                    rotate_left
                    · simp only [Act.put, List.setIfInBounds_toArray, List.set_cons_zero, List.set_cons_succ, i64_w, i32_w]
                      rfl
                    refine pure_ (i := 7) (N := some 35) (v := ?_) (a' := ?_) #[true, true, true, true, true, true, true, true, false, true, false, false] rfl rfl (any_of HT_.out (by kernel_rfl)) (fun _ _ _ h => h) (Or.inl ⟨by rfl, ?_⟩) ?_ ?_
                    rotate_left
                    · intro w'
                      go_simp
                      with_reducible rfl
                    rotate_left
                    · simp only [Act.put, List.setIfInBounds_toArray, List.set_cons_zero, List.set_cons_succ, i64_w, i32_w]
                      rfl
                    refine pure_ (i := 8) (N := some 36) (v := ?_) (a' := ?_) #[true, true, true, true, true, true, true, true, true, true, false, false] rfl rfl (any_of HT_.out (by kernel_rfl)) (fun _ _ _ h => h) (Or.inl ⟨by rfl, ?_⟩) ?_ ?_
                    rotate_left
                    · intro w'
                      go_simp
                      with_reducible rfl
                    rotate_left
                    · simp only [Act.put, List.setIfInBounds_toArray, List.set_cons_zero, List.set_cons_succ, i64_w, i32_w]
                      rfl
                    exact norm_ (by simp only [putAll, Act.put, List.setIfInBounds_toArray, List.set_cons_zero, List.set_cons_succ]) (hCont (v227, gb231) _ ⟨hHeld, (by (with_reducible repeat (first | apply Kd.R_alloc | apply Kd.R_drewN | apply Kd.R_drew)); exact Kd.R_mono HO228.out (fun _ hk => ⟨hk.2, hk.1.2⟩)), (by (with_reducible repeat (first | apply Kd.R_alloc | apply Kd.R_drewN | apply Kd.R_drew)); exact Kd.R_mono HO_216008.out (fun _ hk => ⟨hk.2, hk.1⟩)), (by (with_reducible repeat (first | apply Kd.R_alloc | apply Kd.R_drewN | apply Kd.R_drew)); exact Kd.R_mono HO_4.out (fun _ hk => ⟨hk.2, hk.1⟩)), (by (with_reducible repeat (first | refine blk_drewN ?_ _ | refine blk_drew ?_ | refine blk_alloc ?_ _)); exact BK215.out), (by (with_reducible repeat (first | refine blk_drewN ?_ _ | refine blk_drew ?_ | refine blk_alloc ?_ _)); exact BK231.out), GW231.out, GE231.out, NB215_231.out, NB231_215.out, (by repeat (first | (with_reducible first | exact HB.out | apply below_alloc | apply pw_below_drewN | apply below_drew1 | refine below_set ?_ GE215.out | refine below_set ?_ GE231.out) | exact HB.out))⟩)
                rintro ⟨v227, gb231⟩ w21 ⟨hS_, h0_, h1_, h2_, h3_, h4_, h5_, h6_, h7_, h8_, h9_⟩
                have n0_ : Aside0 (Kd.R (Kd.int .u8) 5 w21 w.heap.size (fun k_ => some k_ ≠ (.slice Ao17 x216008_1.length co17 : Value).ownBlock ∧ some k_ ≠ (u4 : Value).ownBlock) v227 t226) := ⟨h0_⟩
                have n1_ : Aside0 (Kd.R (Kd.int .u8) 5 w21 w.heap.size (fun k_ => some k_ ≠ (v227 : Value).ownBlock ∧ some k_ ≠ (u4 : Value).ownBlock) (.slice Ao17 x216008_1.length co17) x216008_1) := ⟨h1_⟩
                have n2_ : Aside0 (Kd.R (Kd.int .u8) 5 w21 w.heap.size (fun k_ => some k_ ≠ (v227 : Value).ownBlock ∧ some k_ ≠ (.slice Ao17 x216008_1.length co17 : Value).ownBlock) u4 x4_1) := ⟨h2_⟩
                have n3_ : Aside0 (w21.heap[gb215]? = some (.cells #[.int .u32 x216000_1, .int .u32 x216001_1, .int .u32 x216002_1, .int .u32 x216003_1, .int .u32 x216004_1, .int .u32 x216005_1, .int .u32 x216006_1, .int .u32 x216007_1, .slice Ao17 x216008_1.length co17, .int .u64 x216009_1] 27 (0, 0))) := ⟨h3_⟩
                have n4_ : Aside0 (w21.heap[gb231]? = some (.cells #[.int .u32 0, .int .u32 0, .int .u32 0, .int .u32 0, .int .u32 0, .int .u32 0, .int .u32 0, .int .u32 0, .slice none 0 0, .int .u64 0] 27 (0, 0))) := ⟨h4_⟩
                have n5_ : Aside0 (w.heap.size ≤ gb231) := ⟨h5_⟩
                have n6_ : Aside0 (w.heap.size ≤ gb231) := ⟨h6_⟩
                have n7_ : Aside0 (gb215 ≠ gb231) := ⟨h7_⟩
                have n8_ : Aside0 (gb231 ≠ gb215) := ⟨h8_⟩
                have n9_ : Aside0 (Below w.heap.size w w21) := ⟨h9_⟩
                clear HO_4
                clear HO_216008
                clear BK215
                clear HB
                clear h0_ h1_ h2_ h3_ h4_ h5_ h6_ h7_ h8_ h9_
                have HO228 := n0_
                have HO_216008 := n1_
                have HO_4 := n2_
                have BK215 := n3_
                have BK231 := n4_
                have GW231 := n5_
                have GE231 := n6_
                have NB215_231 := n7_
                have NB231_215 := n8_
                have HB := n9_
                clear n0_ n1_ n2_ n3_ n4_ n5_ n6_ n7_ n8_ n9_
                have hHeld : w21.cell? ⟨gb215, 0, none⟩ = some (.int .u32 x216000_1) ∧ w21.cell? ⟨gb215, 1, none⟩ = some (.int .u32 x216001_1) ∧ w21.cell? ⟨gb215, 2, none⟩ = some (.int .u32 x216002_1) ∧ w21.cell? ⟨gb215, 3, none⟩ = some (.int .u32 x216003_1) ∧ w21.cell? ⟨gb215, 4, none⟩ = some (.int .u32 x216004_1) ∧ w21.cell? ⟨gb215, 5, none⟩ = some (.int .u32 x216005_1) ∧ w21.cell? ⟨gb215, 6, none⟩ = some (.int .u32 x216006_1) ∧ w21.cell? ⟨gb215, 7, none⟩ = some (.int .u32 x216007_1) ∧ w21.cell? ⟨gb215, 8, none⟩ = some (.slice Ao17 x216008_1.length co17) ∧ w21.cell? ⟨gb215, 9, none⟩ = some (.int .u64 x216009_1) ∧ w21.cell? (ad216.add (x5_1).toNat) = some (.slice A217_0 (rd_L2 l0 x5_1).length c217_0) := hS_
                obtain ⟨Ao30, co30, eo30⟩ := Kd.R_slice HO228.out
                (first | subst eo30 | (injection eo30 with f1_ f2_ f3_; have f4_ := f1_.symm; have f5_ := f3_.symm; clear f1_ f2_ f3_; subst f4_; subst f5_))
                refine norm_ (a' := ?_) ?_ ?_
                rotate_left
                · simp only [putAll, Act.put, List.setIfInBounds_toArray, List.set_cons_zero, List.set_cons_succ]
                  rfl
                refine one_ (i := 10) (N := none) #[true, true, true, true, true, true, true, true, true, true, true, false] rfl rfl (one_of HT_.out (by kernel_rfl)) (by decide) (fun K hK => ?_)
                have hs22 : w21.cell? ⟨gb231, 0, none⟩ = some (.int .u32 0) := (blk_cell BK231.out 0).trans rfl
                have hfs22 := blk_frozen BK231.out 0
                have hns22_0 := NB215_231.out
                have hms22_0 := NB231_215.out
                have hs23 : w21.cell? ⟨gb231, 1, none⟩ = some (.int .u32 0) := (blk_cell BK231.out 1).trans rfl
                have hfs23 := blk_frozen BK231.out 1
                have hns23_0 := NB215_231.out
                have hms23_0 := NB231_215.out
                have hs24 : w21.cell? ⟨gb231, 2, none⟩ = some (.int .u32 0) := (blk_cell BK231.out 2).trans rfl
                have hfs24 := blk_frozen BK231.out 2
                have hns24_0 := NB215_231.out
                have hms24_0 := NB231_215.out
                have hs25 : w21.cell? ⟨gb231, 3, none⟩ = some (.int .u32 0) := (blk_cell BK231.out 3).trans rfl
                have hfs25 := blk_frozen BK231.out 3
                have hns25_0 := NB215_231.out
                have hms25_0 := NB231_215.out
                have hs26 : w21.cell? ⟨gb231, 4, none⟩ = some (.int .u32 0) := (blk_cell BK231.out 4).trans rfl
                have hfs26 := blk_frozen BK231.out 4
                have hns26_0 := NB215_231.out
                have hms26_0 := NB231_215.out
                have hs27 : w21.cell? ⟨gb231, 5, none⟩ = some (.int .u32 0) := (blk_cell BK231.out 5).trans rfl
                have hfs27 := blk_frozen BK231.out 5
                have hns27_0 := NB215_231.out
                have hms27_0 := NB231_215.out
                have hs28 : w21.cell? ⟨gb231, 6, none⟩ = some (.int .u32 0) := (blk_cell BK231.out 6).trans rfl
                have hfs28 := blk_frozen BK231.out 6
                have hns28_0 := NB215_231.out
                have hms28_0 := NB231_215.out
                have hs29 : w21.cell? ⟨gb231, 7, none⟩ = some (.int .u32 0) := (blk_cell BK231.out 7).trans rfl
                have hfs29 := blk_frozen BK231.out 7
                have hns29_0 := NB215_231.out
                have hms29_0 := NB231_215.out
                have hs31 : w21.cell? ⟨gb231, 8, none⟩ = some (.slice none 0 0) := (blk_cell BK231.out 8).trans rfl
                have hfs31 := blk_frozen BK231.out 8
                have hns31_0 := NB215_231.out
                have hms31_0 := NB231_215.out
                have hs32 : w21.cell? ⟨gb231, 9, none⟩ = some (.int .u64 0) := (blk_cell BK231.out 9).trans rfl
                have hfs32 := blk_frozen BK231.out 9
                have hns32_0 := NB215_231.out
                have hms32_0 := NB231_215.out
                refine skip_ (w1 := ?_) (by rfl) rfl ?_ ?_
                rotate_left
                · go_simp
                  rfl
                refine hK.out _ _ ⟨((cell_far (p := ⟨gb231, _, none⟩) NB215_231.out _).trans (((cell_far (p := ⟨gb231, _, none⟩) NB215_231.out _).trans (((cell_far (p := ⟨gb231, _, none⟩) NB215_231.out _).trans (((cell_far (p := ⟨gb231, _, none⟩) NB215_231.out _).trans (((cell_far (p := ⟨gb231, _, none⟩) NB215_231.out _).trans (((cell_far (p := ⟨gb231, _, none⟩) NB215_231.out _).trans (((cell_far (p := ⟨gb231, _, none⟩) NB215_231.out _).trans (((cell_far (p := ⟨gb231, _, none⟩) NB215_231.out _).trans (((cell_far (p := ⟨gb231, _, none⟩) NB215_231.out _).trans (((cell_far (p := ⟨gb231, _, none⟩) NB215_231.out _).trans (hHeld.1)))))))))))))))))))), ((cell_far (p := ⟨gb231, _, none⟩) NB215_231.out _).trans (((cell_far (p := ⟨gb231, _, none⟩) NB215_231.out _).trans (((cell_far (p := ⟨gb231, _, none⟩) NB215_231.out _).trans (((cell_far (p := ⟨gb231, _, none⟩) NB215_231.out _).trans (((cell_far (p := ⟨gb231, _, none⟩) NB215_231.out _).trans (((cell_far (p := ⟨gb231, _, none⟩) NB215_231.out _).trans (((cell_far (p := ⟨gb231, _, none⟩) NB215_231.out _).trans (((cell_far (p := ⟨gb231, _, none⟩) NB215_231.out _).trans (((cell_far (p := ⟨gb231, _, none⟩) NB215_231.out _).trans (((cell_far (p := ⟨gb231, _, none⟩) NB215_231.out _).trans (hHeld.2.1)))))))))))))))))))), ((cell_far (p := ⟨gb231, _, none⟩) NB215_231.out _).trans (((cell_far (p := ⟨gb231, _, none⟩) NB215_231.out _).trans (((cell_far (p := ⟨gb231, _, none⟩) NB215_231.out _).trans (((cell_far (p := ⟨gb231, _, none⟩) NB215_231.out _).trans (((cell_far (p := ⟨gb231, _, none⟩) NB215_231.out _).trans (((cell_far (p := ⟨gb231, _, none⟩) NB215_231.out _).trans (((cell_far (p := ⟨gb231, _, none⟩) NB215_231.out _).trans (((cell_far (p := ⟨gb231, _, none⟩) NB215_231.out _).trans (((cell_far (p := ⟨gb231, _, none⟩) NB215_231.out _).trans (((cell_far (p := ⟨gb231, _, none⟩) NB215_231.out _).trans (hHeld.2.2.1)))))))))))))))))))), ((cell_far (p := ⟨gb231, _, none⟩) NB215_231.out _).trans (((cell_far (p := ⟨gb231, _, none⟩) NB215_231.out _).trans (((cell_far (p := ⟨gb231, _, none⟩) NB215_231.out _).trans (((cell_far (p := ⟨gb231, _, none⟩) NB215_231.out _).trans (((cell_far (p := ⟨gb231, _, none⟩) NB215_231.out _).trans (((cell_far (p := ⟨gb231, _, none⟩) NB215_231.out _).trans (((cell_far (p := ⟨gb231, _, none⟩) NB215_231.out _).trans (((cell_far (p := ⟨gb231, _, none⟩) NB215_231.out _).trans (((cell_far (p := ⟨gb231, _, none⟩) NB215_231.out _).trans (((cell_far (p := ⟨gb231, _, none⟩) NB215_231.out _).trans (hHeld.2.2.2.1)))))))))))))))))))), ((cell_far (p := ⟨gb231, _, none⟩) NB215_231.out _).trans (((cell_far (p := ⟨gb231, _, none⟩) NB215_231.out _).trans (((cell_far (p := ⟨gb231, _, none⟩) NB215_231.out _).trans (((cell_far (p := ⟨gb231, _, none⟩) NB215_231.out _).trans (((cell_far (p := ⟨gb231, _, none⟩) NB215_231.out _).trans (((cell_far (p := ⟨gb231, _, none⟩) NB215_231.out _).trans (((cell_far (p := ⟨gb231, _, none⟩) NB215_231.out _).trans (((cell_far (p := ⟨gb231, _, none⟩) NB215_231.out _).trans (((cell_far (p := ⟨gb231, _, none⟩) NB215_231.out _).trans (((cell_far (p := ⟨gb231, _, none⟩) NB215_231.out _).trans (hHeld.2.2.2.2.1)))))))))))))))))))), ((cell_far (p := ⟨gb231, _, none⟩) NB215_231.out _).trans (((cell_far (p := ⟨gb231, _, none⟩) NB215_231.out _).trans (((cell_far (p := ⟨gb231, _, none⟩) NB215_231.out _).trans (((cell_far (p := ⟨gb231, _, none⟩) NB215_231.out _).trans (((cell_far (p := ⟨gb231, _, none⟩) NB215_231.out _).trans (((cell_far (p := ⟨gb231, _, none⟩) NB215_231.out _).trans (((cell_far (p := ⟨gb231, _, none⟩) NB215_231.out _).trans (((cell_far (p := ⟨gb231, _, none⟩) NB215_231.out _).trans (((cell_far (p := ⟨gb231, _, none⟩) NB215_231.out _).trans (((cell_far (p := ⟨gb231, _, none⟩) NB215_231.out _).trans (hHeld.2.2.2.2.2.1)))))))))))))))))))), ((cell_far (p := ⟨gb231, _, none⟩) NB215_231.out _).trans (((cell_far (p := ⟨gb231, _, none⟩) NB215_231.out _).trans (((cell_far (p := ⟨gb231, _, none⟩) NB215_231.out _).trans (((cell_far (p := ⟨gb231, _, none⟩) NB215_231.out _).trans (((cell_far (p := ⟨gb231, _, none⟩) NB215_231.out _).trans (((cell_far (p := ⟨gb231, _, none⟩) NB215_231.out _).trans (((cell_far (p := ⟨gb231, _, none⟩) NB215_231.out _).trans (((cell_far (p := ⟨gb231, _, none⟩) NB215_231.out _).trans (((cell_far (p := ⟨gb231, _, none⟩) NB215_231.out _).trans (((cell_far (p := ⟨gb231, _, none⟩) NB215_231.out _).trans (hHeld.2.2.2.2.2.2.1)))))))))))))))))))), ((cell_far (p := ⟨gb231, _, none⟩) NB215_231.out _).trans (((cell_far (p := ⟨gb231, _, none⟩) NB215_231.out _).trans (((cell_far (p := ⟨gb231, _, none⟩) NB215_231.out _).trans (((cell_far (p := ⟨gb231, _, none⟩) NB215_231.out _).trans (((cell_far (p := ⟨gb231, _, none⟩) NB215_231.out _).trans (((cell_far (p := ⟨gb231, _, none⟩) NB215_231.out _).trans (((cell_far (p := ⟨gb231, _, none⟩) NB215_231.out _).trans (((cell_far (p := ⟨gb231, _, none⟩) NB215_231.out _).trans (((cell_far (p := ⟨gb231, _, none⟩) NB215_231.out _).trans (((cell_far (p := ⟨gb231, _, none⟩) NB215_231.out _).trans (hHeld.2.2.2.2.2.2.2.1)))))))))))))))))))), ((cell_far (p := ⟨gb231, _, none⟩) NB215_231.out _).trans (((cell_far (p := ⟨gb231, _, none⟩) NB215_231.out _).trans (((cell_far (p := ⟨gb231, _, none⟩) NB215_231.out _).trans (((cell_far (p := ⟨gb231, _, none⟩) NB215_231.out _).trans (((cell_far (p := ⟨gb231, _, none⟩) NB215_231.out _).trans (((cell_far (p := ⟨gb231, _, none⟩) NB215_231.out _).trans (((cell_far (p := ⟨gb231, _, none⟩) NB215_231.out _).trans (((cell_far (p := ⟨gb231, _, none⟩) NB215_231.out _).trans (((cell_far (p := ⟨gb231, _, none⟩) NB215_231.out _).trans (((cell_far (p := ⟨gb231, _, none⟩) NB215_231.out _).trans (hHeld.2.2.2.2.2.2.2.2.1)))))))))))))))))))), ((cell_far (p := ⟨gb231, _, none⟩) NB215_231.out _).trans (((cell_far (p := ⟨gb231, _, none⟩) NB215_231.out _).trans (((cell_far (p := ⟨gb231, _, none⟩) NB215_231.out _).trans (((cell_far (p := ⟨gb231, _, none⟩) NB215_231.out _).trans (((cell_far (p := ⟨gb231, _, none⟩) NB215_231.out _).trans (((cell_far (p := ⟨gb231, _, none⟩) NB215_231.out _).trans (((cell_far (p := ⟨gb231, _, none⟩) NB215_231.out _).trans (((cell_far (p := ⟨gb231, _, none⟩) NB215_231.out _).trans (((cell_far (p := ⟨gb231, _, none⟩) NB215_231.out _).trans (((cell_far (p := ⟨gb231, _, none⟩) NB215_231.out _).trans (hHeld.2.2.2.2.2.2.2.2.2.1)))))))))))))))))))), ((cell_far (p := ⟨gb231, _, none⟩) (by first | exact Nat.ne_of_lt (Nat.lt_of_lt_of_le (by have := World.block_lt_of_cell? _ _ hw217_0; first | rwa [add_block] at this | exact this) GW231.out) | (rw [add_block]; exact Nat.ne_of_lt (Nat.lt_of_lt_of_le (by have := World.block_lt_of_cell? _ _ hw217_0; first | rwa [add_block] at this | exact this) GW231.out)) | (show (Addr.add _ _).block ≠ _; rw [add_block]; exact Nat.ne_of_lt (Nat.lt_of_lt_of_le (by have := World.block_lt_of_cell? _ _ hw217_0; first | rwa [add_block] at this | exact this) GW231.out)) | (dsimp only; exact Nat.ne_of_lt (Nat.lt_of_lt_of_le (by have := World.block_lt_of_cell? _ _ hw217_0; first | rwa [add_block] at this | exact this) GW231.out))) _).trans (((cell_far (p := ⟨gb231, _, none⟩) (by first | exact Nat.ne_of_lt (Nat.lt_of_lt_of_le (by have := World.block_lt_of_cell? _ _ hw217_0; first | rwa [add_block] at this | exact this) GW231.out) | (rw [add_block]; exact Nat.ne_of_lt (Nat.lt_of_lt_of_le (by have := World.block_lt_of_cell? _ _ hw217_0; first | rwa [add_block] at this | exact this) GW231.out)) | (show (Addr.add _ _).block ≠ _; rw [add_block]; exact Nat.ne_of_lt (Nat.lt_of_lt_of_le (by have := World.block_lt_of_cell? _ _ hw217_0; first | rwa [add_block] at this | exact this) GW231.out)) | (dsimp only; exact Nat.ne_of_lt (Nat.lt_of_lt_of_le (by have := World.block_lt_of_cell? _ _ hw217_0; first | rwa [add_block] at this | exact this) GW231.out))) _).trans (((cell_far (p := ⟨gb231, _, none⟩) (by first | exact Nat.ne_of_lt (Nat.lt_of_lt_of_le (by have := World.block_lt_of_cell? _ _ hw217_0; first | rwa [add_block] at this | exact this) GW231.out) | (rw [add_block]; exact Nat.ne_of_lt (Nat.lt_of_lt_of_le (by have := World.block_lt_of_cell? _ _ hw217_0; first | rwa [add_block] at this | exact this) GW231.out)) | (show (Addr.add _ _).block ≠ _; rw [add_block]; exact Nat.ne_of_lt (Nat.lt_of_lt_of_le (by have := World.block_lt_of_cell? _ _ hw217_0; first | rwa [add_block] at this | exact this) GW231.out)) | (dsimp only; exact Nat.ne_of_lt (Nat.lt_of_lt_of_le (by have := World.block_lt_of_cell? _ _ hw217_0; first | rwa [add_block] at this | exact this) GW231.out))) _).trans (((cell_far (p := ⟨gb231, _, none⟩) (by first | exact Nat.ne_of_lt (Nat.lt_of_lt_of_le (by have := World.block_lt_of_cell? _ _ hw217_0; first | rwa [add_block] at this | exact this) GW231.out) | (rw [add_block]; exact Nat.ne_of_lt (Nat.lt_of_lt_of_le (by have := World.block_lt_of_cell? _ _ hw217_0; first | rwa [add_block] at this | exact this) GW231.out)) | (show (Addr.add _ _).block ≠ _; rw [add_block]; exact Nat.ne_of_lt (Nat.lt_of_lt_of_le (by have := World.block_lt_of_cell? _ _ hw217_0; first | rwa [add_block] at this | exact this) GW231.out)) | (dsimp only; exact Nat.ne_of_lt (Nat.lt_of_lt_of_le (by have := World.block_lt_of_cell? _ _ hw217_0; first | rwa [add_block] at this | exact this) GW231.out))) _).trans (((cell_far (p := ⟨gb231, _, none⟩) (by first | exact Nat.ne_of_lt (Nat.lt_of_lt_of_le (by have := World.block_lt_of_cell? _ _ hw217_0; first | rwa [add_block] at this | exact this) GW231.out) | (rw [add_block]; exact Nat.ne_of_lt (Nat.lt_of_lt_of_le (by have := World.block_lt_of_cell? _ _ hw217_0; first | rwa [add_block] at this | exact this) GW231.out)) | (show (Addr.add _ _).block ≠ _; rw [add_block]; exact Nat.ne_of_lt (Nat.lt_of_lt_of_le (by have := World.block_lt_of_cell? _ _ hw217_0; first | rwa [add_block] at this | exact this) GW231.out)) | (dsimp only; exact Nat.ne_of_lt (Nat.lt_of_lt_of_le (by have := World.block_lt_of_cell? _ _ hw217_0; first | rwa [add_block] at this | exact this) GW231.out))) _).trans (((cell_far (p := ⟨gb231, _, none⟩) (by first | exact Nat.ne_of_lt (Nat.lt_of_lt_of_le (by have := World.block_lt_of_cell? _ _ hw217_0; first | rwa [add_block] at this | exact this) GW231.out) | (rw [add_block]; exact Nat.ne_of_lt (Nat.lt_of_lt_of_le (by have := World.block_lt_of_cell? _ _ hw217_0; first | rwa [add_block] at this | exact this) GW231.out)) | (show (Addr.add _ _).block ≠ _; rw [add_block]; exact Nat.ne_of_lt (Nat.lt_of_lt_of_le (by have := World.block_lt_of_cell? _ _ hw217_0; first | rwa [add_block] at this | exact this) GW231.out)) | (dsimp only; exact Nat.ne_of_lt (Nat.lt_of_lt_of_le (by have := World.block_lt_of_cell? _ _ hw217_0; first | rwa [add_block] at this | exact this) GW231.out))) _).trans (((cell_far (p := ⟨gb231, _, none⟩) (by first | exact Nat.ne_of_lt (Nat.lt_of_lt_of_le (by have := World.block_lt_of_cell? _ _ hw217_0; first | rwa [add_block] at this | exact this) GW231.out) | (rw [add_block]; exact Nat.ne_of_lt (Nat.lt_of_lt_of_le (by have := World.block_lt_of_cell? _ _ hw217_0; first | rwa [add_block] at this | exact this) GW231.out)) | (show (Addr.add _ _).block ≠ _; rw [add_block]; exact Nat.ne_of_lt (Nat.lt_of_lt_of_le (by have := World.block_lt_of_cell? _ _ hw217_0; first | rwa [add_block] at this | exact this) GW231.out)) | (dsimp only; exact Nat.ne_of_lt (Nat.lt_of_lt_of_le (by have := World.block_lt_of_cell? _ _ hw217_0; first | rwa [add_block] at this | exact this) GW231.out))) _).trans (((cell_far (p := ⟨gb231, _, none⟩) (by first | exact Nat.ne_of_lt (Nat.lt_of_lt_of_le (by have := World.block_lt_of_cell? _ _ hw217_0; first | rwa [add_block] at this | exact this) GW231.out) | (rw [add_block]; exact Nat.ne_of_lt (Nat.lt_of_lt_of_le (by have := World.block_lt_of_cell? _ _ hw217_0; first | rwa [add_block] at this | exact this) GW231.out)) | (show (Addr.add _ _).block ≠ _; rw [add_block]; exact Nat.ne_of_lt (Nat.lt_of_lt_of_le (by have := World.block_lt_of_cell? _ _ hw217_0; first | rwa [add_block] at this | exact this) GW231.out)) | (dsimp only; exact Nat.ne_of_lt (Nat.lt_of_lt_of_le (by have := World.block_lt_of_cell? _ _ hw217_0; first | rwa [add_block] at this | exact this) GW231.out))) _).trans (((cell_far (p := ⟨gb231, _, none⟩) (by first | exact Nat.ne_of_lt (Nat.lt_of_lt_of_le (by have := World.block_lt_of_cell? _ _ hw217_0; first | rwa [add_block] at this | exact this) GW231.out) | (rw [add_block]; exact Nat.ne_of_lt (Nat.lt_of_lt_of_le (by have := World.block_lt_of_cell? _ _ hw217_0; first | rwa [add_block] at this | exact this) GW231.out)) | (show (Addr.add _ _).block ≠ _; rw [add_block]; exact Nat.ne_of_lt (Nat.lt_of_lt_of_le (by have := World.block_lt_of_cell? _ _ hw217_0; first | rwa [add_block] at this | exact this) GW231.out)) | (dsimp only; exact Nat.ne_of_lt (Nat.lt_of_lt_of_le (by have := World.block_lt_of_cell? _ _ hw217_0; first | rwa [add_block] at this | exact this) GW231.out))) _).trans (((cell_far (p := ⟨gb231, _, none⟩) (by first | exact Nat.ne_of_lt (Nat.lt_of_lt_of_le (by have := World.block_lt_of_cell? _ _ hw217_0; first | rwa [add_block] at this | exact this) GW231.out) | (rw [add_block]; exact Nat.ne_of_lt (Nat.lt_of_lt_of_le (by have := World.block_lt_of_cell? _ _ hw217_0; first | rwa [add_block] at this | exact this) GW231.out)) | (show (Addr.add _ _).block ≠ _; rw [add_block]; exact Nat.ne_of_lt (Nat.lt_of_lt_of_le (by have := World.block_lt_of_cell? _ _ hw217_0; first | rwa [add_block] at this | exact this) GW231.out)) | (dsimp only; exact Nat.ne_of_lt (Nat.lt_of_lt_of_le (by have := World.block_lt_of_cell? _ _ hw217_0; first | rwa [add_block] at this | exact this) GW231.out))) _).trans (hHeld.2.2.2.2.2.2.2.2.2.2))))))))))))))))))))⟩ (fun hHeld => ?_)
                clear hK K
                refine pure_ (i := 11) (N := some 7) (v := ?_) (a' := ?_) #[true, true, true, true, true, true, true, true, true, true, true, true] rfl rfl (any_of HT_.out (by kernel_rfl)) (fun _ _ _ h => h) (Or.inl ⟨by rfl, ?_⟩) ?_ ?_
                rotate_left
                · intro w'
                  go_simp
                  with_reducible rfl
                rotate_left
                · simp only [Act.put, List.setIfInBounds_toArray, List.set_cons_zero, List.set_cons_succ, i64_w, i32_w]
                  rfl
                refine done_ (done_of HT_.out (by kernel_rfl)) ?_
                go_upto_region 13 with (fail)
                go_cut [44] (fun v44 wc => ∃ (kq : Nat) (x44_15 : Bool), v44 = .bool x44_15 ∧ Aside0 (wristbandlaw02_ShaGoesOn.j1 kq l0 x4_1 x5_1 x44_15 t218 t219 t220 t221 t222 t223 t224 t225 t226 t229 = some r) ∧ Aside0 (kq ≤ k1) ∧ Aside0 (Kd.R (Kd.int .u8) 5 wc w.heap.size (fun k_ => some k_ ≠ ((.slice Ao17 x216008_1.length co17) : Value).ownBlock ∧ some k_ ≠ ((.slice Ao30 t226.length co30) : Value).ownBlock) u4 x4_1) ∧ Aside0 (Kd.R (Kd.int .u8) 5 wc w.heap.size (fun k_ => some k_ ≠ (u4 : Value).ownBlock ∧ some k_ ≠ ((.slice Ao30 t226.length co30) : Value).ownBlock) (.slice Ao17 x216008_1.length co17) x216008_1) ∧ Aside0 (Kd.R (Kd.int .u8) 5 wc w.heap.size (fun k_ => some k_ ≠ (u4 : Value).ownBlock ∧ some k_ ≠ ((.slice Ao17 x216008_1.length co17) : Value).ownBlock) (.slice Ao30 t226.length co30) t226) ∧ Aside0 (wc.heap[gb215]? = some (.cells #[.int .u32 x216000_1, .int .u32 x216001_1, .int .u32 x216002_1, .int .u32 x216003_1, .int .u32 x216004_1, .int .u32 x216005_1, .int .u32 x216006_1, .int .u32 x216007_1, (.slice Ao17 x216008_1.length co17), .int .u64 x216009_1] 27 (0, 0))) ∧ Aside0 (wc.heap[gb231]? = some (.cells #[.int .u32 t218, .int .u32 t219, .int .u32 t220, .int .u32 t221, .int .u32 t222, .int .u32 t223, .int .u32 t224, .int .u32 t225, (.slice Ao30 t226.length co30), .int .u64 t229] 27 (0, 0))) ∧ Aside0 (Below w.heap.size w wc))
                case first =>
                  have H := HC16.out
                  clear HC16
                  by_cases c33 : t230 = 0
                  · rw [if_pos c33] at H
                    have c33b0 : (t230 == 0) = true := beq_iff_eq.mpr c33
                    have c33b1 : (t230 != 0) = false := bne_eq_false_iff_eq.mpr c33
                    clear c33
                    (first | rw [c33b0] | (simp only [i64_w, i32_w]; rw [c33b0]) | skip)
                    have H' := Aside0.mk H
                    clear H
                    have hnb34 := NB231_215.out
                    have hnc34 := NB215_231.out
                    have hcz35_0 : w21.cell? ⟨gb231, 0, none⟩ = some (.int .u32 0) := (blk_cell BK231.out 0).trans rfl
                    have hcz35_1 : w21.cell? ⟨gb231, 1, none⟩ = some (.int .u32 0) := (blk_cell BK231.out 1).trans rfl
                    have hcz35_2 : w21.cell? ⟨gb231, 2, none⟩ = some (.int .u32 0) := (blk_cell BK231.out 2).trans rfl
                    have hcz35_3 : w21.cell? ⟨gb231, 3, none⟩ = some (.int .u32 0) := (blk_cell BK231.out 3).trans rfl
                    have hcz35_4 : w21.cell? ⟨gb231, 4, none⟩ = some (.int .u32 0) := (blk_cell BK231.out 4).trans rfl
                    have hcz35_5 : w21.cell? ⟨gb231, 5, none⟩ = some (.int .u32 0) := (blk_cell BK231.out 5).trans rfl
                    have hcz35_6 : w21.cell? ⟨gb231, 6, none⟩ = some (.int .u32 0) := (blk_cell BK231.out 6).trans rfl
                    have hcz35_7 : w21.cell? ⟨gb231, 7, none⟩ = some (.int .u32 0) := (blk_cell BK231.out 7).trans rfl
                    have hcz35_8 : w21.cell? ⟨gb231, 8, none⟩ = some (.slice none 0 0) := (blk_cell BK231.out 8).trans rfl
                    have hcz35_9 : w21.cell? ⟨gb231, 9, none⟩ = some (.int .u64 0) := (blk_cell BK231.out 9).trans rfl
                    have hfz35_0 := blk_frozen BK231.out 0
                    have hfz35_1 := blk_frozen BK231.out 1
                    have hfz35_2 := blk_frozen BK231.out 2
                    have hfz35_3 := blk_frozen BK231.out 3
                    have hfz35_4 := blk_frozen BK231.out 4
                    have hfz35_5 := blk_frozen BK231.out 5
                    have hfz35_6 := blk_frozen BK231.out 6
                    have hfz35_7 := blk_frozen BK231.out 7
                    have hfz35_8 := blk_frozen BK231.out 8
                    have hfz35_9 := blk_frozen BK231.out 9
                    go_wp2
                    go_meet
                    case rel => exact ⟨_, (decide ((t226.length : Int) > 63)), (by first | rfl | (simp; done) | (simp [*]; done)), H', ⟨by have := HK1.out; first | omega | exact Nat.le_refl _⟩, ⟨by (with_reducible repeat (first | apply Kd.R_alloc | apply Kd.R_drewN | apply Kd.R_drew)); exact Kd.R_mono (Kd.R_far (p := ⟨gb231, 9, none⟩) (Kd.R_far (p := ⟨gb231, 8, none⟩) (Kd.R_far (p := ⟨gb231, 7, none⟩) (Kd.R_far (p := ⟨gb231, 6, none⟩) (Kd.R_far (p := ⟨gb231, 5, none⟩) (Kd.R_far (p := ⟨gb231, 4, none⟩) (Kd.R_far (p := ⟨gb231, 3, none⟩) (Kd.R_far (p := ⟨gb231, 2, none⟩) (Kd.R_far (p := ⟨gb231, 1, none⟩) (Kd.R_far (p := ⟨gb231, 0, none⟩) (Kd.R_types HO_4.out BK231.out (by decide)) (fun _ hk => hk.2) (.int .u32 t218)) (fun _ hk => hk.2) (.int .u32 t219)) (fun _ hk => hk.2) (.int .u32 t220)) (fun _ hk => hk.2) (.int .u32 t221)) (fun _ hk => hk.2) (.int .u32 t222)) (fun _ hk => hk.2) (.int .u32 t223)) (fun _ hk => hk.2) (.int .u32 t224)) (fun _ hk => hk.2) (.int .u32 t225)) (fun _ hk => hk.2) (.slice Ao30 t226.length co30)) (fun _ hk => hk.2) (.int .u64 t229)) (fun _ hk => ⟨hk.1.2, hk.1.1⟩)⟩, ⟨by (with_reducible repeat (first | apply Kd.R_alloc | apply Kd.R_drewN | apply Kd.R_drew)); exact Kd.R_mono (Kd.R_far (p := ⟨gb231, 9, none⟩) (Kd.R_far (p := ⟨gb231, 8, none⟩) (Kd.R_far (p := ⟨gb231, 7, none⟩) (Kd.R_far (p := ⟨gb231, 6, none⟩) (Kd.R_far (p := ⟨gb231, 5, none⟩) (Kd.R_far (p := ⟨gb231, 4, none⟩) (Kd.R_far (p := ⟨gb231, 3, none⟩) (Kd.R_far (p := ⟨gb231, 2, none⟩) (Kd.R_far (p := ⟨gb231, 1, none⟩) (Kd.R_far (p := ⟨gb231, 0, none⟩) (Kd.R_types HO_216008.out BK231.out (by decide)) (fun _ hk => hk.2) (.int .u32 t218)) (fun _ hk => hk.2) (.int .u32 t219)) (fun _ hk => hk.2) (.int .u32 t220)) (fun _ hk => hk.2) (.int .u32 t221)) (fun _ hk => hk.2) (.int .u32 t222)) (fun _ hk => hk.2) (.int .u32 t223)) (fun _ hk => hk.2) (.int .u32 t224)) (fun _ hk => hk.2) (.int .u32 t225)) (fun _ hk => hk.2) (.slice Ao30 t226.length co30)) (fun _ hk => hk.2) (.int .u64 t229)) (fun _ hk => ⟨hk.1.2, hk.1.1⟩)⟩, ⟨by (with_reducible repeat (first | apply Kd.R_alloc | apply Kd.R_drewN | apply Kd.R_drew)); exact Kd.R_mono (Kd.R_far (p := ⟨gb231, 9, none⟩) (Kd.R_far (p := ⟨gb231, 8, none⟩) (Kd.R_far (p := ⟨gb231, 7, none⟩) (Kd.R_far (p := ⟨gb231, 6, none⟩) (Kd.R_far (p := ⟨gb231, 5, none⟩) (Kd.R_far (p := ⟨gb231, 4, none⟩) (Kd.R_far (p := ⟨gb231, 3, none⟩) (Kd.R_far (p := ⟨gb231, 2, none⟩) (Kd.R_far (p := ⟨gb231, 1, none⟩) (Kd.R_far (p := ⟨gb231, 0, none⟩) (Kd.R_types HO228.out BK231.out (by decide)) (fun _ hk => hk.2) (.int .u32 t218)) (fun _ hk => hk.2) (.int .u32 t219)) (fun _ hk => hk.2) (.int .u32 t220)) (fun _ hk => hk.2) (.int .u32 t221)) (fun _ hk => hk.2) (.int .u32 t222)) (fun _ hk => hk.2) (.int .u32 t223)) (fun _ hk => hk.2) (.int .u32 t224)) (fun _ hk => hk.2) (.int .u32 t225)) (fun _ hk => hk.2) (.slice Ao30 t226.length co30)) (fun _ hk => hk.2) (.int .u64 t229)) (fun _ hk => ⟨hk.1.2, hk.1.1⟩)⟩, ⟨by (with_reducible repeat (first | refine blk_drewN ?_ _ | refine blk_drew ?_ | refine blk_alloc ?_ _)); refine blk_far ?_ NB215_231.out _; (with_reducible repeat (first | refine blk_drewN ?_ _ | refine blk_drew ?_ | refine blk_alloc ?_ _)); refine blk_far ?_ NB215_231.out _; (with_reducible repeat (first | refine blk_drewN ?_ _ | refine blk_drew ?_ | refine blk_alloc ?_ _)); refine blk_far ?_ NB215_231.out _; (with_reducible repeat (first | refine blk_drewN ?_ _ | refine blk_drew ?_ | refine blk_alloc ?_ _)); refine blk_far ?_ NB215_231.out _; (with_reducible repeat (first | refine blk_drewN ?_ _ | refine blk_drew ?_ | refine blk_alloc ?_ _)); refine blk_far ?_ NB215_231.out _; (with_reducible repeat (first | refine blk_drewN ?_ _ | refine blk_drew ?_ | refine blk_alloc ?_ _)); refine blk_far ?_ NB215_231.out _; (with_reducible repeat (first | refine blk_drewN ?_ _ | refine blk_drew ?_ | refine blk_alloc ?_ _)); refine blk_far ?_ NB215_231.out _; (with_reducible repeat (first | refine blk_drewN ?_ _ | refine blk_drew ?_ | refine blk_alloc ?_ _)); refine blk_far ?_ NB215_231.out _; (with_reducible repeat (first | refine blk_drewN ?_ _ | refine blk_drew ?_ | refine blk_alloc ?_ _)); refine blk_far ?_ NB215_231.out _; (with_reducible repeat (first | refine blk_drewN ?_ _ | refine blk_drew ?_ | refine blk_alloc ?_ _)); refine blk_far ?_ NB215_231.out _; (with_reducible repeat (first | refine blk_drewN ?_ _ | refine blk_drew ?_ | refine blk_alloc ?_ _)); exact BK215.out⟩, ⟨by (with_reducible repeat (first | refine blk_drewN ?_ _ | refine blk_drew ?_ | refine blk_alloc ?_ _)); refine blk_put (cs := #[.int .u32 t218, .int .u32 t219, .int .u32 t220, .int .u32 t221, .int .u32 t222, .int .u32 t223, .int .u32 t224, .int .u32 t225, .slice Ao30 t226.length co30, .int .u64 0]) ?_ 9 _ rfl; (with_reducible repeat (first | refine blk_drewN ?_ _ | refine blk_drew ?_ | refine blk_alloc ?_ _)); refine blk_put (cs := #[.int .u32 t218, .int .u32 t219, .int .u32 t220, .int .u32 t221, .int .u32 t222, .int .u32 t223, .int .u32 t224, .int .u32 t225, .slice none 0 0, .int .u64 0]) ?_ 8 _ rfl; (with_reducible repeat (first | refine blk_drewN ?_ _ | refine blk_drew ?_ | refine blk_alloc ?_ _)); refine blk_put (cs := #[.int .u32 t218, .int .u32 t219, .int .u32 t220, .int .u32 t221, .int .u32 t222, .int .u32 t223, .int .u32 t224, .int .u32 0, .slice none 0 0, .int .u64 0]) ?_ 7 _ rfl; (with_reducible repeat (first | refine blk_drewN ?_ _ | refine blk_drew ?_ | refine blk_alloc ?_ _)); refine blk_put (cs := #[.int .u32 t218, .int .u32 t219, .int .u32 t220, .int .u32 t221, .int .u32 t222, .int .u32 t223, .int .u32 0, .int .u32 0, .slice none 0 0, .int .u64 0]) ?_ 6 _ rfl; (with_reducible repeat (first | refine blk_drewN ?_ _ | refine blk_drew ?_ | refine blk_alloc ?_ _)); refine blk_put (cs := #[.int .u32 t218, .int .u32 t219, .int .u32 t220, .int .u32 t221, .int .u32 t222, .int .u32 0, .int .u32 0, .int .u32 0, .slice none 0 0, .int .u64 0]) ?_ 5 _ rfl; (with_reducible repeat (first | refine blk_drewN ?_ _ | refine blk_drew ?_ | refine blk_alloc ?_ _)); refine blk_put (cs := #[.int .u32 t218, .int .u32 t219, .int .u32 t220, .int .u32 t221, .int .u32 0, .int .u32 0, .int .u32 0, .int .u32 0, .slice none 0 0, .int .u64 0]) ?_ 4 _ rfl; (with_reducible repeat (first | refine blk_drewN ?_ _ | refine blk_drew ?_ | refine blk_alloc ?_ _)); refine blk_put (cs := #[.int .u32 t218, .int .u32 t219, .int .u32 t220, .int .u32 0, .int .u32 0, .int .u32 0, .int .u32 0, .int .u32 0, .slice none 0 0, .int .u64 0]) ?_ 3 _ rfl; (with_reducible repeat (first | refine blk_drewN ?_ _ | refine blk_drew ?_ | refine blk_alloc ?_ _)); refine blk_put (cs := #[.int .u32 t218, .int .u32 t219, .int .u32 0, .int .u32 0, .int .u32 0, .int .u32 0, .int .u32 0, .int .u32 0, .slice none 0 0, .int .u64 0]) ?_ 2 _ rfl; (with_reducible repeat (first | refine blk_drewN ?_ _ | refine blk_drew ?_ | refine blk_alloc ?_ _)); refine blk_put (cs := #[.int .u32 t218, .int .u32 0, .int .u32 0, .int .u32 0, .int .u32 0, .int .u32 0, .int .u32 0, .int .u32 0, .slice none 0 0, .int .u64 0]) ?_ 1 _ rfl; (with_reducible repeat (first | refine blk_drewN ?_ _ | refine blk_drew ?_ | refine blk_alloc ?_ _)); refine blk_put (cs := #[.int .u32 0, .int .u32 0, .int .u32 0, .int .u32 0, .int .u32 0, .int .u32 0, .int .u32 0, .int .u32 0, .slice none 0 0, .int .u64 0]) ?_ 0 _ rfl; (with_reducible repeat (first | refine blk_drewN ?_ _ | refine blk_drew ?_ | refine blk_alloc ?_ _)); exact BK231.out⟩, ⟨by repeat (first | (with_reducible first | exact HB.out | apply below_alloc | apply pw_below_drewN | apply below_drew1 | refine below_set ?_ GE215.out | refine below_set ?_ GE231.out) | exact HB.out)⟩⟩
                  · rw [if_neg c33] at H
                    have c33b0 : (t230 == 0) = false := beq_eq_false_iff_ne.mpr c33
                    have c33b1 : (t230 != 0) = true := bne_iff_ne.mpr c33
                    (first | rw [c33b0] | (simp only [i64_w, i32_w]; rw [c33b0]) | skip)
                    have H' := Aside0.mk H
                    clear H
                    go_wp2
                    go_meet
                    case rel => exact ⟨_, (true), (by first | rfl | (simp; done) | (simp [*]; done)), H', ⟨by have := HK1.out; first | omega | exact Nat.le_refl _⟩, ⟨by (with_reducible repeat (first | apply Kd.R_alloc | apply Kd.R_drewN | apply Kd.R_drew)); exact Kd.R_mono (Kd.R_far (p := ⟨gb231, 9, none⟩) (Kd.R_far (p := ⟨gb231, 8, none⟩) (Kd.R_far (p := ⟨gb231, 7, none⟩) (Kd.R_far (p := ⟨gb231, 6, none⟩) (Kd.R_far (p := ⟨gb231, 5, none⟩) (Kd.R_far (p := ⟨gb231, 4, none⟩) (Kd.R_far (p := ⟨gb231, 3, none⟩) (Kd.R_far (p := ⟨gb231, 2, none⟩) (Kd.R_far (p := ⟨gb231, 1, none⟩) (Kd.R_far (p := ⟨gb231, 0, none⟩) (Kd.R_types HO_4.out BK231.out (by decide)) (fun _ hk => hk.2) (.int .u32 t218)) (fun _ hk => hk.2) (.int .u32 t219)) (fun _ hk => hk.2) (.int .u32 t220)) (fun _ hk => hk.2) (.int .u32 t221)) (fun _ hk => hk.2) (.int .u32 t222)) (fun _ hk => hk.2) (.int .u32 t223)) (fun _ hk => hk.2) (.int .u32 t224)) (fun _ hk => hk.2) (.int .u32 t225)) (fun _ hk => hk.2) (.slice Ao30 t226.length co30)) (fun _ hk => hk.2) (.int .u64 t229)) (fun _ hk => ⟨hk.1.2, hk.1.1⟩)⟩, ⟨by (with_reducible repeat (first | apply Kd.R_alloc | apply Kd.R_drewN | apply Kd.R_drew)); exact Kd.R_mono (Kd.R_far (p := ⟨gb231, 9, none⟩) (Kd.R_far (p := ⟨gb231, 8, none⟩) (Kd.R_far (p := ⟨gb231, 7, none⟩) (Kd.R_far (p := ⟨gb231, 6, none⟩) (Kd.R_far (p := ⟨gb231, 5, none⟩) (Kd.R_far (p := ⟨gb231, 4, none⟩) (Kd.R_far (p := ⟨gb231, 3, none⟩) (Kd.R_far (p := ⟨gb231, 2, none⟩) (Kd.R_far (p := ⟨gb231, 1, none⟩) (Kd.R_far (p := ⟨gb231, 0, none⟩) (Kd.R_types HO_216008.out BK231.out (by decide)) (fun _ hk => hk.2) (.int .u32 t218)) (fun _ hk => hk.2) (.int .u32 t219)) (fun _ hk => hk.2) (.int .u32 t220)) (fun _ hk => hk.2) (.int .u32 t221)) (fun _ hk => hk.2) (.int .u32 t222)) (fun _ hk => hk.2) (.int .u32 t223)) (fun _ hk => hk.2) (.int .u32 t224)) (fun _ hk => hk.2) (.int .u32 t225)) (fun _ hk => hk.2) (.slice Ao30 t226.length co30)) (fun _ hk => hk.2) (.int .u64 t229)) (fun _ hk => ⟨hk.1.2, hk.1.1⟩)⟩, ⟨by (with_reducible repeat (first | apply Kd.R_alloc | apply Kd.R_drewN | apply Kd.R_drew)); exact Kd.R_mono (Kd.R_far (p := ⟨gb231, 9, none⟩) (Kd.R_far (p := ⟨gb231, 8, none⟩) (Kd.R_far (p := ⟨gb231, 7, none⟩) (Kd.R_far (p := ⟨gb231, 6, none⟩) (Kd.R_far (p := ⟨gb231, 5, none⟩) (Kd.R_far (p := ⟨gb231, 4, none⟩) (Kd.R_far (p := ⟨gb231, 3, none⟩) (Kd.R_far (p := ⟨gb231, 2, none⟩) (Kd.R_far (p := ⟨gb231, 1, none⟩) (Kd.R_far (p := ⟨gb231, 0, none⟩) (Kd.R_types HO228.out BK231.out (by decide)) (fun _ hk => hk.2) (.int .u32 t218)) (fun _ hk => hk.2) (.int .u32 t219)) (fun _ hk => hk.2) (.int .u32 t220)) (fun _ hk => hk.2) (.int .u32 t221)) (fun _ hk => hk.2) (.int .u32 t222)) (fun _ hk => hk.2) (.int .u32 t223)) (fun _ hk => hk.2) (.int .u32 t224)) (fun _ hk => hk.2) (.int .u32 t225)) (fun _ hk => hk.2) (.slice Ao30 t226.length co30)) (fun _ hk => hk.2) (.int .u64 t229)) (fun _ hk => ⟨hk.1.2, hk.1.1⟩)⟩, ⟨by (with_reducible repeat (first | refine blk_drewN ?_ _ | refine blk_drew ?_ | refine blk_alloc ?_ _)); refine blk_far ?_ NB215_231.out _; (with_reducible repeat (first | refine blk_drewN ?_ _ | refine blk_drew ?_ | refine blk_alloc ?_ _)); refine blk_far ?_ NB215_231.out _; (with_reducible repeat (first | refine blk_drewN ?_ _ | refine blk_drew ?_ | refine blk_alloc ?_ _)); refine blk_far ?_ NB215_231.out _; (with_reducible repeat (first | refine blk_drewN ?_ _ | refine blk_drew ?_ | refine blk_alloc ?_ _)); refine blk_far ?_ NB215_231.out _; (with_reducible repeat (first | refine blk_drewN ?_ _ | refine blk_drew ?_ | refine blk_alloc ?_ _)); refine blk_far ?_ NB215_231.out _; (with_reducible repeat (first | refine blk_drewN ?_ _ | refine blk_drew ?_ | refine blk_alloc ?_ _)); refine blk_far ?_ NB215_231.out _; (with_reducible repeat (first | refine blk_drewN ?_ _ | refine blk_drew ?_ | refine blk_alloc ?_ _)); refine blk_far ?_ NB215_231.out _; (with_reducible repeat (first | refine blk_drewN ?_ _ | refine blk_drew ?_ | refine blk_alloc ?_ _)); refine blk_far ?_ NB215_231.out _; (with_reducible repeat (first | refine blk_drewN ?_ _ | refine blk_drew ?_ | refine blk_alloc ?_ _)); refine blk_far ?_ NB215_231.out _; (with_reducible repeat (first | refine blk_drewN ?_ _ | refine blk_drew ?_ | refine blk_alloc ?_ _)); refine blk_far ?_ NB215_231.out _; (with_reducible repeat (first | refine blk_drewN ?_ _ | refine blk_drew ?_ | refine blk_alloc ?_ _)); exact BK215.out⟩, ⟨by (with_reducible repeat (first | refine blk_drewN ?_ _ | refine blk_drew ?_ | refine blk_alloc ?_ _)); refine blk_put (cs := #[.int .u32 t218, .int .u32 t219, .int .u32 t220, .int .u32 t221, .int .u32 t222, .int .u32 t223, .int .u32 t224, .int .u32 t225, .slice Ao30 t226.length co30, .int .u64 0]) ?_ 9 _ rfl; (with_reducible repeat (first | refine blk_drewN ?_ _ | refine blk_drew ?_ | refine blk_alloc ?_ _)); refine blk_put (cs := #[.int .u32 t218, .int .u32 t219, .int .u32 t220, .int .u32 t221, .int .u32 t222, .int .u32 t223, .int .u32 t224, .int .u32 t225, .slice none 0 0, .int .u64 0]) ?_ 8 _ rfl; (with_reducible repeat (first | refine blk_drewN ?_ _ | refine blk_drew ?_ | refine blk_alloc ?_ _)); refine blk_put (cs := #[.int .u32 t218, .int .u32 t219, .int .u32 t220, .int .u32 t221, .int .u32 t222, .int .u32 t223, .int .u32 t224, .int .u32 0, .slice none 0 0, .int .u64 0]) ?_ 7 _ rfl; (with_reducible repeat (first | refine blk_drewN ?_ _ | refine blk_drew ?_ | refine blk_alloc ?_ _)); refine blk_put (cs := #[.int .u32 t218, .int .u32 t219, .int .u32 t220, .int .u32 t221, .int .u32 t222, .int .u32 t223, .int .u32 0, .int .u32 0, .slice none 0 0, .int .u64 0]) ?_ 6 _ rfl; (with_reducible repeat (first | refine blk_drewN ?_ _ | refine blk_drew ?_ | refine blk_alloc ?_ _)); refine blk_put (cs := #[.int .u32 t218, .int .u32 t219, .int .u32 t220, .int .u32 t221, .int .u32 t222, .int .u32 0, .int .u32 0, .int .u32 0, .slice none 0 0, .int .u64 0]) ?_ 5 _ rfl; (with_reducible repeat (first | refine blk_drewN ?_ _ | refine blk_drew ?_ | refine blk_alloc ?_ _)); refine blk_put (cs := #[.int .u32 t218, .int .u32 t219, .int .u32 t220, .int .u32 t221, .int .u32 0, .int .u32 0, .int .u32 0, .int .u32 0, .slice none 0 0, .int .u64 0]) ?_ 4 _ rfl; (with_reducible repeat (first | refine blk_drewN ?_ _ | refine blk_drew ?_ | refine blk_alloc ?_ _)); refine blk_put (cs := #[.int .u32 t218, .int .u32 t219, .int .u32 t220, .int .u32 0, .int .u32 0, .int .u32 0, .int .u32 0, .int .u32 0, .slice none 0 0, .int .u64 0]) ?_ 3 _ rfl; (with_reducible repeat (first | refine blk_drewN ?_ _ | refine blk_drew ?_ | refine blk_alloc ?_ _)); refine blk_put (cs := #[.int .u32 t218, .int .u32 t219, .int .u32 0, .int .u32 0, .int .u32 0, .int .u32 0, .int .u32 0, .int .u32 0, .slice none 0 0, .int .u64 0]) ?_ 2 _ rfl; (with_reducible repeat (first | refine blk_drewN ?_ _ | refine blk_drew ?_ | refine blk_alloc ?_ _)); refine blk_put (cs := #[.int .u32 t218, .int .u32 0, .int .u32 0, .int .u32 0, .int .u32 0, .int .u32 0, .int .u32 0, .int .u32 0, .slice none 0 0, .int .u64 0]) ?_ 1 _ rfl; (with_reducible repeat (first | refine blk_drewN ?_ _ | refine blk_drew ?_ | refine blk_alloc ?_ _)); refine blk_put (cs := #[.int .u32 0, .int .u32 0, .int .u32 0, .int .u32 0, .int .u32 0, .int .u32 0, .int .u32 0, .int .u32 0, .slice none 0 0, .int .u64 0]) ?_ 0 _ rfl; (with_reducible repeat (first | refine blk_drewN ?_ _ | refine blk_drew ?_ | refine blk_alloc ?_ _)); exact BK231.out⟩, ⟨by repeat (first | (with_reducible first | exact HB.out | apply below_alloc | apply pw_below_drewN | apply below_drew1 | refine below_set ?_ GE215.out | refine below_set ?_ GE231.out) | exact HB.out)⟩⟩
                case rest =>
                  clear HC16
                  try clear c1
                  try clear c2
                  try clear p2
                  try clear q2
                  try clear hx2
                  try clear c3
                  try clear c4
                  try clear c4b0
                  try clear c4b1
                  try clear c12
                  try clear c12b0
                  try clear c13
                  try clear c13b0
                  try clear c14
                  try clear c14b0
                  try clear c14b1
                  try clear c20
                  try clear c21
                  try clear p21
                  try clear q21
                  try clear hx21
                  try clear c26
                  try clear c33
                  try clear c33b0
                  try clear c33b1
                  try clear c34
                  try clear hcz10_0
                  try clear hcz10_1
                  try clear hcz10_2
                  try clear hcz10_3
                  try clear hcz10_4
                  try clear hcz10_5
                  try clear hcz10_6
                  try clear hcz10_7
                  try clear hcz10_8
                  try clear hcz10_9
                  try clear hcz35_0
                  try clear hcz35_1
                  try clear hcz35_2
                  try clear hcz35_3
                  try clear hcz35_4
                  try clear hcz35_5
                  try clear hcz35_6
                  try clear hcz35_7
                  try clear hcz35_8
                  try clear hcz35_9
                  try clear hfz10_0
                  try clear hfz10_1
                  try clear hfz10_2
                  try clear hfz10_3
                  try clear hfz10_4
                  try clear hfz10_5
                  try clear hfz10_6
                  try clear hfz10_7
                  try clear hfz10_8
                  try clear hfz10_9
                  try clear hfz35_0
                  try clear hfz35_1
                  try clear hfz35_2
                  try clear hfz35_3
                  try clear hfz35_4
                  try clear hfz35_5
                  try clear hfz35_6
                  try clear hfz35_7
                  try clear hfz35_8
                  try clear hfz35_9
                  try clear hx216_0
                  try clear hx217_0
                  try clear p2
                  try clear p216
                  try clear p217
                  try clear q216
                  try clear q217
                  obtain ⟨kq, x44_15, rfl, HA, HJ15, HO_4, HO_216008, HO_232008, BK215, BK231, HB⟩ := hcut
                  cases kq with
                  | zero => exact absurd HA.out (by simp [wristbandlaw02_ShaGoesOn.j1])
                  | succ kj15 =>
                    have H := HA.out
                    clear HA
                    simp only [wristbandlaw02_ShaGoesOn.j1] at H
                    by_cases c36 : x44_15 = true
                    · subst c36
                      have H1 : (some false) = some r := by rw [if_pos rfl] at H; exact H
                      clear H
                      have H := H1
                      clear H1
                      exact absurd (Option.some.inj H) (by rw [HR_.out]; decide)
                    · replace c36 := Bool.eq_false_iff.mpr c36
                      subst c36
                      have H1 : (if 0 ≤ x5_1 then (if x5_1 < (l0.length : Int) then (if x4_1.length + (rd_L2 l0 x5_1).length < 140737488355328 then ((some (x4_1 ++ (rd_L2 l0 x5_1) : List Int)).bind fun y233 => ((sha_End.f kj15 t218 t219 t220 t221 t222 t223 t224 t225 t226 t229).bind fun bt236 => (if bt236.2 = 0 then ((sha_Sum.f kj15 y233).bind fun t240 => (if (strOfNums bt236.1).toList = (strOfNums t240).toList then (if (bt236.1.length : Int) = 32 then (wristbandlaw02_ShaGoesOn.l0 kj15 l0 y233 (wrap64 (x5_1 + 1)) t218 t219 t220 t221 t222 t223 t224 t225 t226 t229) else (some false)) else (some false))) else (some false)))) else (none)) else (none)) else (none)) = some r := by rw [if_neg (show ¬ (false = true) by decide)] at H; exact H
                      clear H
                      have H := H1
                      clear H1
                      by_cases c37 : 0 ≤ x5_1
                      · rw [if_pos c37] at H
                        have c37b0 : decide (0 ≤ x5_1) = true := decide_eq_true c37
                        clear c37
                        by_cases c38 : x5_1 < (l0.length : Int)
                        · rw [if_pos c38] at H
                          have c38b0 : decide (x5_1 < (l0.length : Int)) = true := decide_eq_true c38
                          clear c38
                          by_cases c39 : x4_1.length + (rd_L2 l0 x5_1).length < 140737488355328
                          · rw [if_pos c39] at H
                            have LMc39 := Aside0.mk c39
                            clear c39
                            obtain ⟨y233, hy233⟩ : ∃ y_ : List Int, y_ = (x4_1 ++ (rd_L2 l0 x5_1)) := ⟨_, rfl⟩
                            replace H : ((sha_End.f kj15 t218 t219 t220 t221 t222 t223 t224 t225 t226 t229).bind fun bt236 => (if bt236.2 = 0 then ((sha_Sum.f kj15 y233).bind fun t240 => (if (strOfNums bt236.1).toList = (strOfNums t240).toList then (if (bt236.1.length : Int) = 32 then (wristbandlaw02_ShaGoesOn.l0 kj15 l0 y233 (wrap64 (x5_1 + 1)) t218 t219 t220 t221 t222 t223 t224 t225 t226 t229) else (some false)) else (some false))) else (some false))) = some r := by first | (rw [hy233]; with_reducible exact H) | (have H2_ := (Option.bind_some _ _).symm.trans H; rw [hy233]; with_reducible exact H2_) | (have H2_ := (Option.bind_some _ _).symm.trans H; with_reducible exact H2_) | with_reducible exact H | (rw [hy233]; exact H) | exact H
                            have Ny233 := Aside0.mk hy233
                            clear hy233
                            replace H := Option.bind_eq_some_iff.mp H
                            obtain ⟨⟨t236, t239⟩, A400, H⟩ := H
                            replace H : (if t239 = 0 then ((sha_Sum.f kj15 y233).bind fun t240 => (if (strOfNums t236).toList = (strOfNums t240).toList then (if (t236.length : Int) = 32 then (wristbandlaw02_ShaGoesOn.l0 kj15 l0 y233 (wrap64 (x5_1 + 1)) t218 t219 t220 t221 t222 t223 t224 t225 t226 t229) else (some false)) else (some false))) else (some false)) = some r := H
                            have A40 := Aside0.mk A400
                            clear A400
                            by_cases c41 : t239 = 0
                            · rw [if_pos c41] at H
                              have c41b0 : (t239 == 0) = true := beq_iff_eq.mpr c41
                              have c41b1 : (t239 != 0) = false := bne_eq_false_iff_eq.mpr c41
                              clear c41
                              replace H := Option.bind_eq_some_iff.mp H
                              obtain ⟨t240, A420, H⟩ := H
                              replace H : (if (strOfNums t236).toList = (strOfNums t240).toList then (if (t236.length : Int) = 32 then (wristbandlaw02_ShaGoesOn.l0 kj15 l0 y233 (wrap64 (x5_1 + 1)) t218 t219 t220 t221 t222 t223 t224 t225 t226 t229) else (some false)) else (some false)) = some r := H
                              have A42 := Aside0.mk A420
                              clear A420
                              by_cases c43 : (strOfNums t236).toList = (strOfNums t240).toList
                              · rw [if_pos c43] at H
                                have c43b0 : ((strOfNums t236).toList == (strOfNums t240).toList) = true := beq_iff_eq.mpr c43
                                have c43b1 : ((strOfNums t236).toList != (strOfNums t240).toList) = false := bne_eq_false_iff_eq.mpr c43
                                clear c43
                                by_cases c44 : (t236.length : Int) = 32
                                · rw [if_pos c44] at H
                                  have c44b0 : ((t236.length : Int) == 32) = true := beq_iff_eq.mpr c44
                                  have c44b1 : ((t236.length : Int) != 32) = false := bne_eq_false_iff_eq.mpr c44
                                  clear c44
                                  have H' := Aside0.mk H
                                  clear H
                                  have hnb45 := NB231_215.out
                                  have hnc45 := NB215_231.out
                                  have hcz46_0 : wc.cell? ⟨gb231, 0, none⟩ = some (.int .u32 t218) := (blk_cell BK231.out 0).trans rfl
                                  have hcz46_1 : wc.cell? ⟨gb231, 1, none⟩ = some (.int .u32 t219) := (blk_cell BK231.out 1).trans rfl
                                  have hcz46_2 : wc.cell? ⟨gb231, 2, none⟩ = some (.int .u32 t220) := (blk_cell BK231.out 2).trans rfl
                                  have hcz46_3 : wc.cell? ⟨gb231, 3, none⟩ = some (.int .u32 t221) := (blk_cell BK231.out 3).trans rfl
                                  have hcz46_4 : wc.cell? ⟨gb231, 4, none⟩ = some (.int .u32 t222) := (blk_cell BK231.out 4).trans rfl
                                  have hcz46_5 : wc.cell? ⟨gb231, 5, none⟩ = some (.int .u32 t223) := (blk_cell BK231.out 5).trans rfl
                                  have hcz46_6 : wc.cell? ⟨gb231, 6, none⟩ = some (.int .u32 t224) := (blk_cell BK231.out 6).trans rfl
                                  have hcz46_7 : wc.cell? ⟨gb231, 7, none⟩ = some (.int .u32 t225) := (blk_cell BK231.out 7).trans rfl
                                  have hcz46_8 : wc.cell? ⟨gb231, 8, none⟩ = some (.slice Ao30 t226.length co30) := (blk_cell BK231.out 8).trans rfl
                                  have hcz46_9 : wc.cell? ⟨gb231, 9, none⟩ = some (.int .u64 t229) := (blk_cell BK231.out 9).trans rfl
                                  have hfz46_0 := blk_frozen BK231.out 0
                                  have hfz46_1 := blk_frozen BK231.out 1
                                  have hfz46_2 := blk_frozen BK231.out 2
                                  have hfz46_3 := blk_frozen BK231.out 3
                                  have hfz46_4 := blk_frozen BK231.out 4
                                  have hfz46_5 := blk_frozen BK231.out 5
                                  have hfz46_6 := blk_frozen BK231.out 6
                                  have hfz46_7 := blk_frozen BK231.out 7
                                  have hfz46_8 := blk_frozen BK231.out 8
                                  have hfz46_9 := blk_frozen BK231.out 9
                                  have hcz47_0 : wc.cell? ⟨gb215, 0, none⟩ = some (.int .u32 x216000_1) := (blk_cell BK215.out 0).trans rfl
                                  have hcz47_1 : wc.cell? ⟨gb215, 1, none⟩ = some (.int .u32 x216001_1) := (blk_cell BK215.out 1).trans rfl
                                  have hcz47_2 : wc.cell? ⟨gb215, 2, none⟩ = some (.int .u32 x216002_1) := (blk_cell BK215.out 2).trans rfl
                                  have hcz47_3 : wc.cell? ⟨gb215, 3, none⟩ = some (.int .u32 x216003_1) := (blk_cell BK215.out 3).trans rfl
                                  have hcz47_4 : wc.cell? ⟨gb215, 4, none⟩ = some (.int .u32 x216004_1) := (blk_cell BK215.out 4).trans rfl
                                  have hcz47_5 : wc.cell? ⟨gb215, 5, none⟩ = some (.int .u32 x216005_1) := (blk_cell BK215.out 5).trans rfl
                                  have hcz47_6 : wc.cell? ⟨gb215, 6, none⟩ = some (.int .u32 x216006_1) := (blk_cell BK215.out 6).trans rfl
                                  have hcz47_7 : wc.cell? ⟨gb215, 7, none⟩ = some (.int .u32 x216007_1) := (blk_cell BK215.out 7).trans rfl
                                  have hcz47_8 : wc.cell? ⟨gb215, 8, none⟩ = some (.slice Ao17 x216008_1.length co17) := (blk_cell BK215.out 8).trans rfl
                                  have hcz47_9 : wc.cell? ⟨gb215, 9, none⟩ = some (.int .u64 x216009_1) := (blk_cell BK215.out 9).trans rfl
                                  have hfz47_0 := blk_frozen BK215.out 0
                                  have hfz47_1 := blk_frozen BK215.out 1
                                  have hfz47_2 := blk_frozen BK215.out 2
                                  have hfz47_3 := blk_frozen BK215.out 3
                                  have hfz47_4 := blk_frozen BK215.out 4
                                  have hfz47_5 := blk_frozen BK215.out 5
                                  have hfz47_6 := blk_frozen BK215.out 6
                                  have hfz47_7 := blk_frozen BK215.out 7
                                  have hfz47_8 := blk_frozen BK215.out 8
                                  have hfz47_9 := blk_frozen BK215.out 9
                                  have p232 : 0 ≤ (x5_1 : Int) := of_decide_eq_true (by first | (with_reducible assumption) | assumption)
                                  have q232 : x5_1 < (l0.length : Int) := of_decide_eq_true (by first | (with_reducible assumption) | assumption)
                                  obtain ⟨ad232, A232_0, c232_0, e232, hx232_0, hl232_0, hi232_0⟩ := at_L2 HR0.out x5_1 p232 q232
                                  obtain rfl : ad216 = ad232 := (by injection e232)
                                  have hn232_0 : ad216.block ≠ gb215 := Nat.ne_of_lt (Nat.lt_of_lt_of_le (by have := World.block_lt_of_cell? _ _ hx232_0; first | rwa [add_block] at this | exact this) GW215.out)
                                  have hn232_1 : ad216.block ≠ gb215 := Nat.ne_of_lt (Nat.lt_of_lt_of_le (by have := World.block_lt_of_cell? _ _ hx232_0; first | rwa [add_block] at this | exact this) GW215.out)
                                  have hn232_2 : ad216.block ≠ gb215 := Nat.ne_of_lt (Nat.lt_of_lt_of_le (by have := World.block_lt_of_cell? _ _ hx232_0; first | rwa [add_block] at this | exact this) GW215.out)
                                  have hn232_3 : ad216.block ≠ gb215 := Nat.ne_of_lt (Nat.lt_of_lt_of_le (by have := World.block_lt_of_cell? _ _ hx232_0; first | rwa [add_block] at this | exact this) GW215.out)
                                  have hn232_4 : ad216.block ≠ gb215 := Nat.ne_of_lt (Nat.lt_of_lt_of_le (by have := World.block_lt_of_cell? _ _ hx232_0; first | rwa [add_block] at this | exact this) GW215.out)
                                  have hn232_5 : ad216.block ≠ gb215 := Nat.ne_of_lt (Nat.lt_of_lt_of_le (by have := World.block_lt_of_cell? _ _ hx232_0; first | rwa [add_block] at this | exact this) GW215.out)
                                  have hn232_6 : ad216.block ≠ gb215 := Nat.ne_of_lt (Nat.lt_of_lt_of_le (by have := World.block_lt_of_cell? _ _ hx232_0; first | rwa [add_block] at this | exact this) GW215.out)
                                  have hn232_7 : ad216.block ≠ gb215 := Nat.ne_of_lt (Nat.lt_of_lt_of_le (by have := World.block_lt_of_cell? _ _ hx232_0; first | rwa [add_block] at this | exact this) GW215.out)
                                  have hn232_8 : ad216.block ≠ gb215 := Nat.ne_of_lt (Nat.lt_of_lt_of_le (by have := World.block_lt_of_cell? _ _ hx232_0; first | rwa [add_block] at this | exact this) GW215.out)
                                  have hn232_9 : ad216.block ≠ gb215 := Nat.ne_of_lt (Nat.lt_of_lt_of_le (by have := World.block_lt_of_cell? _ _ hx232_0; first | rwa [add_block] at this | exact this) GW215.out)
                                  replace hx232_0 := (HB.out.cell (World.block_lt_of_cell? w _ hx232_0)).trans hx232_0
                                  have HR232_0 := Aside0.mk hi232_0
                                  have HC232_0 := Aside0.mk hl232_0
                                  clear hi232_0 hl232_0
                                  replace hx232_0 := (cell_far (p := ⟨gb215, 0, none⟩) (by first | (rw [add_block]; exact hn232_0) | (show (Addr.add _ _).block ≠ _; rw [add_block]; exact hn232_0) | exact hn232_0) (.int .u32 t218)).trans hx232_0
                                  replace hx232_0 := (cell_far (p := ⟨gb215, 1, none⟩) (by first | (rw [add_block]; exact hn232_1) | (show (Addr.add _ _).block ≠ _; rw [add_block]; exact hn232_1) | exact hn232_1) (.int .u32 t219)).trans hx232_0
                                  replace hx232_0 := (cell_far (p := ⟨gb215, 2, none⟩) (by first | (rw [add_block]; exact hn232_2) | (show (Addr.add _ _).block ≠ _; rw [add_block]; exact hn232_2) | exact hn232_2) (.int .u32 t220)).trans hx232_0
                                  replace hx232_0 := (cell_far (p := ⟨gb215, 3, none⟩) (by first | (rw [add_block]; exact hn232_3) | (show (Addr.add _ _).block ≠ _; rw [add_block]; exact hn232_3) | exact hn232_3) (.int .u32 t221)).trans hx232_0
                                  replace hx232_0 := (cell_far (p := ⟨gb215, 4, none⟩) (by first | (rw [add_block]; exact hn232_4) | (show (Addr.add _ _).block ≠ _; rw [add_block]; exact hn232_4) | exact hn232_4) (.int .u32 t222)).trans hx232_0
                                  replace hx232_0 := (cell_far (p := ⟨gb215, 5, none⟩) (by first | (rw [add_block]; exact hn232_5) | (show (Addr.add _ _).block ≠ _; rw [add_block]; exact hn232_5) | exact hn232_5) (.int .u32 t223)).trans hx232_0
                                  replace hx232_0 := (cell_far (p := ⟨gb215, 6, none⟩) (by first | (rw [add_block]; exact hn232_6) | (show (Addr.add _ _).block ≠ _; rw [add_block]; exact hn232_6) | exact hn232_6) (.int .u32 t224)).trans hx232_0
                                  replace hx232_0 := (cell_far (p := ⟨gb215, 7, none⟩) (by first | (rw [add_block]; exact hn232_7) | (show (Addr.add _ _).block ≠ _; rw [add_block]; exact hn232_7) | exact hn232_7) (.int .u32 t225)).trans hx232_0
                                  replace hx232_0 := (cell_far (p := ⟨gb215, 8, none⟩) (by first | (rw [add_block]; exact hn232_8) | (show (Addr.add _ _).block ≠ _; rw [add_block]; exact hn232_8) | exact hn232_8) (.slice Ao30 t226.length co30)).trans hx232_0
                                  replace hx232_0 := (cell_far (p := ⟨gb215, 9, none⟩) (by first | (rw [add_block]; exact hn232_9) | (show (Addr.add _ _).block ≠ _; rw [add_block]; exact hn232_9) | exact hn232_9) (.int .u64 t229)).trans hx232_0
                                  clear hn232_0
                                  clear hn232_1
                                  clear hn232_2
                                  clear hn232_3
                                  clear hn232_4
                                  clear hn232_5
                                  clear hn232_6
                                  clear hn232_7
                                  clear hn232_8
                                  clear hn232_9
                                  replace p232 := eq_true p232
                                  replace q232 := eq_true q232
                                  try go_wp2_with (first | ((with_reducible refine gate_builtin (b := .append) (xs := #[.tmp 46, .tmp 50]) rfl ?_); (try (refine gate_guard (by rfl) ?_; dsimp only)); at_builtin; refine Kd.R_append_rows (Kd.int .u8) (w0 := w) w.heap.size rfl (.tmp 46) (.tmp 50) 24 5 (.int .u8 0) 1 rfl Tryd.underlying24 info5 rfl (by decide) (by omega) u4 x4_1 (rd_L2 l0 x5_1) _ _ _ (fun k_ => some k_ ≠ (.slice Ao17 x216008_1.length co17 : Value).ownBlock ∧ some k_ ≠ (.slice Ao30 t226.length co30 : Value).ownBlock) (fun _ => False) rfl rfl ?aO ?aR (fun _ _ h => h) (fun _ h => h.elim) ?aF ?aB ?aS ?aL ?_; (case aR => exact Kd.C_below HR232_0.out (by repeat (first | (with_reducible first | exact HB.out | apply below_alloc | apply pw_below_drewN | apply below_drew1 | refine below_set ?_ GE215.out | refine below_set ?_ GE231.out) | exact HB.out))); (case aB => exact (by repeat (first | (with_reducible first | exact HB.out | apply below_alloc | apply pw_below_drewN | apply below_drew1 | refine below_set ?_ GE215.out | refine below_set ?_ GE231.out) | exact HB.out))); (case aF => exact (fun k_ hk => ⟨Kd.fresh' (Kd.R_lt (by (with_reducible repeat (first | apply Kd.R_alloc | apply Kd.R_drewN | apply Kd.R_drew)); exact (Kd.R_mono (Kd.R_far (p := ⟨gb215, 9, none⟩) (Kd.R_far (p := ⟨gb215, 8, none⟩) (Kd.R_far (p := ⟨gb215, 7, none⟩) (Kd.R_far (p := ⟨gb215, 6, none⟩) (Kd.R_far (p := ⟨gb215, 5, none⟩) (Kd.R_far (p := ⟨gb215, 4, none⟩) (Kd.R_far (p := ⟨gb215, 3, none⟩) (Kd.R_far (p := ⟨gb215, 2, none⟩) (Kd.R_far (p := ⟨gb215, 1, none⟩) (Kd.R_far (p := ⟨gb215, 0, none⟩) (Kd.R_types HO_216008.out BK215.out (by decide)) (fun _ hk => hk.2) (.int .u32 t218)) (fun _ hk => hk.2) (.int .u32 t219)) (fun _ hk => hk.2) (.int .u32 t220)) (fun _ hk => hk.2) (.int .u32 t221)) (fun _ hk => hk.2) (.int .u32 t222)) (fun _ hk => hk.2) (.int .u32 t223)) (fun _ hk => hk.2) (.int .u32 t224)) (fun _ hk => hk.2) (.int .u32 t225)) (fun _ hk => hk.2) (.slice Ao30 t226.length co30)) (fun _ hk => hk.2) (.int .u64 t229)) (fun _ h_ => h_.1)))) k_ hk, Kd.fresh' (Kd.R_lt (by (with_reducible repeat (first | apply Kd.R_alloc | apply Kd.R_drewN | apply Kd.R_drew)); exact (Kd.R_mono (Kd.R_far (p := ⟨gb215, 9, none⟩) (Kd.R_far (p := ⟨gb215, 8, none⟩) (Kd.R_far (p := ⟨gb215, 7, none⟩) (Kd.R_far (p := ⟨gb215, 6, none⟩) (Kd.R_far (p := ⟨gb215, 5, none⟩) (Kd.R_far (p := ⟨gb215, 4, none⟩) (Kd.R_far (p := ⟨gb215, 3, none⟩) (Kd.R_far (p := ⟨gb215, 2, none⟩) (Kd.R_far (p := ⟨gb215, 1, none⟩) (Kd.R_far (p := ⟨gb215, 0, none⟩) (Kd.R_types HO_232008.out BK215.out (by decide)) (fun _ hk => hk.2) (.int .u32 t218)) (fun _ hk => hk.2) (.int .u32 t219)) (fun _ hk => hk.2) (.int .u32 t220)) (fun _ hk => hk.2) (.int .u32 t221)) (fun _ hk => hk.2) (.int .u32 t222)) (fun _ hk => hk.2) (.int .u32 t223)) (fun _ hk => hk.2) (.int .u32 t224)) (fun _ hk => hk.2) (.int .u32 t225)) (fun _ hk => hk.2) (.slice Ao30 t226.length co30)) (fun _ hk => hk.2) (.int .u64 t229)) (fun _ h_ => h_.1)))) k_ hk⟩)); (case aO => exact (by (with_reducible repeat (first | apply Kd.R_alloc | apply Kd.R_drewN | apply Kd.R_drew)); exact Kd.R_mono (Kd.R_far (p := ⟨gb215, 9, none⟩) (Kd.R_far (p := ⟨gb215, 8, none⟩) (Kd.R_far (p := ⟨gb215, 7, none⟩) (Kd.R_far (p := ⟨gb215, 6, none⟩) (Kd.R_far (p := ⟨gb215, 5, none⟩) (Kd.R_far (p := ⟨gb215, 4, none⟩) (Kd.R_far (p := ⟨gb215, 3, none⟩) (Kd.R_far (p := ⟨gb215, 2, none⟩) (Kd.R_far (p := ⟨gb215, 1, none⟩) (Kd.R_far (p := ⟨gb215, 0, none⟩) (Kd.R_types HO_4.out BK215.out (by decide)) (fun _ hk => hk.2) (.int .u32 t218)) (fun _ hk => hk.2) (.int .u32 t219)) (fun _ hk => hk.2) (.int .u32 t220)) (fun _ hk => hk.2) (.int .u32 t221)) (fun _ hk => hk.2) (.int .u32 t222)) (fun _ hk => hk.2) (.int .u32 t223)) (fun _ hk => hk.2) (.int .u32 t224)) (fun _ hk => hk.2) (.int .u32 t225)) (fun _ hk => hk.2) (.slice Ao30 t226.length co30)) (fun _ hk => hk.2) (.int .u64 t229)) (fun _ hk => ⟨hk.1.1, hk.1.2⟩))); (case aS => exact (below_size (by repeat (first | (with_reducible first | exact HB.out | apply below_alloc | apply pw_below_drewN | apply below_drew1 | refine below_set ?_ GE215.out | refine below_set ?_ GE231.out) | exact HB.out)))); (case aL => have := LMc39.out; omega); intro v234 w48 ho hb hg hat; rw [← Ny233.out] at ho; have n0_ := Aside0.mk (Kd.R_after (ok := (fun k_ => some k_ ≠ (.slice Ao30 t226.length co30 : Value).ownBlock)) (by (with_reducible repeat (first | apply Kd.R_alloc | apply Kd.R_drewN | apply Kd.R_drew)); exact Kd.R_mono (Kd.R_far (p := ⟨gb215, 9, none⟩) (Kd.R_far (p := ⟨gb215, 8, none⟩) (Kd.R_far (p := ⟨gb215, 7, none⟩) (Kd.R_far (p := ⟨gb215, 6, none⟩) (Kd.R_far (p := ⟨gb215, 5, none⟩) (Kd.R_far (p := ⟨gb215, 4, none⟩) (Kd.R_far (p := ⟨gb215, 3, none⟩) (Kd.R_far (p := ⟨gb215, 2, none⟩) (Kd.R_far (p := ⟨gb215, 1, none⟩) (Kd.R_far (p := ⟨gb215, 0, none⟩) (Kd.R_types HO_216008.out BK215.out (by decide)) (fun _ hk => hk.2) (.int .u32 t218)) (fun _ hk => hk.2) (.int .u32 t219)) (fun _ hk => hk.2) (.int .u32 t220)) (fun _ hk => hk.2) (.int .u32 t221)) (fun _ hk => hk.2) (.int .u32 t222)) (fun _ hk => hk.2) (.int .u32 t223)) (fun _ hk => hk.2) (.int .u32 t224)) (fun _ hk => hk.2) (.int .u32 t225)) (fun _ hk => hk.2) (.slice Ao30 t226.length co30)) (fun _ hk => hk.2) (.int .u64 t229)) (fun _ hk => ⟨hk.1.2, hk.1.1⟩)) hg hat); have n1_ := Aside0.mk (Kd.R_after (ok := (fun k_ => some k_ ≠ (.slice Ao17 x216008_1.length co17 : Value).ownBlock)) (by (with_reducible repeat (first | apply Kd.R_alloc | apply Kd.R_drewN | apply Kd.R_drew)); exact Kd.R_mono (Kd.R_far (p := ⟨gb215, 9, none⟩) (Kd.R_far (p := ⟨gb215, 8, none⟩) (Kd.R_far (p := ⟨gb215, 7, none⟩) (Kd.R_far (p := ⟨gb215, 6, none⟩) (Kd.R_far (p := ⟨gb215, 5, none⟩) (Kd.R_far (p := ⟨gb215, 4, none⟩) (Kd.R_far (p := ⟨gb215, 3, none⟩) (Kd.R_far (p := ⟨gb215, 2, none⟩) (Kd.R_far (p := ⟨gb215, 1, none⟩) (Kd.R_far (p := ⟨gb215, 0, none⟩) (Kd.R_types HO_232008.out BK215.out (by decide)) (fun _ hk => hk.2) (.int .u32 t218)) (fun _ hk => hk.2) (.int .u32 t219)) (fun _ hk => hk.2) (.int .u32 t220)) (fun _ hk => hk.2) (.int .u32 t221)) (fun _ hk => hk.2) (.int .u32 t222)) (fun _ hk => hk.2) (.int .u32 t223)) (fun _ hk => hk.2) (.int .u32 t224)) (fun _ hk => hk.2) (.int .u32 t225)) (fun _ hk => hk.2) (.slice Ao30 t226.length co30)) (fun _ hk => hk.2) (.int .u64 t229)) (fun _ hk => ⟨hk.1.2, hk.1.1⟩)) hg hat); have n2_ := Aside0.mk (blk_grown (g := gb215) (o := .cells #[.int .u32 t218, .int .u32 t219, .int .u32 t220, .int .u32 t221, .int .u32 t222, .int .u32 t223, .int .u32 t224, .int .u32 t225, .slice Ao30 t226.length co30, .int .u64 t229] 27 (0, 0)) (by (with_reducible repeat (first | refine blk_drewN ?_ _ | refine blk_drew ?_ | refine blk_alloc ?_ _)); refine blk_put (cs := #[.int .u32 t218, .int .u32 t219, .int .u32 t220, .int .u32 t221, .int .u32 t222, .int .u32 t223, .int .u32 t224, .int .u32 t225, .slice Ao30 t226.length co30, .int .u64 x216009_1]) ?_ 9 _ rfl; (with_reducible repeat (first | refine blk_drewN ?_ _ | refine blk_drew ?_ | refine blk_alloc ?_ _)); refine blk_put (cs := #[.int .u32 t218, .int .u32 t219, .int .u32 t220, .int .u32 t221, .int .u32 t222, .int .u32 t223, .int .u32 t224, .int .u32 t225, .slice Ao17 x216008_1.length co17, .int .u64 x216009_1]) ?_ 8 _ rfl; (with_reducible repeat (first | refine blk_drewN ?_ _ | refine blk_drew ?_ | refine blk_alloc ?_ _)); refine blk_put (cs := #[.int .u32 t218, .int .u32 t219, .int .u32 t220, .int .u32 t221, .int .u32 t222, .int .u32 t223, .int .u32 t224, .int .u32 x216007_1, .slice Ao17 x216008_1.length co17, .int .u64 x216009_1]) ?_ 7 _ rfl; (with_reducible repeat (first | refine blk_drewN ?_ _ | refine blk_drew ?_ | refine blk_alloc ?_ _)); refine blk_put (cs := #[.int .u32 t218, .int .u32 t219, .int .u32 t220, .int .u32 t221, .int .u32 t222, .int .u32 t223, .int .u32 x216006_1, .int .u32 x216007_1, .slice Ao17 x216008_1.length co17, .int .u64 x216009_1]) ?_ 6 _ rfl; (with_reducible repeat (first | refine blk_drewN ?_ _ | refine blk_drew ?_ | refine blk_alloc ?_ _)); refine blk_put (cs := #[.int .u32 t218, .int .u32 t219, .int .u32 t220, .int .u32 t221, .int .u32 t222, .int .u32 x216005_1, .int .u32 x216006_1, .int .u32 x216007_1, .slice Ao17 x216008_1.length co17, .int .u64 x216009_1]) ?_ 5 _ rfl; (with_reducible repeat (first | refine blk_drewN ?_ _ | refine blk_drew ?_ | refine blk_alloc ?_ _)); refine blk_put (cs := #[.int .u32 t218, .int .u32 t219, .int .u32 t220, .int .u32 t221, .int .u32 x216004_1, .int .u32 x216005_1, .int .u32 x216006_1, .int .u32 x216007_1, .slice Ao17 x216008_1.length co17, .int .u64 x216009_1]) ?_ 4 _ rfl; (with_reducible repeat (first | refine blk_drewN ?_ _ | refine blk_drew ?_ | refine blk_alloc ?_ _)); refine blk_put (cs := #[.int .u32 t218, .int .u32 t219, .int .u32 t220, .int .u32 x216003_1, .int .u32 x216004_1, .int .u32 x216005_1, .int .u32 x216006_1, .int .u32 x216007_1, .slice Ao17 x216008_1.length co17, .int .u64 x216009_1]) ?_ 3 _ rfl; (with_reducible repeat (first | refine blk_drewN ?_ _ | refine blk_drew ?_ | refine blk_alloc ?_ _)); refine blk_put (cs := #[.int .u32 t218, .int .u32 t219, .int .u32 x216002_1, .int .u32 x216003_1, .int .u32 x216004_1, .int .u32 x216005_1, .int .u32 x216006_1, .int .u32 x216007_1, .slice Ao17 x216008_1.length co17, .int .u64 x216009_1]) ?_ 2 _ rfl; (with_reducible repeat (first | refine blk_drewN ?_ _ | refine blk_drew ?_ | refine blk_alloc ?_ _)); refine blk_put (cs := #[.int .u32 t218, .int .u32 x216001_1, .int .u32 x216002_1, .int .u32 x216003_1, .int .u32 x216004_1, .int .u32 x216005_1, .int .u32 x216006_1, .int .u32 x216007_1, .slice Ao17 x216008_1.length co17, .int .u64 x216009_1]) ?_ 1 _ rfl; (with_reducible repeat (first | refine blk_drewN ?_ _ | refine blk_drew ?_ | refine blk_alloc ?_ _)); refine blk_put (cs := #[.int .u32 x216000_1, .int .u32 x216001_1, .int .u32 x216002_1, .int .u32 x216003_1, .int .u32 x216004_1, .int .u32 x216005_1, .int .u32 x216006_1, .int .u32 x216007_1, .slice Ao17 x216008_1.length co17, .int .u64 x216009_1]) ?_ 0 _ rfl; (with_reducible repeat (first | refine blk_drewN ?_ _ | refine blk_drew ?_ | refine blk_alloc ?_ _)); exact BK215.out) hg (Kd.R_ne HO_4.out BK215.out (by decide))); have n3_ := Aside0.mk (blk_grown (g := gb231) (o := .cells #[.int .u32 t218, .int .u32 t219, .int .u32 t220, .int .u32 t221, .int .u32 t222, .int .u32 t223, .int .u32 t224, .int .u32 t225, .slice Ao30 t226.length co30, .int .u64 t229] 27 (0, 0)) (by (with_reducible repeat (first | refine blk_drewN ?_ _ | refine blk_drew ?_ | refine blk_alloc ?_ _)); refine blk_far ?_ NB231_215.out _; (with_reducible repeat (first | refine blk_drewN ?_ _ | refine blk_drew ?_ | refine blk_alloc ?_ _)); refine blk_far ?_ NB231_215.out _; (with_reducible repeat (first | refine blk_drewN ?_ _ | refine blk_drew ?_ | refine blk_alloc ?_ _)); refine blk_far ?_ NB231_215.out _; (with_reducible repeat (first | refine blk_drewN ?_ _ | refine blk_drew ?_ | refine blk_alloc ?_ _)); refine blk_far ?_ NB231_215.out _; (with_reducible repeat (first | refine blk_drewN ?_ _ | refine blk_drew ?_ | refine blk_alloc ?_ _)); refine blk_far ?_ NB231_215.out _; (with_reducible repeat (first | refine blk_drewN ?_ _ | refine blk_drew ?_ | refine blk_alloc ?_ _)); refine blk_far ?_ NB231_215.out _; (with_reducible repeat (first | refine blk_drewN ?_ _ | refine blk_drew ?_ | refine blk_alloc ?_ _)); refine blk_far ?_ NB231_215.out _; (with_reducible repeat (first | refine blk_drewN ?_ _ | refine blk_drew ?_ | refine blk_alloc ?_ _)); refine blk_far ?_ NB231_215.out _; (with_reducible repeat (first | refine blk_drewN ?_ _ | refine blk_drew ?_ | refine blk_alloc ?_ _)); refine blk_far ?_ NB231_215.out _; (with_reducible repeat (first | refine blk_drewN ?_ _ | refine blk_drew ?_ | refine blk_alloc ?_ _)); refine blk_far ?_ NB231_215.out _; (with_reducible repeat (first | refine blk_drewN ?_ _ | refine blk_drew ?_ | refine blk_alloc ?_ _)); exact BK231.out) hg (Kd.R_ne HO_4.out BK231.out (by decide))); have n4_ := Aside0.mk (hb); have n5_ := Aside0.mk (ho); clear HO_216008; clear HO_232008; clear BK215; clear BK231; clear HB; clear HO_4; have HO_216008 := n0_; have HO_232008 := n1_; have BK215 := n2_; have BK231 := n3_; have HB := n4_; have HO235 := n5_; clear n0_ n1_ n2_ n3_ n4_ n5_; clear ho hb hg hat; have hcz49_0 : w48.cell? ⟨gb215, 0, none⟩ = some (.int .u32 t218) := (blk_cell BK215.out 0).trans rfl; have hcz49_1 : w48.cell? ⟨gb215, 1, none⟩ = some (.int .u32 t219) := (blk_cell BK215.out 1).trans rfl; have hcz49_2 : w48.cell? ⟨gb215, 2, none⟩ = some (.int .u32 t220) := (blk_cell BK215.out 2).trans rfl; have hcz49_3 : w48.cell? ⟨gb215, 3, none⟩ = some (.int .u32 t221) := (blk_cell BK215.out 3).trans rfl; have hcz49_4 : w48.cell? ⟨gb215, 4, none⟩ = some (.int .u32 t222) := (blk_cell BK215.out 4).trans rfl; have hcz49_5 : w48.cell? ⟨gb215, 5, none⟩ = some (.int .u32 t223) := (blk_cell BK215.out 5).trans rfl; have hcz49_6 : w48.cell? ⟨gb215, 6, none⟩ = some (.int .u32 t224) := (blk_cell BK215.out 6).trans rfl; have hcz49_7 : w48.cell? ⟨gb215, 7, none⟩ = some (.int .u32 t225) := (blk_cell BK215.out 7).trans rfl; have hcz49_8 : w48.cell? ⟨gb215, 8, none⟩ = some (.slice Ao30 t226.length co30) := (blk_cell BK215.out 8).trans rfl; have hcz49_9 : w48.cell? ⟨gb215, 9, none⟩ = some (.int .u64 t229) := (blk_cell BK215.out 9).trans rfl; have hfz49_0 := blk_frozen BK215.out 0; have hfz49_1 := blk_frozen BK215.out 1; have hfz49_2 := blk_frozen BK215.out 2; have hfz49_3 := blk_frozen BK215.out 3; have hfz49_4 := blk_frozen BK215.out 4; have hfz49_5 := blk_frozen BK215.out 5; have hfz49_6 := blk_frozen BK215.out 6; have hfz49_7 := blk_frozen BK215.out 7; have hfz49_8 := blk_frozen BK215.out 8; have hfz49_9 := blk_frozen BK215.out 9) | ((with_reducible refine gate_callee (f := 21) rfl ?_); refine goesL_ (some 54) rfl rfl Tryd.func21 (by kernel_rfl) rfl #[.agg #[.int .u32 t218, .int .u32 t219, .int .u32 t220, .int .u32 t221, .int .u32 t222, .int .u32 t223, .int .u32 t224, .int .u32 t225, .slice Ao30 t226.length co30, .int .u64 t229]] rfl (by (try simp only [List.map_toArray, List.map_cons, List.map_nil]); first | done | rfl | (simp only [List.length_drop, List.length_take]; rfl)) ?_; (with_reducible refine (sha_End.calls kj15 t218 t219 t220 t221 t222 t223 t224 t225 _ _ t226 t229 t236 t239 _ ?side1 ?side2 ?side3 ?side4 A40.out).mono ?_); (case side1 => repeat (first | exact (Kd.R_reads' HO_232008.out).2.2 | (with_reducible refine Kd.C_alloc ?_ _) | (with_reducible refine Kd.C_drewN ?_ _) | (with_reducible refine Kd.C_drew ?_))); (case side2 => exact (Kd.R_reads' HO_232008.out).2.1); (case side3 => repeat (first | exact (Kd.C_below HRL0_.out HB.out) | (with_reducible refine Kd.C_alloc ?_ _) | (with_reducible refine Kd.C_drewN ?_ _) | (with_reducible refine Kd.C_drew ?_))); (case side4 => repeat (first | exact (Kd.C_below HRL1_.out HB.out) | (with_reducible refine Kd.C_alloc ?_ _) | (with_reducible refine Kd.C_drewN ?_ _) | (with_reducible refine Kd.C_drew ?_))); rintro e w50 ⟨v237, rfl, ho0, hb⟩; refine ⟨_, rfl, ?_⟩; have n0_ := Aside0.mk (Kd.R_elder' (by (with_reducible repeat (first | apply Kd.R_alloc | apply Kd.R_drewN | apply Kd.R_drew)); exact HO_216008.out) (Kd.R_base ho0) hb); have n1_ := Aside0.mk (Kd.R_elder' (by (with_reducible repeat (first | apply Kd.R_alloc | apply Kd.R_drewN | apply Kd.R_drew)); exact HO_232008.out) (Kd.R_base ho0) hb); have n2_ := Aside0.mk (Kd.R_elder' (by (with_reducible repeat (first | apply Kd.R_alloc | apply Kd.R_drewN | apply Kd.R_drew)); exact HO235.out) (Kd.R_base ho0) hb); have n3_ := Aside0.mk (Kd.R_lower (Kd.R_new' (Kd.R_new' (Kd.R_new' ho0 (Kd.R_lt (by (with_reducible repeat (first | apply Kd.R_alloc | apply Kd.R_drewN | apply Kd.R_drew)); exact HO_216008.out))) (Kd.R_lt (by (with_reducible repeat (first | apply Kd.R_alloc | apply Kd.R_drewN | apply Kd.R_drew)); exact HO_232008.out))) (Kd.R_lt (by (with_reducible repeat (first | apply Kd.R_alloc | apply Kd.R_drewN | apply Kd.R_drew)); exact HO235.out))) (below_size (by repeat (first | (with_reducible first | exact HB.out | apply below_alloc | apply pw_below_drewN | apply below_drew1 | refine below_set ?_ GE215.out | refine below_set ?_ GE231.out) | exact HB.out)))); have n4_ := Aside0.mk (blk_below (g := gb215) (o := .cells #[.int .u32 t218, .int .u32 t219, .int .u32 t220, .int .u32 t221, .int .u32 t222, .int .u32 t223, .int .u32 t224, .int .u32 t225, .slice Ao30 t226.length co30, .int .u64 t229] 27 (0, 0)) (by (with_reducible repeat (first | refine blk_drewN ?_ _ | refine blk_drew ?_ | refine blk_alloc ?_ _)); exact BK215.out) hb); have n5_ := Aside0.mk (blk_below (g := gb231) (o := .cells #[.int .u32 t218, .int .u32 t219, .int .u32 t220, .int .u32 t221, .int .u32 t222, .int .u32 t223, .int .u32 t224, .int .u32 t225, .slice Ao30 t226.length co30, .int .u64 t229] 27 (0, 0)) (by (with_reducible repeat (first | refine blk_drewN ?_ _ | refine blk_drew ?_ | refine blk_alloc ?_ _)); exact BK231.out) hb); have n6_ := Aside0.mk (below_step (by repeat (first | (with_reducible first | exact HB.out | apply below_alloc | apply pw_below_drewN | apply below_drew1 | refine below_set ?_ GE215.out | refine below_set ?_ GE231.out) | exact HB.out)) hb); clear HO_216008; clear HO_232008; clear HO235; clear BK215; clear BK231; clear HB; have HO_216008 := n0_; have HO_232008 := n1_; have HO235 := n2_; have HO238 := n3_; have BK215 := n4_; have BK231 := n5_; have HB := n6_; clear n0_ n1_ n2_ n3_ n4_ n5_ n6_; (try clear hb); (try clear hb2); (try clear hk); (try clear hi); (try clear ho0); obtain ⟨Ao51, co51, eo51⟩ := Kd.R_slice HO235.out; subst eo51; obtain ⟨Ao52, co52, eo52⟩ := Kd.R_slice HO238.out; subst eo52))
                                  have n0_ := Aside0.mk (Kd.R_drew HO_216008.out)
                                  have n1_ := Aside0.mk (Kd.R_drew HO_232008.out)
                                  have n2_ := Aside0.mk (Kd.R_drew HO235.out)
                                  have n3_ := Aside0.mk (Kd.R_drew HO238.out)
                                  have n4_ := Aside0.mk (blk_drew BK215.out)
                                  have n5_ := Aside0.mk (blk_drew BK231.out)
                                  have n6_ := Aside0.mk (below_drew1 HB.out)
                                  clear HO_216008
                                  clear HO_232008
                                  clear HO235
                                  clear HO238
                                  clear BK215
                                  clear BK231
                                  clear HB
                                  have HO_216008 := n0_
                                  have HO_232008 := n1_
                                  have HO235 := n2_
                                  have HO238 := n3_
                                  have BK215 := n4_
                                  have BK231 := n5_
                                  have HB := n6_
                                  clear n0_ n1_ n2_ n3_ n4_ n5_ n6_
                                  refine start_ (n := 15) (S := fun w' => True) (ds := []) #[false, false, false, false, false, false, false, false, false, false, false, false, false, false, false] (by kernel_rfl) rfl rfl trivial (fun hHeld => ?_); refine with_tabW wristbandlaw02_ShaGoesOn.tab18 wristbandlaw02_ShaGoesOn.bits18 (fun HT_ HW_ => ?_)
                                  generalize w50.drew = w53 at HO_216008 HO_232008 HO235 HO238 BK215 BK231 HB hHeld ⊢
                                  refine pure_ (i := 0) (N := some 57) (v := ?_) (a' := ?_) #[true, false, false, false, false, false, false, false, false, false, false, false, false, false, false] rfl rfl (any_of HT_.out (by kernel_rfl)) (fun _ _ _ h => h) (Or.inl ⟨by rfl, ?_⟩) ?_ ?_
                                  rotate_left
                                  · intro w'
                                    go_simp
                                    with_reducible rfl
                                  rotate_left
                                  · simp only [Act.put, List.setIfInBounds_toArray, List.set_cons_zero, List.set_cons_succ, i64_w, i32_w]
                                    rfl
                                  refine pure_ (i := 1) (N := some 58) (v := ?_) (a' := ?_) #[true, true, false, false, false, false, false, false, false, false, false, false, false, false, false] rfl rfl (any_of HT_.out (by kernel_rfl)) (fun _ _ _ h => h) (Or.inl ⟨by rfl, ?_⟩) ?_ ?_
                                  rotate_left
                                  · intro w'
                                    go_simp
                                    with_reducible rfl
                                  rotate_left
                                  · simp only [Act.put, List.setIfInBounds_toArray, List.set_cons_zero, List.set_cons_succ, i64_w, i32_w]
                                    rfl
                                  refine pure_ (i := 2) (N := some 59) (v := ?_) (a' := ?_) #[true, true, true, false, false, false, false, false, false, false, false, false, false, false, false] rfl rfl (any_of HT_.out (by kernel_rfl)) (fun _ _ _ h => h) (Or.inl ⟨by rfl, ?_⟩) ?_ ?_
                                  rotate_left
                                  · intro w'
                                    go_simp
                                    with_reducible rfl
                                  rotate_left
                                  · simp only [Act.put, List.setIfInBounds_toArray, List.set_cons_zero, List.set_cons_succ, i64_w, i32_w]
                                    rfl
                                  refine pure_ (i := 3) (N := some 60) (v := ?_) (a' := ?_) #[true, true, true, true, false, false, false, false, false, false, false, false, false, false, false] rfl rfl (any_of HT_.out (by kernel_rfl)) (fun _ _ _ h => h) (Or.inl ⟨by rfl, ?_⟩) ?_ ?_
                                  rotate_left
                                  · intro w'
                                    go_simp
                                    with_reducible rfl
                                  rotate_left
                                  · simp only [Act.put, List.setIfInBounds_toArray, List.set_cons_zero, List.set_cons_succ, i64_w, i32_w]
                                    rfl
                                  refine pure_ (i := 5) (N := some 62) (v := ?_) (a' := ?_) #[true, true, true, true, false, true, false, false, false, false, false, false, false, false, false] rfl rfl (any_of HT_.out (by kernel_rfl)) (fun _ _ _ h => h) (Or.inl ⟨by rfl, ?_⟩) ?_ ?_
                                  rotate_left
                                  · intro w'
                                    go_simp
                                    with_reducible rfl
                                  rotate_left
                                  · simp only [Act.put, List.setIfInBounds_toArray, List.set_cons_zero, List.set_cons_succ, i64_w, i32_w]
                                    rfl
                                  refine join_ (σ := Value) 7 #[true, true, true, true, true, true, true, true, false, false, false, false, false, false, false] (fun s_ => [(61, .string (strOfNums t236)), (63, s_), (64, .string (strOfNums t240))]) (fun s_ w' => (Kd.R (Kd.int .u8) 5 w' w.heap.size (fun k_ => some k_ ≠ (.slice Ao52 t236.length co52 : Value).ownBlock ∧ some k_ ≠ (s_ : Value).ownBlock ∧ some k_ ≠ (.slice Ao17 x216008_1.length co17 : Value).ownBlock ∧ some k_ ≠ (.slice Ao30 t226.length co30 : Value).ownBlock) (.slice Ao51 y233.length co51) y233) ∧ (Kd.R (Kd.int .u8) 5 w' w.heap.size (fun k_ => some k_ ≠ (.slice Ao51 y233.length co51 : Value).ownBlock ∧ some k_ ≠ (s_ : Value).ownBlock ∧ some k_ ≠ (.slice Ao17 x216008_1.length co17 : Value).ownBlock ∧ some k_ ≠ (.slice Ao30 t226.length co30 : Value).ownBlock) (.slice Ao52 t236.length co52) t236) ∧ (Kd.R (Kd.int .u8) 5 w' w.heap.size (fun k_ => some k_ ≠ (.slice Ao51 y233.length co51 : Value).ownBlock ∧ some k_ ≠ (.slice Ao52 t236.length co52 : Value).ownBlock ∧ some k_ ≠ (.slice Ao17 x216008_1.length co17 : Value).ownBlock ∧ some k_ ≠ (.slice Ao30 t226.length co30 : Value).ownBlock) s_ t240) ∧ (Kd.R (Kd.int .u8) 5 w' w.heap.size (fun k_ => some k_ ≠ (.slice Ao51 y233.length co51 : Value).ownBlock ∧ some k_ ≠ (.slice Ao52 t236.length co52 : Value).ownBlock ∧ some k_ ≠ (s_ : Value).ownBlock ∧ some k_ ≠ (.slice Ao30 t226.length co30 : Value).ownBlock) (.slice Ao17 x216008_1.length co17) x216008_1) ∧ (Kd.R (Kd.int .u8) 5 w' w.heap.size (fun k_ => some k_ ≠ (.slice Ao51 y233.length co51 : Value).ownBlock ∧ some k_ ≠ (.slice Ao52 t236.length co52 : Value).ownBlock ∧ some k_ ≠ (s_ : Value).ownBlock ∧ some k_ ≠ (.slice Ao17 x216008_1.length co17 : Value).ownBlock) (.slice Ao30 t226.length co30) t226) ∧ (w'.heap[gb215]? = some (.cells #[.int .u32 t218, .int .u32 t219, .int .u32 t220, .int .u32 t221, .int .u32 t222, .int .u32 t223, .int .u32 t224, .int .u32 t225, .slice Ao30 t226.length co30, .int .u64 t229] 27 (0, 0))) ∧ (w'.heap[gb231]? = some (.cells #[.int .u32 t218, .int .u32 t219, .int .u32 t220, .int .u32 t221, .int .u32 t222, .int .u32 t223, .int .u32 t224, .int .u32 t225, .slice Ao30 t226.length co30, .int .u64 t229] 27 (0, 0))) ∧ (Below w.heap.size w w')) ?_ ?_
                                  rotate_left
                                  · intro hCont
                                    refine two_ (i := 4) (j := 6) (Ni := some 61) (Nj := some 63) #[true, true, true, true, true, true, false, false, false, false, false, false, false, false, false] #[true, true, true, true, false, true, true, false, false, false, false, false, false, false, false] rfl rfl rfl rfl (two_of HT_.out (by kernel_rfl)) (by decide) (by decide) (fun K hK => ?_) (fun K hK => ?_)
                                    · skip
                                      refine str_step (src := 24) (dst := 9) (x := .tmp 60) ?hw ?ho ?hx (Kd.C_string (P := Tryd.prog) (A := Ao52) (c := co52) Tryd.underlying24 Tryd.underlying5 Tryd.underlying9 (Kd.R_reads' (by (with_reducible repeat (first | apply Kd.R_alloc | apply Kd.R_drewN | apply Kd.R_drew)); exact HO238.out)).2.2) ?_
                                      case ho => rfl
                                      case hw => first | rfl | (simp [Region.wanted, yielded, *]; done)
                                      case hx => first | rfl | (simp only [Act.eval, Array.getD_eq_getD_getElem?, Option.getD_some, e60]; done)
                                      intro w54 hb
                                      have n0_ := Aside0.mk (Kd.R_below (by (with_reducible repeat (first | apply Kd.R_alloc | apply Kd.R_drewN | apply Kd.R_drew)); exact HO_216008.out) hb)
                                      have n1_ := Aside0.mk (Kd.R_below (by (with_reducible repeat (first | apply Kd.R_alloc | apply Kd.R_drewN | apply Kd.R_drew)); exact HO_232008.out) hb)
                                      have n2_ := Aside0.mk (Kd.R_below (by (with_reducible repeat (first | apply Kd.R_alloc | apply Kd.R_drewN | apply Kd.R_drew)); exact HO235.out) hb)
                                      have n3_ := Aside0.mk (Kd.R_below (by (with_reducible repeat (first | apply Kd.R_alloc | apply Kd.R_drewN | apply Kd.R_drew)); exact HO238.out) hb)
                                      have n4_ := Aside0.mk (blk_below (g := gb215) (o := .cells #[.int .u32 t218, .int .u32 t219, .int .u32 t220, .int .u32 t221, .int .u32 t222, .int .u32 t223, .int .u32 t224, .int .u32 t225, .slice Ao30 t226.length co30, .int .u64 t229] 27 (0, 0)) (by (with_reducible repeat (first | refine blk_drewN ?_ _ | refine blk_drew ?_ | refine blk_alloc ?_ _)); exact BK215.out) hb)
                                      have n5_ := Aside0.mk (blk_below (g := gb231) (o := .cells #[.int .u32 t218, .int .u32 t219, .int .u32 t220, .int .u32 t221, .int .u32 t222, .int .u32 t223, .int .u32 t224, .int .u32 t225, .slice Ao30 t226.length co30, .int .u64 t229] 27 (0, 0)) (by (with_reducible repeat (first | refine blk_drewN ?_ _ | refine blk_drew ?_ | refine blk_alloc ?_ _)); exact BK231.out) hb)
                                      have n6_ := Aside0.mk (below_step (by repeat (first | (with_reducible first | exact HB.out | apply below_alloc | apply pw_below_drewN | apply below_drew1 | refine below_set ?_ GE215.out | refine below_set ?_ GE231.out) | exact HB.out)) hb)
                                      clear HO_216008
                                      clear HO_232008
                                      clear HO235
                                      clear HO238
                                      clear BK215
                                      clear BK231
                                      clear HB
                                      have HO_216008 := n0_
                                      have HO_232008 := n1_
                                      have HO235 := n2_
                                      have HO238 := n3_
                                      have BK215 := n4_
                                      have BK231 := n5_
                                      have HB := n6_
                                      clear n0_ n1_ n2_ n3_ n4_ n5_ n6_
                                      (try clear hb)
                                      refine hK.out _ _ trivial (fun hHeld => ?_)
                                      clear hK K
                                      refine norm_ (a' := ?_) ?_ ?_
                                      rotate_left
                                      · show Act.put _ (some 61) _ = _
                                        simp only [Act.put, List.setIfInBounds_toArray, List.set_cons_zero, List.set_cons_succ, i64_w, i32_w]
                                        rfl
                                      refine one_ (i := 6) (N := some 63) #[true, true, true, true, true, true, true, false, false, false, false, false, false, false, false] rfl rfl (one_of HT_.out (by kernel_rfl)) (by decide) (fun K hK => ?_)
                                      refine goes_ Tryd.func14 (by kernel_rfl) rfl #[.slice Ao51 y233.length co51] (by first | rfl | (simp [Region.wanted, yielded, *]; done)) rfl rfl (by (try simp only [List.map_toArray, List.map_cons, List.map_nil]); first | done | rfl | (simp only [List.length_drop, List.length_take]; rfl)) ?_
                                      with_reducible refine (sha_Sum.calls kj15 _ _ y233 t240 _ ?side1 ?side2 ?side3 ?side4 A42.out).mono ?_
                                      (case side1 => repeat (first | exact (Kd.R_reads' HO235.out).2.2 | (with_reducible refine Kd.C_alloc ?_ _) | (with_reducible refine Kd.C_drewN ?_ _) | (with_reducible refine Kd.C_drew ?_)))
                                      (case side2 => exact (Kd.R_reads' HO235.out).2.1)
                                      (case side3 => repeat (first | exact (Kd.C_below HRL0_.out HB.out) | (with_reducible refine Kd.C_alloc ?_ _) | (with_reducible refine Kd.C_drewN ?_ _) | (with_reducible refine Kd.C_drew ?_)))
                                      (case side4 => repeat (first | exact (Kd.C_below HRL1_.out HB.out) | (with_reducible refine Kd.C_alloc ?_ _) | (with_reducible refine Kd.C_drewN ?_ _) | (with_reducible refine Kd.C_drew ?_)))
                                      rintro e w55 ⟨v241, rfl, ho0, hb⟩
                                      refine ⟨_, rfl, ?_⟩
                                      have n0_ := Aside0.mk (Kd.R_elder' (by (with_reducible repeat (first | apply Kd.R_alloc | apply Kd.R_drewN | apply Kd.R_drew)); exact HO_216008.out) (Kd.R_base ho0) hb)
                                      have n1_ := Aside0.mk (Kd.R_elder' (by (with_reducible repeat (first | apply Kd.R_alloc | apply Kd.R_drewN | apply Kd.R_drew)); exact HO_232008.out) (Kd.R_base ho0) hb)
                                      have n2_ := Aside0.mk (Kd.R_elder' (by (with_reducible repeat (first | apply Kd.R_alloc | apply Kd.R_drewN | apply Kd.R_drew)); exact HO235.out) (Kd.R_base ho0) hb)
                                      have n3_ := Aside0.mk (Kd.R_elder' (by (with_reducible repeat (first | apply Kd.R_alloc | apply Kd.R_drewN | apply Kd.R_drew)); exact HO238.out) (Kd.R_base ho0) hb)
                                      have n4_ := Aside0.mk (Kd.R_lower (Kd.R_new' (Kd.R_new' (Kd.R_new' (Kd.R_new' ho0 (Kd.R_lt (by (with_reducible repeat (first | apply Kd.R_alloc | apply Kd.R_drewN | apply Kd.R_drew)); exact HO_216008.out))) (Kd.R_lt (by (with_reducible repeat (first | apply Kd.R_alloc | apply Kd.R_drewN | apply Kd.R_drew)); exact HO_232008.out))) (Kd.R_lt (by (with_reducible repeat (first | apply Kd.R_alloc | apply Kd.R_drewN | apply Kd.R_drew)); exact HO235.out))) (Kd.R_lt (by (with_reducible repeat (first | apply Kd.R_alloc | apply Kd.R_drewN | apply Kd.R_drew)); exact HO238.out))) (below_size (by repeat (first | (with_reducible first | exact HB.out | apply below_alloc | apply pw_below_drewN | apply below_drew1 | refine below_set ?_ GE215.out | refine below_set ?_ GE231.out) | exact HB.out))))
                                      have n5_ := Aside0.mk (blk_below (g := gb215) (o := .cells #[.int .u32 t218, .int .u32 t219, .int .u32 t220, .int .u32 t221, .int .u32 t222, .int .u32 t223, .int .u32 t224, .int .u32 t225, .slice Ao30 t226.length co30, .int .u64 t229] 27 (0, 0)) (by (with_reducible repeat (first | refine blk_drewN ?_ _ | refine blk_drew ?_ | refine blk_alloc ?_ _)); exact BK215.out) hb)
                                      have n6_ := Aside0.mk (blk_below (g := gb231) (o := .cells #[.int .u32 t218, .int .u32 t219, .int .u32 t220, .int .u32 t221, .int .u32 t222, .int .u32 t223, .int .u32 t224, .int .u32 t225, .slice Ao30 t226.length co30, .int .u64 t229] 27 (0, 0)) (by (with_reducible repeat (first | refine blk_drewN ?_ _ | refine blk_drew ?_ | refine blk_alloc ?_ _)); exact BK231.out) hb)
                                      have n7_ := Aside0.mk (below_step (by repeat (first | (with_reducible first | exact HB.out | apply below_alloc | apply pw_below_drewN | apply below_drew1 | refine below_set ?_ GE215.out | refine below_set ?_ GE231.out) | exact HB.out)) hb)
                                      clear HO_216008
                                      clear HO_232008
                                      clear HO235
                                      clear HO238
                                      clear BK215
                                      clear BK231
                                      clear HB
                                      have HO_216008 := n0_
                                      have HO_232008 := n1_
                                      have HO235 := n2_
                                      have HO238 := n3_
                                      have HO242 := n4_
                                      have BK215 := n5_
                                      have BK231 := n6_
                                      have HB := n7_
                                      clear n0_ n1_ n2_ n3_ n4_ n5_ n6_ n7_
                                      (try clear hb)
                                      (try clear hb2)
                                      (try clear hk)
                                      (try clear hi)
                                      (try clear ho0)
                                      refine hK.out _ _ trivial (fun hHeld => ?_)
                                      clear hK K
                                      refine norm_ (a' := ?_) ?_ ?_
                                      rotate_left
                                      · show Act.put _ (some 63) _ = _
                                        simp only [Act.put, List.setIfInBounds_toArray, List.set_cons_zero, List.set_cons_succ, i64_w, i32_w]
                                        rfl
                                      refine one_ (i := 7) (N := some 64) #[true, true, true, true, true, true, true, true, false, false, false, false, false, false, false] rfl rfl (one_of HT_.out (by kernel_rfl)) (by decide) (fun K hK => ?_)
                                      refine str_step (src := 24) (dst := 9) (x := .tmp 63) ?hw ?ho ?hx (v := v241) (s := strOfNums t240) (by obtain ⟨A_, c_, rfl⟩ := Kd.R_slice HO242.out; exact Kd.C_string (P := Tryd.prog) (A := A_) (c := c_) Tryd.underlying24 Tryd.underlying5 Tryd.underlying9 (Kd.R_reads' (by (with_reducible repeat (first | apply Kd.R_alloc | apply Kd.R_drewN | apply Kd.R_drew)); exact HO242.out)).2.2) ?_
                                      case ho => rfl
                                      case hw => first | rfl | (simp [Region.wanted, yielded, *]; done)
                                      case hx => first | rfl | (simp only [Act.eval, Array.getD_eq_getD_getElem?, Option.getD_some, e63]; done)
                                      intro w56 hb
                                      have n0_ := Aside0.mk (Kd.R_below (by (with_reducible repeat (first | apply Kd.R_alloc | apply Kd.R_drewN | apply Kd.R_drew)); exact HO_216008.out) hb)
                                      have n1_ := Aside0.mk (Kd.R_below (by (with_reducible repeat (first | apply Kd.R_alloc | apply Kd.R_drewN | apply Kd.R_drew)); exact HO_232008.out) hb)
                                      have n2_ := Aside0.mk (Kd.R_below (by (with_reducible repeat (first | apply Kd.R_alloc | apply Kd.R_drewN | apply Kd.R_drew)); exact HO235.out) hb)
                                      have n3_ := Aside0.mk (Kd.R_below (by (with_reducible repeat (first | apply Kd.R_alloc | apply Kd.R_drewN | apply Kd.R_drew)); exact HO238.out) hb)
                                      have n4_ := Aside0.mk (Kd.R_below (by (with_reducible repeat (first | apply Kd.R_alloc | apply Kd.R_drewN | apply Kd.R_drew)); exact HO242.out) hb)
                                      have n5_ := Aside0.mk (blk_below (g := gb215) (o := .cells #[.int .u32 t218, .int .u32 t219, .int .u32 t220, .int .u32 t221, .int .u32 t222, .int .u32 t223, .int .u32 t224, .int .u32 t225, .slice Ao30 t226.length co30, .int .u64 t229] 27 (0, 0)) (by (with_reducible repeat (first | refine blk_drewN ?_ _ | refine blk_drew ?_ | refine blk_alloc ?_ _)); exact BK215.out) hb)
                                      have n6_ := Aside0.mk (blk_below (g := gb231) (o := .cells #[.int .u32 t218, .int .u32 t219, .int .u32 t220, .int .u32 t221, .int .u32 t222, .int .u32 t223, .int .u32 t224, .int .u32 t225, .slice Ao30 t226.length co30, .int .u64 t229] 27 (0, 0)) (by (with_reducible repeat (first | refine blk_drewN ?_ _ | refine blk_drew ?_ | refine blk_alloc ?_ _)); exact BK231.out) hb)
                                      have n7_ := Aside0.mk (below_step (by repeat (first | (with_reducible first | exact HB.out | apply below_alloc | apply pw_below_drewN | apply below_drew1 | refine below_set ?_ GE215.out | refine below_set ?_ GE231.out) | exact HB.out)) hb)
                                      clear HO_216008
                                      clear HO_232008
                                      clear HO235
                                      clear HO238
                                      clear HO242
                                      clear BK215
                                      clear BK231
                                      clear HB
                                      have HO_216008 := n0_
                                      have HO_232008 := n1_
                                      have HO235 := n2_
                                      have HO238 := n3_
                                      have HO242 := n4_
                                      have BK215 := n5_
                                      have BK231 := n6_
                                      have HB := n7_
                                      clear n0_ n1_ n2_ n3_ n4_ n5_ n6_ n7_
                                      (try clear hb)
                                      refine hK.out _ _ trivial (fun hHeld => ?_)
                                      clear hK K
                                      refine norm_ (a' := ?_) ?_ ?_
                                      rotate_left
                                      · show Act.put _ (some 64) _ = _
                                        simp only [Act.put, List.setIfInBounds_toArray, List.set_cons_zero, List.set_cons_succ, i64_w, i32_w]
                                        rfl
                                      exact norm_ (by simp only [putAll, Act.put, List.setIfInBounds_toArray, List.set_cons_zero, List.set_cons_succ]) (hCont (v241) _ ⟨(by (with_reducible repeat (first | apply Kd.R_alloc | apply Kd.R_drewN | apply Kd.R_drew)); exact Kd.R_mono HO235.out (fun _ hk => ⟨hk.1.2, ⟨hk.2, ⟨hk.1.1.1, hk.1.1.2⟩⟩⟩)), (by (with_reducible repeat (first | apply Kd.R_alloc | apply Kd.R_drewN | apply Kd.R_drew)); exact Kd.R_mono HO238.out (fun _ hk => ⟨hk.1.2, ⟨hk.2, ⟨hk.1.1.1.2, hk.1.1.2⟩⟩⟩)), (by (with_reducible repeat (first | apply Kd.R_alloc | apply Kd.R_drewN | apply Kd.R_drew)); exact Kd.R_mono HO242.out (fun _ hk => ⟨hk.1.2, ⟨hk.2, ⟨hk.1.1.1.2, hk.1.1.2⟩⟩⟩)), (by (with_reducible repeat (first | apply Kd.R_alloc | apply Kd.R_drewN | apply Kd.R_drew)); exact Kd.R_mono HO_216008.out (fun _ hk => ⟨hk.1.1.2, ⟨hk.1.2, ⟨hk.2, hk.1.1.1⟩⟩⟩)), (by (with_reducible repeat (first | apply Kd.R_alloc | apply Kd.R_drewN | apply Kd.R_drew)); exact Kd.R_mono HO_232008.out (fun _ hk => ⟨hk.1.1.2, ⟨hk.1.2, ⟨hk.2, hk.1.1.1⟩⟩⟩)), (by (with_reducible repeat (first | refine blk_drewN ?_ _ | refine blk_drew ?_ | refine blk_alloc ?_ _)); exact BK215.out), (by (with_reducible repeat (first | refine blk_drewN ?_ _ | refine blk_drew ?_ | refine blk_alloc ?_ _)); exact BK231.out), (by repeat (first | (with_reducible first | exact HB.out | apply below_alloc | apply pw_below_drewN | apply below_drew1 | refine below_set ?_ GE215.out | refine below_set ?_ GE231.out) | exact HB.out))⟩)
                                    · skip
                                      refine goes_ Tryd.func14 (by kernel_rfl) rfl #[.slice Ao51 y233.length co51] (by first | rfl | (simp [Region.wanted, yielded, *]; done)) rfl rfl (by (try simp only [List.map_toArray, List.map_cons, List.map_nil]); first | done | rfl | (simp only [List.length_drop, List.length_take]; rfl)) ?_
                                      with_reducible refine (sha_Sum.calls kj15 _ _ y233 t240 _ ?side1 ?side2 ?side3 ?side4 A42.out).mono ?_
                                      (case side1 => repeat (first | exact (Kd.R_reads' HO235.out).2.2 | (with_reducible refine Kd.C_alloc ?_ _) | (with_reducible refine Kd.C_drewN ?_ _) | (with_reducible refine Kd.C_drew ?_)))
                                      (case side2 => exact (Kd.R_reads' HO235.out).2.1)
                                      (case side3 => repeat (first | exact (Kd.C_below HRL0_.out HB.out) | (with_reducible refine Kd.C_alloc ?_ _) | (with_reducible refine Kd.C_drewN ?_ _) | (with_reducible refine Kd.C_drew ?_)))
                                      (case side4 => repeat (first | exact (Kd.C_below HRL1_.out HB.out) | (with_reducible refine Kd.C_alloc ?_ _) | (with_reducible refine Kd.C_drewN ?_ _) | (with_reducible refine Kd.C_drew ?_)))
                                      rintro e w54 ⟨v241, rfl, ho0, hb⟩
                                      refine ⟨_, rfl, ?_⟩
                                      have n0_ := Aside0.mk (Kd.R_elder' (by (with_reducible repeat (first | apply Kd.R_alloc | apply Kd.R_drewN | apply Kd.R_drew)); exact HO_216008.out) (Kd.R_base ho0) hb)
                                      have n1_ := Aside0.mk (Kd.R_elder' (by (with_reducible repeat (first | apply Kd.R_alloc | apply Kd.R_drewN | apply Kd.R_drew)); exact HO_232008.out) (Kd.R_base ho0) hb)
                                      have n2_ := Aside0.mk (Kd.R_elder' (by (with_reducible repeat (first | apply Kd.R_alloc | apply Kd.R_drewN | apply Kd.R_drew)); exact HO235.out) (Kd.R_base ho0) hb)
                                      have n3_ := Aside0.mk (Kd.R_elder' (by (with_reducible repeat (first | apply Kd.R_alloc | apply Kd.R_drewN | apply Kd.R_drew)); exact HO238.out) (Kd.R_base ho0) hb)
                                      have n4_ := Aside0.mk (Kd.R_lower (Kd.R_new' (Kd.R_new' (Kd.R_new' (Kd.R_new' ho0 (Kd.R_lt (by (with_reducible repeat (first | apply Kd.R_alloc | apply Kd.R_drewN | apply Kd.R_drew)); exact HO_216008.out))) (Kd.R_lt (by (with_reducible repeat (first | apply Kd.R_alloc | apply Kd.R_drewN | apply Kd.R_drew)); exact HO_232008.out))) (Kd.R_lt (by (with_reducible repeat (first | apply Kd.R_alloc | apply Kd.R_drewN | apply Kd.R_drew)); exact HO235.out))) (Kd.R_lt (by (with_reducible repeat (first | apply Kd.R_alloc | apply Kd.R_drewN | apply Kd.R_drew)); exact HO238.out))) (below_size (by repeat (first | (with_reducible first | exact HB.out | apply below_alloc | apply pw_below_drewN | apply below_drew1 | refine below_set ?_ GE215.out | refine below_set ?_ GE231.out) | exact HB.out))))
                                      have n5_ := Aside0.mk (blk_below (g := gb215) (o := .cells #[.int .u32 t218, .int .u32 t219, .int .u32 t220, .int .u32 t221, .int .u32 t222, .int .u32 t223, .int .u32 t224, .int .u32 t225, .slice Ao30 t226.length co30, .int .u64 t229] 27 (0, 0)) (by (with_reducible repeat (first | refine blk_drewN ?_ _ | refine blk_drew ?_ | refine blk_alloc ?_ _)); exact BK215.out) hb)
                                      have n6_ := Aside0.mk (blk_below (g := gb231) (o := .cells #[.int .u32 t218, .int .u32 t219, .int .u32 t220, .int .u32 t221, .int .u32 t222, .int .u32 t223, .int .u32 t224, .int .u32 t225, .slice Ao30 t226.length co30, .int .u64 t229] 27 (0, 0)) (by (with_reducible repeat (first | refine blk_drewN ?_ _ | refine blk_drew ?_ | refine blk_alloc ?_ _)); exact BK231.out) hb)
                                      have n7_ := Aside0.mk (below_step (by repeat (first | (with_reducible first | exact HB.out | apply below_alloc | apply pw_below_drewN | apply below_drew1 | refine below_set ?_ GE215.out | refine below_set ?_ GE231.out) | exact HB.out)) hb)
                                      clear HO_216008
                                      clear HO_232008
                                      clear HO235
                                      clear HO238
                                      clear BK215
                                      clear BK231
                                      clear HB
                                      have HO_216008 := n0_
                                      have HO_232008 := n1_
                                      have HO235 := n2_
                                      have HO238 := n3_
                                      have HO242 := n4_
                                      have BK215 := n5_
                                      have BK231 := n6_
                                      have HB := n7_
                                      clear n0_ n1_ n2_ n3_ n4_ n5_ n6_ n7_
                                      (try clear hb)
                                      (try clear hb2)
                                      (try clear hk)
                                      (try clear hi)
                                      (try clear ho0)
                                      refine hK.out _ _ trivial (fun hHeld => ?_)
                                      clear hK K
                                      refine norm_ (a' := ?_) ?_ ?_
                                      rotate_left
                                      · show Act.put _ (some 63) _ = _
                                        simp only [Act.put, List.setIfInBounds_toArray, List.set_cons_zero, List.set_cons_succ, i64_w, i32_w]
                                        rfl
                                      refine two_ (i := 4) (j := 7) (Ni := some 61) (Nj := some 64) #[true, true, true, true, true, true, true, false, false, false, false, false, false, false, false] #[true, true, true, true, false, true, true, true, false, false, false, false, false, false, false] rfl rfl rfl rfl (two_of HT_.out (by kernel_rfl)) (by decide) (by decide) (fun K hK => ?_) (fun K hK => ?_)
                                      · skip
                                        refine str_step (src := 24) (dst := 9) (x := .tmp 60) ?hw ?ho ?hx (Kd.C_string (P := Tryd.prog) (A := Ao52) (c := co52) Tryd.underlying24 Tryd.underlying5 Tryd.underlying9 (Kd.R_reads' (by (with_reducible repeat (first | apply Kd.R_alloc | apply Kd.R_drewN | apply Kd.R_drew)); exact HO238.out)).2.2) ?_
                                        case ho => rfl
                                        case hw => first | rfl | (simp [Region.wanted, yielded, *]; done)
                                        case hx => first | rfl | (simp only [Act.eval, Array.getD_eq_getD_getElem?, Option.getD_some, e60]; done)
                                        intro w55 hb
                                        have n0_ := Aside0.mk (Kd.R_below (by (with_reducible repeat (first | apply Kd.R_alloc | apply Kd.R_drewN | apply Kd.R_drew)); exact HO_216008.out) hb)
                                        have n1_ := Aside0.mk (Kd.R_below (by (with_reducible repeat (first | apply Kd.R_alloc | apply Kd.R_drewN | apply Kd.R_drew)); exact HO_232008.out) hb)
                                        have n2_ := Aside0.mk (Kd.R_below (by (with_reducible repeat (first | apply Kd.R_alloc | apply Kd.R_drewN | apply Kd.R_drew)); exact HO235.out) hb)
                                        have n3_ := Aside0.mk (Kd.R_below (by (with_reducible repeat (first | apply Kd.R_alloc | apply Kd.R_drewN | apply Kd.R_drew)); exact HO238.out) hb)
                                        have n4_ := Aside0.mk (Kd.R_below (by (with_reducible repeat (first | apply Kd.R_alloc | apply Kd.R_drewN | apply Kd.R_drew)); exact HO242.out) hb)
                                        have n5_ := Aside0.mk (blk_below (g := gb215) (o := .cells #[.int .u32 t218, .int .u32 t219, .int .u32 t220, .int .u32 t221, .int .u32 t222, .int .u32 t223, .int .u32 t224, .int .u32 t225, .slice Ao30 t226.length co30, .int .u64 t229] 27 (0, 0)) (by (with_reducible repeat (first | refine blk_drewN ?_ _ | refine blk_drew ?_ | refine blk_alloc ?_ _)); exact BK215.out) hb)
                                        have n6_ := Aside0.mk (blk_below (g := gb231) (o := .cells #[.int .u32 t218, .int .u32 t219, .int .u32 t220, .int .u32 t221, .int .u32 t222, .int .u32 t223, .int .u32 t224, .int .u32 t225, .slice Ao30 t226.length co30, .int .u64 t229] 27 (0, 0)) (by (with_reducible repeat (first | refine blk_drewN ?_ _ | refine blk_drew ?_ | refine blk_alloc ?_ _)); exact BK231.out) hb)
                                        have n7_ := Aside0.mk (below_step (by repeat (first | (with_reducible first | exact HB.out | apply below_alloc | apply pw_below_drewN | apply below_drew1 | refine below_set ?_ GE215.out | refine below_set ?_ GE231.out) | exact HB.out)) hb)
                                        clear HO_216008
                                        clear HO_232008
                                        clear HO235
                                        clear HO238
                                        clear HO242
                                        clear BK215
                                        clear BK231
                                        clear HB
                                        have HO_216008 := n0_
                                        have HO_232008 := n1_
                                        have HO235 := n2_
                                        have HO238 := n3_
                                        have HO242 := n4_
                                        have BK215 := n5_
                                        have BK231 := n6_
                                        have HB := n7_
                                        clear n0_ n1_ n2_ n3_ n4_ n5_ n6_ n7_
                                        (try clear hb)
                                        refine hK.out _ _ trivial (fun hHeld => ?_)
                                        clear hK K
                                        refine norm_ (a' := ?_) ?_ ?_
                                        rotate_left
                                        · show Act.put _ (some 61) _ = _
                                          simp only [Act.put, List.setIfInBounds_toArray, List.set_cons_zero, List.set_cons_succ, i64_w, i32_w]
                                          rfl
                                        refine one_ (i := 7) (N := some 64) #[true, true, true, true, true, true, true, true, false, false, false, false, false, false, false] rfl rfl (one_of HT_.out (by kernel_rfl)) (by decide) (fun K hK => ?_)
                                        refine str_step (src := 24) (dst := 9) (x := .tmp 63) ?hw ?ho ?hx (v := v241) (s := strOfNums t240) (by obtain ⟨A_, c_, rfl⟩ := Kd.R_slice HO242.out; exact Kd.C_string (P := Tryd.prog) (A := A_) (c := c_) Tryd.underlying24 Tryd.underlying5 Tryd.underlying9 (Kd.R_reads' (by (with_reducible repeat (first | apply Kd.R_alloc | apply Kd.R_drewN | apply Kd.R_drew)); exact HO242.out)).2.2) ?_
                                        case ho => rfl
                                        case hw => first | rfl | (simp [Region.wanted, yielded, *]; done)
                                        case hx => first | rfl | (simp only [Act.eval, Array.getD_eq_getD_getElem?, Option.getD_some, e63]; done)
                                        intro w56 hb
                                        have n0_ := Aside0.mk (Kd.R_below (by (with_reducible repeat (first | apply Kd.R_alloc | apply Kd.R_drewN | apply Kd.R_drew)); exact HO_216008.out) hb)
                                        have n1_ := Aside0.mk (Kd.R_below (by (with_reducible repeat (first | apply Kd.R_alloc | apply Kd.R_drewN | apply Kd.R_drew)); exact HO_232008.out) hb)
                                        have n2_ := Aside0.mk (Kd.R_below (by (with_reducible repeat (first | apply Kd.R_alloc | apply Kd.R_drewN | apply Kd.R_drew)); exact HO235.out) hb)
                                        have n3_ := Aside0.mk (Kd.R_below (by (with_reducible repeat (first | apply Kd.R_alloc | apply Kd.R_drewN | apply Kd.R_drew)); exact HO238.out) hb)
                                        have n4_ := Aside0.mk (Kd.R_below (by (with_reducible repeat (first | apply Kd.R_alloc | apply Kd.R_drewN | apply Kd.R_drew)); exact HO242.out) hb)
                                        have n5_ := Aside0.mk (blk_below (g := gb215) (o := .cells #[.int .u32 t218, .int .u32 t219, .int .u32 t220, .int .u32 t221, .int .u32 t222, .int .u32 t223, .int .u32 t224, .int .u32 t225, .slice Ao30 t226.length co30, .int .u64 t229] 27 (0, 0)) (by (with_reducible repeat (first | refine blk_drewN ?_ _ | refine blk_drew ?_ | refine blk_alloc ?_ _)); exact BK215.out) hb)
                                        have n6_ := Aside0.mk (blk_below (g := gb231) (o := .cells #[.int .u32 t218, .int .u32 t219, .int .u32 t220, .int .u32 t221, .int .u32 t222, .int .u32 t223, .int .u32 t224, .int .u32 t225, .slice Ao30 t226.length co30, .int .u64 t229] 27 (0, 0)) (by (with_reducible repeat (first | refine blk_drewN ?_ _ | refine blk_drew ?_ | refine blk_alloc ?_ _)); exact BK231.out) hb)
                                        have n7_ := Aside0.mk (below_step (by repeat (first | (with_reducible first | exact HB.out | apply below_alloc | apply pw_below_drewN | apply below_drew1 | refine below_set ?_ GE215.out | refine below_set ?_ GE231.out) | exact HB.out)) hb)
                                        clear HO_216008
                                        clear HO_232008
                                        clear HO235
                                        clear HO238
                                        clear HO242
                                        clear BK215
                                        clear BK231
                                        clear HB
                                        have HO_216008 := n0_
                                        have HO_232008 := n1_
                                        have HO235 := n2_
                                        have HO238 := n3_
                                        have HO242 := n4_
                                        have BK215 := n5_
                                        have BK231 := n6_
                                        have HB := n7_
                                        clear n0_ n1_ n2_ n3_ n4_ n5_ n6_ n7_
                                        (try clear hb)
                                        refine hK.out _ _ trivial (fun hHeld => ?_)
                                        clear hK K
                                        refine norm_ (a' := ?_) ?_ ?_
                                        rotate_left
                                        · show Act.put _ (some 64) _ = _
                                          simp only [Act.put, List.setIfInBounds_toArray, List.set_cons_zero, List.set_cons_succ, i64_w, i32_w]
                                          rfl
                                        exact norm_ (by simp only [putAll, Act.put, List.setIfInBounds_toArray, List.set_cons_zero, List.set_cons_succ]) (hCont (v241) _ ⟨(by (with_reducible repeat (first | apply Kd.R_alloc | apply Kd.R_drewN | apply Kd.R_drew)); exact Kd.R_mono HO235.out (fun _ hk => ⟨hk.1.2, ⟨hk.2, ⟨hk.1.1.1, hk.1.1.2⟩⟩⟩)), (by (with_reducible repeat (first | apply Kd.R_alloc | apply Kd.R_drewN | apply Kd.R_drew)); exact Kd.R_mono HO238.out (fun _ hk => ⟨hk.1.2, ⟨hk.2, ⟨hk.1.1.1.2, hk.1.1.2⟩⟩⟩)), (by (with_reducible repeat (first | apply Kd.R_alloc | apply Kd.R_drewN | apply Kd.R_drew)); exact Kd.R_mono HO242.out (fun _ hk => ⟨hk.1.2, ⟨hk.2, ⟨hk.1.1.1.2, hk.1.1.2⟩⟩⟩)), (by (with_reducible repeat (first | apply Kd.R_alloc | apply Kd.R_drewN | apply Kd.R_drew)); exact Kd.R_mono HO_216008.out (fun _ hk => ⟨hk.1.1.2, ⟨hk.1.2, ⟨hk.2, hk.1.1.1⟩⟩⟩)), (by (with_reducible repeat (first | apply Kd.R_alloc | apply Kd.R_drewN | apply Kd.R_drew)); exact Kd.R_mono HO_232008.out (fun _ hk => ⟨hk.1.1.2, ⟨hk.1.2, ⟨hk.2, hk.1.1.1⟩⟩⟩)), (by (with_reducible repeat (first | refine blk_drewN ?_ _ | refine blk_drew ?_ | refine blk_alloc ?_ _)); exact BK215.out), (by (with_reducible repeat (first | refine blk_drewN ?_ _ | refine blk_drew ?_ | refine blk_alloc ?_ _)); exact BK231.out), (by repeat (first | (with_reducible first | exact HB.out | apply below_alloc | apply pw_below_drewN | apply below_drew1 | refine below_set ?_ GE215.out | refine below_set ?_ GE231.out) | exact HB.out))⟩)
                                      · skip
                                        refine str_step (src := 24) (dst := 9) (x := .tmp 63) ?hw ?ho ?hx (v := v241) (s := strOfNums t240) (by obtain ⟨A_, c_, rfl⟩ := Kd.R_slice HO242.out; exact Kd.C_string (P := Tryd.prog) (A := A_) (c := c_) Tryd.underlying24 Tryd.underlying5 Tryd.underlying9 (Kd.R_reads' (by (with_reducible repeat (first | apply Kd.R_alloc | apply Kd.R_drewN | apply Kd.R_drew)); exact HO242.out)).2.2) ?_
                                        case ho => rfl
                                        case hw => first | rfl | (simp [Region.wanted, yielded, *]; done)
                                        case hx => first | rfl | (simp only [Act.eval, Array.getD_eq_getD_getElem?, Option.getD_some, e63]; done)
                                        intro w55 hb
                                        have n0_ := Aside0.mk (Kd.R_below (by (with_reducible repeat (first | apply Kd.R_alloc | apply Kd.R_drewN | apply Kd.R_drew)); exact HO_216008.out) hb)
                                        have n1_ := Aside0.mk (Kd.R_below (by (with_reducible repeat (first | apply Kd.R_alloc | apply Kd.R_drewN | apply Kd.R_drew)); exact HO_232008.out) hb)
                                        have n2_ := Aside0.mk (Kd.R_below (by (with_reducible repeat (first | apply Kd.R_alloc | apply Kd.R_drewN | apply Kd.R_drew)); exact HO235.out) hb)
                                        have n3_ := Aside0.mk (Kd.R_below (by (with_reducible repeat (first | apply Kd.R_alloc | apply Kd.R_drewN | apply Kd.R_drew)); exact HO238.out) hb)
                                        have n4_ := Aside0.mk (Kd.R_below (by (with_reducible repeat (first | apply Kd.R_alloc | apply Kd.R_drewN | apply Kd.R_drew)); exact HO242.out) hb)
                                        have n5_ := Aside0.mk (blk_below (g := gb215) (o := .cells #[.int .u32 t218, .int .u32 t219, .int .u32 t220, .int .u32 t221, .int .u32 t222, .int .u32 t223, .int .u32 t224, .int .u32 t225, .slice Ao30 t226.length co30, .int .u64 t229] 27 (0, 0)) (by (with_reducible repeat (first | refine blk_drewN ?_ _ | refine blk_drew ?_ | refine blk_alloc ?_ _)); exact BK215.out) hb)
                                        have n6_ := Aside0.mk (blk_below (g := gb231) (o := .cells #[.int .u32 t218, .int .u32 t219, .int .u32 t220, .int .u32 t221, .int .u32 t222, .int .u32 t223, .int .u32 t224, .int .u32 t225, .slice Ao30 t226.length co30, .int .u64 t229] 27 (0, 0)) (by (with_reducible repeat (first | refine blk_drewN ?_ _ | refine blk_drew ?_ | refine blk_alloc ?_ _)); exact BK231.out) hb)
                                        have n7_ := Aside0.mk (below_step (by repeat (first | (with_reducible first | exact HB.out | apply below_alloc | apply pw_below_drewN | apply below_drew1 | refine below_set ?_ GE215.out | refine below_set ?_ GE231.out) | exact HB.out)) hb)
                                        clear HO_216008
                                        clear HO_232008
                                        clear HO235
                                        clear HO238
                                        clear HO242
                                        clear BK215
                                        clear BK231
                                        clear HB
                                        have HO_216008 := n0_
                                        have HO_232008 := n1_
                                        have HO235 := n2_
                                        have HO238 := n3_
                                        have HO242 := n4_
                                        have BK215 := n5_
                                        have BK231 := n6_
                                        have HB := n7_
                                        clear n0_ n1_ n2_ n3_ n4_ n5_ n6_ n7_
                                        (try clear hb)
                                        refine hK.out _ _ trivial (fun hHeld => ?_)
                                        clear hK K
                                        refine norm_ (a' := ?_) ?_ ?_
                                        rotate_left
                                        · show Act.put _ (some 64) _ = _
                                          simp only [Act.put, List.setIfInBounds_toArray, List.set_cons_zero, List.set_cons_succ, i64_w, i32_w]
                                          rfl
                                        refine one_ (i := 4) (N := some 61) #[true, true, true, true, true, true, true, true, false, false, false, false, false, false, false] rfl rfl (one_of HT_.out (by kernel_rfl)) (by decide) (fun K hK => ?_)
                                        refine str_step (src := 24) (dst := 9) (x := .tmp 60) ?hw ?ho ?hx (Kd.C_string (P := Tryd.prog) (A := Ao52) (c := co52) Tryd.underlying24 Tryd.underlying5 Tryd.underlying9 (Kd.R_reads' (by (with_reducible repeat (first | apply Kd.R_alloc | apply Kd.R_drewN | apply Kd.R_drew)); exact HO238.out)).2.2) ?_
                                        case ho => rfl
                                        case hw => first | rfl | (simp [Region.wanted, yielded, *]; done)
                                        case hx => first | rfl | (simp only [Act.eval, Array.getD_eq_getD_getElem?, Option.getD_some, e60]; done)
                                        intro w56 hb
                                        have n0_ := Aside0.mk (Kd.R_below (by (with_reducible repeat (first | apply Kd.R_alloc | apply Kd.R_drewN | apply Kd.R_drew)); exact HO_216008.out) hb)
                                        have n1_ := Aside0.mk (Kd.R_below (by (with_reducible repeat (first | apply Kd.R_alloc | apply Kd.R_drewN | apply Kd.R_drew)); exact HO_232008.out) hb)
                                        have n2_ := Aside0.mk (Kd.R_below (by (with_reducible repeat (first | apply Kd.R_alloc | apply Kd.R_drewN | apply Kd.R_drew)); exact HO235.out) hb)
                                        have n3_ := Aside0.mk (Kd.R_below (by (with_reducible repeat (first | apply Kd.R_alloc | apply Kd.R_drewN | apply Kd.R_drew)); exact HO238.out) hb)
                                        have n4_ := Aside0.mk (Kd.R_below (by (with_reducible repeat (first | apply Kd.R_alloc | apply Kd.R_drewN | apply Kd.R_drew)); exact HO242.out) hb)
                                        have n5_ := Aside0.mk (blk_below (g := gb215) (o := .cells #[.int .u32 t218, .int .u32 t219, .int .u32 t220, .int .u32 t221, .int .u32 t222, .int .u32 t223, .int .u32 t224, .int .u32 t225, .slice Ao30 t226.length co30, .int .u64 t229] 27 (0, 0)) (by (with_reducible repeat (first | refine blk_drewN ?_ _ | refine blk_drew ?_ | refine blk_alloc ?_ _)); exact BK215.out) hb)
                                        have n6_ := Aside0.mk (blk_below (g := gb231) (o := .cells #[.int .u32 t218, .int .u32 t219, .int .u32 t220, .int .u32 t221, .int .u32 t222, .int .u32 t223, .int .u32 t224, .int .u32 t225, .slice Ao30 t226.length co30, .int .u64 t229] 27 (0, 0)) (by (with_reducible repeat (first | refine blk_drewN ?_ _ | refine blk_drew ?_ | refine blk_alloc ?_ _)); exact BK231.out) hb)
                                        have n7_ := Aside0.mk (below_step (by repeat (first | (with_reducible first | exact HB.out | apply below_alloc | apply pw_below_drewN | apply below_drew1 | refine below_set ?_ GE215.out | refine below_set ?_ GE231.out) | exact HB.out)) hb)
                                        clear HO_216008
                                        clear HO_232008
                                        clear HO235
                                        clear HO238
                                        clear HO242
                                        clear BK215
                                        clear BK231
                                        clear HB
                                        have HO_216008 := n0_
                                        have HO_232008 := n1_
                                        have HO235 := n2_
                                        have HO238 := n3_
                                        have HO242 := n4_
                                        have BK215 := n5_
                                        have BK231 := n6_
                                        have HB := n7_
                                        clear n0_ n1_ n2_ n3_ n4_ n5_ n6_ n7_
                                        (try clear hb)
                                        refine hK.out _ _ trivial (fun hHeld => ?_)
                                        clear hK K
                                        refine norm_ (a' := ?_) ?_ ?_
                                        rotate_left
                                        · show Act.put _ (some 61) _ = _
                                          simp only [Act.put, List.setIfInBounds_toArray, List.set_cons_zero, List.set_cons_succ, i64_w, i32_w]
                                          rfl
                                        exact norm_ (by simp only [putAll, Act.put, List.setIfInBounds_toArray, List.set_cons_zero, List.set_cons_succ]) (hCont (v241) _ ⟨(by (with_reducible repeat (first | apply Kd.R_alloc | apply Kd.R_drewN | apply Kd.R_drew)); exact Kd.R_mono HO235.out (fun _ hk => ⟨hk.1.2, ⟨hk.2, ⟨hk.1.1.1, hk.1.1.2⟩⟩⟩)), (by (with_reducible repeat (first | apply Kd.R_alloc | apply Kd.R_drewN | apply Kd.R_drew)); exact Kd.R_mono HO238.out (fun _ hk => ⟨hk.1.2, ⟨hk.2, ⟨hk.1.1.1.2, hk.1.1.2⟩⟩⟩)), (by (with_reducible repeat (first | apply Kd.R_alloc | apply Kd.R_drewN | apply Kd.R_drew)); exact Kd.R_mono HO242.out (fun _ hk => ⟨hk.1.2, ⟨hk.2, ⟨hk.1.1.1.2, hk.1.1.2⟩⟩⟩)), (by (with_reducible repeat (first | apply Kd.R_alloc | apply Kd.R_drewN | apply Kd.R_drew)); exact Kd.R_mono HO_216008.out (fun _ hk => ⟨hk.1.1.2, ⟨hk.1.2, ⟨hk.2, hk.1.1.1⟩⟩⟩)), (by (with_reducible repeat (first | apply Kd.R_alloc | apply Kd.R_drewN | apply Kd.R_drew)); exact Kd.R_mono HO_232008.out (fun _ hk => ⟨hk.1.1.2, ⟨hk.1.2, ⟨hk.2, hk.1.1.1⟩⟩⟩)), (by (with_reducible repeat (first | refine blk_drewN ?_ _ | refine blk_drew ?_ | refine blk_alloc ?_ _)); exact BK215.out), (by (with_reducible repeat (first | refine blk_drewN ?_ _ | refine blk_drew ?_ | refine blk_alloc ?_ _)); exact BK231.out), (by repeat (first | (with_reducible first | exact HB.out | apply below_alloc | apply pw_below_drewN | apply below_drew1 | refine below_set ?_ GE215.out | refine below_set ?_ GE231.out) | exact HB.out))⟩)
                                  rintro v241 w57 ⟨h0_, h1_, h2_, h3_, h4_, h5_, h6_, h7_⟩
                                  have n0_ : Aside0 (Kd.R (Kd.int .u8) 5 w57 w.heap.size (fun k_ => some k_ ≠ (.slice Ao52 t236.length co52 : Value).ownBlock ∧ some k_ ≠ (v241 : Value).ownBlock ∧ some k_ ≠ (.slice Ao17 x216008_1.length co17 : Value).ownBlock ∧ some k_ ≠ (.slice Ao30 t226.length co30 : Value).ownBlock) (.slice Ao51 y233.length co51) y233) := ⟨h0_⟩
                                  have n1_ : Aside0 (Kd.R (Kd.int .u8) 5 w57 w.heap.size (fun k_ => some k_ ≠ (.slice Ao51 y233.length co51 : Value).ownBlock ∧ some k_ ≠ (v241 : Value).ownBlock ∧ some k_ ≠ (.slice Ao17 x216008_1.length co17 : Value).ownBlock ∧ some k_ ≠ (.slice Ao30 t226.length co30 : Value).ownBlock) (.slice Ao52 t236.length co52) t236) := ⟨h1_⟩
                                  have n2_ : Aside0 (Kd.R (Kd.int .u8) 5 w57 w.heap.size (fun k_ => some k_ ≠ (.slice Ao51 y233.length co51 : Value).ownBlock ∧ some k_ ≠ (.slice Ao52 t236.length co52 : Value).ownBlock ∧ some k_ ≠ (.slice Ao17 x216008_1.length co17 : Value).ownBlock ∧ some k_ ≠ (.slice Ao30 t226.length co30 : Value).ownBlock) v241 t240) := ⟨h2_⟩
                                  have n3_ : Aside0 (Kd.R (Kd.int .u8) 5 w57 w.heap.size (fun k_ => some k_ ≠ (.slice Ao51 y233.length co51 : Value).ownBlock ∧ some k_ ≠ (.slice Ao52 t236.length co52 : Value).ownBlock ∧ some k_ ≠ (v241 : Value).ownBlock ∧ some k_ ≠ (.slice Ao30 t226.length co30 : Value).ownBlock) (.slice Ao17 x216008_1.length co17) x216008_1) := ⟨h3_⟩
                                  have n4_ : Aside0 (Kd.R (Kd.int .u8) 5 w57 w.heap.size (fun k_ => some k_ ≠ (.slice Ao51 y233.length co51 : Value).ownBlock ∧ some k_ ≠ (.slice Ao52 t236.length co52 : Value).ownBlock ∧ some k_ ≠ (v241 : Value).ownBlock ∧ some k_ ≠ (.slice Ao17 x216008_1.length co17 : Value).ownBlock) (.slice Ao30 t226.length co30) t226) := ⟨h4_⟩
                                  have n5_ : Aside0 (w57.heap[gb215]? = some (.cells #[.int .u32 t218, .int .u32 t219, .int .u32 t220, .int .u32 t221, .int .u32 t222, .int .u32 t223, .int .u32 t224, .int .u32 t225, .slice Ao30 t226.length co30, .int .u64 t229] 27 (0, 0))) := ⟨h5_⟩
                                  have n6_ : Aside0 (w57.heap[gb231]? = some (.cells #[.int .u32 t218, .int .u32 t219, .int .u32 t220, .int .u32 t221, .int .u32 t222, .int .u32 t223, .int .u32 t224, .int .u32 t225, .slice Ao30 t226.length co30, .int .u64 t229] 27 (0, 0))) := ⟨h6_⟩
                                  have n7_ : Aside0 (Below w.heap.size w w57) := ⟨h7_⟩
                                  clear HO_216008
                                  clear HO_232008
                                  clear HO235
                                  clear HO238
                                  clear BK215
                                  clear BK231
                                  clear HB
                                  clear h0_ h1_ h2_ h3_ h4_ h5_ h6_ h7_
                                  have HO235 := n0_
                                  have HO238 := n1_
                                  have HO242 := n2_
                                  have HO_216008 := n3_
                                  have HO_232008 := n4_
                                  have BK215 := n5_
                                  have BK231 := n6_
                                  have HB := n7_
                                  clear n0_ n1_ n2_ n3_ n4_ n5_ n6_ n7_
                                  have hHeld := trivial
                                  refine norm_ (a' := ?_) ?_ ?_
                                  rotate_left
                                  · simp only [putAll, Act.put, List.setIfInBounds_toArray, List.set_cons_zero, List.set_cons_succ]
                                    rfl
                                  refine pure_ (i := 8) (N := some 65) (v := ?_) (a' := ?_) #[true, true, true, true, true, true, true, true, true, false, false, false, false, false, false] rfl rfl (any_of HT_.out (by kernel_rfl)) (fun _ _ _ h => h) (Or.inl ⟨by rfl, ?_⟩) ?_ ?_
                                  rotate_left
                                  · intro w'
                                    go_simp
                                    with_reducible rfl
                                  rotate_left
                                  · simp only [Act.put, List.setIfInBounds_toArray, List.set_cons_zero, List.set_cons_succ, i64_w, i32_w]
                                    rfl
                                  refine pure_ (i := 9) (N := some 66) (v := ?_) (a' := ?_) #[true, true, true, true, true, true, true, true, true, true, false, false, false, false, false] rfl rfl (any_of HT_.out (by kernel_rfl)) (fun _ _ _ h => h) (Or.inl ⟨by rfl, ?_⟩) ?_ ?_
                                  rotate_left
                                  · intro w'
                                    go_simp
                                    with_reducible rfl
                                  rotate_left
                                  · simp only [Act.put, List.setIfInBounds_toArray, List.set_cons_zero, List.set_cons_succ, i64_w, i32_w]
                                    rfl
                                  refine pure_ (i := 10) (N := some 67) (v := ?_) (a' := ?_) #[true, true, true, true, true, true, true, true, true, true, true, false, false, false, false] rfl rfl (any_of HT_.out (by kernel_rfl)) (fun _ _ _ h => h) (Or.inl ⟨by rfl, ?_⟩) ?_ ?_
                                  rotate_left
                                  · intro w'
                                    go_simp
                                    with_reducible rfl
                                  rotate_left
                                  · simp only [Act.put, List.setIfInBounds_toArray, List.set_cons_zero, List.set_cons_succ, i64_w, i32_w]
                                    rfl
                                  refine pure_ (i := 11) (N := some 68) (v := ?_) (a' := ?_) #[true, true, true, true, true, true, true, true, true, true, true, true, false, false, false] rfl rfl (any_of HT_.out (by kernel_rfl)) (fun _ _ _ h => h) (Or.inl ⟨by rfl, ?_⟩) ?_ ?_
                                  rotate_left
                                  · intro w'
                                    go_simp
                                    with_reducible rfl
                                  rotate_left
                                  · simp only [Act.put, List.setIfInBounds_toArray, List.set_cons_zero, List.set_cons_succ, i64_w, i32_w]
                                    rfl
                                  refine pure_ (i := 12) (N := some 69) (v := ?_) (a' := ?_) #[true, true, true, true, true, true, true, true, true, true, true, true, true, false, false] rfl rfl (any_of HT_.out (by kernel_rfl)) (fun _ _ _ h => h) (Or.inl ⟨by rfl, ?_⟩) ?_ ?_
                                  rotate_left
                                  · intro w'
                                    go_simp
                                    with_reducible rfl
                                  rotate_left
                                  · simp only [Act.put, List.setIfInBounds_toArray, List.set_cons_zero, List.set_cons_succ, i64_w, i32_w]
                                    rfl
                                  refine pure_ (i := 13) (N := some 70) (v := ?_) (a' := ?_) #[true, true, true, true, true, true, true, true, true, true, true, true, true, true, false] rfl rfl (any_of HT_.out (by kernel_rfl)) (fun _ _ _ h => h) (Or.inl ⟨by rfl, ?_⟩) ?_ ?_
                                  rotate_left
                                  · intro w'
                                    go_simp
                                    with_reducible rfl
                                  rotate_left
                                  · simp only [Act.put, List.setIfInBounds_toArray, List.set_cons_zero, List.set_cons_succ, i64_w, i32_w]
                                    rfl
                                  refine pure_ (i := 14) (N := some 71) (v := ?_) (a' := ?_) #[true, true, true, true, true, true, true, true, true, true, true, true, true, true, true] rfl rfl (any_of HT_.out (by kernel_rfl)) (fun _ _ _ h => h) (Or.inl ⟨by rfl, ?_⟩) ?_ ?_
                                  rotate_left
                                  · intro w'
                                    go_simp
                                    with_reducible rfl
                                  rotate_left
                                  · simp only [Act.put, List.setIfInBounds_toArray, List.set_cons_zero, List.set_cons_succ, i64_w, i32_w]
                                    rfl
                                  refine done_ (done_of HT_.out (by kernel_rfl)) ?_
                                  try go_wp2
                                  go_roundg kj15
                                  case measure => have := HK1.out; have := HJ15.out; omega
                                  case rel => exact ⟨(y233), (wrap64 (x5_1 + 1)), (t218), (t219), (t220), (t221), (t222), (t223), (t224), (t225), (t226), (t229), (.slice Ao30 t226.length co30), (by first | rfl | (simp; done) | (simp [*]; done)), H', ⟨by have := HK1.out; have := HJ15.out; omega⟩, ⟨by (with_reducible repeat (first | apply Kd.R_alloc | apply Kd.R_drewN | apply Kd.R_drew)); exact Kd.R_mono HO235.out (fun _ hk => hk.2.2.2)⟩, ⟨by (with_reducible repeat (first | apply Kd.R_alloc | apply Kd.R_drewN | apply Kd.R_drew)); exact Kd.R_mono HO_232008.out (fun _ hk => hk.1)⟩, ⟨by (with_reducible repeat (first | refine blk_drewN ?_ _ | refine blk_drew ?_ | refine blk_alloc ?_ _)); exact BK215.out⟩, ⟨by repeat (first | (with_reducible first | exact HB.out | apply below_alloc | apply pw_below_drewN | apply below_drew1 | refine below_set ?_ GE215.out | refine below_set ?_ GE231.out) | exact HB.out)⟩⟩
                                · rw [if_neg c44] at H
                                  have c44b0 : ((t236.length : Int) == 32) = false := beq_eq_false_iff_ne.mpr c44
                                  have c44b1 : ((t236.length : Int) != 32) = true := bne_iff_ne.mpr c44
                                  exact absurd (Option.some.inj H) (by rw [HR_.out]; decide)
                              · rw [if_neg c43] at H
                                have c43b0 : ((strOfNums t236).toList == (strOfNums t240).toList) = false := beq_eq_false_iff_ne.mpr c43
                                have c43b1 : ((strOfNums t236).toList != (strOfNums t240).toList) = true := bne_iff_ne.mpr c43
                                exact absurd (Option.some.inj H) (by rw [HR_.out]; decide)
                            · rw [if_neg c41] at H
                              have c41b0 : (t239 == 0) = false := beq_eq_false_iff_ne.mpr c41
                              have c41b1 : (t239 != 0) = true := bne_iff_ne.mpr c41
                              exact absurd (Option.some.inj H) (by rw [HR_.out]; decide)
                          · rw [if_neg c39] at H
                            exact absurd H (by simp)
                        · rw [if_neg c38] at H
                          exact absurd H (by simp)
                      · rw [if_neg c37] at H
                        exact absurd H (by simp)
            · rw [if_neg c13] at H
              exact absurd H (by simp)
          · rw [if_neg c12] at H
            have c12b0 : decide (x5_1 < (l0.length : Int)) = false := decide_eq_false c12
            clear c12
            obtain rfl := Option.some.inj H
            have hcz58_0 : wr.cell? ⟨gb215, 0, none⟩ = some (.int .u32 x216000_1) := (blk_cell BK215.out 0).trans rfl
            have hcz58_1 : wr.cell? ⟨gb215, 1, none⟩ = some (.int .u32 x216001_1) := (blk_cell BK215.out 1).trans rfl
            have hcz58_2 : wr.cell? ⟨gb215, 2, none⟩ = some (.int .u32 x216002_1) := (blk_cell BK215.out 2).trans rfl
            have hcz58_3 : wr.cell? ⟨gb215, 3, none⟩ = some (.int .u32 x216003_1) := (blk_cell BK215.out 3).trans rfl
            have hcz58_4 : wr.cell? ⟨gb215, 4, none⟩ = some (.int .u32 x216004_1) := (blk_cell BK215.out 4).trans rfl
            have hcz58_5 : wr.cell? ⟨gb215, 5, none⟩ = some (.int .u32 x216005_1) := (blk_cell BK215.out 5).trans rfl
            have hcz58_6 : wr.cell? ⟨gb215, 6, none⟩ = some (.int .u32 x216006_1) := (blk_cell BK215.out 6).trans rfl
            have hcz58_7 : wr.cell? ⟨gb215, 7, none⟩ = some (.int .u32 x216007_1) := (blk_cell BK215.out 7).trans rfl
            have hcz58_8 : wr.cell? ⟨gb215, 8, none⟩ = some (u216008) := (blk_cell BK215.out 8).trans rfl
            have hcz58_9 : wr.cell? ⟨gb215, 9, none⟩ = some (.int .u64 x216009_1) := (blk_cell BK215.out 9).trans rfl
            have hfz58_0 := blk_frozen BK215.out 0
            have hfz58_1 := blk_frozen BK215.out 1
            have hfz58_2 := blk_frozen BK215.out 2
            have hfz58_3 := blk_frozen BK215.out 3
            have hfz58_4 := blk_frozen BK215.out 4
            have hfz58_5 := blk_frozen BK215.out 5
            have hfz58_6 := blk_frozen BK215.out 6
            have hfz58_7 := blk_frozen BK215.out 7
            have hfz58_8 := blk_frozen BK215.out 8
            have hfz58_9 := blk_frozen BK215.out 9
            obtain ⟨Ao59, co59, eo59⟩ := Kd.R_slice HO_4.out
            subst eo59
            go_wp2
            go_ret
            exact ⟨by first | rfl | (simp [errW_none, errW_some] <;> rfl) | (simp [*, errW_none, errW_some] <;> rfl), by repeat (first | (with_reducible first | exact HB.out | apply below_alloc | apply pw_below_drewN | apply below_drew1 | refine below_set ?_ GE215.out) | exact HB.out)⟩
  · replace c3 := Bool.eq_false_iff.mpr c3
    subst c3
    have H1 : (some false) = some r := by rw [if_neg (show ¬ (false = true) by decide)] at H; exact H
    clear H
    have H := H1
    clear H1
    exact absurd (Option.some.inj H) (by rw [HR_.out]; decide)

theorem wristbandlaw02_ShaGoesOn.open0 {H : Type} {enc : TypeId × Value → H} {W : World} {base : Nat} {sp : Nat → Bool} {held : Bool} {a : Option Addr} {len cap : Nat} {x : DataW H} {p : List MemPlace} (hT : DataW.Trod enc Tryd.prog W base sp held 45 (.slice a len cap) x p) : ∃ zs : List (List Int), zs.length = len ∧ len ≤ cap ∧ Kd.C (Kd.slice 5 (Kd.int .u8)) W a len zs ∧ (zs.length ≤ maxLen ∧ ∀ x_ ∈ zs, (fun xs_ : List Int => xs_.length ≤ maxLen ∧ ∀ x_ ∈ xs_, (fun n_ : Int => (Lit.int .u8 n_).wf = true) x_) x_) := opens_row (opens_slice Tryd.underlying45 (opens_slice Tryd.underlying24 (opens_int Tryd.underlying5) (by kernel_rfl)) (by kernel_rfl)) hT
/-- THE ONE PURE STATEMENT of wristbandlaw02_ShaGoesOn: yours. -/
def wristbandlaw02_ShaGoesOn.Pure : Prop := ∀ (l0 : List (List Int)), l0.length ≤ maxLen → (∀ x ∈ l0, (fun xs_ : List Int => xs_.length ≤ maxLen ∧ ∀ x_ ∈ xs_, (fun n_ : Int => (Lit.int .u8 n_).wf = true) x_) x) → ∃ k, wristbandlaw02_ShaGoesOn.f k l0 = some true
theorem wristbandlaw02_ShaGoesOn.walk (P : wristbandlaw02_ShaGoesOn.Pure) (a0 : Option Addr) (len0 cap0 : Nat) (z0 : List (List Int)) (w : World) (w0 : z0.length = len0 ∧ len0 ≤ cap0 ∧ Kd.C (Kd.slice 5 (Kd.int .u8)) w a0 len0 z0 ∧ (z0.length ≤ maxLen ∧ ∀ x_ ∈ z0, (fun xs_ : List Int => xs_.length ≤ maxLen ∧ ∀ x_ ∈ xs_, (fun n_ : Int => (Lit.int .u8 n_).wf = true) x_) x_)) (hL0_ : Kd.C (Kd.int .u32) w (some ⟨0, 0, none⟩) 64 shaK) (hL1_ : Kd.C (Kd.int .u32) w (some ⟨1, 0, none⟩) 8 shaF) :
    Calls Tryd.prog 4 #[.slice a0 len0 cap0] w fun e w' => e = .returned (.bool true) ∧ Below w.heap.size w w' := by
  obtain ⟨rfl, hc0, hr0, hm0, hw0⟩ := w0
  obtain ⟨k, h⟩ := P z0 hm0 hw0
  refine (wristbandlaw02_ShaGoesOn.calls k _ _ z0 true w hr0 hc0 hL0_ hL1_ h rfl).mono ?_
  rintro e w' ⟨rfl, hd⟩
  exact ⟨rfl, hd⟩

end Go.Proofs.YtnpkhkhlofkbhaaDoor.PShaGoesOn
