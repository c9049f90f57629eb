-- made by a program of this session (its printer) out of what Lean prints of the given program
import Derived.Test.YtnpkhkhlofkbhaaDoorPSlipRightx0
import Derived.Test.YtnpkhkhlofkbhaaDoorPSlipRightx2
import Derived.Test.YtnpkhkhlofkbhaaDoorPSlipRightx3
namespace Go.Proofs.YtnpkhkhlofkbhaaDoor.PSlipRight
open Go.RowKit Go.Proofs.YtnpkhkhlofkbhaaDoorW.PrintWords Go.Proofs.YtnpkhkhlofkbhaaDoorW.PrintLast Go.Proofs.YtnpkhkhlofkbhaaDoorW.PrintMore
attribute [local go_sem] max2_int min2_int max_two min_two max_three min_three max_four min_four   -- for this text's walks alone
set_option linter.unusedVariables false
set_option linter.unusedSimpArgs false

/-! ### wristbandlaw18_awake: function 32 -/
def wristbandlaw18_awake.f (k : Nat)  : Option (Bool) := ((slip_Put.f k (([111, 110, 101] : List Int))).bind fun bt204 => ((slip_Put.f k ([] : List Int)).bind fun bt208 => ((some (([] : List Int) : List Int)).bind fun y212 => (if y212.length + bt204.1.length < 140737488355328 then ((some (y212 ++ bt204.1 : List Int)).bind fun y215 => (if y215.length + bt208.1.length < 140737488355328 then ((some (y215 ++ bt208.1 : List Int)).bind fun y218 => ((some (([] : List Int) : List Int)).bind fun y221 => (if y221.length + y218.length < 140737488355328 then ((some (y221 ++ y218 : List Int)).bind fun y224 => ((some (([0, 3, 120] : List Int) : List Int)).bind fun y227 => (if y224.length + y227.length < 140737488355328 then ((slip_Row.f k (y224 ++ y227)).bind fun bt233 => (if bt204.2 = 0 then (if bt208.2 = 0 then (if (bt204.1.length : Int) = 9 then (if (bt208.1.length : Int) = 6 then (if 1 < (bt204.1.length : Int) then (if (rd bt204.1 1) = 3 then (if (bt233.1.length : Int) = 2 then (if 0 < (bt233.1.length : Int) then (if (strOfNums (rd_L2 bt233.1 0)).toList = ([111, 110, 101] : List UInt8) then (if bt233.2 = 15 then ((slip_Whole.f k y218).bind fun t239 => (if t239 = true then (if 14 ≤ (y218.length : Int) then ((slip_Whole.f k (y218.take 14)).bind fun t245 => (some (!t245))) else (none)) else (some false))) else (some false)) else (some false)) else (none)) else (some false)) else (some false)) else (none)) else (some false)) else (some false)) else (some false)) else (some false))) else (none)))) else (none)))) else (none))) else (none))))).bind fun tS_ => (if tS_ = true then (some true) else (none))
theorem wristbandlaw18_awake.mono : ∀ k, LeO (wristbandlaw18_awake.f k ) (wristbandlaw18_awake.f (k + 1) ) := by
  intro  k; unfold wristbandlaw18_awake.f
  repeat' first
    | (with_reducible exact slip_Put.mono _ _)
    | (with_reducible exact slip_Row.mono _ _)
    | (with_reducible exact slip_Whole.mono _ _)
    | (with_reducible exact LeO.refl _)
    | (with_reducible exact LeO.none _)
    | (with_reducible refine LeO.ite ?_ ?_)
    | (with_reducible refine LeO.bind ?_ (fun _ => ?_))
    | exact slip_Put.mono _ _
    | exact slip_Row.mono _ _
    | exact slip_Whole.mono _ _
    | exact LeO.none _
    | refine LeO.ite ?_ ?_
    | refine LeO.bind ?_ (fun _ => ?_)
set_option maxHeartbeats 8000000 in
set_option maxRecDepth 100000 in
theorem wristbandlaw18_awake.calls (k : Nat)  (r : Bool) (w : World) (hL0_ : Kd.C (Kd.int .u32) w (some ⟨0, 0, none⟩) 64 shaK) (hL1_ : Kd.C (Kd.int .u32) w (some ⟨1, 0, none⟩) 8 shaF) (h : wristbandlaw18_awake.f k  = some r) :
   Calls Tryd.prog 32 #[] w fun e w' => e = .returned (.bool r) ∧ Below w.heap.size w w' := by
  have HRL0_ := Aside0.mk hL0_; have HRL1_ := Aside0.mk hL1_; clear hL0_ hL1_; have HB := Aside0.mk (Below.refl w.heap.size w); obtain ⟨tS_, hS_, h2_⟩ := Option.bind_eq_some_iff.mp h
  have hz_ : tS_ = true ∧ r = true := by clear hS_ h; cases tS_ <;> cases r <;> simp_all
  have H : ((slip_Put.f k (([111, 110, 101] : List Int))).bind fun bt204 => ((slip_Put.f k ([] : List Int)).bind fun bt208 => ((some (([] : List Int) : List Int)).bind fun y212 => (if y212.length + bt204.1.length < 140737488355328 then ((some (y212 ++ bt204.1 : List Int)).bind fun y215 => (if y215.length + bt208.1.length < 140737488355328 then ((some (y215 ++ bt208.1 : List Int)).bind fun y218 => ((some (([] : List Int) : List Int)).bind fun y221 => (if y221.length + y218.length < 140737488355328 then ((some (y221 ++ y218 : List Int)).bind fun y224 => ((some (([0, 3, 120] : List Int) : List Int)).bind fun y227 => (if y224.length + y227.length < 140737488355328 then ((slip_Row.f k (y224 ++ y227)).bind fun bt233 => (if bt204.2 = 0 then (if bt208.2 = 0 then (if (bt204.1.length : Int) = 9 then (if (bt208.1.length : Int) = 6 then (if 1 < (bt204.1.length : Int) then (if (rd bt204.1 1) = 3 then (if (bt233.1.length : Int) = 2 then (if 0 < (bt233.1.length : Int) then (if (strOfNums (rd_L2 bt233.1 0)).toList = ([111, 110, 101] : List UInt8) then (if bt233.2 = 15 then ((slip_Whole.f k y218).bind fun t239 => (if t239 = true then (if 14 ≤ (y218.length : Int) then ((slip_Whole.f k (y218.take 14)).bind fun t245 => (some (!t245))) else (none)) else (some false))) else (some false)) else (some false)) else (none)) else (some false)) else (some false)) else (none)) else (some false)) else (some false)) else (some false)) else (some false))) else (none)))) else (none)))) else (none))) else (none))))) = some r := hS_.trans (congrArg some (hz_.1.trans hz_.2.symm))
  have HR_ := Aside0.mk hz_.2; clear h h2_ hS_ hz_ tS_; obtain ⟨y201, hy201⟩ : ∃ y_ : List Int, y_ = (([111, 110, 101] : List Int)) := ⟨_, rfl⟩
  replace H : ((slip_Put.f k y201).bind fun bt204 => ((slip_Put.f k ([] : List Int)).bind fun bt208 => ((some (([] : List Int) : List Int)).bind fun y212 => (if y212.length + bt204.1.length < 140737488355328 then ((some (y212 ++ bt204.1 : List Int)).bind fun y215 => (if y215.length + bt208.1.length < 140737488355328 then ((some (y215 ++ bt208.1 : List Int)).bind fun y218 => ((some (([] : List Int) : List Int)).bind fun y221 => (if y221.length + y218.length < 140737488355328 then ((some (y221 ++ y218 : List Int)).bind fun y224 => ((some (([0, 3, 120] : List Int) : List Int)).bind fun y227 => (if y224.length + y227.length < 140737488355328 then ((slip_Row.f k (y224 ++ y227)).bind fun bt233 => (if bt204.2 = 0 then (if bt208.2 = 0 then (if (bt204.1.length : Int) = 9 then (if (bt208.1.length : Int) = 6 then (if 1 < (bt204.1.length : Int) then (if (rd bt204.1 1) = 3 then (if (bt233.1.length : Int) = 2 then (if 0 < (bt233.1.length : Int) then (if (strOfNums (rd_L2 bt233.1 0)).toList = ([111, 110, 101] : List UInt8) then (if bt233.2 = 15 then ((slip_Whole.f k y218).bind fun t239 => (if t239 = true then (if 14 ≤ (y218.length : Int) then ((slip_Whole.f k (y218.take 14)).bind fun t245 => (some (!t245))) else (none)) else (some false))) else (some false)) else (some false)) else (none)) else (some false)) else (some false)) else (none)) else (some false)) else (some false)) else (some false)) else (some false))) else (none)))) else (none)))) else (none))) else (none))))) = some r := by first | (rw [hy201]; with_reducible exact H) | (have H2_ := (Option.bind_some _ _).symm.trans H; rw [hy201]; with_reducible exact H2_) | (have H2_ := (Option.bind_some _ _).symm.trans H; with_reducible exact H2_) | with_reducible exact H | (rw [hy201]; exact H) | exact H
  have Ny201 := Aside0.mk hy201; clear hy201; replace H := Option.bind_eq_some_iff.mp H
  obtain ⟨⟨t204, t207⟩, A10, H⟩ := H
  replace H : ((slip_Put.f k ([] : List Int)).bind fun bt208 => ((some (([] : List Int) : List Int)).bind fun y212 => (if y212.length + t204.length < 140737488355328 then ((some (y212 ++ t204 : List Int)).bind fun y215 => (if y215.length + bt208.1.length < 140737488355328 then ((some (y215 ++ bt208.1 : List Int)).bind fun y218 => ((some (([] : List Int) : List Int)).bind fun y221 => (if y221.length + y218.length < 140737488355328 then ((some (y221 ++ y218 : List Int)).bind fun y224 => ((some (([0, 3, 120] : List Int) : List Int)).bind fun y227 => (if y224.length + y227.length < 140737488355328 then ((slip_Row.f k (y224 ++ y227)).bind fun bt233 => (if t207 = 0 then (if bt208.2 = 0 then (if (t204.length : Int) = 9 then (if (bt208.1.length : Int) = 6 then (if 1 < (t204.length : Int) then (if (rd t204 1) = 3 then (if (bt233.1.length : Int) = 2 then (if 0 < (bt233.1.length : Int) then (if (strOfNums (rd_L2 bt233.1 0)).toList = ([111, 110, 101] : List UInt8) then (if bt233.2 = 15 then ((slip_Whole.f k y218).bind fun t239 => (if t239 = true then (if 14 ≤ (y218.length : Int) then ((slip_Whole.f k (y218.take 14)).bind fun t245 => (some (!t245))) else (none)) else (some false))) else (some false)) else (some false)) else (none)) else (some false)) else (some false)) else (none)) else (some false)) else (some false)) else (some false)) else (some false))) else (none)))) else (none)))) else (none))) else (none)))) = some r := H
  have A1 := Aside0.mk A10; clear A10; replace H := Option.bind_eq_some_iff.mp H
  obtain ⟨⟨t208, t211⟩, A20, H⟩ := H
  replace H : ((some (([] : List Int) : List Int)).bind fun y212 => (if y212.length + t204.length < 140737488355328 then ((some (y212 ++ t204 : List Int)).bind fun y215 => (if y215.length + t208.length < 140737488355328 then ((some (y215 ++ t208 : List Int)).bind fun y218 => ((some (([] : List Int) : List Int)).bind fun y221 => (if y221.length + y218.length < 140737488355328 then ((some (y221 ++ y218 : List Int)).bind fun y224 => ((some (([0, 3, 120] : List Int) : List Int)).bind fun y227 => (if y224.length + y227.length < 140737488355328 then ((slip_Row.f k (y224 ++ y227)).bind fun bt233 => (if t207 = 0 then (if t211 = 0 then (if (t204.length : Int) = 9 then (if (t208.length : Int) = 6 then (if 1 < (t204.length : Int) then (if (rd t204 1) = 3 then (if (bt233.1.length : Int) = 2 then (if 0 < (bt233.1.length : Int) then (if (strOfNums (rd_L2 bt233.1 0)).toList = ([111, 110, 101] : List UInt8) then (if bt233.2 = 15 then ((slip_Whole.f k y218).bind fun t239 => (if t239 = true then (if 14 ≤ (y218.length : Int) then ((slip_Whole.f k (y218.take 14)).bind fun t245 => (some (!t245))) else (none)) else (some false))) else (some false)) else (some false)) else (none)) else (some false)) else (some false)) else (none)) else (some false)) else (some false)) else (some false)) else (some false))) else (none)))) else (none)))) else (none))) else (none))) = some r := H
  have A2 := Aside0.mk A20; clear A20; obtain ⟨y212, hy212⟩ : ∃ y_ : List Int, y_ = (([] : List Int)) := ⟨_, rfl⟩
  replace H : (if y212.length + t204.length < 140737488355328 then ((some (y212 ++ t204 : List Int)).bind fun y215 => (if y215.length + t208.length < 140737488355328 then ((some (y215 ++ t208 : List Int)).bind fun y218 => ((some (([] : List Int) : List Int)).bind fun y221 => (if y221.length + y218.length < 140737488355328 then ((some (y221 ++ y218 : List Int)).bind fun y224 => ((some (([0, 3, 120] : List Int) : List Int)).bind fun y227 => (if y224.length + y227.length < 140737488355328 then ((slip_Row.f k (y224 ++ y227)).bind fun bt233 => (if t207 = 0 then (if t211 = 0 then (if (t204.length : Int) = 9 then (if (t208.length : Int) = 6 then (if 1 < (t204.length : Int) then (if (rd t204 1) = 3 then (if (bt233.1.length : Int) = 2 then (if 0 < (bt233.1.length : Int) then (if (strOfNums (rd_L2 bt233.1 0)).toList = ([111, 110, 101] : List UInt8) then (if bt233.2 = 15 then ((slip_Whole.f k y218).bind fun t239 => (if t239 = true then (if 14 ≤ (y218.length : Int) then ((slip_Whole.f k (y218.take 14)).bind fun t245 => (some (!t245))) else (none)) else (some false))) else (some false)) else (some false)) else (none)) else (some false)) else (some false)) else (none)) else (some false)) else (some false)) else (some false)) else (some false))) else (none)))) else (none)))) else (none))) else (none)) = some r := by first | (rw [hy212]; with_reducible exact H) | (have H2_ := (Option.bind_some _ _).symm.trans H; rw [hy212]; with_reducible exact H2_) | (have H2_ := (Option.bind_some _ _).symm.trans H; with_reducible exact H2_) | with_reducible exact H | (rw [hy212]; exact H) | exact H
  have Ny212 := Aside0.mk hy212; clear hy212; by_cases c3 : y212.length + t204.length < 140737488355328
  ·rw [if_pos c3] at H
   have LMc3 := Aside0.mk c3; clear c3; obtain ⟨y215, hy215⟩ : ∃ y_ : List Int, y_ = (y212 ++ t204) := ⟨_, rfl⟩
   replace H : (if y215.length + t208.length < 140737488355328 then ((some (y215 ++ t208 : List Int)).bind fun y218 => ((some (([] : List Int) : List Int)).bind fun y221 => (if y221.length + y218.length < 140737488355328 then ((some (y221 ++ y218 : List Int)).bind fun y224 => ((some (([0, 3, 120] : List Int) : List Int)).bind fun y227 => (if y224.length + y227.length < 140737488355328 then ((slip_Row.f k (y224 ++ y227)).bind fun bt233 => (if t207 = 0 then (if t211 = 0 then (if (t204.length : Int) = 9 then (if (t208.length : Int) = 6 then (if 1 < (t204.length : Int) then (if (rd t204 1) = 3 then (if (bt233.1.length : Int) = 2 then (if 0 < (bt233.1.length : Int) then (if (strOfNums (rd_L2 bt233.1 0)).toList = ([111, 110, 101] : List UInt8) then (if bt233.2 = 15 then ((slip_Whole.f k y218).bind fun t239 => (if t239 = true then (if 14 ≤ (y218.length : Int) then ((slip_Whole.f k (y218.take 14)).bind fun t245 => (some (!t245))) else (none)) else (some false))) else (some false)) else (some false)) else (none)) else (some false)) else (some false)) else (none)) else (some false)) else (some false)) else (some false)) else (some false))) else (none)))) else (none)))) else (none)) = some r := by first | (rw [hy215]; with_reducible exact H) | (have H2_ := (Option.bind_some _ _).symm.trans H; rw [hy215]; with_reducible exact H2_) | (have H2_ := (Option.bind_some _ _).symm.trans H; with_reducible exact H2_) | with_reducible exact H | (rw [hy215]; exact H) | exact H
   have Ny215 := Aside0.mk hy215; clear hy215; by_cases c4 : y215.length + t208.length < 140737488355328
   ·rw [if_pos c4] at H
    have LMc4 := Aside0.mk c4; clear c4; obtain ⟨y218, hy218⟩ : ∃ y_ : List Int, y_ = (y215 ++ t208) := ⟨_, rfl⟩
    replace H : ((some (([] : List Int) : List Int)).bind fun y221 => (if y221.length + y218.length < 140737488355328 then ((some (y221 ++ y218 : List Int)).bind fun y224 => ((some (([0, 3, 120] : List Int) : List Int)).bind fun y227 => (if y224.length + y227.length < 140737488355328 then ((slip_Row.f k (y224 ++ y227)).bind fun bt233 => (if t207 = 0 then (if t211 = 0 then (if (t204.length : Int) = 9 then (if (t208.length : Int) = 6 then (if 1 < (t204.length : Int) then (if (rd t204 1) = 3 then (if (bt233.1.length : Int) = 2 then (if 0 < (bt233.1.length : Int) then (if (strOfNums (rd_L2 bt233.1 0)).toList = ([111, 110, 101] : List UInt8) then (if bt233.2 = 15 then ((slip_Whole.f k y218).bind fun t239 => (if t239 = true then (if 14 ≤ (y218.length : Int) then ((slip_Whole.f k (y218.take 14)).bind fun t245 => (some (!t245))) else (none)) else (some false))) else (some false)) else (some false)) else (none)) else (some false)) else (some false)) else (none)) else (some false)) else (some false)) else (some false)) else (some false))) else (none)))) else (none))) = some r := by first | (rw [hy218]; with_reducible exact H) | (have H2_ := (Option.bind_some _ _).symm.trans H; rw [hy218]; with_reducible exact H2_) | (have H2_ := (Option.bind_some _ _).symm.trans H; with_reducible exact H2_) | with_reducible exact H | (rw [hy218]; exact H) | exact H
    have Ny218 := Aside0.mk hy218; clear hy218; obtain ⟨y221, hy221⟩ : ∃ y_ : List Int, y_ = (([] : List Int)) := ⟨_, rfl⟩
    replace H : (if y221.length + y218.length < 140737488355328 then ((some (y221 ++ y218 : List Int)).bind fun y224 => ((some (([0, 3, 120] : List Int) : List Int)).bind fun y227 => (if y224.length + y227.length < 140737488355328 then ((slip_Row.f k (y224 ++ y227)).bind fun bt233 => (if t207 = 0 then (if t211 = 0 then (if (t204.length : Int) = 9 then (if (t208.length : Int) = 6 then (if 1 < (t204.length : Int) then (if (rd t204 1) = 3 then (if (bt233.1.length : Int) = 2 then (if 0 < (bt233.1.length : Int) then (if (strOfNums (rd_L2 bt233.1 0)).toList = ([111, 110, 101] : List UInt8) then (if bt233.2 = 15 then ((slip_Whole.f k y218).bind fun t239 => (if t239 = true then (if 14 ≤ (y218.length : Int) then ((slip_Whole.f k (y218.take 14)).bind fun t245 => (some (!t245))) else (none)) else (some false))) else (some false)) else (some false)) else (none)) else (some false)) else (some false)) else (none)) else (some false)) else (some false)) else (some false)) else (some false))) else (none)))) else (none)) = some r := by first | (rw [hy221]; with_reducible exact H) | (have H2_ := (Option.bind_some _ _).symm.trans H; rw [hy221]; with_reducible exact H2_) | (have H2_ := (Option.bind_some _ _).symm.trans H; with_reducible exact H2_) | with_reducible exact H | (rw [hy221]; exact H) | exact H
    have Ny221 := Aside0.mk hy221; clear hy221; by_cases c5 : y221.length + y218.length < 140737488355328
    ·rw [if_pos c5] at H
     have LMc5 := Aside0.mk c5; clear c5; obtain ⟨y224, hy224⟩ : ∃ y_ : List Int, y_ = (y221 ++ y218) := ⟨_, rfl⟩
     replace H : ((some (([0, 3, 120] : List Int) : List Int)).bind fun y227 => (if y224.length + y227.length < 140737488355328 then ((slip_Row.f k (y224 ++ y227)).bind fun bt233 => (if t207 = 0 then (if t211 = 0 then (if (t204.length : Int) = 9 then (if (t208.length : Int) = 6 then (if 1 < (t204.length : Int) then (if (rd t204 1) = 3 then (if (bt233.1.length : Int) = 2 then (if 0 < (bt233.1.length : Int) then (if (strOfNums (rd_L2 bt233.1 0)).toList = ([111, 110, 101] : List UInt8) then (if bt233.2 = 15 then ((slip_Whole.f k y218).bind fun t239 => (if t239 = true then (if 14 ≤ (y218.length : Int) then ((slip_Whole.f k (y218.take 14)).bind fun t245 => (some (!t245))) else (none)) else (some false))) else (some false)) else (some false)) else (none)) else (some false)) else (some false)) else (none)) else (some false)) else (some false)) else (some false)) else (some false))) else (none))) = some r := by first | (rw [hy224]; with_reducible exact H) | (have H2_ := (Option.bind_some _ _).symm.trans H; rw [hy224]; with_reducible exact H2_) | (have H2_ := (Option.bind_some _ _).symm.trans H; with_reducible exact H2_) | with_reducible exact H | (rw [hy224]; exact H) | exact H
     have Ny224 := Aside0.mk hy224; clear hy224; obtain ⟨y227, hy227⟩ : ∃ y_ : List Int, y_ = (([0, 3, 120] : List Int)) := ⟨_, rfl⟩
     replace H : (if y224.length + y227.length < 140737488355328 then ((slip_Row.f k (y224 ++ y227)).bind fun bt233 => (if t207 = 0 then (if t211 = 0 then (if (t204.length : Int) = 9 then (if (t208.length : Int) = 6 then (if 1 < (t204.length : Int) then (if (rd t204 1) = 3 then (if (bt233.1.length : Int) = 2 then (if 0 < (bt233.1.length : Int) then (if (strOfNums (rd_L2 bt233.1 0)).toList = ([111, 110, 101] : List UInt8) then (if bt233.2 = 15 then ((slip_Whole.f k y218).bind fun t239 => (if t239 = true then (if 14 ≤ (y218.length : Int) then ((slip_Whole.f k (y218.take 14)).bind fun t245 => (some (!t245))) else (none)) else (some false))) else (some false)) else (some false)) else (none)) else (some false)) else (some false)) else (none)) else (some false)) else (some false)) else (some false)) else (some false))) else (none)) = some r := by first | (rw [hy227]; with_reducible exact H) | (have H2_ := (Option.bind_some _ _).symm.trans H; rw [hy227]; with_reducible exact H2_) | (have H2_ := (Option.bind_some _ _).symm.trans H; with_reducible exact H2_) | with_reducible exact H | (rw [hy227]; exact H) | exact H
     have Ny227 := Aside0.mk hy227; clear hy227; by_cases c6 : y224.length + y227.length < 140737488355328
     ·rw [if_pos c6] at H
      have LMc6 := Aside0.mk c6; clear c6; obtain ⟨y230, hy230⟩ : ∃ y_ : List Int, y_ = (y224 ++ y227) := ⟨_, rfl⟩
      replace H : ((slip_Row.f k y230).bind fun bt233 => (if t207 = 0 then (if t211 = 0 then (if (t204.length : Int) = 9 then (if (t208.length : Int) = 6 then (if 1 < (t204.length : Int) then (if (rd t204 1) = 3 then (if (bt233.1.length : Int) = 2 then (if 0 < (bt233.1.length : Int) then (if (strOfNums (rd_L2 bt233.1 0)).toList = ([111, 110, 101] : List UInt8) then (if bt233.2 = 15 then ((slip_Whole.f k y218).bind fun t239 => (if t239 = true then (if 14 ≤ (y218.length : Int) then ((slip_Whole.f k (y218.take 14)).bind fun t245 => (some (!t245))) else (none)) else (some false))) else (some false)) else (some false)) else (none)) else (some false)) else (some false)) else (none)) else (some false)) else (some false)) else (some false)) else (some false))) = some r := by first | (rw [hy230]; with_reducible exact H) | (have H2_ := (Option.bind_some _ _).symm.trans H; rw [hy230]; with_reducible exact H2_) | (have H2_ := (Option.bind_some _ _).symm.trans H; with_reducible exact H2_) | with_reducible exact H | (rw [hy230]; exact H) | exact H
      have Ny230 := Aside0.mk hy230; clear hy230; replace H := Option.bind_eq_some_iff.mp H
      obtain ⟨⟨t233, t236⟩, A70, H⟩ := H
      replace H : (if t207 = 0 then (if t211 = 0 then (if (t204.length : Int) = 9 then (if (t208.length : Int) = 6 then (if 1 < (t204.length : Int) then (if (rd t204 1) = 3 then (if (t233.length : Int) = 2 then (if 0 < (t233.length : Int) then (if (strOfNums (rd_L2 t233 0)).toList = ([111, 110, 101] : List UInt8) then (if t236 = 15 then ((slip_Whole.f k y218).bind fun t239 => (if t239 = true then (if 14 ≤ (y218.length : Int) then ((slip_Whole.f k (y218.take 14)).bind fun t245 => (some (!t245))) else (none)) else (some false))) else (some false)) else (some false)) else (none)) else (some false)) else (some false)) else (none)) else (some false)) else (some false)) else (some false)) else (some false)) = some r := H
      have A7 := Aside0.mk A70; clear A70; by_cases c8 : t207 = 0
      ·rw [if_pos c8] at H
       have c8b0 : (t207 == 0) = true := beq_iff_eq.mpr c8
       have c8b1 : (t207 != 0) = false := bne_eq_false_iff_eq.mpr c8
       clear c8; by_cases c9 : t211 = 0
       ·rw [if_pos c9] at H
        have c9b0 : (t211 == 0) = true := beq_iff_eq.mpr c9
        have c9b1 : (t211 != 0) = false := bne_eq_false_iff_eq.mpr c9
        clear c9; by_cases c10 : (t204.length : Int) = 9
        ·rw [if_pos c10] at H
         have c10b0 : ((t204.length : Int) == 9) = true := beq_iff_eq.mpr c10
         have c10b1 : ((t204.length : Int) != 9) = false := bne_eq_false_iff_eq.mpr c10
         clear c10; by_cases c11 : (t208.length : Int) = 6
         ·rw [if_pos c11] at H
          have c11b0 : ((t208.length : Int) == 6) = true := beq_iff_eq.mpr c11
          have c11b1 : ((t208.length : Int) != 6) = false := bne_eq_false_iff_eq.mpr c11
          clear c11; by_cases c12 : 1 < (t204.length : Int)
          ·rw [if_pos c12] at H
           have c12b0 : decide (1 < (t204.length : Int)) = true := decide_eq_true c12
           have c12b1 : decide (1 < t204.length) = true := decide_eq_true (by omega)
           clear c12; by_cases c13 : (rd t204 1) = 3
           ·rw [if_pos c13] at H
            have c13b0 : ((rd t204 1) == 3) = true := beq_iff_eq.mpr c13
            have c13b1 : ((rd t204 1) != 3) = false := bne_eq_false_iff_eq.mpr c13
            clear c13; by_cases c14 : (t233.length : Int) = 2
            ·rw [if_pos c14] at H
             have c14b0 : ((t233.length : Int) == 2) = true := beq_iff_eq.mpr c14
             have c14b1 : ((t233.length : Int) != 2) = false := bne_eq_false_iff_eq.mpr c14
             clear c14; by_cases c15 : 0 < (t233.length : Int)
             ·rw [if_pos c15] at H
              have c15b0 : decide (0 < (t233.length : Int)) = true := decide_eq_true c15
              have c15b1 : decide (0 < t233.length) = true := decide_eq_true (by omega)
              clear c15; by_cases c16 : (strOfNums (rd_L2 t233 0)).toList = ([111, 110, 101] : List UInt8)
              ·rw [if_pos c16] at H
               have c16b0 : ((strOfNums (rd_L2 t233 0)).toList == ([111, 110, 101] : List UInt8)) = true := beq_iff_eq.mpr c16
               have c16b1 : ((strOfNums (rd_L2 t233 0)).toList != ([111, 110, 101] : List UInt8)) = false := bne_eq_false_iff_eq.mpr c16
               clear c16; by_cases c17 : t236 = 15
               ·rw [if_pos c17] at H
                have c17b0 : (t236 == 15) = true := beq_iff_eq.mpr c17
                have c17b1 : (t236 != 15) = false := bne_eq_false_iff_eq.mpr c17
                clear c17; replace H := Option.bind_eq_some_iff.mp H
                obtain ⟨t239, A180, H⟩ := H
                replace H : (if t239 = true then (if 14 ≤ (y218.length : Int) then ((slip_Whole.f k (y218.take 14)).bind fun t245 => (some (!t245))) else (none)) else (some false)) = some r := H
                have A18 := Aside0.mk A180; clear A180; by_cases c19 : t239 = true
                ·subst c19
                 have H1 : (if 14 ≤ (y218.length : Int) then ((slip_Whole.f k (y218.take 14)).bind fun t245 => (some (!t245))) else (none)) = some r := by rw [if_pos rfl] at H; exact H
                 clear H; have H := H1; clear H1; by_cases c20 : 14 ≤ (y218.length : Int)
                 ·rw [if_pos c20] at H
                  have c20b0 := eq_true c20
                  have c20b1 : decide (14 ≤ (y218.length : Int)) = true := decide_eq_true c20
                  clear c20; obtain ⟨y240, hy240⟩ : ∃ y_ : List Int, y_ = (y218.take 14) := ⟨_, rfl⟩
                  replace H : ((slip_Whole.f k y240).bind fun t245 => (some (!t245))) = some r := by first | (rw [hy240]; with_reducible exact H) | (have H2_ := (Option.bind_some _ _).symm.trans H; rw [hy240]; with_reducible exact H2_) | (have H2_ := (Option.bind_some _ _).symm.trans H; with_reducible exact H2_) | with_reducible exact H | (rw [hy240]; exact H) | exact H
                  have Ny240 := Aside0.mk hy240; clear hy240; replace H := Option.bind_eq_some_iff.mp H
                  obtain ⟨t245, A210, H⟩ := H
                  replace H : (some (!t245)) = some r := H
                  have A21 := Aside0.mk A210; clear A210; obtain rfl := Option.some.inj H
                  go_enter Tryd.func32, Tryd.ntmps32
                  go_wp2_with (first | ((with_reducible refine gate_dst (N := 9) rfl ?_); (try (refine gate_guard (by rfl) ?_; dsimp only)); refine V_const (base := _) (e := 5) (t := 24) (N' := 9) ?hg ?hd ?ho2 ?hlt Tryd.underlying24 Tryd.underlying5 (xs := [111, 110, 101]) (ok := (fun _ => True)) ?hr ?hg2 trivial (Below.refl _ _) (Nat.le_refl _) (by simp) ?_; (case hg => rfl); (case hd => rfl); (case ho2 => rfl); (case hg2 => rfl); (case hlt => exact of_decide_eq_true rfl); (case hr => first | (go_simp; done) | (go_simp; rfl)); intro v202 w22 ho23 hb hg_ hnew_; clear hg_ hnew_; (first | rw [← Ny201.out] at ho23 | (simp only [Int.reduceToNat] at ho23; rw [← Ny201.out] at ho23)); have n0_ := Aside0.mk (Kd.V_lower ho23 (below_size (by repeat (first | (with_reducible first | exact HB.out | apply bA | apply bN | apply bD) | exact HB.out)))); have n1_ := Aside0.mk (below_step (by repeat (first | (with_reducible first | exact HB.out | apply bA | apply bN | apply bD) | exact HB.out)) hb); clear HB; have HO203 := n0_; have HB := n1_; clear n0_ n1_; clear hb ho23; obtain ⟨Ao24, co24, eo24⟩ := Kd.V_slice HO203.out; subst eo24) | ((with_reducible refine gate_callee (f := 33) rfl ?_); refine goesL_ (some 11) rfl rfl Tryd.func33 (by kernel_rfl) rfl #[.slice Ao24 y201.length co24] rfl (by (try simp only [mT, mC, mN]); first | done | rfl | (simp only [List.length_drop, List.length_take]; rfl)) ?_; (with_reducible refine (slip_Put.calls k (fun k_ => True) _ _ y201 t204 t207 _ ?side1 ?side2 ?side3 A1.out).mono ?_); (case side1 => exact HO203.out); (case side2 => repeat (first | exact (Kd.C_below HRL0_.out HB.out) | (with_reducible refine Kd.C_alloc ?_ _) | (with_reducible refine Kd.C_drewN ?_ _) | (with_reducible refine Kd.C_drew ?_))); (case side3 => repeat (first | exact (Kd.C_below HRL1_.out HB.out) | (with_reducible refine Kd.C_alloc ?_ _) | (with_reducible refine Kd.C_drewN ?_ _) | (with_reducible refine Kd.C_drew ?_))); rintro e w25 ⟨v205, rfl, ho0, hb⟩; refine ⟨_, rfl, ?_⟩; have n0_ := Aside0.mk (Kd.V_elder' (by (with_reducible repeat (first | apply Kd.V_alloc | apply Kd.V_drewN | apply Kd.V_drew)); exact HO203.out) (Kd.R_base ho0) hb); have n1_ := Aside0.mk (Kd.R_lower (Kd.R_mono (ok' := fun k_ => True) ho0 (fun _ hk_ => trivial)) (below_size (by repeat (first | (with_reducible first | exact HB.out | apply bA | apply bN | apply bD) | exact HB.out)))); have n2_ := Aside0.mk (below_step (by repeat (first | (with_reducible first | exact HB.out | apply bA | apply bN | apply bD) | exact HB.out)) hb); clear HO203; clear HB; have HO203 := n0_; have HO206 := n1_; have HB := n2_; clear n0_ n1_ n2_; (try clear hb); (try clear hb2); (try clear hk); (try clear hi); (try clear ho0)) | ((with_reducible refine gate_callee (f := 33) rfl ?_); refine goesL_ (some 15) rfl rfl Tryd.func33 (by kernel_rfl) rfl #[.slice none 0 0] rfl (by (try simp only [mT, mC, mN]); first | done | rfl | (simp only [List.length_drop, List.length_take]; rfl)) ?_; (refine (slip_Put.calls k (fun k_ => False) _ _ ([] : List Int) t208 t211 _ ?side1 ?side2 ?side3 A2.out).mono ?_); (case side1 => exact Kd.V_nil _ _ _ _ _); (case side2 => repeat (first | exact (Kd.C_below HRL0_.out HB.out) | (with_reducible refine Kd.C_alloc ?_ _) | (with_reducible refine Kd.C_drewN ?_ _) | (with_reducible refine Kd.C_drew ?_))); (case side3 => repeat (first | exact (Kd.C_below HRL1_.out HB.out) | (with_reducible refine Kd.C_alloc ?_ _) | (with_reducible refine Kd.C_drewN ?_ _) | (with_reducible refine Kd.C_drew ?_))); rintro e w26 ⟨v209, rfl, ho0, hb⟩; refine ⟨_, rfl, ?_⟩; have n0_ := Aside0.mk (Kd.V_elder' (by (with_reducible repeat (first | apply Kd.V_alloc | apply Kd.V_drewN | apply Kd.V_drew)); exact HO203.out) (Kd.R_base ho0) hb); have n1_ := Aside0.mk (Kd.R_elder' (by (with_reducible repeat (first | apply rL | apply rN | apply rW)); exact HO206.out) (Kd.R_base ho0) hb); have n2_ := Aside0.mk (Kd.R_lower (Kd.R_new' (Kd.R_mono (ok' := fun k_ => True) ho0 (fun _ hk_ => trivial)) (Kd.R_lt (by (with_reducible repeat (first | apply rL | apply rN | apply rW)); exact HO206.out))) (below_size (by repeat (first | (with_reducible first | exact HB.out | apply bA | apply bN | apply bD) | exact HB.out)))); have n3_ := Aside0.mk (below_step (by repeat (first | (with_reducible first | exact HB.out | apply bA | apply bN | apply bD) | exact HB.out)) hb); clear HO203; clear HO206; clear HB; have HO203 := n0_; have HO206 := n1_; have HO210 := n2_; have HB := n3_; clear n0_ n1_ n2_ n3_; (try clear hb); (try clear hb2); (try clear hk); (try clear hi); (try clear ho0)) | ((with_reducible refine gate_dst (N := 18) rfl ?_); (try (refine gate_guard (by rfl) ?_; dsimp only)); refine Kd.R_lit (Kd.int .u8) _ 5 ?hg (N := 18) ?hd (xs := ([] : List Int)) (inner := []) (ok := fun _ => True) (okp := fun _ => True) ?hr ?hp (fun _ hk => hk) trivial (Below.refl _ _) (Nat.le_refl _) (by simp) ?_; (case hd => rfl); (case hg => rfl); (case hr => first | (go_simp; done) | (go_simp; rfl)); (case hp => exact (Reps.none _ _)); intro v213 w27 ho28 hb hg_ hnew_; clear hg_ hnew_; (first | rw [← Ny212.out] at ho28 | (simp only [Int.reduceToNat] at ho28; rw [← Ny212.out] at ho28)); have n0_ := Aside0.mk (Kd.V_elder' (by (with_reducible repeat (first | apply Kd.V_alloc | apply Kd.V_drewN | apply Kd.V_drew)); exact HO203.out) (Kd.R_base ho28) hb); have n1_ := Aside0.mk (Kd.R_elder' (by (with_reducible repeat (first | apply rL | apply rN | apply rW)); exact HO206.out) (Kd.R_base ho28) hb); have n2_ := Aside0.mk (Kd.R_elder' (by (with_reducible repeat (first | apply rL | apply rN | apply rW)); exact HO210.out) (Kd.R_base ho28) hb); have n3_ := Aside0.mk (Kd.R_lower (Kd.R_new' (Kd.R_new' ho28 (Kd.R_lt (by (with_reducible repeat (first | apply rL | apply rN | apply rW)); exact HO206.out))) (Kd.R_lt (by (with_reducible repeat (first | apply rL | apply rN | apply rW)); exact HO210.out))) (below_size (by repeat (first | (with_reducible first | exact HB.out | apply bA | apply bN | apply bD) | exact HB.out)))); have n4_ := Aside0.mk (below_step (by repeat (first | (with_reducible first | exact HB.out | apply bA | apply bN | apply bD) | exact HB.out)) hb); clear HO203; clear HO206; clear HO210; clear HB; have HO203 := n0_; have HO206 := n1_; have HO210 := n2_; have HO214 := n3_; have HB := n4_; clear n0_ n1_ n2_ n3_ n4_; clear hb ho28; obtain ⟨Ao30, co30, eo30⟩ := Kd.R_slice HO206.out; subst eo30) | ((with_reducible refine gate_builtin (b := .append) (xs := #[.tmp 18, .tmp 19]) rfl ?_); (try (refine gate_guard (by rfl) ?_; dsimp only)); at_builtin; refine Kd.R_append_rows (Kd.int .u8) (w0 := w) w.heap.size rfl (.tmp 18) (.tmp 19) 24 5 (.int .u8 0) 1 rfl Tryd.underlying24 info5 rfl (by decide) (by omega) v213 y212 t204 _ _ _ (fun k_ => some k_ ≠ (.slice Ao30 t204.length co30 : Value).ownBlock ∧ some k_ ≠ (v209 : Value).ownBlock) (fun _ => False) rfl rfl ?aO ?aR (fun _ _ h => h) (fun _ h => h.elim) ?aF ?aB ?aS ?aL ?_; (case aR => repeat (first | exact (Kd.R_reads' HO206.out).2.2 | (with_reducible refine Kd.C_alloc ?_ _) | (with_reducible refine Kd.C_drewN ?_ _) | (with_reducible refine Kd.C_drew ?_))); (case aB => exact (by repeat (first | (with_reducible first | exact HB.out | apply bA | apply bN | apply bD) | exact HB.out))); (case aF => exact (fun k_ hk => ⟨Kd.fresh' (Kd.R_lt (by (with_reducible repeat (first | apply rL | apply rN | apply rW)); exact HO206.out)) k_ hk, Kd.fresh' (Kd.R_lt (by (with_reducible repeat (first | apply rL | apply rN | apply rW)); exact HO210.out)) k_ hk⟩)); (case aO => exact (by (with_reducible repeat (first | apply rL | apply rN | apply rW)); exact Kd.R_mono HO214.out (fun _ hk => ⟨hk.1.2, hk.2⟩))); (case aS => exact (below_size (by repeat (first | (with_reducible first | exact HB.out | apply bA | apply bN | apply bD) | exact HB.out)))); (case aL => have := LMc3.out; omega); intro v216 w29 ho hb hg hat; rw [← Ny215.out] at ho; have n0_ := Aside0.mk (Kd.V_afterv (ok := (fun k_ => some k_ ≠ (.slice Ao30 t204.length co30 : Value).ownBlock ∧ some k_ ≠ (v209 : Value).ownBlock)) (by (with_reducible repeat (first | apply Kd.V_alloc | apply Kd.V_drewN | apply Kd.V_drew)); exact Kd.V_mono HO203.out (fun _ hk => ⟨⟨hk.1.1.2, hk.1.2⟩, hk.2⟩)) hg hat); have n1_ := Aside0.mk (Kd.R_after (ok := (fun k_ => some k_ ≠ (v209 : Value).ownBlock)) (by (with_reducible repeat (first | apply rL | apply rN | apply rW)); exact Kd.R_mono HO206.out (fun _ hk => ⟨hk.1.2, hk.2⟩)) hg hat); have n2_ := Aside0.mk (Kd.R_after (ok := (fun k_ => some k_ ≠ (.slice Ao30 t204.length co30 : Value).ownBlock)) (by (with_reducible repeat (first | apply rL | apply rN | apply rW)); exact Kd.R_mono HO210.out (fun _ hk => ⟨hk.1.2, hk.2⟩)) hg hat); have n3_ := Aside0.mk (hb); have n4_ := Aside0.mk (ho); clear HO203; clear HO206; clear HO210; clear HB; clear HO214; have HO203 := n0_; have HO206 := n1_; have HO210 := n2_; have HB := n3_; have HO217 := n4_; clear n0_ n1_ n2_ n3_ n4_; clear ho hb hg hat; obtain ⟨Ao32, co32, eo32⟩ := Kd.R_slice HO210.out; subst eo32) | ((with_reducible refine gate_builtin (b := .append) (xs := #[.tmp 20, .tmp 21]) rfl ?_); (try (refine gate_guard (by rfl) ?_; dsimp only)); at_builtin; refine Kd.R_append_rows (Kd.int .u8) (w0 := w) w.heap.size rfl (.tmp 20) (.tmp 21) 24 5 (.int .u8 0) 1 rfl Tryd.underlying24 info5 rfl (by decide) (by omega) v216 y215 t208 _ _ _ (fun k_ => some k_ ≠ (.slice Ao30 t204.length co30 : Value).ownBlock ∧ some k_ ≠ (.slice Ao32 t208.length co32 : Value).ownBlock) (fun _ => False) rfl rfl ?aO ?aR (fun _ _ h => h) (fun _ h => h.elim) ?aF ?aB ?aS ?aL ?_; (case aR => repeat (first | exact (Kd.R_reads' HO210.out).2.2 | (with_reducible refine Kd.C_alloc ?_ _) | (with_reducible refine Kd.C_drewN ?_ _) | (with_reducible refine Kd.C_drew ?_))); (case aB => exact (by repeat (first | (with_reducible first | exact HB.out | apply bA | apply bN | apply bD) | exact HB.out))); (case aF => exact (fun k_ hk => ⟨Kd.fresh' (Kd.R_lt (by (with_reducible repeat (first | apply rL | apply rN | apply rW)); exact HO206.out)) k_ hk, Kd.fresh' (Kd.R_lt (by (with_reducible repeat (first | apply rL | apply rN | apply rW)); exact HO210.out)) k_ hk⟩)); (case aO => exact (by (with_reducible repeat (first | apply rL | apply rN | apply rW)); exact HO217.out)); (case aS => exact (below_size (by repeat (first | (with_reducible first | exact HB.out | apply bA | apply bN | apply bD) | exact HB.out)))); (case aL => have := LMc4.out; omega); intro v219 w31 ho hb hg hat; rw [← Ny218.out] at ho; have n0_ := Aside0.mk (Kd.V_afterv (ok := (fun k_ => some k_ ≠ (.slice Ao30 t204.length co30 : Value).ownBlock ∧ some k_ ≠ (.slice Ao32 t208.length co32 : Value).ownBlock)) (by (with_reducible repeat (first | apply Kd.V_alloc | apply Kd.V_drewN | apply Kd.V_drew)); exact HO203.out) hg hat); have n1_ := Aside0.mk (Kd.R_after (ok := (fun k_ => some k_ ≠ (.slice Ao32 t208.length co32 : Value).ownBlock)) (by (with_reducible repeat (first | apply rL | apply rN | apply rW)); exact HO206.out) hg hat); have n2_ := Aside0.mk (Kd.R_after (ok := (fun k_ => some k_ ≠ (.slice Ao30 t204.length co30 : Value).ownBlock)) (by (with_reducible repeat (first | apply rL | apply rN | apply rW)); exact HO210.out) hg hat); have n3_ := Aside0.mk (hb); have n4_ := Aside0.mk (ho); clear HO203; clear HO206; clear HO210; clear HB; clear HO217; have HO203 := n0_; have HO206 := n1_; have HO210 := n2_; have HB := n3_; have HO220 := n4_; clear n0_ n1_ n2_ n3_ n4_; clear ho hb hg hat) | ((with_reducible refine gate_dst (N := 24) rfl ?_); (try (refine gate_guard (by rfl) ?_; dsimp only)); refine Kd.R_lit (Kd.int .u8) _ 5 ?hg (N := 24) ?hd (xs := ([] : List Int)) (inner := []) (ok := fun _ => True) (okp := fun _ => True) ?hr ?hp (fun _ hk => hk) trivial (Below.refl _ _) (Nat.le_refl _) (by simp) ?_; (case hd => rfl); (case hg => rfl); (case hr => first | (go_simp; done) | (go_simp; rfl)); (case hp => exact (Reps.none _ _)); intro v222 w33 ho34 hb hg_ hnew_; clear hg_ hnew_; (first | rw [← Ny221.out] at ho34 | (simp only [Int.reduceToNat] at ho34; rw [← Ny221.out] at ho34)); have n0_ := Aside0.mk (Kd.V_elder' (by (with_reducible repeat (first | apply Kd.V_alloc | apply Kd.V_drewN | apply Kd.V_drew)); exact HO203.out) (Kd.R_base ho34) hb); have n1_ := Aside0.mk (Kd.R_elder' (by (with_reducible repeat (first | apply rL | apply rN | apply rW)); exact HO206.out) (Kd.R_base ho34) hb); have n2_ := Aside0.mk (Kd.R_elder' (by (with_reducible repeat (first | apply rL | apply rN | apply rW)); exact HO210.out) (Kd.R_base ho34) hb); have n3_ := Aside0.mk (Kd.R_elder' (by (with_reducible repeat (first | apply rL | apply rN | apply rW)); exact HO220.out) (Kd.R_base ho34) hb); have n4_ := Aside0.mk (Kd.R_lower (Kd.R_new' (Kd.R_new' (Kd.R_new' ho34 (Kd.R_lt (by (with_reducible repeat (first | apply rL | apply rN | apply rW)); exact HO206.out))) (Kd.R_lt (by (with_reducible repeat (first | apply rL | apply rN | apply rW)); exact HO210.out))) (Kd.R_lt (by (with_reducible repeat (first | apply rL | apply rN | apply rW)); exact HO220.out))) (below_size (by repeat (first | (with_reducible first | exact HB.out | apply bA | apply bN | apply bD) | exact HB.out)))); have n5_ := Aside0.mk (below_step (by repeat (first | (with_reducible first | exact HB.out | apply bA | apply bN | apply bD) | exact HB.out)) hb); clear HO203; clear HO206; clear HO210; clear HO220; clear HB; have HO203 := n0_; have HO206 := n1_; have HO210 := n2_; have HO220 := n3_; have HO223 := n4_; have HB := n5_; clear n0_ n1_ n2_ n3_ n4_ n5_; clear hb ho34; obtain ⟨Ao36, co36, eo36⟩ := Kd.R_slice HO220.out; subst eo36) | ((with_reducible refine gate_builtin (b := .append) (xs := #[.tmp 24, .tmp 25]) rfl ?_); (try (refine gate_guard (by rfl) ?_; dsimp only)); at_builtin; refine Kd.R_append_rows (Kd.int .u8) (w0 := w) w.heap.size rfl (.tmp 24) (.tmp 25) 24 5 (.int .u8 0) 1 rfl Tryd.underlying24 info5 rfl (by decide) (by omega) v222 y221 y218 _ _ _ (fun k_ => some k_ ≠ (.slice Ao30 t204.length co30 : Value).ownBlock ∧ some k_ ≠ (.slice Ao32 t208.length co32 : Value).ownBlock ∧ some k_ ≠ (.slice Ao36 y218.length co36 : Value).ownBlock) (fun _ => False) rfl rfl ?aO ?aR (fun _ _ h => h) (fun _ h => h.elim) ?aF ?aB ?aS ?aL ?_; (case aR => repeat (first | exact (Kd.R_reads' HO220.out).2.2 | (with_reducible refine Kd.C_alloc ?_ _) | (with_reducible refine Kd.C_drewN ?_ _) | (with_reducible refine Kd.C_drew ?_))); (case aB => exact (by repeat (first | (with_reducible first | exact HB.out | apply bA | apply bN | apply bD) | exact HB.out))); (case aF => exact (fun k_ hk => ⟨Kd.fresh' (Kd.R_lt (by (with_reducible repeat (first | apply rL | apply rN | apply rW)); exact HO206.out)) k_ hk, Kd.fresh' (Kd.R_lt (by (with_reducible repeat (first | apply rL | apply rN | apply rW)); exact HO210.out)) k_ hk, Kd.fresh' (Kd.R_lt (by (with_reducible repeat (first | apply rL | apply rN | apply rW)); exact HO220.out)) k_ hk⟩)); (case aO => exact (by (with_reducible repeat (first | apply rL | apply rN | apply rW)); exact Kd.R_mono HO223.out (fun _ hk => ⟨hk.1.1.2, ⟨hk.1.2, hk.2⟩⟩))); (case aS => exact (below_size (by repeat (first | (with_reducible first | exact HB.out | apply bA | apply bN | apply bD) | exact HB.out)))); (case aL => have := LMc5.out; omega); intro v225 w35 ho hb hg hat; rw [← Ny224.out] at ho; have n0_ := Aside0.mk (Kd.V_afterv (ok := (fun k_ => some k_ ≠ (.slice Ao30 t204.length co30 : Value).ownBlock ∧ some k_ ≠ (.slice Ao32 t208.length co32 : Value).ownBlock ∧ some k_ ≠ (.slice Ao36 y218.length co36 : Value).ownBlock)) (by (with_reducible repeat (first | apply Kd.V_alloc | apply Kd.V_drewN | apply Kd.V_drew)); exact Kd.V_mono HO203.out (fun _ hk => ⟨⟨hk.1.1.1, ⟨hk.1.1.2, hk.1.2⟩⟩, hk.2⟩)) hg hat); have n1_ := Aside0.mk (Kd.R_after (ok := (fun k_ => some k_ ≠ (.slice Ao32 t208.length co32 : Value).ownBlock ∧ some k_ ≠ (.slice Ao36 y218.length co36 : Value).ownBlock)) (by (with_reducible repeat (first | apply rL | apply rN | apply rW)); exact HO206.out) hg hat); have n2_ := Aside0.mk (Kd.R_after (ok := (fun k_ => some k_ ≠ (.slice Ao30 t204.length co30 : Value).ownBlock ∧ some k_ ≠ (.slice Ao36 y218.length co36 : Value).ownBlock)) (by (with_reducible repeat (first | apply rL | apply rN | apply rW)); exact HO210.out) hg hat); have n3_ := Aside0.mk (Kd.R_after (ok := (fun k_ => some k_ ≠ (.slice Ao30 t204.length co30 : Value).ownBlock ∧ some k_ ≠ (.slice Ao32 t208.length co32 : Value).ownBlock)) (by (with_reducible repeat (first | apply rL | apply rN | apply rW)); exact HO220.out) hg hat); have n4_ := Aside0.mk (hb); have n5_ := Aside0.mk (ho); clear HO203; clear HO206; clear HO210; clear HO220; clear HB; clear HO223; have HO203 := n0_; have HO206 := n1_; have HO210 := n2_; have HO220 := n3_; have HB := n4_; have HO226 := n5_; clear n0_ n1_ n2_ n3_ n4_ n5_; clear ho hb hg hat) | ((with_reducible refine gate_dst (N := 27) rfl ?_); (try (refine gate_guard (by rfl) ?_; dsimp only)); refine Kd.R_lit (Kd.int .u8) _ 5 ?hg (N := 27) ?hd (xs := ([0, 3, 120] : List Int)) (inner := [.int .u8 0, .int .u8 3, .int .u8 120]) (ok := fun _ => True) (okp := fun _ => True) ?hr ?hp (fun _ hk => hk) trivial (Below.refl _ _) (Nat.le_refl _) (by simp) ?_; (case hd => rfl); (case hg => rfl); (case hr => first | (go_simp; done) | (go_simp; rfl)); (case hp => exact (Reps.one (show Kd.M (Kd.int .u8) _ _ _ 0 [.int .u8 0] from rfl) (Reps.one (show Kd.M (Kd.int .u8) _ _ _ 3 [.int .u8 3] from rfl) (Reps.one (show Kd.M (Kd.int .u8) _ _ _ 120 [.int .u8 120] from rfl) (Reps.none _ _))))); intro v228 w37 ho38 hb hg_ hnew_; clear hg_ hnew_; (first | rw [← Ny227.out] at ho38 | (simp only [Int.reduceToNat] at ho38; rw [← Ny227.out] at ho38)); have n0_ := Aside0.mk (Kd.V_elder' (by (with_reducible repeat (first | apply Kd.V_alloc | apply Kd.V_drewN | apply Kd.V_drew)); exact HO203.out) (Kd.R_base ho38) hb); have n1_ := Aside0.mk (Kd.R_elder' (by (with_reducible repeat (first | apply rL | apply rN | apply rW)); exact HO206.out) (Kd.R_base ho38) hb); have n2_ := Aside0.mk (Kd.R_elder' (by (with_reducible repeat (first | apply rL | apply rN | apply rW)); exact HO210.out) (Kd.R_base ho38) hb); have n3_ := Aside0.mk (Kd.R_elder' (by (with_reducible repeat (first | apply rL | apply rN | apply rW)); exact HO220.out) (Kd.R_base ho38) hb); have n4_ := Aside0.mk (Kd.R_elder' (by (with_reducible repeat (first | apply rL | apply rN | apply rW)); exact HO226.out) (Kd.R_base ho38) hb); have n5_ := Aside0.mk (Kd.R_lower (Kd.R_new' (Kd.R_new' (Kd.R_new' (Kd.R_new' ho38 (Kd.R_lt (by (with_reducible repeat (first | apply rL | apply rN | apply rW)); exact HO206.out))) (Kd.R_lt (by (with_reducible repeat (first | apply rL | apply rN | apply rW)); exact HO210.out))) (Kd.R_lt (by (with_reducible repeat (first | apply rL | apply rN | apply rW)); exact HO220.out))) (Kd.R_lt (by (with_reducible repeat (first | apply rL | apply rN | apply rW)); exact HO226.out))) (below_size (by repeat (first | (with_reducible first | exact HB.out | apply bA | apply bN | apply bD) | exact HB.out)))); have n6_ := Aside0.mk (below_step (by repeat (first | (with_reducible first | exact HB.out | apply bA | apply bN | apply bD) | exact HB.out)) hb); clear HO203; clear HO206; clear HO210; clear HO220; clear HO226; clear HB; have HO203 := n0_; have HO206 := n1_; have HO210 := n2_; have HO220 := n3_; have HO226 := n4_; have HO229 := n5_; have HB := n6_; clear n0_ n1_ n2_ n3_ n4_ n5_ n6_; clear hb ho38; obtain ⟨Ao40, co40, eo40⟩ := Kd.R_slice HO229.out; subst eo40) | ((with_reducible refine gate_builtin (b := .append) (xs := #[.tmp 26, .tmp 27]) rfl ?_); (try (refine gate_guard (by rfl) ?_; dsimp only)); at_builtin; refine Kd.R_append_rows (Kd.int .u8) (w0 := w) w.heap.size rfl (.tmp 26) (.tmp 27) 24 5 (.int .u8 0) 1 rfl Tryd.underlying24 info5 rfl (by decide) (by omega) v225 y224 y227 _ _ _ (fun k_ => some k_ ≠ (.slice Ao30 t204.length co30 : Value).ownBlock ∧ some k_ ≠ (.slice Ao32 t208.length co32 : Value).ownBlock ∧ some k_ ≠ (.slice Ao36 y218.length co36 : Value).ownBlock ∧ some k_ ≠ (.slice Ao40 y227.length co40 : Value).ownBlock) (fun _ => False) rfl rfl ?aO ?aR (fun _ _ h => h) (fun _ h => h.elim) ?aF ?aB ?aS ?aL ?_; (case aR => repeat (first | exact (Kd.R_reads' HO229.out).2.2 | (with_reducible refine Kd.C_alloc ?_ _) | (with_reducible refine Kd.C_drewN ?_ _) | (with_reducible refine Kd.C_drew ?_))); (case aB => exact (by repeat (first | (with_reducible first | exact HB.out | apply bA | apply bN | apply bD) | exact HB.out))); (case aF => exact (fun k_ hk => ⟨Kd.fresh' (Kd.R_lt (by (with_reducible repeat (first | apply rL | apply rN | apply rW)); exact HO206.out)) k_ hk, Kd.fresh' (Kd.R_lt (by (with_reducible repeat (first | apply rL | apply rN | apply rW)); exact HO210.out)) k_ hk, Kd.fresh' (Kd.R_lt (by (with_reducible repeat (first | apply rL | apply rN | apply rW)); exact HO220.out)) k_ hk, Kd.fresh' (Kd.R_lt (by (with_reducible repeat (first | apply rL | apply rN | apply rW)); exact HO229.out)) k_ hk⟩)); (case aO => exact (by (with_reducible repeat (first | apply rL | apply rN | apply rW)); exact Kd.R_mono HO226.out (fun _ hk => ⟨hk.1.1, ⟨hk.1.2.1, ⟨hk.1.2.2, hk.2⟩⟩⟩))); (case aS => exact (below_size (by repeat (first | (with_reducible first | exact HB.out | apply bA | apply bN | apply bD) | exact HB.out)))); (case aL => have := LMc6.out; omega); intro v231 w39 ho hb hg hat; rw [← Ny230.out] at ho; have n0_ := Aside0.mk (Kd.V_afterv (ok := (fun k_ => some k_ ≠ (.slice Ao30 t204.length co30 : Value).ownBlock ∧ some k_ ≠ (.slice Ao32 t208.length co32 : Value).ownBlock ∧ some k_ ≠ (.slice Ao36 y218.length co36 : Value).ownBlock ∧ some k_ ≠ (.slice Ao40 y227.length co40 : Value).ownBlock)) (by (with_reducible repeat (first | apply Kd.V_alloc | apply Kd.V_drewN | apply Kd.V_drew)); exact Kd.V_mono HO203.out (fun _ hk => ⟨⟨hk.1.1.1, ⟨hk.1.1.2.1, ⟨hk.1.1.2.2, hk.2⟩⟩⟩, hk.1.2⟩)) hg hat); have n1_ := Aside0.mk (Kd.R_after (ok := (fun k_ => some k_ ≠ (.slice Ao32 t208.length co32 : Value).ownBlock ∧ some k_ ≠ (.slice Ao36 y218.length co36 : Value).ownBlock ∧ some k_ ≠ (.slice Ao40 y227.length co40 : Value).ownBlock)) (by (with_reducible repeat (first | apply rL | apply rN | apply rW)); exact Kd.R_mono HO206.out (fun _ hk => ⟨⟨hk.1.1.1, ⟨hk.1.1.2, hk.2⟩⟩, hk.1.2⟩)) hg hat); have n2_ := Aside0.mk (Kd.R_after (ok := (fun k_ => some k_ ≠ (.slice Ao30 t204.length co30 : Value).ownBlock ∧ some k_ ≠ (.slice Ao36 y218.length co36 : Value).ownBlock ∧ some k_ ≠ (.slice Ao40 y227.length co40 : Value).ownBlock)) (by (with_reducible repeat (first | apply rL | apply rN | apply rW)); exact Kd.R_mono HO210.out (fun _ hk => ⟨⟨hk.1.1.1, ⟨hk.1.1.2, hk.2⟩⟩, hk.1.2⟩)) hg hat); have n3_ := Aside0.mk (Kd.R_after (ok := (fun k_ => some k_ ≠ (.slice Ao30 t204.length co30 : Value).ownBlock ∧ some k_ ≠ (.slice Ao32 t208.length co32 : Value).ownBlock ∧ some k_ ≠ (.slice Ao40 y227.length co40 : Value).ownBlock)) (by (with_reducible repeat (first | apply rL | apply rN | apply rW)); exact Kd.R_mono HO220.out (fun _ hk => ⟨⟨hk.1.1.1, ⟨hk.1.1.2, hk.2⟩⟩, hk.1.2⟩)) hg hat); have n4_ := Aside0.mk (Kd.R_after (ok := (fun k_ => some k_ ≠ (.slice Ao30 t204.length co30 : Value).ownBlock ∧ some k_ ≠ (.slice Ao32 t208.length co32 : Value).ownBlock ∧ some k_ ≠ (.slice Ao36 y218.length co36 : Value).ownBlock)) (by (with_reducible repeat (first | apply rL | apply rN | apply rW)); exact Kd.R_mono HO229.out (fun _ hk => ⟨⟨hk.1.1.1.2, ⟨hk.1.1.2, hk.1.2⟩⟩, hk.2⟩)) hg hat); have n5_ := Aside0.mk (hb); have n6_ := Aside0.mk (ho); clear HO203; clear HO206; clear HO210; clear HO220; clear HO229; clear HB; clear HO226; have HO203 := n0_; have HO206 := n1_; have HO210 := n2_; have HO220 := n3_; have HO229 := n4_; have HB := n5_; have HO232 := n6_; clear n0_ n1_ n2_ n3_ n4_ n5_ n6_; clear ho hb hg hat; obtain ⟨Ao41, co41, eo41⟩ := Kd.R_slice HO232.out; subst eo41) | ((with_reducible refine gate_callee (f := 34) rfl ?_); refine goesL_ (some 29) rfl rfl Tryd.func34 (by kernel_rfl) rfl #[.slice Ao41 y230.length co41] rfl (by (try simp only [mT, mC, mN]); first | done | rfl | (simp only [List.length_drop, List.length_take]; rfl)) ?_; (with_reducible refine (slip_Row.calls k (fun k_ => some k_ = (.slice Ao41 y230.length co41 : Value).ownBlock) _ _ y230 t233 t236 _ ?side1 ?side2 ?side3 A7.out).mono ?_); (case side1 => exact Kd.R_V (Kd.R_tight rfl (HO232.out))); (case side2 => repeat (first | exact (Kd.C_below HRL0_.out HB.out) | (with_reducible refine Kd.C_alloc ?_ _) | (with_reducible refine Kd.C_drewN ?_ _) | (with_reducible refine Kd.C_drew ?_))); (case side3 => repeat (first | exact (Kd.C_below HRL1_.out HB.out) | (with_reducible refine Kd.C_alloc ?_ _) | (with_reducible refine Kd.C_drewN ?_ _) | (with_reducible refine Kd.C_drew ?_))); rintro e w42 ⟨v234, rfl, ho0, hb⟩; refine ⟨_, rfl, ?_⟩; have n0_ := Aside0.mk (Kd.V_elder' (by (with_reducible repeat (first | apply Kd.V_alloc | apply Kd.V_drewN | apply Kd.V_drew)); exact HO203.out) (Kd.N_base ho0) hb); have n1_ := Aside0.mk (Kd.R_below (by (with_reducible repeat (first | apply rL | apply rN | apply rW)); exact HO206.out) hb); have n2_ := Aside0.mk (Kd.R_below (by (with_reducible repeat (first | apply rL | apply rN | apply rW)); exact HO210.out) hb); have n3_ := Aside0.mk (Kd.R_below (by (with_reducible repeat (first | apply rL | apply rN | apply rW)); exact HO220.out) hb); have n4_ := Aside0.mk (Kd.R_below (by (with_reducible repeat (first | apply rL | apply rN | apply rW)); exact HO229.out) hb); have n5_ := Aside0.mk (Kd.R_below (by (with_reducible repeat (first | apply rL | apply rN | apply rW)); exact HO232.out) hb); have n6_ := Aside0.mk (Kd.N_lower (Kd.N_mono (ok' := fun k_ => some k_ ≠ (.slice Ao30 t204.length co30 : Value).ownBlock ∧ some k_ ≠ (.slice Ao32 t208.length co32 : Value).ownBlock ∧ some k_ ≠ (.slice Ao36 y218.length co36 : Value).ownBlock ∧ some k_ ≠ (.slice Ao40 y227.length co40 : Value).ownBlock) ho0 (fun k_ hk_ => ⟨Or.elim hk_ (fun hs_ => ((HO232.out).1 k_ hs_.symm).1) (fun hn_ => (Kd.fresh' (Kd.R_lt (by (with_reducible repeat (first | apply rL | apply rN | apply rW)); exact HO206.out)) k_ hn_)), Or.elim hk_ (fun hs_ => ((HO232.out).1 k_ hs_.symm).2.1) (fun hn_ => (Kd.fresh' (Kd.R_lt (by (with_reducible repeat (first | apply rL | apply rN | apply rW)); exact HO210.out)) k_ hn_)), Or.elim hk_ (fun hs_ => ((HO232.out).1 k_ hs_.symm).2.2.1) (fun hn_ => (Kd.fresh' (Kd.R_lt (by (with_reducible repeat (first | apply rL | apply rN | apply rW)); exact HO220.out)) k_ hn_)), Or.elim hk_ (fun hs_ => ((HO232.out).1 k_ hs_.symm).2.2.2) (fun hn_ => (Kd.fresh' (Kd.R_lt (by (with_reducible repeat (first | apply rL | apply rN | apply rW)); exact HO229.out)) k_ hn_))⟩)) (below_size (by repeat (first | (with_reducible first | exact HB.out | apply bA | apply bN | apply bD) | exact HB.out)))); have n7_ := Aside0.mk (below_step (by repeat (first | (with_reducible first | exact HB.out | apply bA | apply bN | apply bD) | exact HB.out)) hb); clear HO203; clear HO206; clear HO210; clear HO220; clear HO229; clear HO232; clear HB; have HO203 := n0_; have HO206 := n1_; have HO210 := n2_; have HO220 := n3_; have HO229 := n4_; have HO232 := n5_; have HO235 := n6_; have HB := n7_; clear n0_ n1_ n2_ n3_ n4_ n5_ n6_ n7_; (try clear hb); (try clear hb2); (try clear hk); (try clear hi); (try clear ho0); have p237 : 0 ≤ (1 : Int) := (by omega); have q237 : 1 < (t204.length : Int) := of_decide_eq_true (by first | (with_reducible assumption) | assumption); obtain ⟨ad237, e237, hx237_0⟩ := Kd.at_int (Kd.R_reads' HO206.out).2.2 1 p237 q237; cases e237; (try simp only [show (1 : Int).toNat = 1 from rfl, Nat.reduceMul, Nat.reduceEqDiff, Go.Addr.add, ↓reduceIte] at hx237_0); have qi237 : (1 < t204.length) = True := eq_true (by omega); (try rw [show ((1 : Int)).toNat = 1 from rfl] at hx237_0); replace p237 := eq_true p237; replace q237 := eq_true q237; obtain ⟨Ao43, co43, eo43⟩ := Kd.N_slice HO235.out; subst eo43; have p238 : 0 ≤ (0 : Int) := (by omega); have q238 : 0 < (t233.length : Int) := of_decide_eq_true (by first | (with_reducible assumption) | assumption); obtain ⟨ad238, A238_0, c238_0, e238, hx238_0, hl238_0, hi238_0⟩ := at_L2 (Kd.N_reads' HO235.out).2.2 0 p238 q238; cases e238; obtain ⟨ce238, hce238, hMe238, hcc238⟩ := Kd.N_get HO235.out [] 0 p238 (by first | exact q238 | exact of_decide_eq_true (by first | (with_reducible assumption) | assumption) | (have e_ := (Kd.N_reads' HO235.out).1; omega)); obtain ⟨ua238_0, uc238_0, rfl, ul238_0, ge238_0⟩ := Kd.FK_slice_open hMe238; have hv238_0 := hcc238 0 _ rfl; rw [Nat.add_zero, show ((Kd.slice 5 (Kd.int .u8))).sz = 1 from rfl, Nat.mul_one] at hv238_0; replace hv238_0 := Option.some.inj (hv238_0.symm.trans hx238_0); injection hv238_0 with hva_ hvn_ hvc_; rw [hva_] at ge238_0; rw [hvc_] at ul238_0; have HL238_0 := Aside0.mk (show Kd.V (Kd.int .u8) 5 _ w.heap.size _ _ (rd_L2 t233 0) from Kd.V_mk ul238_0 ge238_0); clear hva_ hvn_ hvc_ ge238_0 ul238_0; clear hcc238 hce238; have qi238 : (0 < t233.length) = True := eq_true (by omega); (try rw [show ((0 : Int)).toNat = 0 from rfl] at hx238_0); (try rw [Addr.add_zero'] at hx238_0); have HR238_0 := Aside0.mk hi238_0; have HC238_0 := Aside0.mk hl238_0; clear hi238_0 hl238_0; replace p238 := eq_true p238; replace q238 := eq_true q238; have hcv44 := Kd.C_string (P := Tryd.prog) (A := A238_0) (c := c238_0) Tryd.underlying24 Tryd.underlying5 Tryd.underlying9 (by repeat (first | (with_reducible exact HR238_0.out) | (with_reducible refine Kd.C_alloc ?_ _) | (with_reducible refine Kd.C_drewN ?_ _) | (with_reducible refine Kd.C_drew ?_) | exact HR238_0.out))) | (go_at_call 38; (with_reducible refine (slip_Whole.calls k _ _ y218 true _ ?side1 ?side2 ?side3 ?side4 A18.out).mono ?_); (case side1 => repeat (first | exact (Kd.R_reads' HO220.out).2.2 | (with_reducible refine Kd.C_alloc ?_ _) | (with_reducible refine Kd.C_drewN ?_ _) | (with_reducible refine Kd.C_drew ?_))); (case side2 => exact (Kd.R_reads' HO220.out).2.1); (case side3 => repeat (first | exact (Kd.C_below HRL0_.out HB.out) | (with_reducible refine Kd.C_alloc ?_ _) | (with_reducible refine Kd.C_drewN ?_ _) | (with_reducible refine Kd.C_drew ?_))); (case side4 => repeat (first | exact (Kd.C_below HRL1_.out HB.out) | (with_reducible refine Kd.C_alloc ?_ _) | (with_reducible refine Kd.C_drewN ?_ _) | (with_reducible refine Kd.C_drew ?_))); rintro e w45 ⟨rfl, hb⟩; have n0_ := Aside0.mk (Kd.V_below (by (with_reducible repeat (first | apply Kd.V_alloc | apply Kd.V_drewN | apply Kd.V_drew)); exact HO203.out) hb); have n1_ := Aside0.mk (Kd.R_below (by (with_reducible repeat (first | apply rL | apply rN | apply rW)); exact HO206.out) hb); have n2_ := Aside0.mk (Kd.R_below (by (with_reducible repeat (first | apply rL | apply rN | apply rW)); exact HO210.out) hb); have n3_ := Aside0.mk (Kd.R_below (by (with_reducible repeat (first | apply rL | apply rN | apply rW)); exact HO220.out) hb); have n4_ := Aside0.mk (Kd.R_below (by (with_reducible repeat (first | apply rL | apply rN | apply rW)); exact HO229.out) hb); have n5_ := Aside0.mk (Kd.R_below (by (with_reducible repeat (first | apply rL | apply rN | apply rW)); exact HO232.out) hb); have n6_ := Aside0.mk (Kd.N_below (by (with_reducible repeat (first | apply Kd.N_alloc | apply Kd.N_drewN | apply Kd.N_drew)); exact HO235.out) hb); have n7_ := Aside0.mk (Kd.V_below (by (with_reducible repeat (first | apply Kd.V_alloc | apply Kd.V_drewN | apply Kd.V_drew)); exact HL238_0.out) hb); have n8_ := Aside0.mk (Kd.C_below (by repeat (first | (with_reducible exact HR238_0.out) | (with_reducible refine Kd.C_alloc ?_ _) | (with_reducible refine Kd.C_drewN ?_ _) | (with_reducible refine Kd.C_drew ?_) | exact HR238_0.out)) hb); have n9_ := Aside0.mk (below_step (by repeat (first | (with_reducible first | exact HB.out | apply bA | apply bN | apply bD) | exact HB.out)) hb); clear HO203; clear HO206; clear HO210; clear HO220; clear HO229; clear HO232; clear HO235; clear HL238_0; clear HR238_0; clear HB; have HO203 := n0_; have HO206 := n1_; have HO210 := n2_; have HO220 := n3_; have HO229 := n4_; have HO232 := n5_; have HO235 := n6_; have HL238_0 := n7_; have HR238_0 := n8_; have HB := n9_; clear n0_ n1_ n2_ n3_ n4_ n5_ n6_ n7_ n8_ n9_; (try clear hb); (try clear hb2); (try clear hk); (try clear hi); have q46 : (14 : Int) ≤ ((y218.length : Int) : Int) := of_decide_eq_true (by first | (with_reducible assumption) | assumption); obtain ⟨i046, hi046, _, hsz46, _⟩ := info_parts info5; have hroom46 : y218.length ≤ co36 := (Kd.R_reads' HO220.out).2.1; have hC46 : Kd.F (Kd.int .u8) _ _ Ao36 y218.length y218 := (Kd.V_at (base := w.heap.size) (Kd.R_V (Kd.R_apart' (HO220.out) (Kd.N_typed HO235.out) (by decide)))).2.2; have hcut46 := cut_to (P := Tryd.prog) 24 5 .i64 Tryd.underlying24 hi046 Ao36 y218.length co36 14 (by omega) q46 hroom46; have hr46 := Kd.F_take (m := 14) hC46 (by omega); have hy46 : y240.length = (14 : Int).toNat := (by rw [Ny240.out, List.length_take]; omega); rw [← Ny240.out] at hr46; rw [← hy46] at hcut46; have HO244 := Aside0.mk (show Kd.V (Kd.int .u8) 5 _ w.heap.size _ (.slice Ao36 y240.length co36) y240 from Kd.V_mk (by omega) hr46); have HC244 := Aside0.mk (show y240.length ≤ co36 from by omega); clear hr46 hC46 hroom46 hi046 hsz46; have KY46 := Aside0.mk hy46; clear hy46; replace q46 := eq_true q46) | (go_at_call 38; (with_reducible refine (slip_Whole.calls k _ _ y240 t245 _ ?side1 ?side2 ?side3 ?side4 A21.out).mono ?_); (case side1 => repeat (first | exact (Kd.V_reads' HO244.out).2.2 | (with_reducible refine Kd.C_alloc ?_ _) | (with_reducible refine Kd.C_drewN ?_ _) | (with_reducible refine Kd.C_drew ?_))); (case side2 => exact (Kd.V_reads' HO244.out).2.1); (case side3 => repeat (first | exact (Kd.C_below HRL0_.out HB.out) | (with_reducible refine Kd.C_alloc ?_ _) | (with_reducible refine Kd.C_drewN ?_ _) | (with_reducible refine Kd.C_drew ?_))); (case side4 => repeat (first | exact (Kd.C_below HRL1_.out HB.out) | (with_reducible refine Kd.C_alloc ?_ _) | (with_reducible refine Kd.C_drewN ?_ _) | (with_reducible refine Kd.C_drew ?_))); rintro e w47 ⟨rfl, hb⟩; have n0_ := Aside0.mk (Kd.V_below (by (with_reducible repeat (first | apply Kd.V_alloc | apply Kd.V_drewN | apply Kd.V_drew)); exact HO203.out) hb); have n1_ := Aside0.mk (Kd.R_below (by (with_reducible repeat (first | apply rL | apply rN | apply rW)); exact HO206.out) hb); have n2_ := Aside0.mk (Kd.R_below (by (with_reducible repeat (first | apply rL | apply rN | apply rW)); exact HO210.out) hb); have n3_ := Aside0.mk (Kd.R_below (by (with_reducible repeat (first | apply rL | apply rN | apply rW)); exact HO220.out) hb); have n4_ := Aside0.mk (Kd.R_below (by (with_reducible repeat (first | apply rL | apply rN | apply rW)); exact HO229.out) hb); have n5_ := Aside0.mk (Kd.R_below (by (with_reducible repeat (first | apply rL | apply rN | apply rW)); exact HO232.out) hb); have n6_ := Aside0.mk (Kd.N_below (by (with_reducible repeat (first | apply Kd.N_alloc | apply Kd.N_drewN | apply Kd.N_drew)); exact HO235.out) hb); have n7_ := Aside0.mk (Kd.V_below (by (with_reducible repeat (first | apply Kd.V_alloc | apply Kd.V_drewN | apply Kd.V_drew)); exact HL238_0.out) hb); have n8_ := Aside0.mk (Kd.V_below (by (with_reducible repeat (first | apply Kd.V_alloc | apply Kd.V_drewN | apply Kd.V_drew)); exact HO244.out) hb); have n9_ := Aside0.mk (Kd.C_below (by repeat (first | (with_reducible exact HR238_0.out) | (with_reducible refine Kd.C_alloc ?_ _) | (with_reducible refine Kd.C_drewN ?_ _) | (with_reducible refine Kd.C_drew ?_) | exact HR238_0.out)) hb); have n10_ := Aside0.mk (below_step (by repeat (first | (with_reducible first | exact HB.out | apply bA | apply bN | apply bD) | exact HB.out)) hb); clear HO203; clear HO206; clear HO210; clear HO220; clear HO229; clear HO232; clear HO235; clear HL238_0; clear HO244; clear HR238_0; clear HB; have HO203 := n0_; have HO206 := n1_; have HO210 := n2_; have HO220 := n3_; have HO229 := n4_; have HO232 := n5_; have HO235 := n6_; have HL238_0 := n7_; have HO244 := n8_; have HR238_0 := n9_; have HB := n10_; clear n0_ n1_ n2_ n3_ n4_ n5_ n6_ n7_ n8_ n9_ n10_; (try clear hb); (try clear hb2); (try clear hk); (try clear hi)))
                  go_ret
                  exact ⟨by first | rfl | (simp [errW_none, errW_some] <;> rfl) | (simp [*, errW_none, errW_some] <;> rfl), by repeat (first | (with_reducible first | exact HB.out | apply bA | apply bN | apply bD) | exact HB.out)⟩
                 ·rw [if_neg c20] at H
                  exact absurd H (by simp)
                ·replace c19 := Bool.eq_false_iff.mpr c19
                 subst c19; have H1 : (some false) = some r := by rw [if_neg (show ¬ (false = true) by decide)] at H; exact H
                 clear H; have H := H1; clear H1; exact absurd (Option.some.inj H) (by rw [HR_.out]; decide)
               ·rw [if_neg c17] at H
                have c17b0 : (t236 == 15) = false := beq_eq_false_iff_ne.mpr c17
                have c17b1 : (t236 != 15) = true := bne_iff_ne.mpr c17
                exact absurd (Option.some.inj H) (by rw [HR_.out]; decide)
              ·rw [if_neg c16] at H
               have c16b0 : ((strOfNums (rd_L2 t233 0)).toList == ([111, 110, 101] : List UInt8)) = false := beq_eq_false_iff_ne.mpr c16
               have c16b1 : ((strOfNums (rd_L2 t233 0)).toList != ([111, 110, 101] : List UInt8)) = true := bne_iff_ne.mpr c16
               exact absurd (Option.some.inj H) (by rw [HR_.out]; decide)
             ·rw [if_neg c15] at H
              exact absurd H (by simp)
            ·rw [if_neg c14] at H
             have c14b0 : ((t233.length : Int) == 2) = false := beq_eq_false_iff_ne.mpr c14
             have c14b1 : ((t233.length : Int) != 2) = true := bne_iff_ne.mpr c14
             exact absurd (Option.some.inj H) (by rw [HR_.out]; decide)
           ·rw [if_neg c13] at H
            have c13b0 : ((rd t204 1) == 3) = false := beq_eq_false_iff_ne.mpr c13
            have c13b1 : ((rd t204 1) != 3) = true := bne_iff_ne.mpr c13
            exact absurd (Option.some.inj H) (by rw [HR_.out]; decide)
          ·rw [if_neg c12] at H
           exact absurd H (by simp)
         ·rw [if_neg c11] at H
          have c11b0 : ((t208.length : Int) == 6) = false := beq_eq_false_iff_ne.mpr c11
          have c11b1 : ((t208.length : Int) != 6) = true := bne_iff_ne.mpr c11
          exact absurd (Option.some.inj H) (by rw [HR_.out]; decide)
        ·rw [if_neg c10] at H
         have c10b0 : ((t204.length : Int) == 9) = false := beq_eq_false_iff_ne.mpr c10
         have c10b1 : ((t204.length : Int) != 9) = true := bne_iff_ne.mpr c10
         exact absurd (Option.some.inj H) (by rw [HR_.out]; decide)
       ·rw [if_neg c9] at H
        have c9b0 : (t211 == 0) = false := beq_eq_false_iff_ne.mpr c9
        have c9b1 : (t211 != 0) = true := bne_iff_ne.mpr c9
        exact absurd (Option.some.inj H) (by rw [HR_.out]; decide)
      ·rw [if_neg c8] at H
       have c8b0 : (t207 == 0) = false := beq_eq_false_iff_ne.mpr c8
       have c8b1 : (t207 != 0) = true := bne_iff_ne.mpr c8
       exact absurd (Option.some.inj H) (by rw [HR_.out]; decide)
     ·rw [if_neg c6] at H
      exact absurd H (by simp)
    ·rw [if_neg c5] at H
     exact absurd H (by simp)
   ·rw [if_neg c4] at H
    exact absurd H (by simp)
  ·rw [if_neg c3] at H
   exact absurd H (by simp)

/-! ### wristbandref01_Put: function 56 -/
def wristbandref01_Put.l0 : Nat → Int → List Int → Int → Option (List Int)
  | 0, _, _, _ => none
  | k + 1, x0, x3, x4 => if x4 < 8 then (if 0 ≤ (wrap64 (7 - x4)) then (if (wrap64 (7 - x4)) < (x3.length : Int) then (wristbandref01_Put.l0 k (IntKind.u64.wrap (Int.tdiv x0 256)) (x3.set ((wrap64 (7 - x4)) : Int).toNat ((Int.tmod x0 256) % 256)) (wrap64 (x4 + 1))) else (none)) else (none)) else (some x3)
def wristbandref01_Put.f (k : Nat) (a0 : Int) : Option (List Int) := if 8 ≤ 281474976710656 then (wristbandref01_Put.l0 k a0 (List.replicate 8 0) 0) else (none)
theorem wristbandref01_Put.mono_l : ∀ k, (∀ y0 y1 y2, LeO (wristbandref01_Put.l0 k y0 y1 y2) (wristbandref01_Put.l0 (k + 1) y0 y1 y2))
  | 0 => fun _ _ _ r h => by simp [wristbandref01_Put.l0] at h
  | k + 1 => by
   have ih0 := wristbandref01_Put.mono_l k
   ·intro y0 y1 y2
    unfold wristbandref01_Put.l0
    repeat' first
    | (with_reducible exact ih0 _ _ _)
    | (with_reducible exact LeO.refl _)
    | (with_reducible exact LeO.none _)
    | (with_reducible refine LeO.ite ?_ ?_)
    | (with_reducible refine LeO.bind ?_ (fun _ => ?_))
    | exact ih0 _ _ _
    | exact LeO.none _
    | refine LeO.ite ?_ ?_
    | refine LeO.bind ?_ (fun _ => ?_)
theorem wristbandref01_Put.mono : ∀ a0 k, LeO (wristbandref01_Put.f k a0) (wristbandref01_Put.f (k + 1) a0) := by
  intro a0 k; have ih0 := wristbandref01_Put.mono_l k
  unfold wristbandref01_Put.f
  repeat' first
    | (with_reducible exact ih0 _ _ _)
    | (with_reducible exact LeO.refl _)
    | (with_reducible exact LeO.none _)
    | (with_reducible refine LeO.ite ?_ ?_)
    | (with_reducible refine LeO.bind ?_ (fun _ => ?_))
    | exact ih0 _ _ _
    | exact LeO.none _
    | refine LeO.ite ?_ ?_
    | refine LeO.bind ?_ (fun _ => ?_)
set_option maxHeartbeats 8000000 in
set_option maxRecDepth 100000 in
theorem wristbandref01_Put.calls (k : Nat) (a0 : Int) (r : List Int) (w : World) (h : wristbandref01_Put.f k a0 = some r) :
   Calls Tryd.prog 56 #[.int .u64 a0] w fun e w' => ∃ v0_ : Value, e = .returned (v0_) ∧ Kd.R (Kd.int .u8) 5 w' w.heap.size (fun _ => True) v0_ r ∧ Below w.heap.size w w' := by
  have HB := Aside0.mk (Below.refl w.heap.size w); have H : (if 8 ≤ 281474976710656 then (wristbandref01_Put.l0 k a0 (List.replicate 8 0) 0) else (none)) = some r := h
  clear h; by_cases c2 : 8 ≤ 281474976710656
  ·rw [if_pos c2] at H
   have c2b0 := eq_true c2
   have c2b1 : decide (8 ≤ 281474976710656) = true := decide_eq_true c2
   clear c2; obtain ⟨y246, hy246⟩ : ∃ y_ : List Int, y_ = (List.replicate 8 0) := ⟨_, rfl⟩
   replace H : (wristbandref01_Put.l0 k a0 y246 0) = some r := by first | (rw [hy246]; with_reducible exact H) | (have H2_ := (Option.bind_some _ _).symm.trans H; rw [hy246]; with_reducible exact H2_) | (have H2_ := (Option.bind_some _ _).symm.trans H; with_reducible exact H2_) | with_reducible exact H | (rw [hy246]; exact H) | exact H
   have Ny246 := Aside0.mk hy246; clear hy246; have H' := Aside0.mk H; clear H; go_enter Tryd.func56, Tryd.ntmps56
   go_wp2_with (first | ((with_reducible refine gate_dst (N := 5) rfl ?_); refine Kd.R_make (Kd.int .u8) _ 5 rfl (N := 5) rfl 24 _ _ rfl 8 rfl rfl Tryd.underlying24 (.int .u8 0) 1 info5 rfl (by decide) (by omega) 0 (ok := fun _ => True) (okp := fun _ => True) rfl (fun _ hk => hk) trivial (by omega) (by omega) (Below.refl _ _) (Nat.le_refl _) ?_; intro v247 w3 ho4 hb hg_ hnew_; clear hg_ hnew_; (first | rw [← Ny246.out] at ho4 | (simp only [Int.reduceToNat] at ho4; rw [← Ny246.out] at ho4)); have n0_ := Aside0.mk (Kd.R_lower ho4 (below_size (by repeat (first | (with_reducible first | exact HB.out | apply bA | apply bN | apply bD) | exact HB.out)))); have n1_ := Aside0.mk (below_step (by repeat (first | (with_reducible first | exact HB.out | apply bA | apply bN | apply bD) | exact HB.out)) hb); clear HB; have HO248 := n0_; have HB := n1_; clear n0_ n1_; clear hb ho4))
   go_loopg [0, 4] k (fun kq v0 v4 w' => ∃ (x0_1 : Int) (x3_1 : List Int) (x4_1 : Int), v0 = .int .u64 x0_1 ∧ v4 = .int .i64 x4_1 ∧ Aside0 (wristbandref01_Put.l0 kq x0_1 x3_1 x4_1 = some r) ∧ Aside0 (kq ≤ k) ∧ Aside0 (Kd.R (Kd.int .u8) 5 w' w.heap.size (fun _ => True) v247 x3_1) ∧ Aside0 (Below w.heap.size w w'))
   case atStart => exact ⟨(a0), (y246), (0), (by first | rfl | (simp; done) | (simp [*]; done)), (by first | rfl | (simp; done) | (simp [*]; done)), H', ⟨Nat.le_refl _⟩, ⟨by (with_reducible repeat (first | apply rL | apply rN | apply rW)); exact HO248.out⟩, ⟨by repeat (first | (with_reducible first | exact HB.out | apply bA | apply bN | apply bD) | exact HB.out)⟩⟩
   case round =>
    clear H'; try clear c2
    try clear c2b0
    try clear c2b1
    try clear p2
    obtain ⟨x0_1, x3_1, x4_1, rfl, rfl, HA, HK1, HO_3, HB⟩ := hrel
    cases gk with
    | zero => exact absurd HA.out (by simp [wristbandref01_Put.l0])
    | succ k1 =>
     have H := HA.out
     clear HA; simp only [wristbandref01_Put.l0] at H
     by_cases c5 : x4_1 < 8
     ·rw [if_pos c5] at H
      have c5b0 : decide (x4_1 < 8) = true := decide_eq_true c5
      clear c5; obtain ⟨ji6, hji6⟩ : ∃ j_ : Int, (wrap64 (7 - x4_1)) = j_ := ⟨_, rfl⟩
      replace H : (if 0 ≤ (ji6) then (if (ji6) < (x3_1.length : Int) then (wristbandref01_Put.l0 k1 (IntKind.u64.wrap (Int.tdiv x0_1 256)) (x3_1.set ((ji6) : Int).toNat ((Int.tmod x0_1 256) % 256)) (wrap64 (x4_1 + 1))) else (none)) else (none)) = some r := by first | (rw [hji6] at H; exact H) | (simp only [hji6] at H ⊢; exact H)
      have hji6w : (IntKind.i64.wrap (7 - x4_1)) = ji6 := (i64_w _).trans hji6
      by_cases c7 : 0 ≤ (ji6)
      ·rw [if_pos c7] at H
       have c7b0 : decide (0 ≤ (ji6)) = true := decide_eq_true c7
       clear c7; by_cases c8 : (ji6) < (x3_1.length : Int)
       ·rw [if_pos c8] at H
        have c8b0 : decide ((ji6) < (x3_1.length : Int)) = true := decide_eq_true c8
        clear c8; obtain ⟨y249, hy249⟩ : ∃ y_ : List Int, y_ = (x3_1.set ((ji6) : Int).toNat ((Int.tmod x0_1 256) % 256)) := ⟨_, rfl⟩
        replace H : (wristbandref01_Put.l0 k1 (IntKind.u64.wrap (Int.tdiv x0_1 256)) y249 (wrap64 (x4_1 + 1))) = some r := by first | (rw [hy249]; with_reducible exact H) | (have H2_ := (Option.bind_some _ _).symm.trans H; rw [hy249]; with_reducible exact H2_) | (have H2_ := (Option.bind_some _ _).symm.trans H; with_reducible exact H2_) | with_reducible exact H | (rw [hy249]; exact H) | exact H
        have Ny249 := Aside0.mk hy249; clear hy249; have H' := Aside0.mk H; clear H; have p9 : 0 ≤ ((ji6) : Int) := of_decide_eq_true (by first | (with_reducible assumption) | assumption)
        have q9 : ((ji6) : Int) < ((x3_1.length : Int) : Int) := of_decide_eq_true (by first | (with_reducible assumption) | assumption)
        obtain ⟨go9, co9, eo9, gb9, gl9, cl9, HG9⟩ := Kd.R_form HO_3.out (by omega)
        (first | cases eo9 | (injection eo9 with ea_ en_ ec_; (first | subst ea_ | (injection ea_ with ea_; subst ea_)); subst ec_; clear en_)); have GB9 := Aside0.mk gb9
        have GG9 := Aside0.mk HG9; clear gb9 gl9 HG9; obtain ⟨hx9_0, hf9_0⟩ := Kd.R_celln 0 HO_3.out ((ji6) : Int) p9 q9
        replace p9 := eq_true p9
        replace q9 := eq_true q9
        have HP10 := Kd.R_putg HO_3.out ((ji6) : Int) ((Int.tmod x0_1 256) % 256)
        go_wp2_with (first | ((with_reducible refine gate_store (t := 5) (p := 16) rfl ?_); refine store_event (t := 5) (p := 16) (v := ?vo_w11) (w1 := (wr.setCell ⟨go9, ((ji6) : Int).toNat, none⟩ (.int .u8 ((Int.tmod x0_1 256) % 256)))) ?hg ?ho ?hn ?hr ?_; (case ho => rfl); (case hg => rfl); (case hn => rfl); (case hr => first | (go_simp; done) | (go_simp; rfl)); intro w11 hw; have hg : wr.grownBy w11 (some go9) := (by rw [hw]; exact HP10.2); have hp_ : Kd.R (Kd.int .u8) 5 w11 w.heap.size (fun _ => True) (.slice (some ⟨go9, 0, none⟩) x3_1.length co9) y249 := (by rw [hw, Ny249.out]; exact HP10.1); clear HP10; have n0_ := Aside0.mk (hp_); have n1_ := Aside0.mk ((by rw [hw]; exact below_set (HB.out) GB9.out : Below w.heap.size w w11)); clear HO_3; clear HB; have HO_3 := n0_; have HB := n1_; clear n0_ n1_; clear hg hw hp_))
        go_roundg k1
        case measure => have := HK1.out; omega
        case rel => exact ⟨(IntKind.u64.wrap (Int.tdiv x0_1 256)), (y249), (wrap64 (x4_1 + 1)), (by first | rfl | (simp; done) | (simp [*]; done)), (by first | rfl | (simp; done) | (simp [*]; done)), H', ⟨by have := HK1.out; omega⟩, ⟨by (with_reducible repeat (first | apply rL | apply rN | apply rW)); exact HO_3.out⟩, ⟨by repeat (first | (with_reducible first | exact HB.out | apply bA | apply bN | apply bD) | exact HB.out)⟩⟩
       ·rw [if_neg c8] at H
        exact absurd H (by simp)
      ·rw [if_neg c7] at H
       exact absurd H (by simp)
     ·rw [if_neg c5] at H
      have c5b0 : decide (x4_1 < 8) = false := decide_eq_false c5
      clear c5; obtain rfl := Option.some.inj H
      go_wp2
      go_ret
      exact ⟨_, by first | rfl | (simp [errW_none, errW_some] <;> rfl) | (simp [*, errW_none, errW_some] <;> rfl), by (with_reducible repeat (first | apply rL | apply rN | apply rW)); exact HO_3.out, by repeat (first | (with_reducible first | exact HB.out | apply bA | apply bN | apply bD) | exact HB.out)⟩
  ·rw [if_neg c2] at H
   exact absurd H (by simp)

/-! ### wristbandref02_Fill: function 22 -/
def wristbandref02_Fill.l0 : Nat → Int → List Int → Option (List Int)
  | 0, _, _ => none
  | k + 1, x1, x5 => if ((x5.length : Int) % 64) = 56 then ((wristbandref01_Put.f k (IntKind.u64.wrap (8 * x1))).bind fun t259 => (if x5.length + t259.length < 140737488355328 then (some (x5 ++ t259)) else (none))) else (if x5.length < 140737488355328 then (wristbandref02_Fill.l0 k x1 (x5 ++ [0])) else (none))
def wristbandref02_Fill.f (k : Nat) (l0 : List Int) (a1 : Int) : Option (List Int) := (some (([] : List Int) : List Int)).bind fun y250 => (if y250.length + l0.length < 140737488355328 then ((some (y250 ++ l0 : List Int)).bind fun y253 => (if y253.length < 140737488355328 then (wristbandref02_Fill.l0 k a1 (y253 ++ [128])) else (none))) else (none))
theorem wristbandref02_Fill.mono_l : ∀ k, (∀ y0 y1, LeO (wristbandref02_Fill.l0 k y0 y1) (wristbandref02_Fill.l0 (k + 1) y0 y1))
  | 0 => fun _ _ r h => by simp [wristbandref02_Fill.l0] at h
  | k + 1 => by
   have ih0 := wristbandref02_Fill.mono_l k
   ·intro y0 y1
    unfold wristbandref02_Fill.l0
    repeat' first
    | (with_reducible exact ih0 _ _)
    | (with_reducible exact wristbandref01_Put.mono _ _)
    | (with_reducible exact LeO.refl _)
    | (with_reducible exact LeO.none _)
    | (with_reducible refine LeO.ite ?_ ?_)
    | (with_reducible refine LeO.bind ?_ (fun _ => ?_))
    | exact ih0 _ _
    | exact wristbandref01_Put.mono _ _
    | exact LeO.none _
    | refine LeO.ite ?_ ?_
    | refine LeO.bind ?_ (fun _ => ?_)
theorem wristbandref02_Fill.mono : ∀ a0 a1 k, LeO (wristbandref02_Fill.f k a0 a1) (wristbandref02_Fill.f (k + 1) a0 a1) := by
  intro a0 a1 k; have ih0 := wristbandref02_Fill.mono_l k
  unfold wristbandref02_Fill.f
  repeat' first
    | (with_reducible exact ih0 _ _)
    | (with_reducible exact wristbandref01_Put.mono _ _)
    | (with_reducible exact LeO.refl _)
    | (with_reducible exact LeO.none _)
    | (with_reducible refine LeO.ite ?_ ?_)
    | (with_reducible refine LeO.bind ?_ (fun _ => ?_))
    | exact ih0 _ _
    | exact wristbandref01_Put.mono _ _
    | exact LeO.none _
    | refine LeO.ite ?_ ?_
    | refine LeO.bind ?_ (fun _ => ?_)
set_option maxHeartbeats 8000000 in
set_option maxRecDepth 100000 in
theorem wristbandref02_Fill.calls (k : Nat) (A0 : Option Addr) (c0 : Nat) (l0 : List Int) (a1 : Int) (r : List Int) (w : World) (hr0 : Kd.C (Kd.int .u8) w A0 l0.length l0) (hc0 : l0.length ≤ c0) (h : wristbandref02_Fill.f k l0 a1 = some r) :
   Calls Tryd.prog 22 #[.slice A0 l0.length c0, .int .u64 a1] w fun e w' => ∃ v0_ : Value, e = .returned (v0_) ∧ Kd.R (Kd.int .u8) 5 w' w.heap.size (fun _ => True) v0_ r ∧ Below w.heap.size w w' := by
  have HR0 := Aside0.mk hr0; have HC0 := Aside0.mk hc0; clear hr0 hc0; have HB := Aside0.mk (Below.refl w.heap.size w); have H : ((some (([] : List Int) : List Int)).bind fun y250 => (if y250.length + l0.length < 140737488355328 then ((some (y250 ++ l0 : List Int)).bind fun y253 => (if y253.length < 140737488355328 then (wristbandref02_Fill.l0 k a1 (y253 ++ [128])) else (none))) else (none))) = some r := h
  clear h; obtain ⟨y250, hy250⟩ : ∃ y_ : List Int, y_ = (([] : List Int)) := ⟨_, rfl⟩
  replace H : (if y250.length + l0.length < 140737488355328 then ((some (y250 ++ l0 : List Int)).bind fun y253 => (if y253.length < 140737488355328 then (wristbandref02_Fill.l0 k a1 (y253 ++ [128])) else (none))) else (none)) = some r := by first | (rw [hy250]; with_reducible exact H) | (have H2_ := (Option.bind_some _ _).symm.trans H; rw [hy250]; with_reducible exact H2_) | (have H2_ := (Option.bind_some _ _).symm.trans H; with_reducible exact H2_) | with_reducible exact H | (rw [hy250]; exact H) | exact H
  have Ny250 := Aside0.mk hy250; clear hy250; by_cases c3 : y250.length + l0.length < 140737488355328
  ·rw [if_pos c3] at H
   have LMc3 := Aside0.mk c3; clear c3; obtain ⟨y253, hy253⟩ : ∃ y_ : List Int, y_ = (y250 ++ l0) := ⟨_, rfl⟩
   replace H : (if y253.length < 140737488355328 then (wristbandref02_Fill.l0 k a1 (y253 ++ [128])) else (none)) = some r := by first | (rw [hy253]; with_reducible exact H) | (have H2_ := (Option.bind_some _ _).symm.trans H; rw [hy253]; with_reducible exact H2_) | (have H2_ := (Option.bind_some _ _).symm.trans H; with_reducible exact H2_) | with_reducible exact H | (rw [hy253]; exact H) | exact H
   have Ny253 := Aside0.mk hy253; clear hy253; by_cases c4 : y253.length < 140737488355328
   ·rw [if_pos c4] at H
    have LMc4 := Aside0.mk c4; clear c4; obtain ⟨y256, hy256⟩ : ∃ y_ : List Int, y_ = (y253 ++ [128]) := ⟨_, rfl⟩
    replace H : (wristbandref02_Fill.l0 k a1 y256) = some r := by first | (rw [hy256]; with_reducible exact H) | (have H2_ := (Option.bind_some _ _).symm.trans H; rw [hy256]; with_reducible exact H2_) | (have H2_ := (Option.bind_some _ _).symm.trans H; with_reducible exact H2_) | with_reducible exact H | (rw [hy256]; exact H) | exact H
    have Ny256 := Aside0.mk hy256; clear hy256; have H' := Aside0.mk H; clear H; go_enter Tryd.func22, Tryd.ntmps22
    go_wp2_with (first | ((with_reducible refine gate_dst (N := 6) rfl ?_); refine Kd.R_lit (Kd.int .u8) _ 5 ?hg (N := 6) ?hd (xs := ([] : List Int)) (inner := []) (ok := fun _ => True) (okp := fun _ => True) ?hr ?hp (fun _ hk => hk) trivial (Below.refl _ _) (Nat.le_refl _) (by simp) ?_; (case hd => rfl); (case hg => rfl); (case hr => first | (go_simp; done) | (go_simp; rfl)); (case hp => exact (Reps.none _ _)); intro v251 w5 ho6 hb hg_ hnew_; clear hg_ hnew_; (first | rw [← Ny250.out] at ho6 | (simp only [Int.reduceToNat] at ho6; rw [← Ny250.out] at ho6)); have n0_ := Aside0.mk (Kd.R_lower ho6 (below_size (by repeat (first | (with_reducible first | exact HB.out | apply bA | apply bN | apply bD) | exact HB.out)))); have n1_ := Aside0.mk (below_step (by repeat (first | (with_reducible first | exact HB.out | apply bA | apply bN | apply bD) | exact HB.out)) hb); clear HB; have HO252 := n0_; have HB := n1_; clear n0_ n1_; clear hb ho6) | ((with_reducible refine gate_builtin (b := .append) (xs := #[.tmp 6, .tmp 7]) rfl ?_); at_builtin; refine Kd.R_append_rows (Kd.int .u8) (w0 := w) w.heap.size rfl (.tmp 6) (.tmp 7) 24 5 (.int .u8 0) 1 rfl Tryd.underlying24 info5 rfl (by decide) (by omega) v251 y250 l0 _ _ _ (fun _ => True) (fun _ => False) rfl rfl ?aO ?aR (fun _ _ h => h) (fun _ h => h.elim) ?aF ?aB ?aS ?aL ?_; (case aR => repeat (first | exact (Kd.C_below HR0.out HB.out) | (with_reducible refine Kd.C_alloc ?_ _) | (with_reducible refine Kd.C_drewN ?_ _) | (with_reducible refine Kd.C_drew ?_))); (case aB => exact (by repeat (first | (with_reducible first | exact HB.out | apply bA | apply bN | apply bD) | exact HB.out))); (case aF => exact (fun _ _ => trivial)); (case aO => exact (by (with_reducible repeat (first | apply rL | apply rN | apply rW)); exact HO252.out)); (case aS => exact (below_size (by repeat (first | (with_reducible first | exact HB.out | apply bA | apply bN | apply bD) | exact HB.out)))); (case aL => have := LMc3.out; omega); intro v254 w7 ho hb hg hat; rw [← Ny253.out] at ho; have n0_ := Aside0.mk (hb); have n1_ := Aside0.mk (ho); clear HB; clear HO252; have HB := n0_; have HO255 := n1_; clear n0_ n1_; clear ho hb hg hat) | ((with_reducible refine gate_builtin (b := .append) (xs := #[.tmp 8, .tmp 9]) rfl ?_); at_builtin; refine Kd.R_append (Kd.int .u8) (w0 := w) w.heap.size rfl (.tmp 8) (.tmp 9) 24 5 (.int .u8 0) 1 rfl Tryd.underlying24 info5 rfl (by decide) (by omega) v254 y253 128 [.int .u8 128] (fun _ => True) (fun _ => False) rfl rfl ?aP (fun _ hk => hk.elim) ?aF ?aO ?aB ?aS ?aL ?_; (case aP => exact rfl); (case aB => exact (by repeat (first | (with_reducible first | exact HB.out | apply bA | apply bN | apply bD) | exact HB.out))); (case aF => exact (fun _ _ => trivial)); (case aO => exact (by (with_reducible repeat (first | apply rL | apply rN | apply rW)); exact HO255.out)); (case aS => exact (below_size (by repeat (first | (with_reducible first | exact HB.out | apply bA | apply bN | apply bD) | exact HB.out)))); (case aL => have := LMc4.out; omega); intro v257 w8 ho hb hg hat; rw [← Ny256.out] at ho; have n0_ := Aside0.mk (hb); have n1_ := Aside0.mk (ho); clear HB; clear HO255; have HB := n0_; have HO258 := n1_; clear n0_ n1_; clear ho hb hg hat))
    go_loopg [5] k (fun kq v5 w' => ∃ (x5_1 : List Int), Aside0 (wristbandref02_Fill.l0 kq a1 x5_1 = some r) ∧ Aside0 (kq ≤ k) ∧ Aside0 (Kd.R (Kd.int .u8) 5 w' w.heap.size (fun _ => True) v5 x5_1) ∧ Aside0 (Below w.heap.size w w'))
    case atStart => exact ⟨(y256), H', ⟨Nat.le_refl _⟩, ⟨by (with_reducible repeat (first | apply rL | apply rN | apply rW)); exact HO258.out⟩, ⟨by repeat (first | (with_reducible first | exact HB.out | apply bA | apply bN | apply bD) | exact HB.out)⟩⟩
    case round =>
     clear H'; try clear c2
     try clear p2
     try clear c3
     try clear c4
     obtain ⟨x5_1, HA, HK1, HO_5, HB⟩ := hrel
     cases gk with
     | zero => exact absurd HA.out (by simp [wristbandref02_Fill.l0])
     | succ k1 =>
      have H := HA.out
      clear HA; simp only [wristbandref02_Fill.l0] at H
      by_cases c9 : ((x5_1.length : Int) % 64) = 56
      ·rw [if_pos c9] at H
       have c9b0 : (((x5_1.length : Int) % 64) == 56) = true := beq_iff_eq.mpr c9
       have c9b1 : (((x5_1.length : Int) % 64) != 56) = false := bne_eq_false_iff_eq.mpr c9
       clear c9; replace H := Option.bind_eq_some_iff.mp H
       obtain ⟨t259, A100, H⟩ := H
       replace H : (if x5_1.length + t259.length < 140737488355328 then (some (x5_1 ++ t259)) else (none)) = some r := H
       have A10 := Aside0.mk A100; clear A100; by_cases c11 : x5_1.length + t259.length < 140737488355328
       ·rw [if_pos c11] at H
        have LMc11 := Aside0.mk c11; clear c11; obtain ⟨y262, hy262⟩ : ∃ y_ : List Int, y_ = (x5_1 ++ t259) := ⟨_, rfl⟩
        replace H : (some y262) = some r := by first | (rw [hy262]; with_reducible exact H) | (have H2_ := (Option.bind_some _ _).symm.trans H; rw [hy262]; with_reducible exact H2_) | (have H2_ := (Option.bind_some _ _).symm.trans H; with_reducible exact H2_) | with_reducible exact H | (rw [hy262]; exact H) | exact H
        have Ny262 := Aside0.mk hy262; clear hy262; obtain rfl := Option.some.inj H
        obtain ⟨Ao12, co12, eo12⟩ := Kd.R_slice HO_5.out
        subst eo12; go_wp2_with (first | ((with_reducible refine gate_callee (f := 56) rfl ?_); refine goesL_ (some 21) rfl rfl Tryd.func56 (by kernel_rfl) rfl #[.int .u64 (IntKind.u64.wrap (8 * a1))] rfl (by (try simp only [mT, mC, mN]); first | done | rfl | (simp only [List.length_drop, List.length_take]; rfl)) ?_; (with_reducible refine (wristbandref01_Put.calls k1 (IntKind.u64.wrap (8 * a1)) t259 _ A10.out).mono ?_); rintro e w13 ⟨v260, rfl, ho0, hb⟩; refine ⟨_, rfl, ?_⟩; have n0_ := Aside0.mk (Kd.R_elder' (by (with_reducible repeat (first | apply rL | apply rN | apply rW)); exact HO_5.out) (Kd.R_base ho0) hb); have n1_ := Aside0.mk (Kd.R_lower (Kd.R_new' ho0 (Kd.R_lt (by (with_reducible repeat (first | apply rL | apply rN | apply rW)); exact HO_5.out))) (below_size (by repeat (first | (with_reducible first | exact HB.out | apply bA | apply bN | apply bD) | exact HB.out)))); have n2_ := Aside0.mk (below_step (by repeat (first | (with_reducible first | exact HB.out | apply bA | apply bN | apply bD) | exact HB.out)) hb); clear HO_5; clear HB; have HO_5 := n0_; have HO261 := n1_; have HB := n2_; clear n0_ n1_ n2_; (try clear hb); (try clear hb2); (try clear hk); (try clear hi); (try clear ho0); obtain ⟨Ao15, co15, eo15⟩ := Kd.R_slice HO261.out; subst eo15) | ((with_reducible refine gate_builtin (b := .append) (xs := #[.tmp 18, .tmp 21]) rfl ?_); at_builtin; refine Kd.R_append_rows (Kd.int .u8) (w0 := w) w.heap.size rfl (.tmp 18) (.tmp 21) 24 5 (.int .u8 0) 1 rfl Tryd.underlying24 info5 rfl (by decide) (by omega) (.slice Ao12 x5_1.length co12) x5_1 t259 _ _ _ (fun k_ => some k_ ≠ (.slice Ao15 t259.length co15 : Value).ownBlock) (fun _ => False) rfl rfl ?aO ?aR (fun _ _ h => h) (fun _ h => h.elim) ?aF ?aB ?aS ?aL ?_; (case aR => repeat (first | exact (Kd.R_reads' HO261.out).2.2 | (with_reducible refine Kd.C_alloc ?_ _) | (with_reducible refine Kd.C_drewN ?_ _) | (with_reducible refine Kd.C_drew ?_))); (case aB => exact (by repeat (first | (with_reducible first | exact HB.out | apply bA | apply bN | apply bD) | exact HB.out))); (case aF => exact (fun k_ hk => Kd.fresh' (Kd.R_lt (by (with_reducible repeat (first | apply rL | apply rN | apply rW)); exact HO261.out)) k_ hk)); (case aO => exact (by (with_reducible repeat (first | apply rL | apply rN | apply rW)); exact Kd.R_mono HO_5.out (fun _ hk => hk.2))); (case aS => exact (below_size (by repeat (first | (with_reducible first | exact HB.out | apply bA | apply bN | apply bD) | exact HB.out)))); (case aL => have := LMc11.out; omega); intro v263 w14 ho hb hg hat; rw [← Ny262.out] at ho; have n0_ := Aside0.mk (Kd.R_after (ok := (fun _ => True)) (by (with_reducible repeat (first | apply rL | apply rN | apply rW)); exact HO261.out) hg hat); have n1_ := Aside0.mk (hb); have n2_ := Aside0.mk (ho); clear HO261; clear HB; clear HO_5; have HO261 := n0_; have HB := n1_; have HO264 := n2_; clear n0_ n1_ n2_; clear ho hb hg hat))
        go_ret
        exact ⟨_, by first | rfl | (simp [errW_none, errW_some] <;> rfl) | (simp [*, errW_none, errW_some] <;> rfl), by (with_reducible repeat (first | apply rL | apply rN | apply rW)); exact Kd.R_mono HO264.out (fun _ hk => trivial), by repeat (first | (with_reducible first | exact HB.out | apply bA | apply bN | apply bD) | exact HB.out)⟩
       ·rw [if_neg c11] at H
        exact absurd H (by simp)
      ·rw [if_neg c9] at H
       have c9b0 : (((x5_1.length : Int) % 64) == 56) = false := beq_eq_false_iff_ne.mpr c9
       have c9b1 : (((x5_1.length : Int) % 64) != 56) = true := bne_iff_ne.mpr c9
       by_cases c16 : x5_1.length < 140737488355328
       ·rw [if_pos c16] at H
        have LMc16 := Aside0.mk c16; clear c16; obtain ⟨y265, hy265⟩ : ∃ y_ : List Int, y_ = (x5_1 ++ [0]) := ⟨_, rfl⟩
        replace H : (wristbandref02_Fill.l0 k1 a1 y265) = some r := by first | (rw [hy265]; with_reducible exact H) | (have H2_ := (Option.bind_some _ _).symm.trans H; rw [hy265]; with_reducible exact H2_) | (have H2_ := (Option.bind_some _ _).symm.trans H; with_reducible exact H2_) | with_reducible exact H | (rw [hy265]; exact H) | exact H
        have Ny265 := Aside0.mk hy265; clear hy265; have H' := Aside0.mk H; clear H; obtain ⟨Ao17, co17, eo17⟩ := Kd.R_slice HO_5.out
        subst eo17; go_wp2_with (first | ((with_reducible refine gate_builtin (b := .append) (xs := #[.tmp 15, .tmp 16]) rfl ?_); at_builtin; refine Kd.R_append (Kd.int .u8) (w0 := w) w.heap.size rfl (.tmp 15) (.tmp 16) 24 5 (.int .u8 0) 1 rfl Tryd.underlying24 info5 rfl (by decide) (by omega) (.slice Ao17 x5_1.length co17) x5_1 0 [.int .u8 0] (fun _ => True) (fun _ => False) rfl rfl ?aP (fun _ hk => hk.elim) ?aF ?aO ?aB ?aS ?aL ?_; (case aP => exact rfl); (case aB => exact (by repeat (first | (with_reducible first | exact HB.out | apply bA | apply bN | apply bD) | exact HB.out))); (case aF => exact (fun _ _ => trivial)); (case aO => exact (by (with_reducible repeat (first | apply rL | apply rN | apply rW)); exact HO_5.out)); (case aS => exact (below_size (by repeat (first | (with_reducible first | exact HB.out | apply bA | apply bN | apply bD) | exact HB.out)))); (case aL => have := LMc16.out; omega); intro v266 w18 ho hb hg hat; rw [← Ny265.out] at ho; have n0_ := Aside0.mk (hb); have n1_ := Aside0.mk (ho); clear HB; clear HO_5; have HB := n0_; have HO267 := n1_; clear n0_ n1_; clear ho hb hg hat))
        go_roundg k1
        case measure => have := HK1.out; omega
        case rel => exact ⟨(y265), H', ⟨by have := HK1.out; omega⟩, ⟨by (with_reducible repeat (first | apply rL | apply rN | apply rW)); exact HO267.out⟩, ⟨by repeat (first | (with_reducible first | exact HB.out | apply bA | apply bN | apply bD) | exact HB.out)⟩⟩
       ·rw [if_neg c16] at H
        exact absurd H (by simp)
   ·rw [if_neg c4] at H
    exact absurd H (by simp)
  ·rw [if_neg c3] at H
   exact absurd H (by simp)

/-! ### wristbandref01_Words: function 48 -/
def wristbandref01_Words.l0 : Nat → List Int → List Int → Int → Option (List Int)
  | 0, _, _, _ => none
  | k + 1, x0, x3, x4 => if (wrap64 (x4 + 3)) < (x0.length : Int) then (if 0 ≤ x4 then (if x4 < (x0.length : Int) then (if 0 ≤ (wrap64 (x4 + 1)) then (if (wrap64 (x4 + 1)) < (x0.length : Int) then (if 0 ≤ (wrap64 (x4 + 2)) then (if (wrap64 (x4 + 2)) < (x0.length : Int) then (if 0 ≤ (wrap64 (x4 + 3)) then (if x3.length < 35184372088832 then (wristbandref01_Words.l0 k x0 (x3 ++ [(((((((16777216 * ((rd x0 x4) % 4294967296)) % 4294967296) + ((65536 * ((rd x0 (wrap64 (x4 + 1))) % 4294967296)) % 4294967296)) % 4294967296) + ((256 * ((rd x0 (wrap64 (x4 + 2))) % 4294967296)) % 4294967296)) % 4294967296) + ((rd x0 (wrap64 (x4 + 3))) % 4294967296)) % 4294967296]) (wrap64 (x4 + 4))) else (none)) else (none)) else (none)) else (none)) else (none)) else (none)) else (none)) else (none)) else (some x3)
def wristbandref01_Words.f (k : Nat) (l0 : List Int) : Option (List Int) := wristbandref01_Words.l0 k l0 ([] : List Int) 0
theorem wristbandref01_Words.mono_l : ∀ k, (∀ y0 y1 y2, LeO (wristbandref01_Words.l0 k y0 y1 y2) (wristbandref01_Words.l0 (k + 1) y0 y1 y2))
  | 0 => fun _ _ _ r h => by simp [wristbandref01_Words.l0] at h
  | k + 1 => by
   have ih0 := wristbandref01_Words.mono_l k
   ·intro y0 y1 y2
    unfold wristbandref01_Words.l0
    repeat' first
    | (with_reducible exact ih0 _ _ _)
    | (with_reducible exact LeO.refl _)
    | (with_reducible exact LeO.none _)
    | (with_reducible refine LeO.ite ?_ ?_)
    | (with_reducible refine LeO.bind ?_ (fun _ => ?_))
    | exact ih0 _ _ _
    | exact LeO.none _
    | refine LeO.ite ?_ ?_
    | refine LeO.bind ?_ (fun _ => ?_)
theorem wristbandref01_Words.mono : ∀ a0 k, LeO (wristbandref01_Words.f k a0) (wristbandref01_Words.f (k + 1) a0) := by
  intro a0 k; have ih0 := wristbandref01_Words.mono_l k
  unfold wristbandref01_Words.f
  repeat' first
    | (with_reducible exact ih0 _ _ _)
    | (with_reducible exact LeO.refl _)
    | (with_reducible exact LeO.none _)
    | (with_reducible refine LeO.ite ?_ ?_)
    | (with_reducible refine LeO.bind ?_ (fun _ => ?_))
    | exact ih0 _ _ _
    | exact LeO.none _
    | refine LeO.ite ?_ ?_
    | refine LeO.bind ?_ (fun _ => ?_)
def wristbandref01_Words.T5 : Bool × List (List Nat × List Nat) := (true, [([], []), ([], []), ([], []), ([1, 2], [1, 2]), ([3], [3]), ([4], [4]), ([5], [5]), ([], []), ([], []), ([8], [8]), ([7, 9], [7, 9]), ([10], [10]), ([11], [11]), ([12], [12]), ([6, 13], [6, 13]), ([], []), ([], []), ([16], [16]), ([15, 17], [15, 17]), ([18], [18]), ([19], [19]), ([20], [20]), ([14, 21], [14, 21]), ([], []), ([], []), ([24], [24]), ([23, 25], [23, 25]), ([26], [26]), ([27], [27]), ([22, 28], [22, 28]), ([29], [29]), ([0, 30], [0, 30]), ([31, 31, 0, 1, 2, 3, 4, 5, 6, 7, 8, 9, 10, 11, 12, 13, 14, 15, 16, 17, 18, 19, 20, 21, 22, 23, 24, 25, 26, 27, 28, 29, 30, 31], [0, 31])])
def wristbandref01_Words.B5 : List Nat := [0, 0, 0, 6, 14, 30, 62, 0, 0, 256, 896, 1920, 3968, 8064, 16382, 0, 0, 65536, 229376, 491520, 1015808, 2064384, 4194302, 0, 0, 16777216, 58720256, 125829120, 260046848, 536870910, 1073741822, 2147483647, 4294967295]
theorem wristbandref01_Words.tab5 : rtab .any (opsOf Tryd.f48 5) = wristbandref01_Words.T5 := by kernel_rfl
theorem wristbandref01_Words.bits5 : waitsOk wristbandref01_Words.T5.2 wristbandref01_Words.B5 = true := by kernel_rfl
set_option maxHeartbeats 8000000 in
set_option maxRecDepth 100000 in
theorem wristbandref01_Words.calls (k : Nat) (A0 : Option Addr) (c0 : Nat) (l0 : List Int) (r : List Int) (w : World) (hr0 : Kd.C (Kd.int .u8) w A0 l0.length l0) (hc0 : l0.length ≤ c0) (h : wristbandref01_Words.f k l0 = some r) :
   Calls Tryd.prog 48 #[.slice A0 l0.length c0] w fun e w' => ∃ v0_ : Value, e = .returned (v0_) ∧ Kd.R (Kd.int .u32) 22 w' w.heap.size (fun _ => True) v0_ r ∧ Below w.heap.size w w' := by
  have HR0 := Aside0.mk hr0; have HC0 := Aside0.mk hc0; clear hr0 hc0; have HB := Aside0.mk (Below.refl w.heap.size w); have H : (wristbandref01_Words.l0 k l0 ([] : List Int) 0) = some r := h
  clear h; have H' := Aside0.mk H; clear H; go_enter Tryd.func48, Tryd.ntmps48
  go_wp2
  go_loopg [3, 4] k (fun kq v3 v4 w' => ∃ (x3_1 : List Int) (x4_1 : Int), v4 = .int .i64 x4_1 ∧ Aside0 (wristbandref01_Words.l0 kq l0 x3_1 x4_1 = some r) ∧ Aside0 (kq ≤ k) ∧ Aside0 (Kd.R (Kd.int .u32) 22 w' w.heap.size (fun _ => True) v3 x3_1) ∧ Aside0 (Below w.heap.size w w'))
  case atStart => exact ⟨(([] : List Int)), (0), (by first | rfl | (simp; done) | (simp [*]; done)), H', ⟨Nat.le_refl _⟩, ⟨by first | exact Kd.R_nil _ _ _ _ _ | exact Kd.N_nil _ _ _ _ _ | exact Kd.V_nil _ _ _ _ _ | exact Kd.Q_nil _ _ _ _ _ | exact Kd.S_nil _ _ _ _ _⟩, ⟨by repeat (first | (with_reducible first | exact HB.out | apply bA | apply bN | apply bD) | exact HB.out)⟩⟩
  case round =>
   clear H'; obtain ⟨x3_1, x4_1, rfl, HA, HK1, HO_3, HB⟩ := hrel
   cases gk with
   | zero => exact absurd HA.out (by simp [wristbandref01_Words.l0])
   | succ k1 =>
    have H := HA.out
    clear HA; simp only [wristbandref01_Words.l0] at H
    by_cases c2 : (wrap64 (x4_1 + 3)) < (l0.length : Int)
    ·rw [if_pos c2] at H
     have c2b0 : decide ((wrap64 (x4_1 + 3)) < (l0.length : Int)) = true := decide_eq_true c2
     clear c2; by_cases c3 : 0 ≤ x4_1
     ·rw [if_pos c3] at H
      have c3b0 : decide (0 ≤ x4_1) = true := decide_eq_true c3
      clear c3; by_cases c4 : x4_1 < (l0.length : Int)
      ·rw [if_pos c4] at H
       have c4b0 : decide (x4_1 < (l0.length : Int)) = true := decide_eq_true c4
       clear c4; obtain ⟨ji5, hji5⟩ : ∃ j_ : Int, (wrap64 (x4_1 + 1)) = j_ := ⟨_, rfl⟩
       replace H : (if 0 ≤ (ji5) then (if (ji5) < (l0.length : Int) then (if 0 ≤ (wrap64 (x4_1 + 2)) then (if (wrap64 (x4_1 + 2)) < (l0.length : Int) then (if 0 ≤ (wrap64 (x4_1 + 3)) then (if x3_1.length < 35184372088832 then (wristbandref01_Words.l0 k1 l0 (x3_1 ++ [(((((((16777216 * ((rd l0 x4_1) % 4294967296)) % 4294967296) + ((65536 * ((rd l0 (ji5)) % 4294967296)) % 4294967296)) % 4294967296) + ((256 * ((rd l0 (wrap64 (x4_1 + 2))) % 4294967296)) % 4294967296)) % 4294967296) + ((rd l0 (wrap64 (x4_1 + 3))) % 4294967296)) % 4294967296]) (wrap64 (x4_1 + 4))) else (none)) else (none)) else (none)) else (none)) else (none)) else (none)) = some r := by first | (rw [hji5] at H; exact H) | (simp only [hji5] at H ⊢; exact H)
       have hji5w : (IntKind.i64.wrap (x4_1 + 1)) = ji5 := (i64_w _).trans hji5
       by_cases c6 : 0 ≤ (ji5)
       ·rw [if_pos c6] at H
        have c6b0 : decide (0 ≤ (ji5)) = true := decide_eq_true c6
        clear c6; by_cases c7 : (ji5) < (l0.length : Int)
        ·rw [if_pos c7] at H
         have c7b0 : decide ((ji5) < (l0.length : Int)) = true := decide_eq_true c7
         clear c7; obtain ⟨ji8, hji8⟩ : ∃ j_ : Int, (wrap64 (x4_1 + 2)) = j_ := ⟨_, rfl⟩
         replace H : (if 0 ≤ (ji8) then (if (ji8) < (l0.length : Int) then (if 0 ≤ (wrap64 (x4_1 + 3)) then (if x3_1.length < 35184372088832 then (wristbandref01_Words.l0 k1 l0 (x3_1 ++ [(((((((16777216 * ((rd l0 x4_1) % 4294967296)) % 4294967296) + ((65536 * ((rd l0 (ji5)) % 4294967296)) % 4294967296)) % 4294967296) + ((256 * ((rd l0 (ji8)) % 4294967296)) % 4294967296)) % 4294967296) + ((rd l0 (wrap64 (x4_1 + 3))) % 4294967296)) % 4294967296]) (wrap64 (x4_1 + 4))) else (none)) else (none)) else (none)) else (none)) = some r := by first | (rw [hji8] at H; exact H) | (simp only [hji8] at H ⊢; exact H)
         have hji8w : (IntKind.i64.wrap (x4_1 + 2)) = ji8 := (i64_w _).trans hji8
         by_cases c9 : 0 ≤ (ji8)
         ·rw [if_pos c9] at H
          have c9b0 : decide (0 ≤ (ji8)) = true := decide_eq_true c9
          clear c9; by_cases c10 : (ji8) < (l0.length : Int)
          ·rw [if_pos c10] at H
           have c10b0 : decide ((ji8) < (l0.length : Int)) = true := decide_eq_true c10
           clear c10; obtain ⟨ji11, hji11⟩ : ∃ j_ : Int, (wrap64 (x4_1 + 3)) = j_ := ⟨_, rfl⟩
           replace H : (if 0 ≤ (ji11) then (if x3_1.length < 35184372088832 then (wristbandref01_Words.l0 k1 l0 (x3_1 ++ [(((((((16777216 * ((rd l0 x4_1) % 4294967296)) % 4294967296) + ((65536 * ((rd l0 (ji5)) % 4294967296)) % 4294967296)) % 4294967296) + ((256 * ((rd l0 (ji8)) % 4294967296)) % 4294967296)) % 4294967296) + ((rd l0 (ji11)) % 4294967296)) % 4294967296]) (wrap64 (x4_1 + 4))) else (none)) else (none)) = some r := by first | (rw [hji11] at H; exact H) | (simp only [hji11] at H ⊢; exact H)
           (try rw [hji11] at c2b0)
           have hji11w : (IntKind.i64.wrap (x4_1 + 3)) = ji11 := (i64_w _).trans hji11
           by_cases c12 : 0 ≤ (ji11)
           ·rw [if_pos c12] at H
            have c12b0 : decide (0 ≤ (ji11)) = true := decide_eq_true c12
            clear c12; by_cases c13 : x3_1.length < 35184372088832
            ·rw [if_pos c13] at H
             have LMc13 := Aside0.mk c13; clear c13; obtain ⟨y272, hy272⟩ : ∃ y_ : List Int, y_ = (x3_1 ++ [(((((((16777216 * ((rd l0 x4_1) % 4294967296)) % 4294967296) + ((65536 * ((rd l0 (ji5)) % 4294967296)) % 4294967296)) % 4294967296) + ((256 * ((rd l0 (ji8)) % 4294967296)) % 4294967296)) % 4294967296) + ((rd l0 (ji11)) % 4294967296)) % 4294967296]) := ⟨_, rfl⟩
             replace H : (wristbandref01_Words.l0 k1 l0 y272 (wrap64 (x4_1 + 4))) = some r := by first | (rw [hy272]; with_reducible exact H) | (have H2_ := (Option.bind_some _ _).symm.trans H; rw [hy272]; with_reducible exact H2_) | (have H2_ := (Option.bind_some _ _).symm.trans H; with_reducible exact H2_) | with_reducible exact H | (rw [hy272]; exact H) | exact H
             have Ny272 := Aside0.mk hy272; clear hy272; have H' := Aside0.mk H; clear H; try go_wp2
             have n0_ := Aside0.mk (Kd.R_drew HO_3.out); have n1_ := Aside0.mk (below_drew1 HB.out); clear HO_3; clear HB; have HO_3 := n0_; have HB := n1_; clear n0_ n1_; have p268 : 0 ≤ (x4_1 : Int) := of_decide_eq_true (by first | (with_reducible assumption) | assumption)
             have q268 : x4_1 < (l0.length : Int) := of_decide_eq_true (by first | (with_reducible assumption) | assumption)
             obtain ⟨ad268, e268, hx268_0⟩ := Kd.at_int HR0.out x4_1 p268 q268
             have hw268_0 := hx268_0
             cases e268
             replace hx268_0 := (HB.out.cell (World.block_lt_of_cell? w _ hx268_0)).trans hx268_0
             replace p268 := eq_true p268
             replace q268 := eq_true q268
             have p269 : 0 ≤ ((ji5) : Int) := of_decide_eq_true (by first | (with_reducible assumption) | assumption)
             have q269 : (ji5) < (l0.length : Int) := of_decide_eq_true (by first | (with_reducible assumption) | assumption)
             obtain ⟨ad269, e269, hx269_0⟩ := Kd.at_int HR0.out (ji5) p269 q269
             have hw269_0 := hx269_0
             obtain rfl : ad268 = ad269 := (by injection e269)
             replace hx269_0 := (HB.out.cell (World.block_lt_of_cell? w _ hx269_0)).trans hx269_0
             replace p269 := eq_true p269
             replace q269 := eq_true q269
             have p270 : 0 ≤ ((ji8) : Int) := of_decide_eq_true (by first | (with_reducible assumption) | assumption)
             have q270 : (ji8) < (l0.length : Int) := of_decide_eq_true (by first | (with_reducible assumption) | assumption)
             obtain ⟨ad270, e270, hx270_0⟩ := Kd.at_int HR0.out (ji8) p270 q270
             have hw270_0 := hx270_0
             obtain rfl : ad268 = ad270 := (by injection e270)
             replace hx270_0 := (HB.out.cell (World.block_lt_of_cell? w _ hx270_0)).trans hx270_0
             replace p270 := eq_true p270
             replace q270 := eq_true q270
             have p271 : 0 ≤ ((ji11) : Int) := of_decide_eq_true (by first | (with_reducible assumption) | assumption)
             have q271 : (ji11) < (l0.length : Int) := of_decide_eq_true (by first | (with_reducible assumption) | assumption)
             obtain ⟨ad271, e271, hx271_0⟩ := Kd.at_int HR0.out (ji11) p271 q271
             have hw271_0 := hx271_0
             obtain rfl : ad268 = ad271 := (by injection e271)
             replace hx271_0 := (HB.out.cell (World.block_lt_of_cell? w _ hx271_0)).trans hx271_0
             replace p271 := eq_true p271
             replace q271 := eq_true q271
             refine start_ (n := 33) (S := fun w' => w'.cell? (ad268.add (x4_1).toNat) = some (.int .u8 (rd l0 x4_1)) ∧ w'.cell? (ad268.add ((ji5)).toNat) = some (.int .u8 (rd l0 (ji5))) ∧ w'.cell? (ad268.add ((ji8)).toNat) = some (.int .u8 (rd l0 (ji8))) ∧ w'.cell? (ad268.add ((ji11)).toNat) = some (.int .u8 (rd l0 (ji11)))) (ds := []) #[false, false, false, false, false, false, false, false, false, false, false, false, false, false, false, false, false, false, false, false, false, false, false, false, false, false, false, false, false, false, false, false, false] (by kernel_rfl) rfl rfl ⟨((HB.out.cell (World.block_lt_of_cell? w _ hw268_0)).trans hw268_0), ((HB.out.cell (World.block_lt_of_cell? w _ hw269_0)).trans hw269_0), ((HB.out.cell (World.block_lt_of_cell? w _ hw270_0)).trans hw270_0), ((HB.out.cell (World.block_lt_of_cell? w _ hw271_0)).trans hw271_0)⟩ (fun hHeld => ?_); refine with_tabW wristbandref01_Words.tab5 wristbandref01_Words.bits5 (fun HT_ HW_ => ?_)
             generalize wr.drew = w14 at HO_3 HB hx268_0 hx269_0 hx270_0 hx271_0 hHeld ⊢
             refine pu_ 0 12 (rA [1,32]) HT_ (by kernel_rfl) rfl rfl (fun _ _ _ => id) (.inl ⟨by rfl, fun w' => by go_simp; with_reducible rfl⟩) (by simp only [Act.put, sA, s0, sS, i64_w, i32_w]; rfl) ?_
             refine pu_ 1 13 (rA [2,31]) HT_ (by kernel_rfl) rfl rfl (fun _ _ _ => id) (.inl ⟨by rfl, fun w' => by go_simp; with_reducible rfl⟩) (by simp only [Act.put, sA, s0, sS, i64_w, i32_w]; rfl) ?_
             refine pu_ 2 14 (rA [3,30]) HT_ (by kernel_rfl) rfl rfl (fun _ _ _ => id) (.inl ⟨by rfl, fun w' => by go_simp; with_reducible rfl⟩) (by simp only [Act.put, sA, s0, sS, i64_w, i32_w]; rfl) ?_
             refine pu_ 3 15 (rA [4,29]) HT_ (by kernel_rfl) rfl rfl (fun _ _ _ => id) (.inl ⟨by rfl, fun w' => by go_simp; with_reducible rfl⟩) (by simp only [Act.put, sA, s0, sS, i64_w, i32_w]; rfl) ?_
             refine pu_ 7 19 (rA [4,3,1,25]) HT_ (by kernel_rfl) rfl rfl (fun _ _ _ => id) (.inl ⟨by rfl, fun w' => by go_simp; with_reducible rfl⟩) (by simp only [Act.put, sA, s0, sS, i64_w, i32_w]; rfl) ?_
             refine pu_ 8 20 (rA [4,3,2,24]) HT_ (by kernel_rfl) rfl rfl (fun _ _ _ => id) (.inl ⟨by rfl, fun w' => by go_simp; with_reducible rfl⟩) (by simp only [Act.put, sA, s0, sS, i64_w, i32_w]; rfl) ?_
             refine pu_ 9 21 (rA [4,3,3,23]) HT_ (by kernel_rfl) rfl rfl (fun _ _ _ => id) (.inl ⟨by rfl, fun w' => by go_simp; with_reducible rfl⟩) (by simp only [Act.put, sA, s0, sS, i64_w, i32_w]; rfl) ?_
             refine pu_ 10 22 (rA [4,3,4,22]) HT_ (by kernel_rfl) rfl rfl (fun _ _ _ => id) (.inl ⟨by rfl, fun w' => by go_simp; with_reducible rfl⟩) (by simp only [Act.put, sA, s0, sS, i64_w, i32_w]; rfl) ?_
             refine pu_ 15 27 (rA [4,3,4,4,1,17]) HT_ (by kernel_rfl) rfl rfl (fun _ _ _ => id) (.inl ⟨by rfl, fun w' => by go_simp; with_reducible rfl⟩) (by simp only [Act.put, sA, s0, sS, i64_w, i32_w]; rfl) ?_
             refine pu_ 16 28 (rA [4,3,4,4,2,16]) HT_ (by kernel_rfl) rfl rfl (fun _ _ _ => id) (.inl ⟨by rfl, fun w' => by go_simp; with_reducible rfl⟩) (by simp only [Act.put, sA, s0, sS, i64_w, i32_w]; rfl) ?_
             refine pu_ 17 29 (rA [4,3,4,4,3,15]) HT_ (by kernel_rfl) rfl rfl (fun _ _ _ => id) (.inl ⟨by rfl, fun w' => by go_simp; with_reducible rfl⟩) (by simp only [Act.put, sA, s0, sS, i64_w, i32_w]; rfl) ?_
             refine pu_ 18 30 (rA [4,3,4,4,4,14]) HT_ (by kernel_rfl) rfl rfl (fun _ _ _ => id) (.inl ⟨by rfl, fun w' => by go_simp; with_reducible rfl⟩) (by simp only [Act.put, sA, s0, sS, i64_w, i32_w]; rfl) ?_
             refine pu_ 23 35 (rA [4,3,4,4,4,4,1,9]) HT_ (by kernel_rfl) rfl rfl (fun _ _ _ => id) (.inl ⟨by rfl, fun w' => by go_simp; with_reducible rfl⟩) (by simp only [Act.put, sA, s0, sS, i64_w, i32_w]; rfl) ?_
             refine pu_ 24 36 (rA [4,3,4,4,4,4,2,8]) HT_ (by kernel_rfl) rfl rfl (fun _ _ _ => id) (.inl ⟨by rfl, fun w' => by go_simp; with_reducible rfl⟩) (by simp only [Act.put, sA, s0, sS, i64_w, i32_w]; rfl) ?_
             refine pu_ 25 37 (rA [4,3,4,4,4,4,3,7]) HT_ (by kernel_rfl) rfl rfl (fun _ _ _ => id) (.inl ⟨by rfl, fun w' => by go_simp; with_reducible rfl⟩) (by simp only [Act.put, sA, s0, sS, i64_w, i32_w]; rfl) ?_
             refine pu_ 26 38 (rA [4,3,4,4,4,4,4,6]) HT_ (by kernel_rfl) rfl rfl (fun _ _ _ => id) (.inl ⟨by rfl, fun w' => by go_simp; with_reducible rfl⟩) (by simp only [Act.put, sA, s0, sS, i64_w, i32_w]; rfl) ?_
             refine take_ (i := 4) (N := some 16) (v := ?_) (a' := ?_) #[true, true, true, true, true, false, false, true, true, true, true, false, false, false, false, true, true, true, true, false, false, false, false, true, true, true, true, false, false, false, false, false, false] rfl rfl (take_ofW HT_.out HW_.out (by kernel_rfl)) (fun _ _ _ h => h) (Or.inl ⟨by rfl, ?_⟩) hHeld ?_ ?_
             rotate_left
             ·rintro w' ⟨s0, s1, s2, s3⟩
              go_simp
              with_reducible rfl
             rotate_left
             ·simp only [Act.put, sA, s0, sS, i64_w, i32_w]
              rfl
             refine pu_ 5 17 (rA [6,1,4,4,4,4,4,6]) HT_ (by kernel_rfl) rfl rfl (fun _ _ _ => id) (.inl ⟨by rfl, fun w' => by go_simp; with_reducible rfl⟩) (by simp only [Act.put, sA, s0, sS, i64_w, i32_w]; rfl) ?_
             refine pu_ 6 18 (rA [11,4,4,4,4,6]) HT_ (by kernel_rfl) rfl rfl (fun _ _ _ => id) (.inl ⟨by rfl, fun w' => by go_simp; with_reducible rfl⟩) (by simp only [Act.put, sA, s0, sS, i64_w, i32_w]; rfl) ?_
             refine take_ (i := 11) (N := some 23) (v := ?_) (a' := ?_) #[true, true, true, true, true, true, true, true, true, true, true, true, false, false, false, true, true, true, true, false, false, false, false, true, true, true, true, false, false, false, false, false, false] rfl rfl (take_ofW HT_.out HW_.out (by kernel_rfl)) (fun _ _ _ h => h) (Or.inl ⟨by rfl, ?_⟩) hHeld ?_ ?_
             rotate_left
             ·rintro w' ⟨s0, s1, s2, s3⟩
              go_simp
              with_reducible rfl
             rotate_left
             ·simp only [Act.put, sA, s0, sS, i64_w, i32_w]
              rfl
             refine pu_ 12 24 (rA [13,2,4,4,4,6]) HT_ (by kernel_rfl) rfl rfl (fun _ _ _ => id) (.inl ⟨by rfl, fun w' => by go_simp; with_reducible rfl⟩) (by simp only [Act.put, sA, s0, sS, i64_w, i32_w]; rfl) ?_
             refine pu_ 13 25 (rA [14,1,4,4,4,6]) HT_ (by kernel_rfl) rfl rfl (fun _ _ _ => id) (.inl ⟨by rfl, fun w' => by go_simp; with_reducible rfl⟩) (by simp only [Act.put, sA, s0, sS, i64_w, i32_w]; rfl) ?_
             refine pu_ 14 26 (rA [19,4,4,6]) HT_ (by kernel_rfl) rfl rfl (fun _ _ _ => id) (.inl ⟨by rfl, fun w' => by go_simp; with_reducible rfl⟩) (by simp only [Act.put, sA, s0, sS, i64_w, i32_w]; rfl) ?_
             refine take_ (i := 19) (N := some 31) (v := ?_) (a' := ?_) #[true, true, true, true, true, true, true, true, true, true, true, true, true, true, true, true, true, true, true, true, false, false, false, true, true, true, true, false, false, false, false, false, false] rfl rfl (take_ofW HT_.out HW_.out (by kernel_rfl)) (fun _ _ _ h => h) (Or.inl ⟨by rfl, ?_⟩) hHeld ?_ ?_
             rotate_left
             ·rintro w' ⟨s0, s1, s2, s3⟩
              go_simp
              with_reducible rfl
             rotate_left
             ·simp only [Act.put, sA, s0, sS, i64_w, i32_w]
              rfl
             refine pu_ 20 32 (rA [21,2,4,6]) HT_ (by kernel_rfl) rfl rfl (fun _ _ _ => id) (.inl ⟨by rfl, fun w' => by go_simp; with_reducible rfl⟩) (by simp only [Act.put, sA, s0, sS, i64_w, i32_w]; rfl) ?_
             refine pu_ 21 33 (rA [22,1,4,6]) HT_ (by kernel_rfl) rfl rfl (fun _ _ _ => id) (.inl ⟨by rfl, fun w' => by go_simp; with_reducible rfl⟩) (by simp only [Act.put, sA, s0, sS, i64_w, i32_w]; rfl) ?_
             refine pu_ 22 34 (rA [27,6]) HT_ (by kernel_rfl) rfl rfl (fun _ _ _ => id) (.inl ⟨by rfl, fun w' => by go_simp; with_reducible rfl⟩) (by simp only [Act.put, sA, s0, sS, i64_w, i32_w]; rfl) ?_
             refine take_ (i := 27) (N := some 39) (v := ?_) (a' := ?_) #[true, true, true, true, true, true, true, true, true, true, true, true, true, true, true, true, true, true, true, true, true, true, true, true, true, true, true, true, false, false, false, false, false] rfl rfl (take_ofW HT_.out HW_.out (by kernel_rfl)) (fun _ _ _ h => h) (Or.inl ⟨by rfl, ?_⟩) hHeld ?_ ?_
             rotate_left
             ·rintro w' ⟨s0, s1, s2, s3⟩
              go_simp
              with_reducible rfl
             rotate_left
             ·simp only [Act.put, sA, s0, sS, i64_w, i32_w]
              rfl
             refine pu_ 28 40 (rA [29,4]) HT_ (by kernel_rfl) rfl rfl (fun _ _ _ => id) (.inl ⟨by rfl, fun w' => by go_simp; with_reducible rfl⟩) (by simp only [Act.put, sA, s0, sS, i64_w, i32_w]; rfl) ?_
             refine pu_ 29 41 (rA [30,3]) HT_ (by kernel_rfl) rfl rfl (fun _ _ _ => id) (.inl ⟨by rfl, fun w' => by go_simp; with_reducible rfl⟩) (by simp only [Act.put, sA, s0, sS, i64_w, i32_w]; rfl) ?_
             refine one_ (i := 30) (N := some 42) (rA [31,2]) rfl rfl (one_of HT_.out (by kernel_rfl)) (by decide) (fun K hK => ?_)
             refine value_ (w1 := ?_) (v := ?_) (by rfl) rfl ?_ ?_
             rotate_left 2
             ·go_simp
              constructor
              ·rfl
              ·rfl
             refine hK.out _ _ ⟨(World.cell?_alloc_lt _ _ _ (World.block_lt_of_cell? _ _ (((HB.out.cell (World.block_lt_of_cell? w _ hw268_0)).trans hw268_0)))).trans (((HB.out.cell (World.block_lt_of_cell? w _ hw268_0)).trans hw268_0)), (World.cell?_alloc_lt _ _ _ (World.block_lt_of_cell? _ _ (((HB.out.cell (World.block_lt_of_cell? w _ hw269_0)).trans hw269_0)))).trans (((HB.out.cell (World.block_lt_of_cell? w _ hw269_0)).trans hw269_0)), (World.cell?_alloc_lt _ _ _ (World.block_lt_of_cell? _ _ (((HB.out.cell (World.block_lt_of_cell? w _ hw270_0)).trans hw270_0)))).trans (((HB.out.cell (World.block_lt_of_cell? w _ hw270_0)).trans hw270_0)), (World.cell?_alloc_lt _ _ _ (World.block_lt_of_cell? _ _ (((HB.out.cell (World.block_lt_of_cell? w _ hw271_0)).trans hw271_0)))).trans (((HB.out.cell (World.block_lt_of_cell? w _ hw271_0)).trans hw271_0))⟩ (fun hHeld => ?_)
             clear hK K; refine norm_ (a' := ?_) ?_ ?_
             rotate_left
             ·show Act.put _ (some 42) _ = _
              simp only [Act.put, sA, s0, sS, i64_w, i32_w]
              rfl
             refine one_ (i := 31) (N := some 43) (rA [32,1]) rfl rfl (one_of HT_.out (by kernel_rfl)) (by decide) (fun K hK => ?_)
             refine Kd.R_append_step (Kd.int .u32) (w0 := w) w.heap.size (by rfl) (.tmp 12) (.tmp 42) 34 22 (.int .u32 0) 4 rfl Tryd.underlying34 info22 rfl (by decide) (by omega) u3 x3_1 ((((((((16777216 * ((rd l0 x4_1) % 4294967296)) % 4294967296) + ((65536 * ((rd l0 (ji5)) % 4294967296)) % 4294967296)) % 4294967296) + ((256 * ((rd l0 (ji8)) % 4294967296)) % 4294967296)) % 4294967296) + ((rd l0 (ji11)) % 4294967296)) % 4294967296) [.int .u32 ((((((((16777216 * ((rd l0 x4_1) % 4294967296)) % 4294967296) + ((65536 * ((rd l0 (ji5)) % 4294967296)) % 4294967296)) % 4294967296) + ((256 * ((rd l0 (ji8)) % 4294967296)) % 4294967296)) % 4294967296) + ((rd l0 (ji11)) % 4294967296)) % 4294967296)] (fun _ => True) (fun _ => False) rfl rfl ?aP (fun _ hk => hk.elim) ?aF ?aO ?aB ?aS ?aL ?_
             (case aP => exact rfl)
             (case aB => exact (by repeat (first | (with_reducible first | exact HB.out | apply bA | apply bN | apply bD) | exact HB.out)))
             (case aF => exact (fun _ _ => trivial))
             (case aO => exact (by (with_reducible repeat (first | apply rL | apply rN | apply rW)); exact HO_3.out))
             (case aS => exact (below_size (by repeat (first | (with_reducible first | exact HB.out | apply bA | apply bN | apply bD) | exact HB.out))))
             (case aL => have := LMc13.out; omega)
             intro v273 w15 ho hb hg hat; rw [← Ny272.out] at ho
             have n0_ := Aside0.mk (hb); have n1_ := Aside0.mk (ho); clear HB; clear HO_3; have HB := n0_; have HO274 := n1_; clear n0_ n1_; clear ho hb hg hat; refine hK.out _ _ ⟨((HB.out.cell (World.block_lt_of_cell? w _ hw268_0)).trans hw268_0), ((HB.out.cell (World.block_lt_of_cell? w _ hw269_0)).trans hw269_0), ((HB.out.cell (World.block_lt_of_cell? w _ hw270_0)).trans hw270_0), ((HB.out.cell (World.block_lt_of_cell? w _ hw271_0)).trans hw271_0)⟩ (fun hHeld => ?_)
             clear hK K; refine norm_ (a' := ?_) ?_ ?_
             rotate_left
             ·show Act.put _ (some 43) _ = _
              simp only [Act.put, sA, s0, sS, i64_w, i32_w]
              rfl
             refine pu_ 32 3 (rA [33]) HT_ (by kernel_rfl) rfl rfl (fun _ _ _ => id) (.inl ⟨by rfl, fun w' => by go_simp; with_reducible rfl⟩) (by simp only [Act.put, sA, s0, sS, i64_w, i32_w]; rfl) ?_
             refine done_ (done_of HT_.out (by kernel_rfl)) ?_
             try go_wp2
             go_roundg k1
             case measure => have := HK1.out; omega
             case rel => exact ⟨(y272), (wrap64 (x4_1 + 4)), (by first | rfl | (simp; done) | (simp [*]; done)), H', ⟨by have := HK1.out; omega⟩, ⟨by (with_reducible repeat (first | apply rL | apply rN | apply rW)); exact HO274.out⟩, ⟨by repeat (first | (with_reducible first | exact HB.out | apply bA | apply bN | apply bD) | exact HB.out)⟩⟩
            ·rw [if_neg c13] at H
             exact absurd H (by simp)
           ·rw [if_neg c12] at H
            exact absurd H (by simp)
          ·rw [if_neg c10] at H
           exact absurd H (by simp)
         ·rw [if_neg c9] at H
          exact absurd H (by simp)
        ·rw [if_neg c7] at H
         exact absurd H (by simp)
       ·rw [if_neg c6] at H
        exact absurd H (by simp)
      ·rw [if_neg c4] at H
       exact absurd H (by simp)
     ·rw [if_neg c3] at H
      exact absurd H (by simp)
    ·rw [if_neg c2] at H
     have c2b0 : decide ((wrap64 (x4_1 + 3)) < (l0.length : Int)) = false := decide_eq_false c2
     clear c2; obtain rfl := Option.some.inj H
     go_wp2
     go_ret
     exact ⟨_, by first | rfl | (simp [errW_none, errW_some] <;> rfl) | (simp [*, errW_none, errW_some] <;> rfl), by (with_reducible repeat (first | apply rL | apply rN | apply rW)); exact HO_3.out, by repeat (first | (with_reducible first | exact HB.out | apply bA | apply bN | apply bD) | exact HB.out)⟩

/-! ### wristbandref01_Rot: function 49 -/
mutual
def wristbandref01_Rot.j0 : Nat → Int → Int → Option (Int)
  | 0, _, _ => none
  | k + 1, x0, x1 => wristbandref01_Rot.l0 k x0 x1 0
def wristbandref01_Rot.l0 : Nat → Int → Int → Int → Option (Int)
  | 0, _, _, _ => none
  | k + 1, x0, x1, x5 => if x5 < x1 then (if (Int.tmod x0 2) = 1 then (wristbandref01_Rot.l0 k ((((Int.tdiv x0 2) % 4294967296) + 2147483648) % 4294967296) x1 (wrap64 (x5 + 1))) else (wristbandref01_Rot.l0 k ((Int.tdiv x0 2) % 4294967296) x1 (wrap64 (x5 + 1)))) else (some x0)
end
def wristbandref01_Rot.f (k : Nat) (a0 : Int) (a1 : Int) : Option (Int) := if (Int.tmod a1 32) < 0 then (wristbandref01_Rot.j0 k a0 (wrap64 ((Int.tmod a1 32) + 32))) else (wristbandref01_Rot.j0 k a0 (Int.tmod a1 32))
theorem wristbandref01_Rot.mono_l : ∀ k, (∀ y0 y1, LeO (wristbandref01_Rot.j0 k y0 y1) (wristbandref01_Rot.j0 (k + 1) y0 y1)) ∧ (∀ y0 y1 y2, LeO (wristbandref01_Rot.l0 k y0 y1 y2) (wristbandref01_Rot.l0 (k + 1) y0 y1 y2))
  | 0 => ⟨fun _ _ r h => by simp [wristbandref01_Rot.j0] at h, fun _ _ _ r h => by simp [wristbandref01_Rot.l0] at h⟩
  | k + 1 => by
   obtain ⟨ih0, ih1⟩ := wristbandref01_Rot.mono_l k
   refine ⟨?_, ?_⟩
   ·intro y0 y1
    unfold wristbandref01_Rot.j0
    repeat' first
    | (with_reducible exact ih0 _ _)
    | (with_reducible exact ih1 _ _ _)
    | (with_reducible exact LeO.refl _)
    | (with_reducible exact LeO.none _)
    | (with_reducible refine LeO.ite ?_ ?_)
    | (with_reducible refine LeO.bind ?_ (fun _ => ?_))
    | exact ih0 _ _
    | exact ih1 _ _ _
    | exact LeO.none _
    | refine LeO.ite ?_ ?_
    | refine LeO.bind ?_ (fun _ => ?_)
   ·intro y0 y1 y2
    unfold wristbandref01_Rot.l0
    repeat' first
    | (with_reducible exact ih0 _ _)
    | (with_reducible exact ih1 _ _ _)
    | (with_reducible exact LeO.refl _)
    | (with_reducible exact LeO.none _)
    | (with_reducible refine LeO.ite ?_ ?_)
    | (with_reducible refine LeO.bind ?_ (fun _ => ?_))
    | exact ih0 _ _
    | exact ih1 _ _ _
    | exact LeO.none _
    | refine LeO.ite ?_ ?_
    | refine LeO.bind ?_ (fun _ => ?_)
theorem wristbandref01_Rot.mono : ∀ a0 a1 k, LeO (wristbandref01_Rot.f k a0 a1) (wristbandref01_Rot.f (k + 1) a0 a1) := by
  intro a0 a1 k; obtain ⟨ih0, ih1⟩ := wristbandref01_Rot.mono_l k
  unfold wristbandref01_Rot.f
  repeat' first
    | (with_reducible exact ih0 _ _)
    | (with_reducible exact ih1 _ _ _)
    | (with_reducible exact LeO.refl _)
    | (with_reducible exact LeO.none _)
    | (with_reducible refine LeO.ite ?_ ?_)
    | (with_reducible refine LeO.bind ?_ (fun _ => ?_))
    | exact ih0 _ _
    | exact ih1 _ _ _
    | exact LeO.none _
    | refine LeO.ite ?_ ?_
    | refine LeO.bind ?_ (fun _ => ?_)
set_option maxHeartbeats 8000000 in
set_option maxRecDepth 100000 in
theorem wristbandref01_Rot.calls (k : Nat) (a0 : Int) (a1 : Int) (r : Int) (w : World) (h : wristbandref01_Rot.f k a0 a1 = some r) :
   Calls Tryd.prog 49 #[.int .u32 a0, .int .i64 a1] w fun e w' => e = .returned (.int .u32 r) ∧ Drawn0 w w' := by
  have H : (if (Int.tmod a1 32) < 0 then (wristbandref01_Rot.j0 k a0 (wrap64 ((Int.tmod a1 32) + 32))) else (wristbandref01_Rot.j0 k a0 (Int.tmod a1 32))) = some r := h
  clear h; have HC3 := Aside0.mk H; clear H; go_enter Tryd.func49, Tryd.ntmps49
  go_upto_if 10 with (fail)
  go_cut [1] (fun v1 wc => ∃ (kq : Nat) (x1_2 : Int), v1 = .int .i64 x1_2 ∧ Aside0 (wristbandref01_Rot.j0 kq a0 x1_2 = some r) ∧ Aside0 (kq ≤ k) ∧ Drawn0 w wc)
  case first =>
   have H := HC3.out
   clear HC3; by_cases c4 : (Int.tmod a1 32) < 0
   ·rw [if_pos c4] at H
    have c4b0 : decide ((Int.tmod a1 32) < 0) = true := decide_eq_true c4
    clear c4; (first | rw [c4b0] | (simp only [i64_w, i32_w]; rw [c4b0]) | skip); have H' := Aside0.mk H; clear H; go_wp2
    go_meet
    case rel => exact ⟨_, (wrap64 ((Int.tmod a1 32) + 32)), (by first | rfl | (simp; done) | (simp [*]; done)), H', ⟨by first | omega | exact Nat.le_refl _⟩, by repeat (first | exact Drawn0.refl _ | apply Drawn0.step)⟩
   ·rw [if_neg c4] at H
    have c4b0 : decide ((Int.tmod a1 32) < 0) = false := decide_eq_false c4
    clear c4; (first | rw [c4b0] | (simp only [i64_w, i32_w]; rw [c4b0]) | skip); have H' := Aside0.mk H; clear H; go_wp2
    go_meet
    case rel => exact ⟨_, (Int.tmod a1 32), (by first | rfl | (simp; done) | (simp [*]; done)), H', ⟨by first | omega | exact Nat.le_refl _⟩, by repeat (first | exact Drawn0.refl _ | apply Drawn0.step)⟩
  case rest =>
   clear HC3; try clear p2
   try clear c4
   try clear c4b0
   obtain ⟨kq, x1_2, rfl, HA, HJ2, ⟨mc2, rfl⟩⟩ := hcut
   cases kq with
   | zero => exact absurd HA.out (by simp [wristbandref01_Rot.j0])
   | succ kj2 =>
    have H := HA.out
    clear HA; simp only [wristbandref01_Rot.j0] at H
    have H' := Aside0.mk H; clear H; go_wp2
    go_loopg [0, 5] kj2 (fun kq v0 v5 w' => ∃ (x0_2 : Int) (x5_2 : Int), v0 = .int .u32 x0_2 ∧ v5 = .int .i64 x5_2 ∧ Aside0 (wristbandref01_Rot.l0 kq x0_2 x1_2 x5_2 = some r) ∧ Aside0 (kq ≤ kj2) ∧ Drawn0 w w')
    case atStart => exact ⟨(a0), (0), (by first | rfl | (simp; done) | (simp [*]; done)), (by first | rfl | (simp; done) | (simp [*]; done)), H', ⟨Nat.le_refl _⟩, by repeat (first | exact Drawn0.refl _ | apply Drawn0.step)⟩
    case round =>
     clear H'; try clear c2
     try clear p2
     try clear c4
     try clear c4b0
     try clear p2
     obtain ⟨x0_2, x5_2, rfl, rfl, HA, HK2, ⟨m2, rfl⟩⟩ := hrel
     cases gk with
     | zero => exact absurd HA.out (by simp [wristbandref01_Rot.l0])
     | succ k2 =>
      have H := HA.out
      clear HA; simp only [wristbandref01_Rot.l0] at H
      by_cases c5 : x5_2 < x1_2
      ·rw [if_pos c5] at H
       have c5b0 : decide (x5_2 < x1_2) = true := decide_eq_true c5
       clear c5; by_cases c6 : (Int.tmod x0_2 2) = 1
       ·rw [if_pos c6] at H
        have c6b0 : ((Int.tmod x0_2 2) == 1) = true := beq_iff_eq.mpr c6
        have c6b1 : ((Int.tmod x0_2 2) != 1) = false := bne_eq_false_iff_eq.mpr c6
        clear c6; have H' := Aside0.mk H; clear H; go_wp2
        go_roundg k2
        case measure => have := HJ2.out; have := HK2.out; omega
        case rel => exact ⟨((((Int.tdiv x0_2 2) % 4294967296) + 2147483648) % 4294967296), (wrap64 (x5_2 + 1)), (by first | rfl | (simp; done) | (simp [*]; done)), (by first | rfl | (simp; done) | (simp [*]; done)), H', ⟨by have := HJ2.out; have := HK2.out; omega⟩, by repeat (first | exact Drawn0.refl _ | apply Drawn0.step)⟩
       ·rw [if_neg c6] at H
        have c6b0 : ((Int.tmod x0_2 2) == 1) = false := beq_eq_false_iff_ne.mpr c6
        have c6b1 : ((Int.tmod x0_2 2) != 1) = true := bne_iff_ne.mpr c6
        have H' := Aside0.mk H; clear H; go_wp2
        go_roundg k2
        case measure => have := HJ2.out; have := HK2.out; omega
        case rel => exact ⟨((Int.tdiv x0_2 2) % 4294967296), (wrap64 (x5_2 + 1)), (by first | rfl | (simp; done) | (simp [*]; done)), (by first | rfl | (simp; done) | (simp [*]; done)), H', ⟨by have := HJ2.out; have := HK2.out; omega⟩, by repeat (first | exact Drawn0.refl _ | apply Drawn0.step)⟩
      ·rw [if_neg c5] at H
       have c5b0 : decide (x5_2 < x1_2) = false := decide_eq_false c5
       clear c5; obtain rfl := Option.some.inj H
       go_wp2
       go_ret
       exact ⟨by first | rfl | (simp; done) | (simp [*]; done), by repeat (first | exact Drawn0.refl _ | apply Drawn0.step)⟩

/-! ### wristbandref02_down: function 50 -/
def wristbandref02_down.l0 : Nat → Int → Int → Int → Option (Int)
  | 0, _, _, _ => none
  | k + 1, x0, x1, x5 => if x5 < x1 then (wristbandref02_down.l0 k ((Int.tdiv x0 2) % 4294967296) x1 (wrap64 (x5 + 1))) else (some x0)
def wristbandref02_down.f (k : Nat) (a0 : Int) (a1 : Int) : Option (Int) := wristbandref02_down.l0 k a0 a1 0
theorem wristbandref02_down.mono_l : ∀ k, (∀ y0 y1 y2, LeO (wristbandref02_down.l0 k y0 y1 y2) (wristbandref02_down.l0 (k + 1) y0 y1 y2))
  | 0 => fun _ _ _ r h => by simp [wristbandref02_down.l0] at h
  | k + 1 => by
   have ih0 := wristbandref02_down.mono_l k
   ·intro y0 y1 y2
    unfold wristbandref02_down.l0
    repeat' first
    | (with_reducible exact ih0 _ _ _)
    | (with_reducible exact LeO.refl _)
    | (with_reducible exact LeO.none _)
    | (with_reducible refine LeO.ite ?_ ?_)
    | (with_reducible refine LeO.bind ?_ (fun _ => ?_))
    | exact ih0 _ _ _
    | exact LeO.none _
    | refine LeO.ite ?_ ?_
    | refine LeO.bind ?_ (fun _ => ?_)
theorem wristbandref02_down.mono : ∀ a0 a1 k, LeO (wristbandref02_down.f k a0 a1) (wristbandref02_down.f (k + 1) a0 a1) := by
  intro a0 a1 k; have ih0 := wristbandref02_down.mono_l k
  unfold wristbandref02_down.f
  repeat' first
    | (with_reducible exact ih0 _ _ _)
    | (with_reducible exact LeO.refl _)
    | (with_reducible exact LeO.none _)
    | (with_reducible refine LeO.ite ?_ ?_)
    | (with_reducible refine LeO.bind ?_ (fun _ => ?_))
    | exact ih0 _ _ _
    | exact LeO.none _
    | refine LeO.ite ?_ ?_
    | refine LeO.bind ?_ (fun _ => ?_)
set_option maxHeartbeats 8000000 in
set_option maxRecDepth 100000 in
theorem wristbandref02_down.calls (k : Nat) (a0 : Int) (a1 : Int) (r : Int) (w : World) (h : wristbandref02_down.f k a0 a1 = some r) :
   Calls Tryd.prog 50 #[.int .u32 a0, .int .i64 a1] w fun e w' => e = .returned (.int .u32 r) ∧ Drawn0 w w' := by
  have H : (wristbandref02_down.l0 k a0 a1 0) = some r := h
  clear h; have H' := Aside0.mk H; clear H; go_enter Tryd.func50, Tryd.ntmps50
  go_wp2
  go_loopg [0, 5] k (fun kq v0 v5 w' => ∃ (x0_1 : Int) (x5_1 : Int), v0 = .int .u32 x0_1 ∧ v5 = .int .i64 x5_1 ∧ Aside0 (wristbandref02_down.l0 kq x0_1 a1 x5_1 = some r) ∧ Aside0 (kq ≤ k) ∧ Drawn0 w w')
  case atStart => exact ⟨(a0), (0), (by first | rfl | (simp; done) | (simp [*]; done)), (by first | rfl | (simp; done) | (simp [*]; done)), H', ⟨Nat.le_refl _⟩, by repeat (first | exact Drawn0.refl _ | apply Drawn0.step)⟩
  case round =>
   clear H'; try clear p2
   obtain ⟨x0_1, x5_1, rfl, rfl, HA, HK1, ⟨m1, rfl⟩⟩ := hrel
   cases gk with
   | zero => exact absurd HA.out (by simp [wristbandref02_down.l0])
   | succ k1 =>
    have H := HA.out
    clear HA; simp only [wristbandref02_down.l0] at H
    by_cases c3 : x5_1 < a1
    ·rw [if_pos c3] at H
     have c3b0 : decide (x5_1 < a1) = true := decide_eq_true c3
     clear c3; have H' := Aside0.mk H; clear H; go_wp2
     go_roundg k1
     case measure => have := HK1.out; omega
     case rel => exact ⟨((Int.tdiv x0_1 2) % 4294967296), (wrap64 (x5_1 + 1)), (by first | rfl | (simp; done) | (simp [*]; done)), (by first | rfl | (simp; done) | (simp [*]; done)), H', ⟨by have := HK1.out; omega⟩, by repeat (first | exact Drawn0.refl _ | apply Drawn0.step)⟩
    ·rw [if_neg c3] at H
     have c3b0 : decide (x5_1 < a1) = false := decide_eq_false c3
     clear c3; obtain rfl := Option.some.inj H
     go_wp2
     go_ret
     exact ⟨by first | rfl | (simp; done) | (simp [*]; done), by repeat (first | exact Drawn0.refl _ | apply Drawn0.step)⟩

/-! ### wristbandref02_constant: function 51 -/
def wristbandref02_constant.f (a0 : Int) : Option (Int) := (some (([1116352408, 1899447441, 3049323471, 3921009573, 961987163, 1508970993, 2453635748, 2870763221, 3624381080, 310598401, 607225278, 1426881987, 1925078388, 2162078206, 2614888103, 3248222580, 3835390401, 4022224774, 264347078, 604807628, 770255983, 1249150122, 1555081692, 1996064986, 2554220882, 2821834349, 2952996808, 3210313671, 3336571891, 3584528711, 113926993, 338241895, 666307205, 773529912, 1294757372, 1396182291, 1695183700, 1986661051, 2177026350, 2456956037, 2730485921, 2820302411, 3259730800, 3345764771, 3516065817, 3600352804, 4094571909, 275423344, 430227734, 506948616, 659060556, 883997877, 958139571, 1322822218, 1537002063, 1747873779, 1955562222, 2024104815, 2227730452, 2361852424, 2428436474, 2756734187, 3204031479, 3329325298] : List Int) : List Int)).bind fun y275 => (if 0 ≤ a0 then (if a0 < (y275.length : Int) then (some (rd y275 a0)) else (none)) else (none))
set_option maxHeartbeats 8000000 in
set_option maxRecDepth 100000 in
theorem wristbandref02_constant.calls (a0 : Int) (r : Int) (w : World) (h : wristbandref02_constant.f a0 = some r) :
   Calls Tryd.prog 51 #[.int .i64 a0] w fun e w' => e = .returned (.int .u32 r) ∧ Below w.heap.size w w' := by
  have HB := Aside0.mk (Below.refl w.heap.size w); have H : ((some (([1116352408, 1899447441, 3049323471, 3921009573, 961987163, 1508970993, 2453635748, 2870763221, 3624381080, 310598401, 607225278, 1426881987, 1925078388, 2162078206, 2614888103, 3248222580, 3835390401, 4022224774, 264347078, 604807628, 770255983, 1249150122, 1555081692, 1996064986, 2554220882, 2821834349, 2952996808, 3210313671, 3336571891, 3584528711, 113926993, 338241895, 666307205, 773529912, 1294757372, 1396182291, 1695183700, 1986661051, 2177026350, 2456956037, 2730485921, 2820302411, 3259730800, 3345764771, 3516065817, 3600352804, 4094571909, 275423344, 430227734, 506948616, 659060556, 883997877, 958139571, 1322822218, 1537002063, 1747873779, 1955562222, 2024104815, 2227730452, 2361852424, 2428436474, 2756734187, 3204031479, 3329325298] : List Int) : List Int)).bind fun y275 => (if 0 ≤ a0 then (if a0 < (y275.length : Int) then (some (rd y275 a0)) else (none)) else (none))) = some r := h
  clear h; obtain ⟨y275, hy275⟩ : ∃ y_ : List Int, y_ = (([1116352408, 1899447441, 3049323471, 3921009573, 961987163, 1508970993, 2453635748, 2870763221, 3624381080, 310598401, 607225278, 1426881987, 1925078388, 2162078206, 2614888103, 3248222580, 3835390401, 4022224774, 264347078, 604807628, 770255983, 1249150122, 1555081692, 1996064986, 2554220882, 2821834349, 2952996808, 3210313671, 3336571891, 3584528711, 113926993, 338241895, 666307205, 773529912, 1294757372, 1396182291, 1695183700, 1986661051, 2177026350, 2456956037, 2730485921, 2820302411, 3259730800, 3345764771, 3516065817, 3600352804, 4094571909, 275423344, 430227734, 506948616, 659060556, 883997877, 958139571, 1322822218, 1537002063, 1747873779, 1955562222, 2024104815, 2227730452, 2361852424, 2428436474, 2756734187, 3204031479, 3329325298] : List Int)) := ⟨_, rfl⟩
  replace H : (if 0 ≤ a0 then (if a0 < (y275.length : Int) then (some (rd y275 a0)) else (none)) else (none)) = some r := by first | (rw [hy275]; with_reducible exact H) | (have H2_ := (Option.bind_some _ _).symm.trans H; rw [hy275]; with_reducible exact H2_) | (have H2_ := (Option.bind_some _ _).symm.trans H; with_reducible exact H2_) | with_reducible exact H | (rw [hy275]; exact H) | exact H
  have Ny275 := Aside0.mk hy275; clear hy275; by_cases c2 : 0 ≤ a0
  ·rw [if_pos c2] at H
   have c2b0 : decide (0 ≤ a0) = true := decide_eq_true c2
   clear c2; by_cases c3 : a0 < (y275.length : Int)
   ·rw [if_pos c3] at H
    have c3b0 : decide (a0 < (y275.length : Int)) = true := decide_eq_true c3
    clear c3; obtain rfl := Option.some.inj H
    go_enter Tryd.func51, Tryd.ntmps51
    go_wp2_with (first | ((with_reducible refine gate_dst (N := 3) rfl ?_); refine Kd.R_lit (Kd.int .u32) _ 22 ?hg (N := 3) ?hd (xs := ([1116352408, 1899447441, 3049323471, 3921009573, 961987163, 1508970993, 2453635748, 2870763221, 3624381080, 310598401, 607225278, 1426881987, 1925078388, 2162078206, 2614888103, 3248222580, 3835390401, 4022224774, 264347078, 604807628, 770255983, 1249150122, 1555081692, 1996064986, 2554220882, 2821834349, 2952996808, 3210313671, 3336571891, 3584528711, 113926993, 338241895, 666307205, 773529912, 1294757372, 1396182291, 1695183700, 1986661051, 2177026350, 2456956037, 2730485921, 2820302411, 3259730800, 3345764771, 3516065817, 3600352804, 4094571909, 275423344, 430227734, 506948616, 659060556, 883997877, 958139571, 1322822218, 1537002063, 1747873779, 1955562222, 2024104815, 2227730452, 2361852424, 2428436474, 2756734187, 3204031479, 3329325298] : List Int)) (inner := [.int .u32 1116352408, .int .u32 1899447441, .int .u32 3049323471, .int .u32 3921009573, .int .u32 961987163, .int .u32 1508970993, .int .u32 2453635748, .int .u32 2870763221, .int .u32 3624381080, .int .u32 310598401, .int .u32 607225278, .int .u32 1426881987, .int .u32 1925078388, .int .u32 2162078206, .int .u32 2614888103, .int .u32 3248222580, .int .u32 3835390401, .int .u32 4022224774, .int .u32 264347078, .int .u32 604807628, .int .u32 770255983, .int .u32 1249150122, .int .u32 1555081692, .int .u32 1996064986, .int .u32 2554220882, .int .u32 2821834349, .int .u32 2952996808, .int .u32 3210313671, .int .u32 3336571891, .int .u32 3584528711, .int .u32 113926993, .int .u32 338241895, .int .u32 666307205, .int .u32 773529912, .int .u32 1294757372, .int .u32 1396182291, .int .u32 1695183700, .int .u32 1986661051, .int .u32 2177026350, .int .u32 2456956037, .int .u32 2730485921, .int .u32 2820302411, .int .u32 3259730800, .int .u32 3345764771, .int .u32 3516065817, .int .u32 3600352804, .int .u32 4094571909, .int .u32 275423344, .int .u32 430227734, .int .u32 506948616, .int .u32 659060556, .int .u32 883997877, .int .u32 958139571, .int .u32 1322822218, .int .u32 1537002063, .int .u32 1747873779, .int .u32 1955562222, .int .u32 2024104815, .int .u32 2227730452, .int .u32 2361852424, .int .u32 2428436474, .int .u32 2756734187, .int .u32 3204031479, .int .u32 3329325298]) (ok := fun _ => True) (okp := fun _ => True) ?hr ?hp (fun _ hk => hk) trivial (Below.refl _ _) (Nat.le_refl _) (by simp) ?_; (case hd => rfl); (case hg => rfl); (case hr => first | (go_simp; done) | (go_simp; rfl)); (case hp => exact (Reps.one (show Kd.M (Kd.int .u32) _ _ _ 1116352408 [.int .u32 1116352408] from rfl) (Reps.one (show Kd.M (Kd.int .u32) _ _ _ 1899447441 [.int .u32 1899447441] from rfl) (Reps.one (show Kd.M (Kd.int .u32) _ _ _ 3049323471 [.int .u32 3049323471] from rfl) (Reps.one (show Kd.M (Kd.int .u32) _ _ _ 3921009573 [.int .u32 3921009573] from rfl) (Reps.one (show Kd.M (Kd.int .u32) _ _ _ 961987163 [.int .u32 961987163] from rfl) (Reps.one (show Kd.M (Kd.int .u32) _ _ _ 1508970993 [.int .u32 1508970993] from rfl) (Reps.one (show Kd.M (Kd.int .u32) _ _ _ 2453635748 [.int .u32 2453635748] from rfl) (Reps.one (show Kd.M (Kd.int .u32) _ _ _ 2870763221 [.int .u32 2870763221] from rfl) (Reps.one (show Kd.M (Kd.int .u32) _ _ _ 3624381080 [.int .u32 3624381080] from rfl) (Reps.one (show Kd.M (Kd.int .u32) _ _ _ 310598401 [.int .u32 310598401] from rfl) (Reps.one (show Kd.M (Kd.int .u32) _ _ _ 607225278 [.int .u32 607225278] from rfl) (Reps.one (show Kd.M (Kd.int .u32) _ _ _ 1426881987 [.int .u32 1426881987] from rfl) (Reps.one (show Kd.M (Kd.int .u32) _ _ _ 1925078388 [.int .u32 1925078388] from rfl) (Reps.one (show Kd.M (Kd.int .u32) _ _ _ 2162078206 [.int .u32 2162078206] from rfl) (Reps.one (show Kd.M (Kd.int .u32) _ _ _ 2614888103 [.int .u32 2614888103] from rfl) (Reps.one (show Kd.M (Kd.int .u32) _ _ _ 3248222580 [.int .u32 3248222580] from rfl) (Reps.one (show Kd.M (Kd.int .u32) _ _ _ 3835390401 [.int .u32 3835390401] from rfl) (Reps.one (show Kd.M (Kd.int .u32) _ _ _ 4022224774 [.int .u32 4022224774] from rfl) (Reps.one (show Kd.M (Kd.int .u32) _ _ _ 264347078 [.int .u32 264347078] from rfl) (Reps.one (show Kd.M (Kd.int .u32) _ _ _ 604807628 [.int .u32 604807628] from rfl) (Reps.one (show Kd.M (Kd.int .u32) _ _ _ 770255983 [.int .u32 770255983] from rfl) (Reps.one (show Kd.M (Kd.int .u32) _ _ _ 1249150122 [.int .u32 1249150122] from rfl) (Reps.one (show Kd.M (Kd.int .u32) _ _ _ 1555081692 [.int .u32 1555081692] from rfl) (Reps.one (show Kd.M (Kd.int .u32) _ _ _ 1996064986 [.int .u32 1996064986] from rfl) (Reps.one (show Kd.M (Kd.int .u32) _ _ _ 2554220882 [.int .u32 2554220882] from rfl) (Reps.one (show Kd.M (Kd.int .u32) _ _ _ 2821834349 [.int .u32 2821834349] from rfl) (Reps.one (show Kd.M (Kd.int .u32) _ _ _ 2952996808 [.int .u32 2952996808] from rfl) (Reps.one (show Kd.M (Kd.int .u32) _ _ _ 3210313671 [.int .u32 3210313671] from rfl) (Reps.one (show Kd.M (Kd.int .u32) _ _ _ 3336571891 [.int .u32 3336571891] from rfl) (Reps.one (show Kd.M (Kd.int .u32) _ _ _ 3584528711 [.int .u32 3584528711] from rfl) (Reps.one (show Kd.M (Kd.int .u32) _ _ _ 113926993 [.int .u32 113926993] from rfl) (Reps.one (show Kd.M (Kd.int .u32) _ _ _ 338241895 [.int .u32 338241895] from rfl) (Reps.one (show Kd.M (Kd.int .u32) _ _ _ 666307205 [.int .u32 666307205] from rfl) (Reps.one (show Kd.M (Kd.int .u32) _ _ _ 773529912 [.int .u32 773529912] from rfl) (Reps.one (show Kd.M (Kd.int .u32) _ _ _ 1294757372 [.int .u32 1294757372] from rfl) (Reps.one (show Kd.M (Kd.int .u32) _ _ _ 1396182291 [.int .u32 1396182291] from rfl) (Reps.one (show Kd.M (Kd.int .u32) _ _ _ 1695183700 [.int .u32 1695183700] from rfl) (Reps.one (show Kd.M (Kd.int .u32) _ _ _ 1986661051 [.int .u32 1986661051] from rfl) (Reps.one (show Kd.M (Kd.int .u32) _ _ _ 2177026350 [.int .u32 2177026350] from rfl) (Reps.one (show Kd.M (Kd.int .u32) _ _ _ 2456956037 [.int .u32 2456956037] from rfl) (Reps.one (show Kd.M (Kd.int .u32) _ _ _ 2730485921 [.int .u32 2730485921] from rfl) (Reps.one (show Kd.M (Kd.int .u32) _ _ _ 2820302411 [.int .u32 2820302411] from rfl) (Reps.one (show Kd.M (Kd.int .u32) _ _ _ 3259730800 [.int .u32 3259730800] from rfl) (Reps.one (show Kd.M (Kd.int .u32) _ _ _ 3345764771 [.int .u32 3345764771] from rfl) (Reps.one (show Kd.M (Kd.int .u32) _ _ _ 3516065817 [.int .u32 3516065817] from rfl) (Reps.one (show Kd.M (Kd.int .u32) _ _ _ 3600352804 [.int .u32 3600352804] from rfl) (Reps.one (show Kd.M (Kd.int .u32) _ _ _ 4094571909 [.int .u32 4094571909] from rfl) (Reps.one (show Kd.M (Kd.int .u32) _ _ _ 275423344 [.int .u32 275423344] from rfl) (Reps.one (show Kd.M (Kd.int .u32) _ _ _ 430227734 [.int .u32 430227734] from rfl) (Reps.one (show Kd.M (Kd.int .u32) _ _ _ 506948616 [.int .u32 506948616] from rfl) (Reps.one (show Kd.M (Kd.int .u32) _ _ _ 659060556 [.int .u32 659060556] from rfl) (Reps.one (show Kd.M (Kd.int .u32) _ _ _ 883997877 [.int .u32 883997877] from rfl) (Reps.one (show Kd.M (Kd.int .u32) _ _ _ 958139571 [.int .u32 958139571] from rfl) (Reps.one (show Kd.M (Kd.int .u32) _ _ _ 1322822218 [.int .u32 1322822218] from rfl) (Reps.one (show Kd.M (Kd.int .u32) _ _ _ 1537002063 [.int .u32 1537002063] from rfl) (Reps.one (show Kd.M (Kd.int .u32) _ _ _ 1747873779 [.int .u32 1747873779] from rfl) (Reps.one (show Kd.M (Kd.int .u32) _ _ _ 1955562222 [.int .u32 1955562222] from rfl) (Reps.one (show Kd.M (Kd.int .u32) _ _ _ 2024104815 [.int .u32 2024104815] from rfl) (Reps.one (show Kd.M (Kd.int .u32) _ _ _ 2227730452 [.int .u32 2227730452] from rfl) (Reps.one (show Kd.M (Kd.int .u32) _ _ _ 2361852424 [.int .u32 2361852424] from rfl) (Reps.one (show Kd.M (Kd.int .u32) _ _ _ 2428436474 [.int .u32 2428436474] from rfl) (Reps.one (show Kd.M (Kd.int .u32) _ _ _ 2756734187 [.int .u32 2756734187] from rfl) (Reps.one (show Kd.M (Kd.int .u32) _ _ _ 3204031479 [.int .u32 3204031479] from rfl) (Reps.one (show Kd.M (Kd.int .u32) _ _ _ 3329325298 [.int .u32 3329325298] from rfl) (Reps.none _ _)))))))))))))))))))))))))))))))))))))))))))))))))))))))))))))))))); intro v276 w4 ho5 hb hg_ hnew_; clear hg_ hnew_; (first | rw [← Ny275.out] at ho5 | (simp only [Int.reduceToNat] at ho5; rw [← Ny275.out] at ho5)); have n0_ := Aside0.mk (Kd.R_lower ho5 (below_size (by repeat (first | (with_reducible first | exact HB.out | apply bA | apply bN | apply bD) | exact HB.out)))); have n1_ := Aside0.mk (below_step (by repeat (first | (with_reducible first | exact HB.out | apply bA | apply bN | apply bD) | exact HB.out)) hb); clear HB; have HO277 := n0_; have HB := n1_; clear n0_ n1_; clear hb ho5; obtain ⟨Ao6, co6, eo6⟩ := Kd.R_slice HO277.out; subst eo6; have p278 : 0 ≤ (a0 : Int) := of_decide_eq_true (by first | (with_reducible assumption) | assumption); have q278 : a0 < (y275.length : Int) := of_decide_eq_true (by first | (with_reducible assumption) | assumption); obtain ⟨ad278, e278, hx278_0⟩ := Kd.at_int (Kd.R_reads' HO277.out).2.2 a0 p278 q278; cases e278; replace p278 := eq_true p278; replace q278 := eq_true q278))
    go_ret
    exact ⟨by first | rfl | (simp [errW_none, errW_some] <;> rfl) | (simp [*, errW_none, errW_some] <;> rfl), by repeat (first | (with_reducible first | exact HB.out | apply bA | apply bN | apply bD) | exact HB.out)⟩
   ·rw [if_neg c3] at H
    exact absurd H (by simp)
  ·rw [if_neg c2] at H
   exact absurd H (by simp)

end Go.Proofs.YtnpkhkhlofkbhaaDoor.PSlipRight
