-- made by a program of this session (its printer) out of what Lean prints of the given program
import Derived.Test.YtnpkhkhlofkbhaaDoorPSlipTornx0
import Derived.Test.YtnpkhkhlofkbhaaDoorPSlipTornx2
import Derived.Test.YtnpkhkhlofkbhaaDoorPSlipTornx3
namespace Go.Proofs.YtnpkhkhlofkbhaaDoor.PSlipTorn
open Go.RowKit Go.Proofs.YtnpkhkhlofkbhaaDoorW.PrintWords Go.Proofs.YtnpkhkhlofkbhaaDoorW.PrintLast Go.Proofs.YtnpkhkhlofkbhaaDoorW.PrintMore
attribute [local go_sem] max2_int min2_int max_two min_two max_three min_three max_four min_four   -- for this text's walks alone
set_option linter.unusedVariables false
set_option linter.unusedSimpArgs false

/-! ### wristbandlaw18_awake: function 32 -/
def wristbandlaw18_awake.f (k : Nat)  : Option (Bool) := ((slip_Put.f k (([111, 110, 101] : List Int))).bind fun bt204 => ((slip_Put.f k ([] : List Int)).bind fun bt208 => ((some (([] : List Int) : List Int)).bind fun y212 => (if y212.length + bt204.1.length < 140737488355328 then ((some (y212 ++ bt204.1 : List Int)).bind fun y215 => (if y215.length + bt208.1.length < 140737488355328 then ((some (y215 ++ bt208.1 : List Int)).bind fun y218 => ((some (([] : List Int) : List Int)).bind fun y221 => (if y221.length + y218.length < 140737488355328 then ((some (y221 ++ y218 : List Int)).bind fun y224 => ((some (([0, 3, 120] : List Int) : List Int)).bind fun y227 => (if y224.length + y227.length < 140737488355328 then ((slip_Row.f k (y224 ++ y227)).bind fun bt233 => (if bt204.2 = 0 then (if bt208.2 = 0 then (if (bt204.1.length : Int) = 9 then (if (bt208.1.length : Int) = 6 then (if 1 < (bt204.1.length : Int) then (if (rd bt204.1 1) = 3 then (if (bt233.1.length : Int) = 2 then (if 0 < (bt233.1.length : Int) then (if (strOfNums (rd_L2 bt233.1 0)).toList = ([111, 110, 101] : List UInt8) then (if bt233.2 = 15 then ((slip_Whole.f k y218).bind fun t239 => (if t239 = true then (if 14 ≤ (y218.length : Int) then ((slip_Whole.f k (y218.take 14)).bind fun t245 => (some (!t245))) else (none)) else (some false))) else (some false)) else (some false)) else (none)) else (some false)) else (some false)) else (none)) else (some false)) else (some false)) else (some false)) else (some false))) else (none)))) else (none)))) else (none))) else (none))))).bind fun tS_ => (if tS_ = true then (some true) else (none))
theorem wristbandlaw18_awake.mono : ∀ k, LeO (wristbandlaw18_awake.f k ) (wristbandlaw18_awake.f (k + 1) ) := by
  intro  k; unfold wristbandlaw18_awake.f
  repeat' first
    | (with_reducible exact slip_Put.mono _ _)
    | (with_reducible exact slip_Row.mono _ _)
    | (with_reducible exact slip_Whole.mono _ _)
    | (with_reducible exact LeO.refl _)
    | (with_reducible exact LeO.none _)
    | (with_reducible refine LeO.ite ?_ ?_)
    | (with_reducible refine LeO.bind ?_ (fun _ => ?_))
    | exact slip_Put.mono _ _
    | exact slip_Row.mono _ _
    | exact slip_Whole.mono _ _
    | exact LeO.none _
    | refine LeO.ite ?_ ?_
    | refine LeO.bind ?_ (fun _ => ?_)
set_option maxHeartbeats 8000000 in
set_option maxRecDepth 100000 in
theorem wristbandlaw18_awake.calls (k : Nat)  (r : Bool) (w : World) (hL0_ : Kd.C (Kd.int .u32) w (some ⟨0, 0, none⟩) 64 shaK) (hL1_ : Kd.C (Kd.int .u32) w (some ⟨1, 0, none⟩) 8 shaF) (h : wristbandlaw18_awake.f k  = some r) :
   Calls Tryd.prog 32 #[] w fun e w' => e = .returned (.bool r) ∧ Below w.heap.size w w' := by
  have HRL0_ := Aside0.mk hL0_; have HRL1_ := Aside0.mk hL1_; clear hL0_ hL1_; have HB := Aside0.mk (Below.refl w.heap.size w); obtain ⟨tS_, hS_, h2_⟩ := Option.bind_eq_some_iff.mp h
  have hz_ : tS_ = true ∧ r = true := by clear hS_ h; cases tS_ <;> cases r <;> simp_all
  have H : ((slip_Put.f k (([111, 110, 101] : List Int))).bind fun bt204 => ((slip_Put.f k ([] : List Int)).bind fun bt208 => ((some (([] : List Int) : List Int)).bind fun y212 => (if y212.length + bt204.1.length < 140737488355328 then ((some (y212 ++ bt204.1 : List Int)).bind fun y215 => (if y215.length + bt208.1.length < 140737488355328 then ((some (y215 ++ bt208.1 : List Int)).bind fun y218 => ((some (([] : List Int) : List Int)).bind fun y221 => (if y221.length + y218.length < 140737488355328 then ((some (y221 ++ y218 : List Int)).bind fun y224 => ((some (([0, 3, 120] : List Int) : List Int)).bind fun y227 => (if y224.length + y227.length < 140737488355328 then ((slip_Row.f k (y224 ++ y227)).bind fun bt233 => (if bt204.2 = 0 then (if bt208.2 = 0 then (if (bt204.1.length : Int) = 9 then (if (bt208.1.length : Int) = 6 then (if 1 < (bt204.1.length : Int) then (if (rd bt204.1 1) = 3 then (if (bt233.1.length : Int) = 2 then (if 0 < (bt233.1.length : Int) then (if (strOfNums (rd_L2 bt233.1 0)).toList = ([111, 110, 101] : List UInt8) then (if bt233.2 = 15 then ((slip_Whole.f k y218).bind fun t239 => (if t239 = true then (if 14 ≤ (y218.length : Int) then ((slip_Whole.f k (y218.take 14)).bind fun t245 => (some (!t245))) else (none)) else (some false))) else (some false)) else (some false)) else (none)) else (some false)) else (some false)) else (none)) else (some false)) else (some false)) else (some false)) else (some false))) else (none)))) else (none)))) else (none))) else (none))))) = some r := hS_.trans (congrArg some (hz_.1.trans hz_.2.symm))
  have HR_ := Aside0.mk hz_.2; clear h h2_ hS_ hz_ tS_; obtain ⟨y201, hy201⟩ : ∃ y_ : List Int, y_ = (([111, 110, 101] : List Int)) := ⟨_, rfl⟩
  replace H : ((slip_Put.f k y201).bind fun bt204 => ((slip_Put.f k ([] : List Int)).bind fun bt208 => ((some (([] : List Int) : List Int)).bind fun y212 => (if y212.length + bt204.1.length < 140737488355328 then ((some (y212 ++ bt204.1 : List Int)).bind fun y215 => (if y215.length + bt208.1.length < 140737488355328 then ((some (y215 ++ bt208.1 : List Int)).bind fun y218 => ((some (([] : List Int) : List Int)).bind fun y221 => (if y221.length + y218.length < 140737488355328 then ((some (y221 ++ y218 : List Int)).bind fun y224 => ((some (([0, 3, 120] : List Int) : List Int)).bind fun y227 => (if y224.length + y227.length < 140737488355328 then ((slip_Row.f k (y224 ++ y227)).bind fun bt233 => (if bt204.2 = 0 then (if bt208.2 = 0 then (if (bt204.1.length : Int) = 9 then (if (bt208.1.length : Int) = 6 then (if 1 < (bt204.1.length : Int) then (if (rd bt204.1 1) = 3 then (if (bt233.1.length : Int) = 2 then (if 0 < (bt233.1.length : Int) then (if (strOfNums (rd_L2 bt233.1 0)).toList = ([111, 110, 101] : List UInt8) then (if bt233.2 = 15 then ((slip_Whole.f k y218).bind fun t239 => (if t239 = true then (if 14 ≤ (y218.length : Int) then ((slip_Whole.f k (y218.take 14)).bind fun t245 => (some (!t245))) else (none)) else (some false))) else (some false)) else (some false)) else (none)) else (some false)) else (some false)) else (none)) else (some false)) else (some false)) else (some false)) else (some false))) else (none)))) else (none)))) else (none))) else (none))))) = some r := by first | (rw [hy201]; with_reducible exact H) | (have H2_ := (Option.bind_some _ _).symm.trans H; rw [hy201]; with_reducible exact H2_) | (have H2_ := (Option.bind_some _ _).symm.trans H; with_reducible exact H2_) | with_reducible exact H | (rw [hy201]; exact H) | exact H
  have Ny201 := Aside0.mk hy201; clear hy201; replace H := Option.bind_eq_some_iff.mp H
  obtain ⟨⟨t204, t207⟩, A10, H⟩ := H
  replace H : ((slip_Put.f k ([] : List Int)).bind fun bt208 => ((some (([] : List Int) : List Int)).bind fun y212 => (if y212.length + t204.length < 140737488355328 then ((some (y212 ++ t204 : List Int)).bind fun y215 => (if y215.length + bt208.1.length < 140737488355328 then ((some (y215 ++ bt208.1 : List Int)).bind fun y218 => ((some (([] : List Int) : List Int)).bind fun y221 => (if y221.length + y218.length < 140737488355328 then ((some (y221 ++ y218 : List Int)).bind fun y224 => ((some (([0, 3, 120] : List Int) : List Int)).bind fun y227 => (if y224.length + y227.length < 140737488355328 then ((slip_Row.f k (y224 ++ y227)).bind fun bt233 => (if t207 = 0 then (if bt208.2 = 0 then (if (t204.length : Int) = 9 then (if (bt208.1.length : Int) = 6 then (if 1 < (t204.length : Int) then (if (rd t204 1) = 3 then (if (bt233.1.length : Int) = 2 then (if 0 < (bt233.1.length : Int) then (if (strOfNums (rd_L2 bt233.1 0)).toList = ([111, 110, 101] : List UInt8) then (if bt233.2 = 15 then ((slip_Whole.f k y218).bind fun t239 => (if t239 = true then (if 14 ≤ (y218.length : Int) then ((slip_Whole.f k (y218.take 14)).bind fun t245 => (some (!t245))) else (none)) else (some false))) else (some false)) else (some false)) else (none)) else (some false)) else (some false)) else (none)) else (some false)) else (some false)) else (some false)) else (some false))) else (none)))) else (none)))) else (none))) else (none)))) = some r := H
  have A1 := Aside0.mk A10; clear A10; replace H := Option.bind_eq_some_iff.mp H
  obtain ⟨⟨t208, t211⟩, A20, H⟩ := H
  replace H : ((some (([] : List Int) : List Int)).bind fun y212 => (if y212.length + t204.length < 140737488355328 then ((some (y212 ++ t204 : List Int)).bind fun y215 => (if y215.length + t208.length < 140737488355328 then ((some (y215 ++ t208 : List Int)).bind fun y218 => ((some (([] : List Int) : List Int)).bind fun y221 => (if y221.length + y218.length < 140737488355328 then ((some (y221 ++ y218 : List Int)).bind fun y224 => ((some (([0, 3, 120] : List Int) : List Int)).bind fun y227 => (if y224.length + y227.length < 140737488355328 then ((slip_Row.f k (y224 ++ y227)).bind fun bt233 => (if t207 = 0 then (if t211 = 0 then (if (t204.length : Int) = 9 then (if (t208.length : Int) = 6 then (if 1 < (t204.length : Int) then (if (rd t204 1) = 3 then (if (bt233.1.length : Int) = 2 then (if 0 < (bt233.1.length : Int) then (if (strOfNums (rd_L2 bt233.1 0)).toList = ([111, 110, 101] : List UInt8) then (if bt233.2 = 15 then ((slip_Whole.f k y218).bind fun t239 => (if t239 = true then (if 14 ≤ (y218.length : Int) then ((slip_Whole.f k (y218.take 14)).bind fun t245 => (some (!t245))) else (none)) else (some false))) else (some false)) else (some false)) else (none)) else (some false)) else (some false)) else (none)) else (some false)) else (some false)) else (some false)) else (some false))) else (none)))) else (none)))) else (none))) else (none))) = some r := H
  have A2 := Aside0.mk A20; clear A20; obtain ⟨y212, hy212⟩ : ∃ y_ : List Int, y_ = (([] : List Int)) := ⟨_, rfl⟩
  replace H : (if y212.length + t204.length < 140737488355328 then ((some (y212 ++ t204 : List Int)).bind fun y215 => (if y215.length + t208.length < 140737488355328 then ((some (y215 ++ t208 : List Int)).bind fun y218 => ((some (([] : List Int) : List Int)).bind fun y221 => (if y221.length + y218.length < 140737488355328 then ((some (y221 ++ y218 : List Int)).bind fun y224 => ((some (([0, 3, 120] : List Int) : List Int)).bind fun y227 => (if y224.length + y227.length < 140737488355328 then ((slip_Row.f k (y224 ++ y227)).bind fun bt233 => (if t207 = 0 then (if t211 = 0 then (if (t204.length : Int) = 9 then (if (t208.length : Int) = 6 then (if 1 < (t204.length : Int) then (if (rd t204 1) = 3 then (if (bt233.1.length : Int) = 2 then (if 0 < (bt233.1.length : Int) then (if (strOfNums (rd_L2 bt233.1 0)).toList = ([111, 110, 101] : List UInt8) then (if bt233.2 = 15 then ((slip_Whole.f k y218).bind fun t239 => (if t239 = true then (if 14 ≤ (y218.length : Int) then ((slip_Whole.f k (y218.take 14)).bind fun t245 => (some (!t245))) else (none)) else (some false))) else (some false)) else (some false)) else (none)) else (some false)) else (some false)) else (none)) else (some false)) else (some false)) else (some false)) else (some false))) else (none)))) else (none)))) else (none))) else (none)) = some r := by first | (rw [hy212]; with_reducible exact H) | (have H2_ := (Option.bind_some _ _).symm.trans H; rw [hy212]; with_reducible exact H2_) | (have H2_ := (Option.bind_some _ _).symm.trans H; with_reducible exact H2_) | with_reducible exact H | (rw [hy212]; exact H) | exact H
  have Ny212 := Aside0.mk hy212; clear hy212; by_cases c3 : y212.length + t204.length < 140737488355328
  ·rw [if_pos c3] at H
   have LMc3 := Aside0.mk c3; clear c3; obtain ⟨y215, hy215⟩ : ∃ y_ : List Int, y_ = (y212 ++ t204) := ⟨_, rfl⟩
   replace H : (if y215.length + t208.length < 140737488355328 then ((some (y215 ++ t208 : List Int)).bind fun y218 => ((some (([] : List Int) : List Int)).bind fun y221 => (if y221.length + y218.length < 140737488355328 then ((some (y221 ++ y218 : List Int)).bind fun y224 => ((some (([0, 3, 120] : List Int) : List Int)).bind fun y227 => (if y224.length + y227.length < 140737488355328 then ((slip_Row.f k (y224 ++ y227)).bind fun bt233 => (if t207 = 0 then (if t211 = 0 then (if (t204.length : Int) = 9 then (if (t208.length : Int) = 6 then (if 1 < (t204.length : Int) then (if (rd t204 1) = 3 then (if (bt233.1.length : Int) = 2 then (if 0 < (bt233.1.length : Int) then (if (strOfNums (rd_L2 bt233.1 0)).toList = ([111, 110, 101] : List UInt8) then (if bt233.2 = 15 then ((slip_Whole.f k y218).bind fun t239 => (if t239 = true then (if 14 ≤ (y218.length : Int) then ((slip_Whole.f k (y218.take 14)).bind fun t245 => (some (!t245))) else (none)) else (some false))) else (some false)) else (some false)) else (none)) else (some false)) else (some false)) else (none)) else (some false)) else (some false)) else (some false)) else (some false))) else (none)))) else (none)))) else (none)) = some r := by first | (rw [hy215]; with_reducible exact H) | (have H2_ := (Option.bind_some _ _).symm.trans H; rw [hy215]; with_reducible exact H2_) | (have H2_ := (Option.bind_some _ _).symm.trans H; with_reducible exact H2_) | with_reducible exact H | (rw [hy215]; exact H) | exact H
   have Ny215 := Aside0.mk hy215; clear hy215; by_cases c4 : y215.length + t208.length < 140737488355328
   ·rw [if_pos c4] at H
    have LMc4 := Aside0.mk c4; clear c4; obtain ⟨y218, hy218⟩ : ∃ y_ : List Int, y_ = (y215 ++ t208) := ⟨_, rfl⟩
    replace H : ((some (([] : List Int) : List Int)).bind fun y221 => (if y221.length + y218.length < 140737488355328 then ((some (y221 ++ y218 : List Int)).bind fun y224 => ((some (([0, 3, 120] : List Int) : List Int)).bind fun y227 => (if y224.length + y227.length < 140737488355328 then ((slip_Row.f k (y224 ++ y227)).bind fun bt233 => (if t207 = 0 then (if t211 = 0 then (if (t204.length : Int) = 9 then (if (t208.length : Int) = 6 then (if 1 < (t204.length : Int) then (if (rd t204 1) = 3 then (if (bt233.1.length : Int) = 2 then (if 0 < (bt233.1.length : Int) then (if (strOfNums (rd_L2 bt233.1 0)).toList = ([111, 110, 101] : List UInt8) then (if bt233.2 = 15 then ((slip_Whole.f k y218).bind fun t239 => (if t239 = true then (if 14 ≤ (y218.length : Int) then ((slip_Whole.f k (y218.take 14)).bind fun t245 => (some (!t245))) else (none)) else (some false))) else (some false)) else (some false)) else (none)) else (some false)) else (some false)) else (none)) else (some false)) else (some false)) else (some false)) else (some false))) else (none)))) else (none))) = some r := by first | (rw [hy218]; with_reducible exact H) | (have H2_ := (Option.bind_some _ _).symm.trans H; rw [hy218]; with_reducible exact H2_) | (have H2_ := (Option.bind_some _ _).symm.trans H; with_reducible exact H2_) | with_reducible exact H | (rw [hy218]; exact H) | exact H
    have Ny218 := Aside0.mk hy218; clear hy218; obtain ⟨y221, hy221⟩ : ∃ y_ : List Int, y_ = (([] : List Int)) := ⟨_, rfl⟩
    replace H : (if y221.length + y218.length < 140737488355328 then ((some (y221 ++ y218 : List Int)).bind fun y224 => ((some (([0, 3, 120] : List Int) : List Int)).bind fun y227 => (if y224.length + y227.length < 140737488355328 then ((slip_Row.f k (y224 ++ y227)).bind fun bt233 => (if t207 = 0 then (if t211 = 0 then (if (t204.length : Int) = 9 then (if (t208.length : Int) = 6 then (if 1 < (t204.length : Int) then (if (rd t204 1) = 3 then (if (bt233.1.length : Int) = 2 then (if 0 < (bt233.1.length : Int) then (if (strOfNums (rd_L2 bt233.1 0)).toList = ([111, 110, 101] : List UInt8) then (if bt233.2 = 15 then ((slip_Whole.f k y218).bind fun t239 => (if t239 = true then (if 14 ≤ (y218.length : Int) then ((slip_Whole.f k (y218.take 14)).bind fun t245 => (some (!t245))) else (none)) else (some false))) else (some false)) else (some false)) else (none)) else (some false)) else (some false)) else (none)) else (some false)) else (some false)) else (some false)) else (some false))) else (none)))) else (none)) = some r := by first | (rw [hy221]; with_reducible exact H) | (have H2_ := (Option.bind_some _ _).symm.trans H; rw [hy221]; with_reducible exact H2_) | (have H2_ := (Option.bind_some _ _).symm.trans H; with_reducible exact H2_) | with_reducible exact H | (rw [hy221]; exact H) | exact H
    have Ny221 := Aside0.mk hy221; clear hy221; by_cases c5 : y221.length + y218.length < 140737488355328
    ·rw [if_pos c5] at H
     have LMc5 := Aside0.mk c5; clear c5; obtain ⟨y224, hy224⟩ : ∃ y_ : List Int, y_ = (y221 ++ y218) := ⟨_, rfl⟩
     replace H : ((some (([0, 3, 120] : List Int) : List Int)).bind fun y227 => (if y224.length + y227.length < 140737488355328 then ((slip_Row.f k (y224 ++ y227)).bind fun bt233 => (if t207 = 0 then (if t211 = 0 then (if (t204.length : Int) = 9 then (if (t208.length : Int) = 6 then (if 1 < (t204.length : Int) then (if (rd t204 1) = 3 then (if (bt233.1.length : Int) = 2 then (if 0 < (bt233.1.length : Int) then (if (strOfNums (rd_L2 bt233.1 0)).toList = ([111, 110, 101] : List UInt8) then (if bt233.2 = 15 then ((slip_Whole.f k y218).bind fun t239 => (if t239 = true then (if 14 ≤ (y218.length : Int) then ((slip_Whole.f k (y218.take 14)).bind fun t245 => (some (!t245))) else (none)) else (some false))) else (some false)) else (some false)) else (none)) else (some false)) else (some false)) else (none)) else (some false)) else (some false)) else (some false)) else (some false))) else (none))) = some r := by first | (rw [hy224]; with_reducible exact H) | (have H2_ := (Option.bind_some _ _).symm.trans H; rw [hy224]; with_reducible exact H2_) | (have H2_ := (Option.bind_some _ _).symm.trans H; with_reducible exact H2_) | with_reducible exact H | (rw [hy224]; exact H) | exact H
     have Ny224 := Aside0.mk hy224; clear hy224; obtain ⟨y227, hy227⟩ : ∃ y_ : List Int, y_ = (([0, 3, 120] : List Int)) := ⟨_, rfl⟩
     replace H : (if y224.length + y227.length < 140737488355328 then ((slip_Row.f k (y224 ++ y227)).bind fun bt233 => (if t207 = 0 then (if t211 = 0 then (if (t204.length : Int) = 9 then (if (t208.length : Int) = 6 then (if 1 < (t204.length : Int) then (if (rd t204 1) = 3 then (if (bt233.1.length : Int) = 2 then (if 0 < (bt233.1.length : Int) then (if (strOfNums (rd_L2 bt233.1 0)).toList = ([111, 110, 101] : List UInt8) then (if bt233.2 = 15 then ((slip_Whole.f k y218).bind fun t239 => (if t239 = true then (if 14 ≤ (y218.length : Int) then ((slip_Whole.f k (y218.take 14)).bind fun t245 => (some (!t245))) else (none)) else (some false))) else (some false)) else (some false)) else (none)) else (some false)) else (some false)) else (none)) else (some false)) else (some false)) else (some false)) else (some false))) else (none)) = some r := by first | (rw [hy227]; with_reducible exact H) | (have H2_ := (Option.bind_some _ _).symm.trans H; rw [hy227]; with_reducible exact H2_) | (have H2_ := (Option.bind_some _ _).symm.trans H; with_reducible exact H2_) | with_reducible exact H | (rw [hy227]; exact H) | exact H
     have Ny227 := Aside0.mk hy227; clear hy227; by_cases c6 : y224.length + y227.length < 140737488355328
     ·rw [if_pos c6] at H
      have LMc6 := Aside0.mk c6; clear c6; obtain ⟨y230, hy230⟩ : ∃ y_ : List Int, y_ = (y224 ++ y227) := ⟨_, rfl⟩
      replace H : ((slip_Row.f k y230).bind fun bt233 => (if t207 = 0 then (if t211 = 0 then (if (t204.length : Int) = 9 then (if (t208.length : Int) = 6 then (if 1 < (t204.length : Int) then (if (rd t204 1) = 3 then (if (bt233.1.length : Int) = 2 then (if 0 < (bt233.1.length : Int) then (if (strOfNums (rd_L2 bt233.1 0)).toList = ([111, 110, 101] : List UInt8) then (if bt233.2 = 15 then ((slip_Whole.f k y218).bind fun t239 => (if t239 = true then (if 14 ≤ (y218.length : Int) then ((slip_Whole.f k (y218.take 14)).bind fun t245 => (some (!t245))) else (none)) else (some false))) else (some false)) else (some false)) else (none)) else (some false)) else (some false)) else (none)) else (some false)) else (some false)) else (some false)) else (some false))) = some r := by first | (rw [hy230]; with_reducible exact H) | (have H2_ := (Option.bind_some _ _).symm.trans H; rw [hy230]; with_reducible exact H2_) | (have H2_ := (Option.bind_some _ _).symm.trans H; with_reducible exact H2_) | with_reducible exact H | (rw [hy230]; exact H) | exact H
      have Ny230 := Aside0.mk hy230; clear hy230; replace H := Option.bind_eq_some_iff.mp H
      obtain ⟨⟨t233, t236⟩, A70, H⟩ := H
      replace H : (if t207 = 0 then (if t211 = 0 then (if (t204.length : Int) = 9 then (if (t208.length : Int) = 6 then (if 1 < (t204.length : Int) then (if (rd t204 1) = 3 then (if (t233.length : Int) = 2 then (if 0 < (t233.length : Int) then (if (strOfNums (rd_L2 t233 0)).toList = ([111, 110, 101] : List UInt8) then (if t236 = 15 then ((slip_Whole.f k y218).bind fun t239 => (if t239 = true then (if 14 ≤ (y218.length : Int) then ((slip_Whole.f k (y218.take 14)).bind fun t245 => (some (!t245))) else (none)) else (some false))) else (some false)) else (some false)) else (none)) else (some false)) else (some false)) else (none)) else (some false)) else (some false)) else (some false)) else (some false)) = some r := H
      have A7 := Aside0.mk A70; clear A70; by_cases c8 : t207 = 0
      ·rw [if_pos c8] at H
       have c8b0 : (t207 == 0) = true := beq_iff_eq.mpr c8
       have c8b1 : (t207 != 0) = false := bne_eq_false_iff_eq.mpr c8
       clear c8; by_cases c9 : t211 = 0
       ·rw [if_pos c9] at H
        have c9b0 : (t211 == 0) = true := beq_iff_eq.mpr c9
        have c9b1 : (t211 != 0) = false := bne_eq_false_iff_eq.mpr c9
        clear c9; by_cases c10 : (t204.length : Int) = 9
        ·rw [if_pos c10] at H
         have c10b0 : ((t204.length : Int) == 9) = true := beq_iff_eq.mpr c10
         have c10b1 : ((t204.length : Int) != 9) = false := bne_eq_false_iff_eq.mpr c10
         clear c10; by_cases c11 : (t208.length : Int) = 6
         ·rw [if_pos c11] at H
          have c11b0 : ((t208.length : Int) == 6) = true := beq_iff_eq.mpr c11
          have c11b1 : ((t208.length : Int) != 6) = false := bne_eq_false_iff_eq.mpr c11
          clear c11; by_cases c12 : 1 < (t204.length : Int)
          ·rw [if_pos c12] at H
           have c12b0 : decide (1 < (t204.length : Int)) = true := decide_eq_true c12
           have c12b1 : decide (1 < t204.length) = true := decide_eq_true (by omega)
           clear c12; by_cases c13 : (rd t204 1) = 3
           ·rw [if_pos c13] at H
            have c13b0 : ((rd t204 1) == 3) = true := beq_iff_eq.mpr c13
            have c13b1 : ((rd t204 1) != 3) = false := bne_eq_false_iff_eq.mpr c13
            clear c13; by_cases c14 : (t233.length : Int) = 2
            ·rw [if_pos c14] at H
             have c14b0 : ((t233.length : Int) == 2) = true := beq_iff_eq.mpr c14
             have c14b1 : ((t233.length : Int) != 2) = false := bne_eq_false_iff_eq.mpr c14
             clear c14; by_cases c15 : 0 < (t233.length : Int)
             ·rw [if_pos c15] at H
              have c15b0 : decide (0 < (t233.length : Int)) = true := decide_eq_true c15
              have c15b1 : decide (0 < t233.length) = true := decide_eq_true (by omega)
              clear c15; by_cases c16 : (strOfNums (rd_L2 t233 0)).toList = ([111, 110, 101] : List UInt8)
              ·rw [if_pos c16] at H
               have c16b0 : ((strOfNums (rd_L2 t233 0)).toList == ([111, 110, 101] : List UInt8)) = true := beq_iff_eq.mpr c16
               have c16b1 : ((strOfNums (rd_L2 t233 0)).toList != ([111, 110, 101] : List UInt8)) = false := bne_eq_false_iff_eq.mpr c16
               clear c16; by_cases c17 : t236 = 15
               ·rw [if_pos c17] at H
                have c17b0 : (t236 == 15) = true := beq_iff_eq.mpr c17
                have c17b1 : (t236 != 15) = false := bne_eq_false_iff_eq.mpr c17
                clear c17; replace H := Option.bind_eq_some_iff.mp H
                obtain ⟨t239, A180, H⟩ := H
                replace H : (if t239 = true then (if 14 ≤ (y218.length : Int) then ((slip_Whole.f k (y218.take 14)).bind fun t245 => (some (!t245))) else (none)) else (some false)) = some r := H
                have A18 := Aside0.mk A180; clear A180; by_cases c19 : t239 = true
                ·subst c19
                 have H1 : (if 14 ≤ (y218.length : Int) then ((slip_Whole.f k (y218.take 14)).bind fun t245 => (some (!t245))) else (none)) = some r := by rw [if_pos rfl] at H; exact H
                 clear H; have H := H1; clear H1; by_cases c20 : 14 ≤ (y218.length : Int)
                 ·rw [if_pos c20] at H
                  have c20b0 := eq_true c20
                  have c20b1 : decide (14 ≤ (y218.length : Int)) = true := decide_eq_true c20
                  clear c20; obtain ⟨y240, hy240⟩ : ∃ y_ : List Int, y_ = (y218.take 14) := ⟨_, rfl⟩
                  replace H : ((slip_Whole.f k y240).bind fun t245 => (some (!t245))) = some r := by first | (rw [hy240]; with_reducible exact H) | (have H2_ := (Option.bind_some _ _).symm.trans H; rw [hy240]; with_reducible exact H2_) | (have H2_ := (Option.bind_some _ _).symm.trans H; with_reducible exact H2_) | with_reducible exact H | (rw [hy240]; exact H) | exact H
                  have Ny240 := Aside0.mk hy240; clear hy240; replace H := Option.bind_eq_some_iff.mp H
                  obtain ⟨t245, A210, H⟩ := H
                  replace H : (some (!t245)) = some r := H
                  have A21 := Aside0.mk A210; clear A210; obtain rfl := Option.some.inj H
                  go_enter Tryd.func32, Tryd.ntmps32
                  go_wp2_with (first | ((with_reducible refine gate_dst (N := 9) rfl ?_); (try (refine gate_guard (by rfl) ?_; dsimp only)); refine V_const (base := _) (e := 5) (t := 24) (N' := 9) ?hg ?hd ?ho2 ?hlt Tryd.underlying24 Tryd.underlying5 (xs := [111, 110, 101]) (ok := (fun _ => True)) ?hr ?hg2 trivial (Below.refl _ _) (Nat.le_refl _) (by simp) ?_; (case hg => rfl); (case hd => rfl); (case ho2 => rfl); (case hg2 => rfl); (case hlt => exact of_decide_eq_true rfl); (case hr => first | (go_simp; done) | (go_simp; rfl)); intro v202 w22 ho23 hb hg_ hnew_; clear hg_ hnew_; (first | rw [← Ny201.out] at ho23 | (simp only [Int.reduceToNat] at ho23; rw [← Ny201.out] at ho23)); have n0_ := Aside0.mk (Kd.V_lower ho23 (below_size (by repeat (first | (with_reducible first | exact HB.out | apply bA | apply bN | apply bD) | exact HB.out)))); have n1_ := Aside0.mk (below_step (by repeat (first | (with_reducible first | exact HB.out | apply bA | apply bN | apply bD) | exact HB.out)) hb); clear HB; have HO203 := n0_; have HB := n1_; clear n0_ n1_; clear hb ho23; obtain ⟨Ao24, co24, eo24⟩ := Kd.V_slice HO203.out; subst eo24) | ((with_reducible refine gate_callee (f := 33) rfl ?_); refine goesL_ (some 11) rfl rfl Tryd.func33 (by kernel_rfl) rfl #[.slice Ao24 y201.length co24] rfl (by (try simp only [mT, mC, mN]); first | done | rfl | (simp only [List.length_drop, List.length_take]; rfl)) ?_; (with_reducible refine (slip_Put.calls k (fun k_ => True) _ _ y201 t204 t207 _ ?side1 ?side2 ?side3 A1.out).mono ?_); (case side1 => exact HO203.out); (case side2 => repeat (first | exact (Kd.C_below HRL0_.out HB.out) | (with_reducible refine Kd.C_alloc ?_ _) | (with_reducible refine Kd.C_drewN ?_ _) | (with_reducible refine Kd.C_drew ?_))); (case side3 => repeat (first | exact (Kd.C_below HRL1_.out HB.out) | (with_reducible refine Kd.C_alloc ?_ _) | (with_reducible refine Kd.C_drewN ?_ _) | (with_reducible refine Kd.C_drew ?_))); rintro e w25 ⟨v205, rfl, ho0, hb⟩; refine ⟨_, rfl, ?_⟩; have n0_ := Aside0.mk (Kd.V_elder' (by (with_reducible repeat (first | apply Kd.V_alloc | apply Kd.V_drewN | apply Kd.V_drew)); exact HO203.out) (Kd.R_base ho0) hb); have n1_ := Aside0.mk (Kd.R_lower (Kd.R_mono (ok' := fun k_ => True) ho0 (fun _ hk_ => trivial)) (below_size (by repeat (first | (with_reducible first | exact HB.out | apply bA | apply bN | apply bD) | exact HB.out)))); have n2_ := Aside0.mk (below_step (by repeat (first | (with_reducible first | exact HB.out | apply bA | apply bN | apply bD) | exact HB.out)) hb); clear HO203; clear HB; have HO203 := n0_; have HO206 := n1_; have HB := n2_; clear n0_ n1_ n2_; (try clear hb); (try clear hb2); (try clear hk); (try clear hi); (try clear ho0)) | ((with_reducible refine gate_callee (f := 33) rfl ?_); refine goesL_ (some 15) rfl rfl Tryd.func33 (by kernel_rfl) rfl #[.slice none 0 0] rfl (by (try simp only [mT, mC, mN]); first | done | rfl | (simp only [List.length_drop, List.length_take]; rfl)) ?_; (refine (slip_Put.calls k (fun k_ => False) _ _ ([] : List Int) t208 t211 _ ?side1 ?side2 ?side3 A2.out).mono ?_); (case side1 => exact Kd.V_nil _ _ _ _ _); (case side2 => repeat (first | exact (Kd.C_below HRL0_.out HB.out) | (with_reducible refine Kd.C_alloc ?_ _) | (with_reducible refine Kd.C_drewN ?_ _) | (with_reducible refine Kd.C_drew ?_))); (case side3 => repeat (first | exact (Kd.C_below HRL1_.out HB.out) | (with_reducible refine Kd.C_alloc ?_ _) | (with_reducible refine Kd.C_drewN ?_ _) | (with_reducible refine Kd.C_drew ?_))); rintro e w26 ⟨v209, rfl, ho0, hb⟩; refine ⟨_, rfl, ?_⟩; have n0_ := Aside0.mk (Kd.V_elder' (by (with_reducible repeat (first | apply Kd.V_alloc | apply Kd.V_drewN | apply Kd.V_drew)); exact HO203.out) (Kd.R_base ho0) hb); have n1_ := Aside0.mk (Kd.R_elder' (by (with_reducible repeat (first | apply rL | apply rN | apply rW)); exact HO206.out) (Kd.R_base ho0) hb); have n2_ := Aside0.mk (Kd.R_lower (Kd.R_new' (Kd.R_mono (ok' := fun k_ => True) ho0 (fun _ hk_ => trivial)) (Kd.R_lt (by (with_reducible repeat (first | apply rL | apply rN | apply rW)); exact HO206.out))) (below_size (by repeat (first | (with_reducible first | exact HB.out | apply bA | apply bN | apply bD) | exact HB.out)))); have n3_ := Aside0.mk (below_step (by repeat (first | (with_reducible first | exact HB.out | apply bA | apply bN | apply bD) | exact HB.out)) hb); clear HO203; clear HO206; clear HB; have HO203 := n0_; have HO206 := n1_; have HO210 := n2_; have HB := n3_; clear n0_ n1_ n2_ n3_; (try clear hb); (try clear hb2); (try clear hk); (try clear hi); (try clear ho0)) | ((with_reducible refine gate_dst (N := 18) rfl ?_); (try (refine gate_guard (by rfl) ?_; dsimp only)); refine Kd.R_lit (Kd.int .u8) _ 5 ?hg (N := 18) ?hd (xs := ([] : List Int)) (inner := []) (ok := fun _ => True) (okp := fun _ => True) ?hr ?hp (fun _ hk => hk) trivial (Below.refl _ _) (Nat.le_refl _) (by simp) ?_; (case hd => rfl); (case hg => rfl); (case hr => first | (go_simp; done) | (go_simp; rfl)); (case hp => exact (Reps.none _ _)); intro v213 w27 ho28 hb hg_ hnew_; clear hg_ hnew_; (first | rw [← Ny212.out] at ho28 | (simp only [Int.reduceToNat] at ho28; rw [← Ny212.out] at ho28)); have n0_ := Aside0.mk (Kd.V_elder' (by (with_reducible repeat (first | apply Kd.V_alloc | apply Kd.V_drewN | apply Kd.V_drew)); exact HO203.out) (Kd.R_base ho28) hb); have n1_ := Aside0.mk (Kd.R_elder' (by (with_reducible repeat (first | apply rL | apply rN | apply rW)); exact HO206.out) (Kd.R_base ho28) hb); have n2_ := Aside0.mk (Kd.R_elder' (by (with_reducible repeat (first | apply rL | apply rN | apply rW)); exact HO210.out) (Kd.R_base ho28) hb); have n3_ := Aside0.mk (Kd.R_lower (Kd.R_new' (Kd.R_new' ho28 (Kd.R_lt (by (with_reducible repeat (first | apply rL | apply rN | apply rW)); exact HO206.out))) (Kd.R_lt (by (with_reducible repeat (first | apply rL | apply rN | apply rW)); exact HO210.out))) (below_size (by repeat (first | (with_reducible first | exact HB.out | apply bA | apply bN | apply bD) | exact HB.out)))); have n4_ := Aside0.mk (below_step (by repeat (first | (with_reducible first | exact HB.out | apply bA | apply bN | apply bD) | exact HB.out)) hb); clear HO203; clear HO206; clear HO210; clear HB; have HO203 := n0_; have HO206 := n1_; have HO210 := n2_; have HO214 := n3_; have HB := n4_; clear n0_ n1_ n2_ n3_ n4_; clear hb ho28; obtain ⟨Ao30, co30, eo30⟩ := Kd.R_slice HO206.out; subst eo30) | ((with_reducible refine gate_builtin (b := .append) (xs := #[.tmp 18, .tmp 19]) rfl ?_); (try (refine gate_guard (by rfl) ?_; dsimp only)); at_builtin; refine Kd.R_append_rows (Kd.int .u8) (w0 := w) w.heap.size rfl (.tmp 18) (.tmp 19) 24 5 (.int .u8 0) 1 rfl Tryd.underlying24 info5 rfl (by decide) (by omega) v213 y212 t204 _ _ _ (fun k_ => some k_ ≠ (.slice Ao30 t204.length co30 : Value).ownBlock ∧ some k_ ≠ (v209 : Value).ownBlock) (fun _ => False) rfl rfl ?aO ?aR (fun _ _ h => h) (fun _ h => h.elim) ?aF ?aB ?aS ?aL ?_; (case aR => repeat (first | exact (Kd.R_reads' HO206.out).2.2 | (with_reducible refine Kd.C_alloc ?_ _) | (with_reducible refine Kd.C_drewN ?_ _) | (with_reducible refine Kd.C_drew ?_))); (case aB => exact (by repeat (first | (with_reducible first | exact HB.out | apply bA | apply bN | apply bD) | exact HB.out))); (case aF => exact (fun k_ hk => ⟨Kd.fresh' (Kd.R_lt (by (with_reducible repeat (first | apply rL | apply rN | apply rW)); exact HO206.out)) k_ hk, Kd.fresh' (Kd.R_lt (by (with_reducible repeat (first | apply rL | apply rN | apply rW)); exact HO210.out)) k_ hk⟩)); (case aO => exact (by (with_reducible repeat (first | apply rL | apply rN | apply rW)); exact Kd.R_mono HO214.out (fun _ hk => ⟨hk.1.2, hk.2⟩))); (case aS => exact (below_size (by repeat (first | (with_reducible first | exact HB.out | apply bA | apply bN | apply bD) | exact HB.out)))); (case aL => have := LMc3.out; omega); intro v216 w29 ho hb hg hat; rw [← Ny215.out] at ho; have n0_ := Aside0.mk (Kd.V_afterv (ok := (fun k_ => some k_ ≠ (.slice Ao30 t204.length co30 : Value).ownBlock ∧ some k_ ≠ (v209 : Value).ownBlock)) (by (with_reducible repeat (first | apply Kd.V_alloc | apply Kd.V_drewN | apply Kd.V_drew)); exact Kd.V_mono HO203.out (fun _ hk => ⟨⟨hk.1.1.2, hk.1.2⟩, hk.2⟩)) hg hat); have n1_ := Aside0.mk (Kd.R_after (ok := (fun k_ => some k_ ≠ (v209 : Value).ownBlock)) (by (with_reducible repeat (first | apply rL | apply rN | apply rW)); exact Kd.R_mono HO206.out (fun _ hk => ⟨hk.1.2, hk.2⟩)) hg hat); have n2_ := Aside0.mk (Kd.R_after (ok := (fun k_ => some k_ ≠ (.slice Ao30 t204.length co30 : Value).ownBlock)) (by (with_reducible repeat (first | apply rL | apply rN | apply rW)); exact Kd.R_mono HO210.out (fun _ hk => ⟨hk.1.2, hk.2⟩)) hg hat); have n3_ := Aside0.mk (hb); have n4_ := Aside0.mk (ho); clear HO203; clear HO206; clear HO210; clear HB; clear HO214; have HO203 := n0_; have HO206 := n1_; have HO210 := n2_; have HB := n3_; have HO217 := n4_; clear n0_ n1_ n2_ n3_ n4_; clear ho hb hg hat; obtain ⟨Ao32, co32, eo32⟩ := Kd.R_slice HO210.out; subst eo32) | ((with_reducible refine gate_builtin (b := .append) (xs := #[.tmp 20, .tmp 21]) rfl ?_); (try (refine gate_guard (by rfl) ?_; dsimp only)); at_builtin; refine Kd.R_append_rows (Kd.int .u8) (w0 := w) w.heap.size rfl (.tmp 20) (.tmp 21) 24 5 (.int .u8 0) 1 rfl Tryd.underlying24 info5 rfl (by decide) (by omega) v216 y215 t208 _ _ _ (fun k_ => some k_ ≠ (.slice Ao30 t204.length co30 : Value).ownBlock ∧ some k_ ≠ (.slice Ao32 t208.length co32 : Value).ownBlock) (fun _ => False) rfl rfl ?aO ?aR (fun _ _ h => h) (fun _ h => h.elim) ?aF ?aB ?aS ?aL ?_; (case aR => repeat (first | exact (Kd.R_reads' HO210.out).2.2 | (with_reducible refine Kd.C_alloc ?_ _) | (with_reducible refine Kd.C_drewN ?_ _) | (with_reducible refine Kd.C_drew ?_))); (case aB => exact (by repeat (first | (with_reducible first | exact HB.out | apply bA | apply bN | apply bD) | exact HB.out))); (case aF => exact (fun k_ hk => ⟨Kd.fresh' (Kd.R_lt (by (with_reducible repeat (first | apply rL | apply rN | apply rW)); exact HO206.out)) k_ hk, Kd.fresh' (Kd.R_lt (by (with_reducible repeat (first | apply rL | apply rN | apply rW)); exact HO210.out)) k_ hk⟩)); (case aO => exact (by (with_reducible repeat (first | apply rL | apply rN | apply rW)); exact HO217.out)); (case aS => exact (below_size (by repeat (first | (with_reducible first | exact HB.out | apply bA | apply bN | apply bD) | exact HB.out)))); (case aL => have := LMc4.out; omega); intro v219 w31 ho hb hg hat; rw [← Ny218.out] at ho; have n0_ := Aside0.mk (Kd.V_afterv (ok := (fun k_ => some k_ ≠ (.slice Ao30 t204.length co30 : Value).ownBlock ∧ some k_ ≠ (.slice Ao32 t208.length co32 : Value).ownBlock)) (by (with_reducible repeat (first | apply Kd.V_alloc | apply Kd.V_drewN | apply Kd.V_drew)); exact HO203.out) hg hat); have n1_ := Aside0.mk (Kd.R_after (ok := (fun k_ => some k_ ≠ (.slice Ao32 t208.length co32 : Value).ownBlock)) (by (with_reducible repeat (first | apply rL | apply rN | apply rW)); exact HO206.out) hg hat); have n2_ := Aside0.mk (Kd.R_after (ok := (fun k_ => some k_ ≠ (.slice Ao30 t204.length co30 : Value).ownBlock)) (by (with_reducible repeat (first | apply rL | apply rN | apply rW)); exact HO210.out) hg hat); have n3_ := Aside0.mk (hb); have n4_ := Aside0.mk (ho); clear HO203; clear HO206; clear HO210; clear HB; clear HO217; have HO203 := n0_; have HO206 := n1_; have HO210 := n2_; have HB := n3_; have HO220 := n4_; clear n0_ n1_ n2_ n3_ n4_; clear ho hb hg hat) | ((with_reducible refine gate_dst (N := 24) rfl ?_); (try (refine gate_guard (by rfl) ?_; dsimp only)); refine Kd.R_lit (Kd.int .u8) _ 5 ?hg (N := 24) ?hd (xs := ([] : List Int)) (inner := []) (ok := fun _ => True) (okp := fun _ => True) ?hr ?hp (fun _ hk => hk) trivial (Below.refl _ _) (Nat.le_refl _) (by simp) ?_; (case hd => rfl); (case hg => rfl); (case hr => first | (go_simp; done) | (go_simp; rfl)); (case hp => exact (Reps.none _ _)); intro v222 w33 ho34 hb hg_ hnew_; clear hg_ hnew_; (first | rw [← Ny221.out] at ho34 | (simp only [Int.reduceToNat] at ho34; rw [← Ny221.out] at ho34)); have n0_ := Aside0.mk (Kd.V_elder' (by (with_reducible repeat (first | apply Kd.V_alloc | apply Kd.V_drewN | apply Kd.V_drew)); exact HO203.out) (Kd.R_base ho34) hb); have n1_ := Aside0.mk (Kd.R_elder' (by (with_reducible repeat (first | apply rL | apply rN | apply rW)); exact HO206.out) (Kd.R_base ho34) hb); have n2_ := Aside0.mk (Kd.R_elder' (by (with_reducible repeat (first | apply rL | apply rN | apply rW)); exact HO210.out) (Kd.R_base ho34) hb); have n3_ := Aside0.mk (Kd.R_elder' (by (with_reducible repeat (first | apply rL | apply rN | apply rW)); exact HO220.out) (Kd.R_base ho34) hb); have n4_ := Aside0.mk (Kd.R_lower (Kd.R_new' (Kd.R_new' (Kd.R_new' ho34 (Kd.R_lt (by (with_reducible repeat (first | apply rL | apply rN | apply rW)); exact HO206.out))) (Kd.R_lt (by (with_reducible repeat (first | apply rL | apply rN | apply rW)); exact HO210.out))) (Kd.R_lt (by (with_reducible repeat (first | apply rL | apply rN | apply rW)); exact HO220.out))) (below_size (by repeat (first | (with_reducible first | exact HB.out | apply bA | apply bN | apply bD) | exact HB.out)))); have n5_ := Aside0.mk (below_step (by repeat (first | (with_reducible first | exact HB.out | apply bA | apply bN | apply bD) | exact HB.out)) hb); clear HO203; clear HO206; clear HO210; clear HO220; clear HB; have HO203 := n0_; have HO206 := n1_; have HO210 := n2_; have HO220 := n3_; have HO223 := n4_; have HB := n5_; clear n0_ n1_ n2_ n3_ n4_ n5_; clear hb ho34; obtain ⟨Ao36, co36, eo36⟩ := Kd.R_slice HO220.out; subst eo36) | ((with_reducible refine gate_builtin (b := .append) (xs := #[.tmp 24, .tmp 25]) rfl ?_); (try (refine gate_guard (by rfl) ?_; dsimp only)); at_builtin; refine Kd.R_append_rows (Kd.int .u8) (w0 := w) w.heap.size rfl (.tmp 24) (.tmp 25) 24 5 (.int .u8 0) 1 rfl Tryd.underlying24 info5 rfl (by decide) (by omega) v222 y221 y218 _ _ _ (fun k_ => some k_ ≠ (.slice Ao30 t204.length co30 : Value).ownBlock ∧ some k_ ≠ (.slice Ao32 t208.length co32 : Value).ownBlock ∧ some k_ ≠ (.slice Ao36 y218.length co36 : Value).ownBlock) (fun _ => False) rfl rfl ?aO ?aR (fun _ _ h => h) (fun _ h => h.elim) ?aF ?aB ?aS ?aL ?_; (case aR => repeat (first | exact (Kd.R_reads' HO220.out).2.2 | (with_reducible refine Kd.C_alloc ?_ _) | (with_reducible refine Kd.C_drewN ?_ _) | (with_reducible refine Kd.C_drew ?_))); (case aB => exact (by repeat (first | (with_reducible first | exact HB.out | apply bA | apply bN | apply bD) | exact HB.out))); (case aF => exact (fun k_ hk => ⟨Kd.fresh' (Kd.R_lt (by (with_reducible repeat (first | apply rL | apply rN | apply rW)); exact HO206.out)) k_ hk, Kd.fresh' (Kd.R_lt (by (with_reducible repeat (first | apply rL | apply rN | apply rW)); exact HO210.out)) k_ hk, Kd.fresh' (Kd.R_lt (by (with_reducible repeat (first | apply rL | apply rN | apply rW)); exact HO220.out)) k_ hk⟩)); (case aO => exact (by (with_reducible repeat (first | apply rL | apply rN | apply rW)); exact Kd.R_mono HO223.out (fun _ hk => ⟨hk.1.1.2, ⟨hk.1.2, hk.2⟩⟩))); (case aS => exact (below_size (by repeat (first | (with_reducible first | exact HB.out | apply bA | apply bN | apply bD) | exact HB.out)))); (case aL => have := LMc5.out; omega); intro v225 w35 ho hb hg hat; rw [← Ny224.out] at ho; have n0_ := Aside0.mk (Kd.V_afterv (ok := (fun k_ => some k_ ≠ (.slice Ao30 t204.length co30 : Value).ownBlock ∧ some k_ ≠ (.slice Ao32 t208.length co32 : Value).ownBlock ∧ some k_ ≠ (.slice Ao36 y218.length co36 : Value).ownBlock)) (by (with_reducible repeat (first | apply Kd.V_alloc | apply Kd.V_drewN | apply Kd.V_drew)); exact Kd.V_mono HO203.out (fun _ hk => ⟨⟨hk.1.1.1, ⟨hk.1.1.2, hk.1.2⟩⟩, hk.2⟩)) hg hat); have n1_ := Aside0.mk (Kd.R_after (ok := (fun k_ => some k_ ≠ (.slice Ao32 t208.length co32 : Value).ownBlock ∧ some k_ ≠ (.slice Ao36 y218.length co36 : Value).ownBlock)) (by (with_reducible repeat (first | apply rL | apply rN | apply rW)); exact HO206.out) hg hat); have n2_ := Aside0.mk (Kd.R_after (ok := (fun k_ => some k_ ≠ (.slice Ao30 t204.length co30 : Value).ownBlock ∧ some k_ ≠ (.slice Ao36 y218.length co36 : Value).ownBlock)) (by (with_reducible repeat (first | apply rL | apply rN | apply rW)); exact HO210.out) hg hat); have n3_ := Aside0.mk (Kd.R_after (ok := (fun k_ => some k_ ≠ (.slice Ao30 t204.length co30 : Value).ownBlock ∧ some k_ ≠ (.slice Ao32 t208.length co32 : Value).ownBlock)) (by (with_reducible repeat (first | apply rL | apply rN | apply rW)); exact HO220.out) hg hat); have n4_ := Aside0.mk (hb); have n5_ := Aside0.mk (ho); clear HO203; clear HO206; clear HO210; clear HO220; clear HB; clear HO223; have HO203 := n0_; have HO206 := n1_; have HO210 := n2_; have HO220 := n3_; have HB := n4_; have HO226 := n5_; clear n0_ n1_ n2_ n3_ n4_ n5_; clear ho hb hg hat) | ((with_reducible refine gate_dst (N := 27) rfl ?_); (try (refine gate_guard (by rfl) ?_; dsimp only)); refine Kd.R_lit (Kd.int .u8) _ 5 ?hg (N := 27) ?hd (xs := ([0, 3, 120] : List Int)) (inner := [.int .u8 0, .int .u8 3, .int .u8 120]) (ok := fun _ => True) (okp := fun _ => True) ?hr ?hp (fun _ hk => hk) trivial (Below.refl _ _) (Nat.le_refl _) (by simp) ?_; (case hd => rfl); (case hg => rfl); (case hr => first | (go_simp; done) | (go_simp; rfl)); (case hp => exact (Reps.one (show Kd.M (Kd.int .u8) _ _ _ 0 [.int .u8 0] from rfl) (Reps.one (show Kd.M (Kd.int .u8) _ _ _ 3 [.int .u8 3] from rfl) (Reps.one (show Kd.M (Kd.int .u8) _ _ _ 120 [.int .u8 120] from rfl) (Reps.none _ _))))); intro v228 w37 ho38 hb hg_ hnew_; clear hg_ hnew_; (first | rw [← Ny227.out] at ho38 | (simp only [Int.reduceToNat] at ho38; rw [← Ny227.out] at ho38)); have n0_ := Aside0.mk (Kd.V_elder' (by (with_reducible repeat (first | apply Kd.V_alloc | apply Kd.V_drewN | apply Kd.V_drew)); exact HO203.out) (Kd.R_base ho38) hb); have n1_ := Aside0.mk (Kd.R_elder' (by (with_reducible repeat (first | apply rL | apply rN | apply rW)); exact HO206.out) (Kd.R_base ho38) hb); have n2_ := Aside0.mk (Kd.R_elder' (by (with_reducible repeat (first | apply rL | apply rN | apply rW)); exact HO210.out) (Kd.R_base ho38) hb); have n3_ := Aside0.mk (Kd.R_elder' (by (with_reducible repeat (first | apply rL | apply rN | apply rW)); exact HO220.out) (Kd.R_base ho38) hb); have n4_ := Aside0.mk (Kd.R_elder' (by (with_reducible repeat (first | apply rL | apply rN | apply rW)); exact HO226.out) (Kd.R_base ho38) hb); have n5_ := Aside0.mk (Kd.R_lower (Kd.R_new' (Kd.R_new' (Kd.R_new' (Kd.R_new' ho38 (Kd.R_lt (by (with_reducible repeat (first | apply rL | apply rN | apply rW)); exact HO206.out))) (Kd.R_lt (by (with_reducible repeat (first | apply rL | apply rN | apply rW)); exact HO210.out))) (Kd.R_lt (by (with_reducible repeat (first | apply rL | apply rN | apply rW)); exact HO220.out))) (Kd.R_lt (by (with_reducible repeat (first | apply rL | apply rN | apply rW)); exact HO226.out))) (below_size (by repeat (first | (with_reducible first | exact HB.out | apply bA | apply bN | apply bD) | exact HB.out)))); have n6_ := Aside0.mk (below_step (by repeat (first | (with_reducible first | exact HB.out | apply bA | apply bN | apply bD) | exact HB.out)) hb); clear HO203; clear HO206; clear HO210; clear HO220; clear HO226; clear HB; have HO203 := n0_; have HO206 := n1_; have HO210 := n2_; have HO220 := n3_; have HO226 := n4_; have HO229 := n5_; have HB := n6_; clear n0_ n1_ n2_ n3_ n4_ n5_ n6_; clear hb ho38; obtain ⟨Ao40, co40, eo40⟩ := Kd.R_slice HO229.out; subst eo40) | ((with_reducible refine gate_builtin (b := .append) (xs := #[.tmp 26, .tmp 27]) rfl ?_); (try (refine gate_guard (by rfl) ?_; dsimp only)); at_builtin; refine Kd.R_append_rows (Kd.int .u8) (w0 := w) w.heap.size rfl (.tmp 26) (.tmp 27) 24 5 (.int .u8 0) 1 rfl Tryd.underlying24 info5 rfl (by decide) (by omega) v225 y224 y227 _ _ _ (fun k_ => some k_ ≠ (.slice Ao30 t204.length co30 : Value).ownBlock ∧ some k_ ≠ (.slice Ao32 t208.length co32 : Value).ownBlock ∧ some k_ ≠ (.slice Ao36 y218.length co36 : Value).ownBlock ∧ some k_ ≠ (.slice Ao40 y227.length co40 : Value).ownBlock) (fun _ => False) rfl rfl ?aO ?aR (fun _ _ h => h) (fun _ h => h.elim) ?aF ?aB ?aS ?aL ?_; (case aR => repeat (first | exact (Kd.R_reads' HO229.out).2.2 | (with_reducible refine Kd.C_alloc ?_ _) | (with_reducible refine Kd.C_drewN ?_ _) | (with_reducible refine Kd.C_drew ?_))); (case aB => exact (by repeat (first | (with_reducible first | exact HB.out | apply bA | apply bN | apply bD) | exact HB.out))); (case aF => exact (fun k_ hk => ⟨Kd.fresh' (Kd.R_lt (by (with_reducible repeat (first | apply rL | apply rN | apply rW)); exact HO206.out)) k_ hk, Kd.fresh' (Kd.R_lt (by (with_reducible repeat (first | apply rL | apply rN | apply rW)); exact HO210.out)) k_ hk, Kd.fresh' (Kd.R_lt (by (with_reducible repeat (first | apply rL | apply rN | apply rW)); exact HO220.out)) k_ hk, Kd.fresh' (Kd.R_lt (by (with_reducible repeat (first | apply rL | apply rN | apply rW)); exact HO229.out)) k_ hk⟩)); (case aO => exact (by (with_reducible repeat (first | apply rL | apply rN | apply rW)); exact Kd.R_mono HO226.out (fun _ hk => ⟨hk.1.1, ⟨hk.1.2.1, ⟨hk.1.2.2, hk.2⟩⟩⟩))); (case aS => exact (below_size (by repeat (first | (with_reducible first | exact HB.out | apply bA | apply bN | apply bD) | exact HB.out)))); (case aL => have := LMc6.out; omega); intro v231 w39 ho hb hg hat; rw [← Ny230.out] at ho; have n0_ := Aside0.mk (Kd.V_afterv (ok := (fun k_ => some k_ ≠ (.slice Ao30 t204.length co30 : Value).ownBlock ∧ some k_ ≠ (.slice Ao32 t208.length co32 : Value).ownBlock ∧ some k_ ≠ (.slice Ao36 y218.length co36 : Value).ownBlock ∧ some k_ ≠ (.slice Ao40 y227.length co40 : Value).ownBlock)) (by (with_reducible repeat (first | apply Kd.V_alloc | apply Kd.V_drewN | apply Kd.V_drew)); exact Kd.V_mono HO203.out (fun _ hk => ⟨⟨hk.1.1.1, ⟨hk.1.1.2.1, ⟨hk.1.1.2.2, hk.2⟩⟩⟩, hk.1.2⟩)) hg hat); have n1_ := Aside0.mk (Kd.R_after (ok := (fun k_ => some k_ ≠ (.slice Ao32 t208.length co32 : Value).ownBlock ∧ some k_ ≠ (.slice Ao36 y218.length co36 : Value).ownBlock ∧ some k_ ≠ (.slice Ao40 y227.length co40 : Value).ownBlock)) (by (with_reducible repeat (first | apply rL | apply rN | apply rW)); exact Kd.R_mono HO206.out (fun _ hk => ⟨⟨hk.1.1.1, ⟨hk.1.1.2, hk.2⟩⟩, hk.1.2⟩)) hg hat); have n2_ := Aside0.mk (Kd.R_after (ok := (fun k_ => some k_ ≠ (.slice Ao30 t204.length co30 : Value).ownBlock ∧ some k_ ≠ (.slice Ao36 y218.length co36 : Value).ownBlock ∧ some k_ ≠ (.slice Ao40 y227.length co40 : Value).ownBlock)) (by (with_reducible repeat (first | apply rL | apply rN | apply rW)); exact Kd.R_mono HO210.out (fun _ hk => ⟨⟨hk.1.1.1, ⟨hk.1.1.2, hk.2⟩⟩, hk.1.2⟩)) hg hat); have n3_ := Aside0.mk (Kd.R_after (ok := (fun k_ => some k_ ≠ (.slice Ao30 t204.length co30 : Value).ownBlock ∧ some k_ ≠ (.slice Ao32 t208.length co32 : Value).ownBlock ∧ some k_ ≠ (.slice Ao40 y227.length co40 : Value).ownBlock)) (by (with_reducible repeat (first | apply rL | apply rN | apply rW)); exact Kd.R_mono HO220.out (fun _ hk => ⟨⟨hk.1.1.1, ⟨hk.1.1.2, hk.2⟩⟩, hk.1.2⟩)) hg hat); have n4_ := Aside0.mk (Kd.R_after (ok := (fun k_ => some k_ ≠ (.slice Ao30 t204.length co30 : Value).ownBlock ∧ some k_ ≠ (.slice Ao32 t208.length co32 : Value).ownBlock ∧ some k_ ≠ (.slice Ao36 y218.length co36 : Value).ownBlock)) (by (with_reducible repeat (first | apply rL | apply rN | apply rW)); exact Kd.R_mono HO229.out (fun _ hk => ⟨⟨hk.1.1.1.2, ⟨hk.1.1.2, hk.1.2⟩⟩, hk.2⟩)) hg hat); have n5_ := Aside0.mk (hb); have n6_ := Aside0.mk (ho); clear HO203; clear HO206; clear HO210; clear HO220; clear HO229; clear HB; clear HO226; have HO203 := n0_; have HO206 := n1_; have HO210 := n2_; have HO220 := n3_; have HO229 := n4_; have HB := n5_; have HO232 := n6_; clear n0_ n1_ n2_ n3_ n4_ n5_ n6_; clear ho hb hg hat; obtain ⟨Ao41, co41, eo41⟩ := Kd.R_slice HO232.out; subst eo41) | ((with_reducible refine gate_callee (f := 34) rfl ?_); refine goesL_ (some 29) rfl rfl Tryd.func34 (by kernel_rfl) rfl #[.slice Ao41 y230.length co41] rfl (by (try simp only [mT, mC, mN]); first | done | rfl | (simp only [List.length_drop, List.length_take]; rfl)) ?_; (with_reducible refine (slip_Row.calls k (fun k_ => some k_ = (.slice Ao41 y230.length co41 : Value).ownBlock) _ _ y230 t233 t236 _ ?side1 ?side2 ?side3 A7.out).mono ?_); (case side1 => exact Kd.R_V (Kd.R_tight rfl (HO232.out))); (case side2 => repeat (first | exact (Kd.C_below HRL0_.out HB.out) | (with_reducible refine Kd.C_alloc ?_ _) | (with_reducible refine Kd.C_drewN ?_ _) | (with_reducible refine Kd.C_drew ?_))); (case side3 => repeat (first | exact (Kd.C_below HRL1_.out HB.out) | (with_reducible refine Kd.C_alloc ?_ _) | (with_reducible refine Kd.C_drewN ?_ _) | (with_reducible refine Kd.C_drew ?_))); rintro e w42 ⟨v234, rfl, ho0, hb⟩; refine ⟨_, rfl, ?_⟩; have n0_ := Aside0.mk (Kd.V_elder' (by (with_reducible repeat (first | apply Kd.V_alloc | apply Kd.V_drewN | apply Kd.V_drew)); exact HO203.out) (Kd.N_base ho0) hb); have n1_ := Aside0.mk (Kd.R_below (by (with_reducible repeat (first | apply rL | apply rN | apply rW)); exact HO206.out) hb); have n2_ := Aside0.mk (Kd.R_below (by (with_reducible repeat (first | apply rL | apply rN | apply rW)); exact HO210.out) hb); have n3_ := Aside0.mk (Kd.R_below (by (with_reducible repeat (first | apply rL | apply rN | apply rW)); exact HO220.out) hb); have n4_ := Aside0.mk (Kd.R_below (by (with_reducible repeat (first | apply rL | apply rN | apply rW)); exact HO229.out) hb); have n5_ := Aside0.mk (Kd.R_below (by (with_reducible repeat (first | apply rL | apply rN | apply rW)); exact HO232.out) hb); have n6_ := Aside0.mk (Kd.N_lower (Kd.N_mono (ok' := fun k_ => some k_ ≠ (.slice Ao30 t204.length co30 : Value).ownBlock ∧ some k_ ≠ (.slice Ao32 t208.length co32 : Value).ownBlock ∧ some k_ ≠ (.slice Ao36 y218.length co36 : Value).ownBlock ∧ some k_ ≠ (.slice Ao40 y227.length co40 : Value).ownBlock) ho0 (fun k_ hk_ => ⟨Or.elim hk_ (fun hs_ => ((HO232.out).1 k_ hs_.symm).1) (fun hn_ => (Kd.fresh' (Kd.R_lt (by (with_reducible repeat (first | apply rL | apply rN | apply rW)); exact HO206.out)) k_ hn_)), Or.elim hk_ (fun hs_ => ((HO232.out).1 k_ hs_.symm).2.1) (fun hn_ => (Kd.fresh' (Kd.R_lt (by (with_reducible repeat (first | apply rL | apply rN | apply rW)); exact HO210.out)) k_ hn_)), Or.elim hk_ (fun hs_ => ((HO232.out).1 k_ hs_.symm).2.2.1) (fun hn_ => (Kd.fresh' (Kd.R_lt (by (with_reducible repeat (first | apply rL | apply rN | apply rW)); exact HO220.out)) k_ hn_)), Or.elim hk_ (fun hs_ => ((HO232.out).1 k_ hs_.symm).2.2.2) (fun hn_ => (Kd.fresh' (Kd.R_lt (by (with_reducible repeat (first | apply rL | apply rN | apply rW)); exact HO229.out)) k_ hn_))⟩)) (below_size (by repeat (first | (with_reducible first | exact HB.out | apply bA | apply bN | apply bD) | exact HB.out)))); have n7_ := Aside0.mk (below_step (by repeat (first | (with_reducible first | exact HB.out | apply bA | apply bN | apply bD) | exact HB.out)) hb); clear HO203; clear HO206; clear HO210; clear HO220; clear HO229; clear HO232; clear HB; have HO203 := n0_; have HO206 := n1_; have HO210 := n2_; have HO220 := n3_; have HO229 := n4_; have HO232 := n5_; have HO235 := n6_; have HB := n7_; clear n0_ n1_ n2_ n3_ n4_ n5_ n6_ n7_; (try clear hb); (try clear hb2); (try clear hk); (try clear hi); (try clear ho0); have p237 : 0 ≤ (1 : Int) := (by omega); have q237 : 1 < (t204.length : Int) := of_decide_eq_true (by first | (with_reducible assumption) | assumption); obtain ⟨ad237, e237, hx237_0⟩ := Kd.at_int (Kd.R_reads' HO206.out).2.2 1 p237 q237; cases e237; (try simp only [show (1 : Int).toNat = 1 from rfl, Nat.reduceMul, Nat.reduceEqDiff, Go.Addr.add, ↓reduceIte] at hx237_0); have qi237 : (1 < t204.length) = True := eq_true (by omega); (try rw [show ((1 : Int)).toNat = 1 from rfl] at hx237_0); replace p237 := eq_true p237; replace q237 := eq_true q237; obtain ⟨Ao43, co43, eo43⟩ := Kd.N_slice HO235.out; subst eo43; have p238 : 0 ≤ (0 : Int) := (by omega); have q238 : 0 < (t233.length : Int) := of_decide_eq_true (by first | (with_reducible assumption) | assumption); obtain ⟨ad238, A238_0, c238_0, e238, hx238_0, hl238_0, hi238_0⟩ := at_L2 (Kd.N_reads' HO235.out).2.2 0 p238 q238; cases e238; obtain ⟨ce238, hce238, hMe238, hcc238⟩ := Kd.N_get HO235.out [] 0 p238 (by first | exact q238 | exact of_decide_eq_true (by first | (with_reducible assumption) | assumption) | (have e_ := (Kd.N_reads' HO235.out).1; omega)); obtain ⟨ua238_0, uc238_0, rfl, ul238_0, ge238_0⟩ := Kd.FK_slice_open hMe238; have hv238_0 := hcc238 0 _ rfl; rw [Nat.add_zero, show ((Kd.slice 5 (Kd.int .u8))).sz = 1 from rfl, Nat.mul_one] at hv238_0; replace hv238_0 := Option.some.inj (hv238_0.symm.trans hx238_0); injection hv238_0 with hva_ hvn_ hvc_; rw [hva_] at ge238_0; rw [hvc_] at ul238_0; have HL238_0 := Aside0.mk (show Kd.V (Kd.int .u8) 5 _ w.heap.size _ _ (rd_L2 t233 0) from Kd.V_mk ul238_0 ge238_0); clear hva_ hvn_ hvc_ ge238_0 ul238_0; clear hcc238 hce238; have qi238 : (0 < t233.length) = True := eq_true (by omega); (try rw [show ((0 : Int)).toNat = 0 from rfl] at hx238_0); (try rw [Addr.add_zero'] at hx238_0); have HR238_0 := Aside0.mk hi238_0; have HC238_0 := Aside0.mk hl238_0; clear hi238_0 hl238_0; replace p238 := eq_true p238; replace q238 := eq_true q238; have hcv44 := Kd.C_string (P := Tryd.prog) (A := A238_0) (c := c238_0) Tryd.underlying24 Tryd.underlying5 Tryd.underlying9 (by repeat (first | (with_reducible exact HR238_0.out) | (with_reducible refine Kd.C_alloc ?_ _) | (with_reducible refine Kd.C_drewN ?_ _) | (with_reducible refine Kd.C_drew ?_) | exact HR238_0.out))) | (go_at_call 38; (with_reducible refine (slip_Whole.calls k _ _ y218 true _ ?side1 ?side2 ?side3 ?side4 A18.out).mono ?_); (case side1 => repeat (first | exact (Kd.R_reads' HO220.out).2.2 | (with_reducible refine Kd.C_alloc ?_ _) | (with_reducible refine Kd.C_drewN ?_ _) | (with_reducible refine Kd.C_drew ?_))); (case side2 => exact (Kd.R_reads' HO220.out).2.1); (case side3 => repeat (first | exact (Kd.C_below HRL0_.out HB.out) | (with_reducible refine Kd.C_alloc ?_ _) | (with_reducible refine Kd.C_drewN ?_ _) | (with_reducible refine Kd.C_drew ?_))); (case side4 => repeat (first | exact (Kd.C_below HRL1_.out HB.out) | (with_reducible refine Kd.C_alloc ?_ _) | (with_reducible refine Kd.C_drewN ?_ _) | (with_reducible refine Kd.C_drew ?_))); rintro e w45 ⟨rfl, hb⟩; have n0_ := Aside0.mk (Kd.V_below (by (with_reducible repeat (first | apply Kd.V_alloc | apply Kd.V_drewN | apply Kd.V_drew)); exact HO203.out) hb); have n1_ := Aside0.mk (Kd.R_below (by (with_reducible repeat (first | apply rL | apply rN | apply rW)); exact HO206.out) hb); have n2_ := Aside0.mk (Kd.R_below (by (with_reducible repeat (first | apply rL | apply rN | apply rW)); exact HO210.out) hb); have n3_ := Aside0.mk (Kd.R_below (by (with_reducible repeat (first | apply rL | apply rN | apply rW)); exact HO220.out) hb); have n4_ := Aside0.mk (Kd.R_below (by (with_reducible repeat (first | apply rL | apply rN | apply rW)); exact HO229.out) hb); have n5_ := Aside0.mk (Kd.R_below (by (with_reducible repeat (first | apply rL | apply rN | apply rW)); exact HO232.out) hb); have n6_ := Aside0.mk (Kd.N_below (by (with_reducible repeat (first | apply Kd.N_alloc | apply Kd.N_drewN | apply Kd.N_drew)); exact HO235.out) hb); have n7_ := Aside0.mk (Kd.V_below (by (with_reducible repeat (first | apply Kd.V_alloc | apply Kd.V_drewN | apply Kd.V_drew)); exact HL238_0.out) hb); have n8_ := Aside0.mk (Kd.C_below (by repeat (first | (with_reducible exact HR238_0.out) | (with_reducible refine Kd.C_alloc ?_ _) | (with_reducible refine Kd.C_drewN ?_ _) | (with_reducible refine Kd.C_drew ?_) | exact HR238_0.out)) hb); have n9_ := Aside0.mk (below_step (by repeat (first | (with_reducible first | exact HB.out | apply bA | apply bN | apply bD) | exact HB.out)) hb); clear HO203; clear HO206; clear HO210; clear HO220; clear HO229; clear HO232; clear HO235; clear HL238_0; clear HR238_0; clear HB; have HO203 := n0_; have HO206 := n1_; have HO210 := n2_; have HO220 := n3_; have HO229 := n4_; have HO232 := n5_; have HO235 := n6_; have HL238_0 := n7_; have HR238_0 := n8_; have HB := n9_; clear n0_ n1_ n2_ n3_ n4_ n5_ n6_ n7_ n8_ n9_; (try clear hb); (try clear hb2); (try clear hk); (try clear hi); have q46 : (14 : Int) ≤ ((y218.length : Int) : Int) := of_decide_eq_true (by first | (with_reducible assumption) | assumption); obtain ⟨i046, hi046, _, hsz46, _⟩ := info_parts info5; have hroom46 : y218.length ≤ co36 := (Kd.R_reads' HO220.out).2.1; have hC46 : Kd.F (Kd.int .u8) _ _ Ao36 y218.length y218 := (Kd.V_at (base := w.heap.size) (Kd.R_V (Kd.R_apart' (HO220.out) (Kd.N_typed HO235.out) (by decide)))).2.2; have hcut46 := cut_to (P := Tryd.prog) 24 5 .i64 Tryd.underlying24 hi046 Ao36 y218.length co36 14 (by omega) q46 hroom46; have hr46 := Kd.F_take (m := 14) hC46 (by omega); have hy46 : y240.length = (14 : Int).toNat := (by rw [Ny240.out, List.length_take]; omega); rw [← Ny240.out] at hr46; rw [← hy46] at hcut46; have HO244 := Aside0.mk (show Kd.V (Kd.int .u8) 5 _ w.heap.size _ (.slice Ao36 y240.length co36) y240 from Kd.V_mk (by omega) hr46); have HC244 := Aside0.mk (show y240.length ≤ co36 from by omega); clear hr46 hC46 hroom46 hi046 hsz46; have KY46 := Aside0.mk hy46; clear hy46; replace q46 := eq_true q46) | (go_at_call 38; (with_reducible refine (slip_Whole.calls k _ _ y240 t245 _ ?side1 ?side2 ?side3 ?side4 A21.out).mono ?_); (case side1 => repeat (first | exact (Kd.V_reads' HO244.out).2.2 | (with_reducible refine Kd.C_alloc ?_ _) | (with_reducible refine Kd.C_drewN ?_ _) | (with_reducible refine Kd.C_drew ?_))); (case side2 => exact (Kd.V_reads' HO244.out).2.1); (case side3 => repeat (first | exact (Kd.C_below HRL0_.out HB.out) | (with_reducible refine Kd.C_alloc ?_ _) | (with_reducible refine Kd.C_drewN ?_ _) | (with_reducible refine Kd.C_drew ?_))); (case side4 => repeat (first | exact (Kd.C_below HRL1_.out HB.out) | (with_reducible refine Kd.C_alloc ?_ _) | (with_reducible refine Kd.C_drewN ?_ _) | (with_reducible refine Kd.C_drew ?_))); rintro e w47 ⟨rfl, hb⟩; have n0_ := Aside0.mk (Kd.V_below (by (with_reducible repeat (first | apply Kd.V_alloc | apply Kd.V_drewN | apply Kd.V_drew)); exact HO203.out) hb); have n1_ := Aside0.mk (Kd.R_below (by (with_reducible repeat (first | apply rL | apply rN | apply rW)); exact HO206.out) hb); have n2_ := Aside0.mk (Kd.R_below (by (with_reducible repeat (first | apply rL | apply rN | apply rW)); exact HO210.out) hb); have n3_ := Aside0.mk (Kd.R_below (by (with_reducible repeat (first | apply rL | apply rN | apply rW)); exact HO220.out) hb); have n4_ := Aside0.mk (Kd.R_below (by (with_reducible repeat (first | apply rL | apply rN | apply rW)); exact HO229.out) hb); have n5_ := Aside0.mk (Kd.R_below (by (with_reducible repeat (first | apply rL | apply rN | apply rW)); exact HO232.out) hb); have n6_ := Aside0.mk (Kd.N_below (by (with_reducible repeat (first | apply Kd.N_alloc | apply Kd.N_drewN | apply Kd.N_drew)); exact HO235.out) hb); have n7_ := Aside0.mk (Kd.V_below (by (with_reducible repeat (first | apply Kd.V_alloc | apply Kd.V_drewN | apply Kd.V_drew)); exact HL238_0.out) hb); have n8_ := Aside0.mk (Kd.V_below (by (with_reducible repeat (first | apply Kd.V_alloc | apply Kd.V_drewN | apply Kd.V_drew)); exact HO244.out) hb); have n9_ := Aside0.mk (Kd.C_below (by repeat (first | (with_reducible exact HR238_0.out) | (with_reducible refine Kd.C_alloc ?_ _) | (with_reducible refine Kd.C_drewN ?_ _) | (with_reducible refine Kd.C_drew ?_) | exact HR238_0.out)) hb); have n10_ := Aside0.mk (below_step (by repeat (first | (with_reducible first | exact HB.out | apply bA | apply bN | apply bD) | exact HB.out)) hb); clear HO203; clear HO206; clear HO210; clear HO220; clear HO229; clear HO232; clear HO235; clear HL238_0; clear HO244; clear HR238_0; clear HB; have HO203 := n0_; have HO206 := n1_; have HO210 := n2_; have HO220 := n3_; have HO229 := n4_; have HO232 := n5_; have HO235 := n6_; have HL238_0 := n7_; have HO244 := n8_; have HR238_0 := n9_; have HB := n10_; clear n0_ n1_ n2_ n3_ n4_ n5_ n6_ n7_ n8_ n9_ n10_; (try clear hb); (try clear hb2); (try clear hk); (try clear hi)))
                  go_ret
                  exact ⟨by first | rfl | (simp [errW_none, errW_some] <;> rfl) | (simp [*, errW_none, errW_some] <;> rfl), by repeat (first | (with_reducible first | exact HB.out | apply bA | apply bN | apply bD) | exact HB.out)⟩
                 ·rw [if_neg c20] at H
                  exact absurd H (by simp)
                ·replace c19 := Bool.eq_false_iff.mpr c19
                 subst c19; have H1 : (some false) = some r := by rw [if_neg (show ¬ (false = true) by decide)] at H; exact H
                 clear H; have H := H1; clear H1; exact absurd (Option.some.inj H) (by rw [HR_.out]; decide)
               ·rw [if_neg c17] at H
                have c17b0 : (t236 == 15) = false := beq_eq_false_iff_ne.mpr c17
                have c17b1 : (t236 != 15) = true := bne_iff_ne.mpr c17
                exact absurd (Option.some.inj H) (by rw [HR_.out]; decide)
              ·rw [if_neg c16] at H
               have c16b0 : ((strOfNums (rd_L2 t233 0)).toList == ([111, 110, 101] : List UInt8)) = false := beq_eq_false_iff_ne.mpr c16
               have c16b1 : ((strOfNums (rd_L2 t233 0)).toList != ([111, 110, 101] : List UInt8)) = true := bne_iff_ne.mpr c16
               exact absurd (Option.some.inj H) (by rw [HR_.out]; decide)
             ·rw [if_neg c15] at H
              exact absurd H (by simp)
            ·rw [if_neg c14] at H
             have c14b0 : ((t233.length : Int) == 2) = false := beq_eq_false_iff_ne.mpr c14
             have c14b1 : ((t233.length : Int) != 2) = true := bne_iff_ne.mpr c14
             exact absurd (Option.some.inj H) (by rw [HR_.out]; decide)
           ·rw [if_neg c13] at H
            have c13b0 : ((rd t204 1) == 3) = false := beq_eq_false_iff_ne.mpr c13
            have c13b1 : ((rd t204 1) != 3) = true := bne_iff_ne.mpr c13
            exact absurd (Option.some.inj H) (by rw [HR_.out]; decide)
          ·rw [if_neg c12] at H
           exact absurd H (by simp)
         ·rw [if_neg c11] at H
          have c11b0 : ((t208.length : Int) == 6) = false := beq_eq_false_iff_ne.mpr c11
          have c11b1 : ((t208.length : Int) != 6) = true := bne_iff_ne.mpr c11
          exact absurd (Option.some.inj H) (by rw [HR_.out]; decide)
        ·rw [if_neg c10] at H
         have c10b0 : ((t204.length : Int) == 9) = false := beq_eq_false_iff_ne.mpr c10
         have c10b1 : ((t204.length : Int) != 9) = true := bne_iff_ne.mpr c10
         exact absurd (Option.some.inj H) (by rw [HR_.out]; decide)
       ·rw [if_neg c9] at H
        have c9b0 : (t211 == 0) = false := beq_eq_false_iff_ne.mpr c9
        have c9b1 : (t211 != 0) = true := bne_iff_ne.mpr c9
        exact absurd (Option.some.inj H) (by rw [HR_.out]; decide)
      ·rw [if_neg c8] at H
       have c8b0 : (t207 == 0) = false := beq_eq_false_iff_ne.mpr c8
       have c8b1 : (t207 != 0) = true := bne_iff_ne.mpr c8
       exact absurd (Option.some.inj H) (by rw [HR_.out]; decide)
     ·rw [if_neg c6] at H
      exact absurd H (by simp)
    ·rw [if_neg c5] at H
     exact absurd H (by simp)
   ·rw [if_neg c4] at H
    exact absurd H (by simp)
  ·rw [if_neg c3] at H
   exact absurd H (by simp)

/-! ### wristbandref18_Same: function 37 -/
def wristbandref18_Same.l0 : Nat → List (List Int) → List (List Int) → Int → Option (Bool)
  | 0, _, _, _ => none
  | k + 1, x0, x1, x5 => if x5 < (x0.length : Int) then (if 0 ≤ x5 then (if x5 < (x1.length : Int) then (if (strOfNums (rd_L2 x0 x5)).toList = (strOfNums (rd_L2 x1 x5)).toList then (wristbandref18_Same.l0 k x0 x1 (wrap64 (x5 + 1))) else (some false)) else (none)) else (none)) else (some true)
def wristbandref18_Same.f (k : Nat) (l0 : List (List Int)) (l1 : List (List Int)) : Option (Bool) := if (l0.length : Int) = (l1.length : Int) then (wristbandref18_Same.l0 k l0 l1 0) else (some false)
theorem wristbandref18_Same.mono_l : ∀ k, (∀ y0 y1 y2, LeO (wristbandref18_Same.l0 k y0 y1 y2) (wristbandref18_Same.l0 (k + 1) y0 y1 y2))
  | 0 => fun _ _ _ r h => by simp [wristbandref18_Same.l0] at h
  | k + 1 => by
   have ih0 := wristbandref18_Same.mono_l k
   ·intro y0 y1 y2
    unfold wristbandref18_Same.l0
    repeat' first
    | (with_reducible exact ih0 _ _ _)
    | (with_reducible exact LeO.refl _)
    | (with_reducible exact LeO.none _)
    | (with_reducible refine LeO.ite ?_ ?_)
    | (with_reducible refine LeO.bind ?_ (fun _ => ?_))
    | exact ih0 _ _ _
    | exact LeO.none _
    | refine LeO.ite ?_ ?_
    | refine LeO.bind ?_ (fun _ => ?_)
theorem wristbandref18_Same.mono : ∀ a0 a1 k, LeO (wristbandref18_Same.f k a0 a1) (wristbandref18_Same.f (k + 1) a0 a1) := by
  intro a0 a1 k; have ih0 := wristbandref18_Same.mono_l k
  unfold wristbandref18_Same.f
  repeat' first
    | (with_reducible exact ih0 _ _ _)
    | (with_reducible exact LeO.refl _)
    | (with_reducible exact LeO.none _)
    | (with_reducible refine LeO.ite ?_ ?_)
    | (with_reducible refine LeO.bind ?_ (fun _ => ?_))
    | exact ih0 _ _ _
    | exact LeO.none _
    | refine LeO.ite ?_ ?_
    | refine LeO.bind ?_ (fun _ => ?_)
set_option maxHeartbeats 8000000 in
set_option maxRecDepth 100000 in
theorem wristbandref18_Same.calls (k : Nat) (A0 : Option Addr) (c0 : Nat) (l0 : List (List Int)) (A1 : Option Addr) (c1 : Nat) (l1 : List (List Int)) (r : Bool) (w : World) (hr0 : Kd.C (Kd.slice 5 (Kd.int .u8)) w A0 l0.length l0) (hc0 : l0.length ≤ c0) (hr1 : Kd.C (Kd.slice 5 (Kd.int .u8)) w A1 l1.length l1) (hc1 : l1.length ≤ c1) (h : wristbandref18_Same.f k l0 l1 = some r) :
   Calls Tryd.prog 37 #[.slice A0 l0.length c0, .slice A1 l1.length c1] w fun e w' => e = .returned (.bool r) ∧ Drawn0 w w' := by
  have HR0 := Aside0.mk hr0; have HC0 := Aside0.mk hc0; clear hr0 hc0; have HR1 := Aside0.mk hr1; have HC1 := Aside0.mk hc1; clear hr1 hc1; have H : (if (l0.length : Int) = (l1.length : Int) then (wristbandref18_Same.l0 k l0 l1 0) else (some false)) = some r := h
  clear h; by_cases c3 : (l0.length : Int) = (l1.length : Int)
  ·rw [if_pos c3] at H
   have c3b0 : ((l0.length : Int) == (l1.length : Int)) = true := beq_iff_eq.mpr c3
   have c3b1 : ((l0.length : Int) != (l1.length : Int)) = false := bne_eq_false_iff_eq.mpr c3
   have c3b2 : (l0.length == l1.length) = true := by first | simpa using c3 | (simp at c3 ⊢; omega)
   clear c3; have H' := Aside0.mk H; clear H; go_enter Tryd.func37, Tryd.ntmps37
   go_wp2
   repeat (go_quiet (fail); try go_wp2)
   go_loopg [5] k (fun kq v5 w' => ∃ (x5_1 : Int), v5 = .int .i64 x5_1 ∧ Aside0 (wristbandref18_Same.l0 kq l0 l1 x5_1 = some r) ∧ Aside0 (kq ≤ k) ∧ Drawn0 w w')
   case atStart => exact ⟨(0), (by first | rfl | (simp; done) | (simp [*]; done)), H', ⟨Nat.le_refl _⟩, by repeat (first | exact Drawn0.refl _ | apply Drawn0.step)⟩
   case round =>
    clear H'; try clear c1
    try clear p2
    try clear c3
    try clear c3b0
    try clear c3b1
    try clear c3b2
    obtain ⟨x5_1, rfl, HA, HK1, ⟨m1, rfl⟩⟩ := hrel
    cases gk with
    | zero => exact absurd HA.out (by simp [wristbandref18_Same.l0])
    | succ k1 =>
     have H := HA.out
     clear HA; simp only [wristbandref18_Same.l0] at H
     by_cases c4 : x5_1 < (l0.length : Int)
     ·rw [if_pos c4] at H
      have c4b0 : decide (x5_1 < (l0.length : Int)) = true := decide_eq_true c4
      clear c4; by_cases c5 : 0 ≤ x5_1
      ·rw [if_pos c5] at H
       have c5b0 : decide (0 ≤ x5_1) = true := decide_eq_true c5
       clear c5; by_cases c6 : x5_1 < (l1.length : Int)
       ·rw [if_pos c6] at H
        have c6b0 : decide (x5_1 < (l1.length : Int)) = true := decide_eq_true c6
        clear c6; by_cases c7 : (strOfNums (rd_L2 l0 x5_1)).toList = (strOfNums (rd_L2 l1 x5_1)).toList
        ·rw [if_pos c7] at H
         have c7b0 : ((strOfNums (rd_L2 l0 x5_1)).toList == (strOfNums (rd_L2 l1 x5_1)).toList) = true := beq_iff_eq.mpr c7
         have c7b1 : ((strOfNums (rd_L2 l0 x5_1)).toList != (strOfNums (rd_L2 l1 x5_1)).toList) = false := bne_eq_false_iff_eq.mpr c7
         clear c7; have H' := Aside0.mk H; clear H; have p246 : 0 ≤ (x5_1 : Int) := of_decide_eq_true (by first | (with_reducible assumption) | assumption)
         have q246 : x5_1 < (l0.length : Int) := of_decide_eq_true (by first | (with_reducible assumption) | assumption)
         obtain ⟨ad246, A246_0, c246_0, e246, hx246_0, hl246_0, hi246_0⟩ := at_L2 HR0.out x5_1 p246 q246
         cases e246
         have HR246_0 := Aside0.mk hi246_0; have HC246_0 := Aside0.mk hl246_0; clear hi246_0 hl246_0; replace p246 := eq_true p246
         replace q246 := eq_true q246
         have hcv8 := Kd.C_string (P := Tryd.prog) (A := A246_0) (c := c246_0) Tryd.underlying24 Tryd.underlying5 Tryd.underlying9 HR246_0.out
         have hcv8q := fun n_ : Nat => Kd.C_string (P := Tryd.prog) (A := A246_0) (c := c246_0) Tryd.underlying24 Tryd.underlying5 Tryd.underlying9 (Kd.C_drewN HR246_0.out n_)
         have p247 : 0 ≤ (x5_1 : Int) := of_decide_eq_true (by first | (with_reducible assumption) | assumption)
         have q247 : x5_1 < (l1.length : Int) := of_decide_eq_true (by first | (with_reducible assumption) | assumption)
         obtain ⟨ad247, A247_0, c247_0, e247, hx247_0, hl247_0, hi247_0⟩ := at_L2 HR1.out x5_1 p247 q247
         cases e247
         have HR247_0 := Aside0.mk hi247_0; have HC247_0 := Aside0.mk hl247_0; clear hi247_0 hl247_0; replace p247 := eq_true p247
         replace q247 := eq_true q247
         have hcv9 := Kd.C_string (P := Tryd.prog) (A := A247_0) (c := c247_0) Tryd.underlying24 Tryd.underlying5 Tryd.underlying9 HR247_0.out
         have hcv9q := fun n_ : Nat => Kd.C_string (P := Tryd.prog) (A := A247_0) (c := c247_0) Tryd.underlying24 Tryd.underlying5 Tryd.underlying9 (Kd.C_drewN HR247_0.out n_)
         go_wp2
         repeat (go_quiet (fail); try go_wp2)
         go_roundg k1
         case measure => have := HK1.out; omega
         case rel => exact ⟨(wrap64 (x5_1 + 1)), (by first | rfl | (simp; done) | (simp [*]; done)), H', ⟨by have := HK1.out; omega⟩, by repeat (first | exact Drawn0.refl _ | apply Drawn0.step)⟩
        ·rw [if_neg c7] at H
         have c7b0 : ((strOfNums (rd_L2 l0 x5_1)).toList == (strOfNums (rd_L2 l1 x5_1)).toList) = false := beq_eq_false_iff_ne.mpr c7
         have c7b1 : ((strOfNums (rd_L2 l0 x5_1)).toList != (strOfNums (rd_L2 l1 x5_1)).toList) = true := bne_iff_ne.mpr c7
         obtain rfl := Option.some.inj H
         have p246 : 0 ≤ (x5_1 : Int) := of_decide_eq_true (by first | (with_reducible assumption) | assumption)
         have q246 : x5_1 < (l0.length : Int) := of_decide_eq_true (by first | (with_reducible assumption) | assumption)
         obtain ⟨ad246, A246_0, c246_0, e246, hx246_0, hl246_0, hi246_0⟩ := at_L2 HR0.out x5_1 p246 q246
         cases e246
         have HR246_0 := Aside0.mk hi246_0; have HC246_0 := Aside0.mk hl246_0; clear hi246_0 hl246_0; replace p246 := eq_true p246
         replace q246 := eq_true q246
         have hcv10 := Kd.C_string (P := Tryd.prog) (A := A246_0) (c := c246_0) Tryd.underlying24 Tryd.underlying5 Tryd.underlying9 HR246_0.out
         have hcv10q := fun n_ : Nat => Kd.C_string (P := Tryd.prog) (A := A246_0) (c := c246_0) Tryd.underlying24 Tryd.underlying5 Tryd.underlying9 (Kd.C_drewN HR246_0.out n_)
         have p247 : 0 ≤ (x5_1 : Int) := of_decide_eq_true (by first | (with_reducible assumption) | assumption)
         have q247 : x5_1 < (l1.length : Int) := of_decide_eq_true (by first | (with_reducible assumption) | assumption)
         obtain ⟨ad247, A247_0, c247_0, e247, hx247_0, hl247_0, hi247_0⟩ := at_L2 HR1.out x5_1 p247 q247
         cases e247
         have HR247_0 := Aside0.mk hi247_0; have HC247_0 := Aside0.mk hl247_0; clear hi247_0 hl247_0; replace p247 := eq_true p247
         replace q247 := eq_true q247
         have hcv11 := Kd.C_string (P := Tryd.prog) (A := A247_0) (c := c247_0) Tryd.underlying24 Tryd.underlying5 Tryd.underlying9 HR247_0.out
         have hcv11q := fun n_ : Nat => Kd.C_string (P := Tryd.prog) (A := A247_0) (c := c247_0) Tryd.underlying24 Tryd.underlying5 Tryd.underlying9 (Kd.C_drewN HR247_0.out n_)
         go_wp2
         repeat (go_quiet (fail); try go_wp2)
         go_ret
         exact ⟨by first | rfl | (simp; done) | (simp [*]; done), by repeat (first | exact Drawn0.refl _ | apply Drawn0.step)⟩
       ·rw [if_neg c6] at H
        exact absurd H (by simp)
      ·rw [if_neg c5] at H
       exact absurd H (by simp)
     ·rw [if_neg c4] at H
      have c4b0 : decide (x5_1 < (l0.length : Int)) = false := decide_eq_false c4
      clear c4; obtain rfl := Option.some.inj H
      go_wp2
      repeat (go_quiet (fail); try go_wp2)
      go_ret
      exact ⟨by first | rfl | (simp; done) | (simp [*]; done), by repeat (first | exact Drawn0.refl _ | apply Drawn0.step)⟩
  ·rw [if_neg c3] at H
   have c3b0 : ((l0.length : Int) == (l1.length : Int)) = false := beq_eq_false_iff_ne.mpr c3
   have c3b1 : ((l0.length : Int) != (l1.length : Int)) = true := bne_iff_ne.mpr c3
   have c3b2 : (l0.length == l1.length) = false := by first | simpa using c3 | (simp at c3 ⊢; omega)
   obtain rfl := Option.some.inj H
   go_enter Tryd.func37, Tryd.ntmps37
   go_wp2
   repeat (go_quiet (fail); try go_wp2)
   go_ret
   exact ⟨by first | rfl | (simp; done) | (simp [*]; done), by repeat (first | exact Drawn0.refl _ | apply Drawn0.step)⟩

/-! ### wristbandlaw18_SlipTorn: function 10 -/
mutual
def wristbandlaw18_SlipTorn.l0 : Nat → List (List Int) → Int → List Int → List Int → Int → Option (Bool)
  | 0, _, _, _, _, _ => none
  | k + 1, x0, x1, x5, x6, x7 => if x7 < (x0.length : Int) then (if 0 ≤ x7 then (if ((rd_L2 x0 x7).length : Int) > 300 then (some true) else ((slip_Put.f k (rd_L2 x0 x7)).bind fun bt251 => (if bt251.2 = 0 then (if (bt251.1.length : Int) = (wrap64 (((rd_L2 x0 x7).length : Int) + 6)) then (if x5.length + bt251.1.length < 140737488355328 then ((some (x5 ++ bt251.1 : List Int)).bind fun y256 => (if x6.length < 17592186044416 then (wristbandlaw18_SlipTorn.l0 k x0 x1 y256 (x6 ++ [(y256.length : Int)]) (wrap64 (x7 + 1))) else (none))) else (none)) else (some false)) else (some false)))) else (none)) else ((slip_Row.f k x5).bind fun bt262 => ((wristbandref18_Same.f k bt262.1 x0).bind fun t266 => (if t266 = true then (if bt262.2 = (x5.length : Int) then ((slip_Whole.f k x5).bind fun t267 => (wristbandlaw18_SlipTorn.j1 k x0 x1 x5 x6 (!t267))) else (wristbandlaw18_SlipTorn.j1 k x0 x1 x5 x6 true)) else (wristbandlaw18_SlipTorn.j1 k x0 x1 x5 x6 true))))
def wristbandlaw18_SlipTorn.j1 : Nat → List (List Int) → Int → List Int → List Int → Bool → Option (Bool)
  | 0, _, _, _, _, _ => none
  | k + 1, x0, x1, x5, x6, x80 => if x80 = true then (some false) else (if (wrap64 ((x5.length : Int) + 1)) = 0 then (none) else (wristbandlaw18_SlipTorn.l1 k x0 x5 x6 (Int.tmod (wrap64 (x1)) (wrap64 ((x5.length : Int) + 1))) 0 0))
def wristbandlaw18_SlipTorn.l1 : Nat → List (List Int) → List Int → List Int → Int → Int → Int → Option (Bool)
  | 0, _, _, _, _, _, _ => none
  | k + 1, x0, x5, x6, x12, x13, x14 => if x13 < (x6.length : Int) then (if 0 ≤ x13 then (if (rd x6 x13) ≤ x12 then (wristbandlaw18_SlipTorn.l1 k x0 x5 x6 x12 (wrap64 (x13 + 1)) (rd x6 x13)) else (if 0 ≤ x12 then (if x12 ≤ (x5.length : Int) then ((slip_Row.f k (x5.take (x12 : Int).toNat)).bind fun bt275 => (if x13 ≤ (x0.length : Int) then ((wristbandref18_Same.f k bt275.1 (x0.take (x13 : Int).toNat)).bind fun t283 => (if t283 = true then (some (bt275.2 == x14)) else (some false))) else (none))) else (none)) else (none))) else (none)) else (if 0 ≤ x12 then (if x12 ≤ (x5.length : Int) then ((slip_Row.f k (x5.take (x12 : Int).toNat)).bind fun bt289 => (if 0 ≤ x13 then (if x13 ≤ (x0.length : Int) then ((wristbandref18_Same.f k bt289.1 (x0.take (x13 : Int).toNat)).bind fun t297 => (if t297 = true then (some (bt289.2 == x14)) else (some false))) else (none)) else (none))) else (none)) else (none))
end
def wristbandlaw18_SlipTorn.f (k : Nat) (l0 : List (List Int)) (a1 : Int) : Option (Bool) := (wristbandlaw18_awake.f k).bind fun t248 => (if t248 = true then (if (l0.length : Int) > 12 then (some true) else (wristbandlaw18_SlipTorn.l0 k l0 a1 ([] : List Int) ([] : List Int) 0)) else (some false))
theorem wristbandlaw18_SlipTorn.mono_l : ∀ k, (∀ y0 y1 y2 y3 y4, LeO (wristbandlaw18_SlipTorn.l0 k y0 y1 y2 y3 y4) (wristbandlaw18_SlipTorn.l0 (k + 1) y0 y1 y2 y3 y4)) ∧ (∀ y0 y1 y2 y3 y4, LeO (wristbandlaw18_SlipTorn.j1 k y0 y1 y2 y3 y4) (wristbandlaw18_SlipTorn.j1 (k + 1) y0 y1 y2 y3 y4)) ∧ (∀ y0 y1 y2 y3 y4 y5, LeO (wristbandlaw18_SlipTorn.l1 k y0 y1 y2 y3 y4 y5) (wristbandlaw18_SlipTorn.l1 (k + 1) y0 y1 y2 y3 y4 y5))
  | 0 => ⟨fun _ _ _ _ _ r h => by simp [wristbandlaw18_SlipTorn.l0] at h, fun _ _ _ _ _ r h => by simp [wristbandlaw18_SlipTorn.j1] at h, fun _ _ _ _ _ _ r h => by simp [wristbandlaw18_SlipTorn.l1] at h⟩
  | k + 1 => by
   obtain ⟨ih0, ih1, ih2⟩ := wristbandlaw18_SlipTorn.mono_l k
   refine ⟨?_, ?_, ?_⟩
   ·intro y0 y1 y2 y3 y4
    unfold wristbandlaw18_SlipTorn.l0
    repeat' first
    | (with_reducible exact ih0 _ _ _ _ _)
    | (with_reducible exact ih1 _ _ _ _ _)
    | (with_reducible exact ih2 _ _ _ _ _ _)
    | (with_reducible exact slip_Put.mono _ _)
    | (with_reducible exact slip_Row.mono _ _)
    | (with_reducible exact slip_Whole.mono _ _)
    | (with_reducible exact wristbandlaw18_awake.mono _)
    | (with_reducible exact wristbandref18_Same.mono _ _ _)
    | (with_reducible exact LeO.refl _)
    | (with_reducible exact LeO.none _)
    | (with_reducible refine LeO.ite ?_ ?_)
    | (with_reducible refine LeO.bind ?_ (fun _ => ?_))
    | exact ih0 _ _ _ _ _
    | exact ih1 _ _ _ _ _
    | exact ih2 _ _ _ _ _ _
    | exact slip_Put.mono _ _
    | exact slip_Row.mono _ _
    | exact slip_Whole.mono _ _
    | exact wristbandlaw18_awake.mono _
    | exact wristbandref18_Same.mono _ _ _
    | exact LeO.none _
    | refine LeO.ite ?_ ?_
    | refine LeO.bind ?_ (fun _ => ?_)
   ·intro y0 y1 y2 y3 y4
    unfold wristbandlaw18_SlipTorn.j1
    repeat' first
    | (with_reducible exact ih0 _ _ _ _ _)
    | (with_reducible exact ih1 _ _ _ _ _)
    | (with_reducible exact ih2 _ _ _ _ _ _)
    | (with_reducible exact slip_Put.mono _ _)
    | (with_reducible exact slip_Row.mono _ _)
    | (with_reducible exact slip_Whole.mono _ _)
    | (with_reducible exact wristbandlaw18_awake.mono _)
    | (with_reducible exact wristbandref18_Same.mono _ _ _)
    | (with_reducible exact LeO.refl _)
    | (with_reducible exact LeO.none _)
    | (with_reducible refine LeO.ite ?_ ?_)
    | (with_reducible refine LeO.bind ?_ (fun _ => ?_))
    | exact ih0 _ _ _ _ _
    | exact ih1 _ _ _ _ _
    | exact ih2 _ _ _ _ _ _
    | exact slip_Put.mono _ _
    | exact slip_Row.mono _ _
    | exact slip_Whole.mono _ _
    | exact wristbandlaw18_awake.mono _
    | exact wristbandref18_Same.mono _ _ _
    | exact LeO.none _
    | refine LeO.ite ?_ ?_
    | refine LeO.bind ?_ (fun _ => ?_)
   ·intro y0 y1 y2 y3 y4 y5
    unfold wristbandlaw18_SlipTorn.l1
    repeat' first
    | (with_reducible exact ih0 _ _ _ _ _)
    | (with_reducible exact ih1 _ _ _ _ _)
    | (with_reducible exact ih2 _ _ _ _ _ _)
    | (with_reducible exact slip_Put.mono _ _)
    | (with_reducible exact slip_Row.mono _ _)
    | (with_reducible exact slip_Whole.mono _ _)
    | (with_reducible exact wristbandlaw18_awake.mono _)
    | (with_reducible exact wristbandref18_Same.mono _ _ _)
    | (with_reducible exact LeO.refl _)
    | (with_reducible exact LeO.none _)
    | (with_reducible refine LeO.ite ?_ ?_)
    | (with_reducible refine LeO.bind ?_ (fun _ => ?_))
    | exact ih0 _ _ _ _ _
    | exact ih1 _ _ _ _ _
    | exact ih2 _ _ _ _ _ _
    | exact slip_Put.mono _ _
    | exact slip_Row.mono _ _
    | exact slip_Whole.mono _ _
    | exact wristbandlaw18_awake.mono _
    | exact wristbandref18_Same.mono _ _ _
    | exact LeO.none _
    | refine LeO.ite ?_ ?_
    | refine LeO.bind ?_ (fun _ => ?_)
theorem wristbandlaw18_SlipTorn.mono : ∀ a0 a1 k, LeO (wristbandlaw18_SlipTorn.f k a0 a1) (wristbandlaw18_SlipTorn.f (k + 1) a0 a1) := by
  intro a0 a1 k; obtain ⟨ih0, ih1, ih2⟩ := wristbandlaw18_SlipTorn.mono_l k
  unfold wristbandlaw18_SlipTorn.f
  repeat' first
    | (with_reducible exact ih0 _ _ _ _ _)
    | (with_reducible exact ih1 _ _ _ _ _)
    | (with_reducible exact ih2 _ _ _ _ _ _)
    | (with_reducible exact slip_Put.mono _ _)
    | (with_reducible exact slip_Row.mono _ _)
    | (with_reducible exact slip_Whole.mono _ _)
    | (with_reducible exact wristbandlaw18_awake.mono _)
    | (with_reducible exact wristbandref18_Same.mono _ _ _)
    | (with_reducible exact LeO.refl _)
    | (with_reducible exact LeO.none _)
    | (with_reducible refine LeO.ite ?_ ?_)
    | (with_reducible refine LeO.bind ?_ (fun _ => ?_))
    | exact ih0 _ _ _ _ _
    | exact ih1 _ _ _ _ _
    | exact ih2 _ _ _ _ _ _
    | exact slip_Put.mono _ _
    | exact slip_Row.mono _ _
    | exact slip_Whole.mono _ _
    | exact wristbandlaw18_awake.mono _
    | exact wristbandref18_Same.mono _ _ _
    | exact LeO.none _
    | refine LeO.ite ?_ ?_
    | refine LeO.bind ?_ (fun _ => ?_)
set_option maxHeartbeats 8000000 in
set_option maxRecDepth 100000 in
theorem wristbandlaw18_SlipTorn.calls (k : Nat) (A0 : Option Addr) (c0 : Nat) (l0 : List (List Int)) (a1 : Int) (r : Bool) (w : World) (hr0 : Kd.C (Kd.slice 5 (Kd.int .u8)) w A0 l0.length l0) (hc0 : l0.length ≤ c0) (hL0_ : Kd.C (Kd.int .u32) w (some ⟨0, 0, none⟩) 64 shaK) (hL1_ : Kd.C (Kd.int .u32) w (some ⟨1, 0, none⟩) 8 shaF) (h : wristbandlaw18_SlipTorn.f k l0 a1 = some r) (hT_ : r = true) :
   Calls Tryd.prog 10 #[.slice A0 l0.length c0, .int .u16 a1] w fun e w' => e = .returned (.bool r) ∧ Below w.heap.size w w' := by
  have HR0 := Aside0.mk hr0; have HC0 := Aside0.mk hc0; clear hr0 hc0; have HRL0_ := Aside0.mk hL0_; have HRL1_ := Aside0.mk hL1_; clear hL0_ hL1_; have HB := Aside0.mk (Below.refl w.heap.size w); have HR_ := Aside0.mk hT_; clear hT_; have H : ((wristbandlaw18_awake.f k).bind fun t248 => (if t248 = true then (if (l0.length : Int) > 12 then (some true) else (wristbandlaw18_SlipTorn.l0 k l0 a1 ([] : List Int) ([] : List Int) 0)) else (some false))) = some r := h
  clear h; replace H := Option.bind_eq_some_iff.mp H
  obtain ⟨t248, A30, H⟩ := H
  replace H : (if t248 = true then (if (l0.length : Int) > 12 then (some true) else (wristbandlaw18_SlipTorn.l0 k l0 a1 ([] : List Int) ([] : List Int) 0)) else (some false)) = some r := H
  have A3 := Aside0.mk A30; clear A30; by_cases c4 : t248 = true
  ·subst c4
   have H1 : (if (l0.length : Int) > 12 then (some true) else (wristbandlaw18_SlipTorn.l0 k l0 a1 ([] : List Int) ([] : List Int) 0)) = some r := by rw [if_pos rfl] at H; exact H
   clear H; have H := H1; clear H1; by_cases c5 : (l0.length : Int) > 12
   ·rw [if_pos c5] at H
    have c5b0 : decide (12 < (l0.length : Int)) = true := decide_eq_true c5
    have c5b1 : decide (12 < l0.length) = true := decide_eq_true (by omega)
    clear c5; obtain rfl := Option.some.inj H
    go_enter Tryd.func10, Tryd.ntmps10
    go_wp2_with (first | ((with_reducible refine gate_callee (f := 32) rfl ?_); refine goesL_ (some 15) rfl rfl Tryd.func32 (by kernel_rfl) rfl #[] rfl (by (try simp only [mT, mC, mN]); first | done | rfl | (simp only [List.length_drop, List.length_take]; rfl)) ?_; (with_reducible refine (wristbandlaw18_awake.calls k  true _ ?side1 ?side2 A3.out).mono ?_); (case side1 => repeat (first | exact HRL0_.out | (with_reducible refine Kd.C_alloc ?_ _) | (with_reducible refine Kd.C_drewN ?_ _) | (with_reducible refine Kd.C_drew ?_))); (case side2 => repeat (first | exact HRL1_.out | (with_reducible refine Kd.C_alloc ?_ _) | (with_reducible refine Kd.C_drewN ?_ _) | (with_reducible refine Kd.C_drew ?_))); rintro e w6 ⟨rfl, hb⟩; refine ⟨_, rfl, ?_⟩; have n0_ := Aside0.mk (below_step (by repeat (first | (with_reducible first | exact HB.out | apply bA | apply bN | apply bD) | exact HB.out)) hb); clear HB; have HB := n0_; clear n0_; (try clear hb); (try clear hb2); (try clear hk); (try clear hi)))
    go_ret
    exact ⟨by first | rfl | (simp [errW_none, errW_some] <;> rfl) | (simp [*, errW_none, errW_some] <;> rfl), by repeat (first | (with_reducible first | exact HB.out | apply bA | apply bN | apply bD) | exact HB.out)⟩
   ·rw [if_neg c5] at H
    have c5b0 : decide (12 < (l0.length : Int)) = false := decide_eq_false c5
    have c5b1 : decide (12 < l0.length) = false := decide_eq_false (by omega)
    clear c5; have H' := Aside0.mk H; clear H; go_enter Tryd.func10, Tryd.ntmps10
    go_wp2_with (first | ((with_reducible refine gate_callee (f := 32) rfl ?_); refine goesL_ (some 15) rfl rfl Tryd.func32 (by kernel_rfl) rfl #[] rfl (by (try simp only [mT, mC, mN]); first | done | rfl | (simp only [List.length_drop, List.length_take]; rfl)) ?_; (with_reducible refine (wristbandlaw18_awake.calls k  true _ ?side1 ?side2 A3.out).mono ?_); (case side1 => repeat (first | exact HRL0_.out | (with_reducible refine Kd.C_alloc ?_ _) | (with_reducible refine Kd.C_drewN ?_ _) | (with_reducible refine Kd.C_drew ?_))); (case side2 => repeat (first | exact HRL1_.out | (with_reducible refine Kd.C_alloc ?_ _) | (with_reducible refine Kd.C_drewN ?_ _) | (with_reducible refine Kd.C_drew ?_))); rintro e w7 ⟨rfl, hb⟩; refine ⟨_, rfl, ?_⟩; have n0_ := Aside0.mk (below_step (by repeat (first | (with_reducible first | exact HB.out | apply bA | apply bN | apply bD) | exact HB.out)) hb); clear HB; have HB := n0_; clear n0_; (try clear hb); (try clear hb2); (try clear hk); (try clear hi)))
    go_loopg [5, 6, 7] k (fun kq v5 v6 v7 w' => ∃ (x5_1 : List Int) (x6_1 : List Int) (x7_1 : Int), v7 = .int .i64 x7_1 ∧ Aside0 (wristbandlaw18_SlipTorn.l0 kq l0 a1 x5_1 x6_1 x7_1 = some r) ∧ Aside0 (kq ≤ k) ∧ Aside0 (Kd.R (Kd.int .u8) 5 w' w.heap.size (fun _ => True) v5 x5_1) ∧ Aside0 (Kd.R (Kd.int .i64) 3 w' w.heap.size (fun _ => True) v6 x6_1) ∧ Aside0 (Below w.heap.size w w'))
    case atStart => exact ⟨(([] : List Int)), (([] : List Int)), (0), (by first | rfl | (simp; done) | (simp [*]; done)), H', ⟨Nat.le_refl _⟩, ⟨by first | exact Kd.R_nil _ _ _ _ _ | exact Kd.N_nil _ _ _ _ _ | exact Kd.V_nil _ _ _ _ _ | exact Kd.Q_nil _ _ _ _ _ | exact Kd.S_nil _ _ _ _ _⟩, ⟨by first | exact Kd.R_nil _ _ _ _ _ | exact Kd.N_nil _ _ _ _ _ | exact Kd.V_nil _ _ _ _ _ | exact Kd.Q_nil _ _ _ _ _ | exact Kd.S_nil _ _ _ _ _⟩, ⟨by repeat (first | (with_reducible first | exact HB.out | apply bA | apply bN | apply bD) | exact HB.out)⟩⟩
    case round =>
     clear H'; try clear c1
     try clear p2
     try clear c3
     try clear c4
     try clear c5
     try clear c5b0
     try clear c5b1
     obtain ⟨x5_1, x6_1, x7_1, rfl, HA, HK1, HO_5, HO_6, HB⟩ := hrel
     cases gk with
     | zero => exact absurd HA.out (by simp [wristbandlaw18_SlipTorn.l0])
     | succ k1 =>
      have H := HA.out
      clear HA; simp only [wristbandlaw18_SlipTorn.l0] at H
      by_cases c8 : x7_1 < (l0.length : Int)
      ·rw [if_pos c8] at H
       have c8b0 : decide (x7_1 < (l0.length : Int)) = true := decide_eq_true c8
       clear c8; by_cases c9 : 0 ≤ x7_1
       ·rw [if_pos c9] at H
        have c9b0 : decide (0 ≤ x7_1) = true := decide_eq_true c9
        clear c9; by_cases c10 : ((rd_L2 l0 x7_1).length : Int) > 300
        ·rw [if_pos c10] at H
         have c10b0 : decide (300 < ((rd_L2 l0 x7_1).length : Int)) = true := decide_eq_true c10
         have c10b1 : decide (300 < (rd_L2 l0 x7_1).length) = true := decide_eq_true (by omega)
         clear c10; obtain rfl := Option.some.inj H
         have p249 : 0 ≤ (x7_1 : Int) := of_decide_eq_true (by first | (with_reducible assumption) | assumption)
         have q249 : x7_1 < (l0.length : Int) := of_decide_eq_true (by first | (with_reducible assumption) | assumption)
         obtain ⟨ad249, A249_0, c249_0, e249, hx249_0, hl249_0, hi249_0⟩ := at_L2 HR0.out x7_1 p249 q249
         cases e249
         replace hx249_0 := (HB.out.cell (World.block_lt_of_cell? w _ hx249_0)).trans hx249_0
         have HR249_0 := Aside0.mk hi249_0; have HC249_0 := Aside0.mk hl249_0; clear hi249_0 hl249_0; replace p249 := eq_true p249
         replace q249 := eq_true q249
         go_wp2
         go_ret
         exact ⟨by first | rfl | (simp [errW_none, errW_some] <;> rfl) | (simp [*, errW_none, errW_some] <;> rfl), by repeat (first | (with_reducible first | exact HB.out | apply bA | apply bN | apply bD) | exact HB.out)⟩
        ·rw [if_neg c10] at H
         have c10b0 : decide (300 < ((rd_L2 l0 x7_1).length : Int)) = false := decide_eq_false c10
         have c10b1 : decide (300 < (rd_L2 l0 x7_1).length) = false := decide_eq_false (by omega)
         clear c10; replace H := Option.bind_eq_some_iff.mp H
         obtain ⟨⟨t251, t254⟩, A110, H⟩ := H
         replace H : (if t254 = 0 then (if (t251.length : Int) = (wrap64 (((rd_L2 l0 x7_1).length : Int) + 6)) then (if x5_1.length + t251.length < 140737488355328 then ((some (x5_1 ++ t251 : List Int)).bind fun y256 => (if x6_1.length < 17592186044416 then (wristbandlaw18_SlipTorn.l0 k1 l0 a1 y256 (x6_1 ++ [(y256.length : Int)]) (wrap64 (x7_1 + 1))) else (none))) else (none)) else (some false)) else (some false)) = some r := H
         have A11 := Aside0.mk A110; clear A110; by_cases c12 : t254 = 0
         ·rw [if_pos c12] at H
          have c12b0 : (t254 == 0) = true := beq_iff_eq.mpr c12
          have c12b1 : (t254 != 0) = false := bne_eq_false_iff_eq.mpr c12
          clear c12; by_cases c13 : (t251.length : Int) = (wrap64 (((rd_L2 l0 x7_1).length : Int) + 6))
          ·rw [if_pos c13] at H
           have c13b0 : ((t251.length : Int) == (wrap64 (((rd_L2 l0 x7_1).length : Int) + 6))) = true := beq_iff_eq.mpr c13
           have c13b1 : ((t251.length : Int) != (wrap64 (((rd_L2 l0 x7_1).length : Int) + 6))) = false := bne_eq_false_iff_eq.mpr c13
           clear c13; by_cases c14 : x5_1.length + t251.length < 140737488355328
           ·rw [if_pos c14] at H
            have LMc14 := Aside0.mk c14; clear c14; obtain ⟨y256, hy256⟩ : ∃ y_ : List Int, y_ = (x5_1 ++ t251) := ⟨_, rfl⟩
            replace H : (if x6_1.length < 17592186044416 then (wristbandlaw18_SlipTorn.l0 k1 l0 a1 y256 (x6_1 ++ [(y256.length : Int)]) (wrap64 (x7_1 + 1))) else (none)) = some r := by first | (rw [hy256]; with_reducible exact H) | (have H2_ := (Option.bind_some _ _).symm.trans H; rw [hy256]; with_reducible exact H2_) | (have H2_ := (Option.bind_some _ _).symm.trans H; with_reducible exact H2_) | with_reducible exact H | (rw [hy256]; exact H) | exact H
            have Ny256 := Aside0.mk hy256; clear hy256; by_cases c15 : x6_1.length < 17592186044416
            ·rw [if_pos c15] at H
             have LMc15 := Aside0.mk c15; clear c15; obtain ⟨y259, hy259⟩ : ∃ y_ : List Int, y_ = (x6_1 ++ [(y256.length : Int)]) := ⟨_, rfl⟩
             replace H : (wristbandlaw18_SlipTorn.l0 k1 l0 a1 y256 y259 (wrap64 (x7_1 + 1))) = some r := by first | (rw [hy259]; with_reducible exact H) | (have H2_ := (Option.bind_some _ _).symm.trans H; rw [hy259]; with_reducible exact H2_) | (have H2_ := (Option.bind_some _ _).symm.trans H; with_reducible exact H2_) | with_reducible exact H | (rw [hy259]; exact H) | exact H
             have Ny259 := Aside0.mk hy259; clear hy259; have H' := Aside0.mk H; clear H; have p249 : 0 ≤ (x7_1 : Int) := of_decide_eq_true (by first | (with_reducible assumption) | assumption)
             have q249 : x7_1 < (l0.length : Int) := of_decide_eq_true (by first | (with_reducible assumption) | assumption)
             obtain ⟨ad249, A249_0, c249_0, e249, hx249_0, hl249_0, hi249_0⟩ := at_L2 HR0.out x7_1 p249 q249
             cases e249
             replace hx249_0 := (HB.out.cell (World.block_lt_of_cell? w _ hx249_0)).trans hx249_0
             have HR249_0 := Aside0.mk hi249_0; have HC249_0 := Aside0.mk hl249_0; clear hi249_0 hl249_0; replace p249 := eq_true p249
             replace q249 := eq_true q249
             have p250 : 0 ≤ (x7_1 : Int) := of_decide_eq_true (by first | (with_reducible assumption) | assumption)
             have q250 : x7_1 < (l0.length : Int) := of_decide_eq_true (by first | (with_reducible assumption) | assumption)
             obtain ⟨ad250, A250_0, c250_0, e250, hx250_0, hl250_0, hi250_0⟩ := at_L2 HR0.out x7_1 p250 q250
             obtain rfl : ad249 = ad250 := (by injection e250)
             replace hx250_0 := (HB.out.cell (World.block_lt_of_cell? w _ hx250_0)).trans hx250_0
             have HR250_0 := Aside0.mk hi250_0; have HC250_0 := Aside0.mk hl250_0; clear hi250_0 hl250_0; replace p250 := eq_true p250
             replace q250 := eq_true q250
             have ea_ := Option.some.inj (hx249_0.symm.trans hx250_0)
             injection ea_ with ea_ en_ ec_
             subst ea_; subst ec_
             clear en_; go_wp2_with (first | ((with_reducible refine gate_callee (f := 33) rfl ?_); refine goesL_ (some 37) rfl rfl Tryd.func33 (by kernel_rfl) rfl #[.slice A249_0 (rd_L2 l0 x7_1).length c249_0] rfl (by (try simp only [mT, mC, mN]); first | done | rfl | (simp only [List.length_drop, List.length_take]; rfl)) ?_; (with_reducible refine (slip_Put.calls k1 (fun k_ => k_ < w.heap.size) _ _ (rd_L2 l0 x7_1) t251 t254 _ ?side1 ?side2 ?side3 A11.out).mono ?_); (case side1 => exact Kd.V_mk HC250_0.out (Kd.F_below (Kd.C_F (Kd.heap_int .u8) HR250_0.out) (by repeat (first | (with_reducible first | exact HB.out | apply bA | apply bN | apply bD) | exact HB.out)))); (case side2 => repeat (first | exact (Kd.C_below HRL0_.out HB.out) | (with_reducible refine Kd.C_alloc ?_ _) | (with_reducible refine Kd.C_drewN ?_ _) | (with_reducible refine Kd.C_drew ?_))); (case side3 => repeat (first | exact (Kd.C_below HRL1_.out HB.out) | (with_reducible refine Kd.C_alloc ?_ _) | (with_reducible refine Kd.C_drewN ?_ _) | (with_reducible refine Kd.C_drew ?_))); rintro e w16 ⟨v252, rfl, ho0, hb⟩; refine ⟨_, rfl, ?_⟩; have n0_ := Aside0.mk (Kd.R_elder' (by (with_reducible repeat (first | apply rL | apply rN | apply rW)); exact HO_5.out) (Kd.R_base ho0) hb); have n1_ := Aside0.mk (Kd.R_below (by (with_reducible repeat (first | apply rL | apply rN | apply rW)); exact HO_6.out) hb); have n2_ := Aside0.mk (Kd.R_lower (Kd.R_new' (Kd.R_mono (ok' := fun k_ => True) ho0 (fun _ hk_ => trivial)) (Kd.R_lt (by (with_reducible repeat (first | apply rL | apply rN | apply rW)); exact HO_5.out))) (below_size (by repeat (first | (with_reducible first | exact HB.out | apply bA | apply bN | apply bD) | exact HB.out)))); have n3_ := Aside0.mk (below_step (by repeat (first | (with_reducible first | exact HB.out | apply bA | apply bN | apply bD) | exact HB.out)) hb); clear HO_5; clear HO_6; clear HB; have HO_5 := n0_; have HO_6 := n1_; have HO253 := n2_; have HB := n3_; clear n0_ n1_ n2_ n3_; (try clear hb); (try clear hb2); (try clear hk); (try clear hi); (try clear ho0); obtain ⟨Ao17, co17, eo17⟩ := Kd.R_slice HO253.out; subst eo17; have p255 : 0 ≤ (x7_1 : Int) := of_decide_eq_true (by first | (with_reducible assumption) | assumption); have q255 : x7_1 < (l0.length : Int) := of_decide_eq_true (by first | (with_reducible assumption) | assumption); obtain ⟨ad255, A255_0, c255_0, e255, hx255_0, hl255_0, hi255_0⟩ := at_L2 HR0.out x7_1 p255 q255; obtain rfl : ad249 = ad255 := (by injection e255); replace hx255_0 := (HB.out.cell (World.block_lt_of_cell? w _ hx255_0)).trans hx255_0; have HR255_0 := Aside0.mk hi255_0; have HC255_0 := Aside0.mk hl255_0; clear hi255_0 hl255_0; replace p255 := eq_true p255; replace q255 := eq_true q255) | ((with_reducible refine gate_builtin (b := .append) (xs := #[.tmp 53, .tmp 54]) rfl ?_); (try (refine gate_guard (by rfl) ?_; dsimp only)); at_builtin; refine Kd.R_append_rows (Kd.int .u8) (w0 := w) w.heap.size rfl (.tmp 53) (.tmp 54) 24 5 (.int .u8 0) 1 rfl Tryd.underlying24 info5 rfl (by decide) (by omega) u5 x5_1 t251 _ _ _ (fun k_ => some k_ ≠ (.slice Ao17 t251.length co17 : Value).ownBlock) (fun _ => False) rfl rfl ?aO ?aR (fun _ _ h => h) (fun _ h => h.elim) ?aF ?aB ?aS ?aL ?_; (case aR => repeat (first | exact (Kd.R_reads' HO253.out).2.2 | (with_reducible refine Kd.C_alloc ?_ _) | (with_reducible refine Kd.C_drewN ?_ _) | (with_reducible refine Kd.C_drew ?_))); (case aB => exact (by repeat (first | (with_reducible first | exact HB.out | apply bA | apply bN | apply bD) | exact HB.out))); (case aF => exact (fun k_ hk => Kd.fresh' (Kd.R_lt (by (with_reducible repeat (first | apply rL | apply rN | apply rW)); exact HO253.out)) k_ hk)); (case aO => exact (by (with_reducible repeat (first | apply rL | apply rN | apply rW)); exact Kd.R_mono HO_5.out (fun _ hk => hk.2))); (case aS => exact (below_size (by repeat (first | (with_reducible first | exact HB.out | apply bA | apply bN | apply bD) | exact HB.out)))); (case aL => have := LMc14.out; omega); intro v257 w18 ho hb hg hat; rw [← Ny256.out] at ho; have n0_ := Aside0.mk (Kd.R_over' (by (with_reducible repeat (first | apply rL | apply rN | apply rW)); exact HO_6.out) (Kd.R_typed (by (with_reducible repeat (first | apply rL | apply rN | apply rW)); exact HO_5.out)) (by decide) hg); have n1_ := Aside0.mk (Kd.R_after (ok := (fun _ => True)) (by (with_reducible repeat (first | apply rL | apply rN | apply rW)); exact HO253.out) hg hat); have n2_ := Aside0.mk (hb); have n3_ := Aside0.mk (ho); clear HO_6; clear HO253; clear HB; clear HO_5; have HO_6 := n0_; have HO253 := n1_; have HB := n2_; have HO258 := n3_; clear n0_ n1_ n2_ n3_; clear ho hb hg hat; obtain ⟨Ao19, co19, eo19⟩ := Kd.R_slice HO258.out; subst eo19) | ((with_reducible refine gate_builtin (b := .append) (xs := #[.tmp 56, .tmp 59]) rfl ?_); (try (refine gate_guard (by rfl) ?_; dsimp only)); at_builtin; refine Kd.R_append (Kd.int .i64) (w0 := w) w.heap.size rfl (.tmp 56) (.tmp 59) 58 3 (.int .i64 0) 8 rfl Tryd.underlying58 info3 rfl (by decide) (by omega) u6 x6_1 (y256.length : Int) [.int .i64 (y256.length : Int)] (fun _ => True) (fun _ => False) rfl rfl ?aP (fun _ hk => hk.elim) ?aF ?aO ?aB ?aS ?aL ?_; (case aP => exact rfl); (case aB => exact (by repeat (first | (with_reducible first | exact HB.out | apply bA | apply bN | apply bD) | exact HB.out))); (case aF => exact (fun _ _ => trivial)); (case aO => exact (by (with_reducible repeat (first | apply rL | apply rN | apply rW)); exact HO_6.out)); (case aS => exact (below_size (by repeat (first | (with_reducible first | exact HB.out | apply bA | apply bN | apply bD) | exact HB.out)))); (case aL => have := LMc15.out; omega); intro v260 w20 ho hb hg hat; rw [← Ny259.out] at ho; have n0_ := Aside0.mk (Kd.R_over' (by (with_reducible repeat (first | apply rL | apply rN | apply rW)); exact HO253.out) (Kd.R_typed (by (with_reducible repeat (first | apply rL | apply rN | apply rW)); exact HO_6.out)) (by decide) hg); have n1_ := Aside0.mk (Kd.R_over' (by (with_reducible repeat (first | apply rL | apply rN | apply rW)); exact HO258.out) (Kd.R_typed (by (with_reducible repeat (first | apply rL | apply rN | apply rW)); exact HO_6.out)) (by decide) hg); have n2_ := Aside0.mk (hb); have n3_ := Aside0.mk (ho); clear HO253; clear HO258; clear HB; clear HO_6; have HO253 := n0_; have HO258 := n1_; have HB := n2_; have HO261 := n3_; clear n0_ n1_ n2_ n3_; clear ho hb hg hat))
             go_roundg k1
             case measure => have := HK1.out; omega
             case rel => exact ⟨(y256), (y259), (wrap64 (x7_1 + 1)), (by first | rfl | (simp; done) | (simp [*]; done)), H', ⟨by have := HK1.out; omega⟩, ⟨by (with_reducible repeat (first | apply rL | apply rN | apply rW)); exact Kd.R_mono HO258.out (fun _ hk => trivial)⟩, ⟨by (with_reducible repeat (first | apply rL | apply rN | apply rW)); exact HO261.out⟩, ⟨by repeat (first | (with_reducible first | exact HB.out | apply bA | apply bN | apply bD) | exact HB.out)⟩⟩
            ·rw [if_neg c15] at H
             exact absurd H (by simp)
           ·rw [if_neg c14] at H
            exact absurd H (by simp)
          ·rw [if_neg c13] at H
           have c13b0 : ((t251.length : Int) == (wrap64 (((rd_L2 l0 x7_1).length : Int) + 6))) = false := beq_eq_false_iff_ne.mpr c13
           have c13b1 : ((t251.length : Int) != (wrap64 (((rd_L2 l0 x7_1).length : Int) + 6))) = true := bne_iff_ne.mpr c13
           exact absurd (Option.some.inj H) (by rw [HR_.out]; decide)
         ·rw [if_neg c12] at H
          have c12b0 : (t254 == 0) = false := beq_eq_false_iff_ne.mpr c12
          have c12b1 : (t254 != 0) = true := bne_iff_ne.mpr c12
          exact absurd (Option.some.inj H) (by rw [HR_.out]; decide)
       ·rw [if_neg c9] at H
        exact absurd H (by simp)
      ·rw [if_neg c8] at H
       have c8b0 : decide (x7_1 < (l0.length : Int)) = false := decide_eq_false c8
       clear c8; replace H := Option.bind_eq_some_iff.mp H
       obtain ⟨⟨t262, t265⟩, A210, H⟩ := H
       replace H : ((wristbandref18_Same.f k1 t262 l0).bind fun t266 => (if t266 = true then (if t265 = (x5_1.length : Int) then ((slip_Whole.f k1 x5_1).bind fun t267 => (wristbandlaw18_SlipTorn.j1 k1 l0 a1 x5_1 x6_1 (!t267))) else (wristbandlaw18_SlipTorn.j1 k1 l0 a1 x5_1 x6_1 true)) else (wristbandlaw18_SlipTorn.j1 k1 l0 a1 x5_1 x6_1 true))) = some r := H
       have A21 := Aside0.mk A210; clear A210; have HC22 := Aside0.mk H; clear H; obtain ⟨Ao23, co23, eo23⟩ := Kd.R_slice HO_5.out
       subst eo23; go_upto_region 18 with (first | ((with_reducible refine gate_callee (f := 34) rfl ?_); refine goesL_ (some 63) rfl rfl Tryd.func34 (by kernel_rfl) rfl #[.slice Ao23 x5_1.length co23] rfl (by (try simp only [mT, mC, mN]); first | done | rfl | (simp only [List.length_drop, List.length_take]; rfl)) ?_; (with_reducible refine (slip_Row.calls k1 (fun k_ => some k_ = (.slice Ao23 x5_1.length co23 : Value).ownBlock) _ _ x5_1 t262 t265 _ ?side1 ?side2 ?side3 A21.out).mono ?_); (case side1 => exact Kd.R_V (Kd.R_tight rfl (Kd.R_apart' (HO_5.out) (Kd.R_typed HO_6.out) (by decide)))); (case side2 => repeat (first | exact (Kd.C_below HRL0_.out HB.out) | (with_reducible refine Kd.C_alloc ?_ _) | (with_reducible refine Kd.C_drewN ?_ _) | (with_reducible refine Kd.C_drew ?_))); (case side3 => repeat (first | exact (Kd.C_below HRL1_.out HB.out) | (with_reducible refine Kd.C_alloc ?_ _) | (with_reducible refine Kd.C_drewN ?_ _) | (with_reducible refine Kd.C_drew ?_))); rintro e w24 ⟨v263, rfl, ho0, hb⟩; refine ⟨_, rfl, ?_⟩; have n0_ := Aside0.mk (Kd.R_below (by (with_reducible repeat (first | apply rL | apply rN | apply rW)); exact HO_5.out) hb); have n1_ := Aside0.mk (Kd.R_below (by (with_reducible repeat (first | apply rL | apply rN | apply rW)); exact HO_6.out) hb); have n2_ := Aside0.mk (Kd.N_lower (Kd.N_mono (ok' := fun k_ => some k_ ≠ (u6 : Value).ownBlock) ho0 (fun k_ hk_ => Or.elim hk_ (fun hs_ => ((Kd.R_apart' (HO_5.out) (Kd.R_typed HO_6.out) (by decide)).1 k_ hs_.symm).2) (fun hn_ => (Kd.fresh' (Kd.R_lt (by (with_reducible repeat (first | apply rL | apply rN | apply rW)); exact HO_6.out)) k_ hn_)))) (below_size (by repeat (first | (with_reducible first | exact HB.out | apply bA | apply bN | apply bD) | exact HB.out)))); have n3_ := Aside0.mk (below_step (by repeat (first | (with_reducible first | exact HB.out | apply bA | apply bN | apply bD) | exact HB.out)) hb); clear HO_5; clear HO_6; clear HB; have HO_5 := n0_; have HO_6 := n1_; have HO264 := n2_; have HB := n3_; clear n0_ n1_ n2_ n3_; (try clear hb); (try clear hb2); (try clear hk); (try clear hi); (try clear ho0)))
       (try simp only [Act.put, sA, s0, sS])
       go_cut [80] (fun v80 wc => ∃ (kq : Nat) (x80_21 : Bool), v80 = .bool x80_21 ∧ Aside0 (wristbandlaw18_SlipTorn.j1 kq l0 a1 x5_1 x6_1 x80_21 = some r) ∧ Aside0 (kq ≤ k1) ∧ Aside0 (Kd.R (Kd.int .u8) 5 wc w.heap.size (fun _ => True) (.slice Ao23 x5_1.length co23) x5_1) ∧ Aside0 (Kd.R (Kd.int .i64) 3 wc w.heap.size (fun _ => True) u6 x6_1) ∧ Aside0 (Below w.heap.size w wc))
       case first =>
        have H := HC22.out
        clear HC22; replace H := Option.bind_eq_some_iff.mp H
        obtain ⟨t266, A250, H⟩ := H
        replace H : (if t266 = true then (if t265 = (x5_1.length : Int) then ((slip_Whole.f k1 x5_1).bind fun t267 => (wristbandlaw18_SlipTorn.j1 k1 l0 a1 x5_1 x6_1 (!t267))) else (wristbandlaw18_SlipTorn.j1 k1 l0 a1 x5_1 x6_1 true)) else (wristbandlaw18_SlipTorn.j1 k1 l0 a1 x5_1 x6_1 true)) = some r := H
        have A25 := Aside0.mk A250; clear A250; by_cases c26 : t266 = true
        ·subst c26
         have H1 : (if t265 = (x5_1.length : Int) then ((slip_Whole.f k1 x5_1).bind fun t267 => (wristbandlaw18_SlipTorn.j1 k1 l0 a1 x5_1 x6_1 (!t267))) else (wristbandlaw18_SlipTorn.j1 k1 l0 a1 x5_1 x6_1 true)) = some r := by rw [if_pos rfl] at H; exact H
         clear H; have H := H1; clear H1; by_cases c27 : t265 = (x5_1.length : Int)
         ·rw [if_pos c27] at H
          have c27b0 : (t265 == (x5_1.length : Int)) = true := beq_iff_eq.mpr c27
          have c27b1 : (t265 != (x5_1.length : Int)) = false := bne_eq_false_iff_eq.mpr c27
          clear c27; (first | rw [c27b0] | (simp only [i64_w, i32_w]; rw [c27b0]) | skip); replace H := Option.bind_eq_some_iff.mp H
          obtain ⟨t267, A280, H⟩ := H
          replace H : (wristbandlaw18_SlipTorn.j1 k1 l0 a1 x5_1 x6_1 (!t267)) = some r := H
          have A28 := Aside0.mk A280; clear A280; have H' := Aside0.mk H; clear H; obtain ⟨Ao29, co29, eo29⟩ := Kd.N_slice HO264.out
          subst eo29; go_wp2_with (first | ((with_reducible refine gate_callee (f := 37) rfl ?_); refine goesL_ (some 68) rfl rfl Tryd.func37 (by kernel_rfl) rfl #[.slice Ao29 t262.length co29, .slice A0 l0.length c0] rfl (by (try simp only [mT, mC, mN]); first | done | rfl | (simp only [List.length_drop, List.length_take]; rfl)) ?_; (with_reducible refine (wristbandref18_Same.calls k1 _ _ t262 _ _ l0 true _ ?side1 ?side2 ?side3 ?side4 A25.out).mono ?_); (case side1 => repeat (first | exact (Kd.N_reads' HO264.out).2.2 | (with_reducible refine Kd.C_alloc ?_ _) | (with_reducible refine Kd.C_drewN ?_ _) | (with_reducible refine Kd.C_drew ?_))); (case side2 => exact (Kd.N_reads' HO264.out).2.1); (case side3 => repeat (first | exact (Kd.C_below HR0.out HB.out) | (with_reducible refine Kd.C_alloc ?_ _) | (with_reducible refine Kd.C_drewN ?_ _) | (with_reducible refine Kd.C_drew ?_))); (case side4 => exact HC0.out); rintro e w' ⟨rfl, ⟨nd, rfl⟩⟩; refine ⟨_, rfl, ?_⟩) | (go_at_call 38; (with_reducible refine (slip_Whole.calls k1 _ _ x5_1 t267 _ ?side1 ?side2 ?side3 ?side4 A28.out).mono ?_); (case side1 => repeat (first | exact (Kd.R_reads' HO_5.out).2.2 | (with_reducible refine Kd.C_alloc ?_ _) | (with_reducible refine Kd.C_drewN ?_ _) | (with_reducible refine Kd.C_drew ?_))); (case side2 => exact (Kd.R_reads' HO_5.out).2.1); (case side3 => repeat (first | exact (Kd.C_below HRL0_.out (by repeat (first | (with_reducible first | exact HB.out | apply bA | apply bN | apply bD) | exact HB.out))) | (with_reducible refine Kd.C_alloc ?_ _) | (with_reducible refine Kd.C_drewN ?_ _) | (with_reducible refine Kd.C_drew ?_))); (case side4 => repeat (first | exact (Kd.C_below HRL1_.out (by repeat (first | (with_reducible first | exact HB.out | apply bA | apply bN | apply bD) | exact HB.out))) | (with_reducible refine Kd.C_alloc ?_ _) | (with_reducible refine Kd.C_drewN ?_ _) | (with_reducible refine Kd.C_drew ?_))); rintro e w30 ⟨rfl, hb⟩; have n0_ := Aside0.mk (Kd.R_below (by (with_reducible repeat (first | apply rL | apply rN | apply rW)); exact HO_5.out) hb); have n1_ := Aside0.mk (Kd.R_below (by (with_reducible repeat (first | apply rL | apply rN | apply rW)); exact HO_6.out) hb); have n2_ := Aside0.mk (Kd.N_below (by (with_reducible repeat (first | apply Kd.N_alloc | apply Kd.N_drewN | apply Kd.N_drew)); exact HO264.out) hb); have n3_ := Aside0.mk (below_step (by repeat (first | (with_reducible first | exact HB.out | apply bA | apply bN | apply bD) | exact HB.out)) hb); clear HO_5; clear HO_6; clear HO264; clear HB; have HO_5 := n0_; have HO_6 := n1_; have HO264 := n2_; have HB := n3_; clear n0_ n1_ n2_ n3_; (try clear hb); (try clear hb2); (try clear hk); (try clear hi)))
          go_meet
          case rel => exact ⟨_, (!t267), (by first | rfl | (simp; done) | (simp [*]; done)), H', ⟨by have := HK1.out; first | omega | exact Nat.le_refl _⟩, ⟨by (with_reducible repeat (first | apply rL | apply rN | apply rW)); exact HO_5.out⟩, ⟨by (with_reducible repeat (first | apply rL | apply rN | apply rW)); exact HO_6.out⟩, ⟨by repeat (first | (with_reducible first | exact HB.out | apply bA | apply bN | apply bD) | exact HB.out)⟩⟩
         ·rw [if_neg c27] at H
          have c27b0 : (t265 == (x5_1.length : Int)) = false := beq_eq_false_iff_ne.mpr c27
          have c27b1 : (t265 != (x5_1.length : Int)) = true := bne_iff_ne.mpr c27
          (first | rw [c27b0] | (simp only [i64_w, i32_w]; rw [c27b0]) | skip); have H' := Aside0.mk H
          clear H; obtain ⟨Ao31, co31, eo31⟩ := Kd.N_slice HO264.out
          subst eo31; go_wp2_with (first | ((with_reducible refine gate_callee (f := 37) rfl ?_); refine goesL_ (some 68) rfl rfl Tryd.func37 (by kernel_rfl) rfl #[.slice Ao31 t262.length co31, .slice A0 l0.length c0] rfl (by (try simp only [mT, mC, mN]); first | done | rfl | (simp only [List.length_drop, List.length_take]; rfl)) ?_; (with_reducible refine (wristbandref18_Same.calls k1 _ _ t262 _ _ l0 true _ ?side1 ?side2 ?side3 ?side4 A25.out).mono ?_); (case side1 => repeat (first | exact (Kd.N_reads' HO264.out).2.2 | (with_reducible refine Kd.C_alloc ?_ _) | (with_reducible refine Kd.C_drewN ?_ _) | (with_reducible refine Kd.C_drew ?_))); (case side2 => exact (Kd.N_reads' HO264.out).2.1); (case side3 => repeat (first | exact (Kd.C_below HR0.out HB.out) | (with_reducible refine Kd.C_alloc ?_ _) | (with_reducible refine Kd.C_drewN ?_ _) | (with_reducible refine Kd.C_drew ?_))); (case side4 => exact HC0.out); rintro e w' ⟨rfl, ⟨nd, rfl⟩⟩; refine ⟨_, rfl, ?_⟩))
          go_meet
          case rel => exact ⟨_, (true), (by first | rfl | (simp; done) | (simp [*]; done)), H', ⟨by have := HK1.out; first | omega | exact Nat.le_refl _⟩, ⟨by (with_reducible repeat (first | apply rL | apply rN | apply rW)); exact HO_5.out⟩, ⟨by (with_reducible repeat (first | apply rL | apply rN | apply rW)); exact HO_6.out⟩, ⟨by repeat (first | (with_reducible first | exact HB.out | apply bA | apply bN | apply bD) | exact HB.out)⟩⟩
        ·replace c26 := Bool.eq_false_iff.mpr c26
         subst c26; have H1 : (wristbandlaw18_SlipTorn.j1 k1 l0 a1 x5_1 x6_1 true) = some r := by rw [if_neg (show ¬ (false = true) by decide)] at H; exact H
         clear H; have H := H1; clear H1; have H' := Aside0.mk H; clear H; obtain ⟨Ao32, co32, eo32⟩ := Kd.N_slice HO264.out
         subst eo32; go_wp2_with (first | ((with_reducible refine gate_callee (f := 37) rfl ?_); refine goesL_ (some 68) rfl rfl Tryd.func37 (by kernel_rfl) rfl #[.slice Ao32 t262.length co32, .slice A0 l0.length c0] rfl (by (try simp only [mT, mC, mN]); first | done | rfl | (simp only [List.length_drop, List.length_take]; rfl)) ?_; (with_reducible refine (wristbandref18_Same.calls k1 _ _ t262 _ _ l0 false _ ?side1 ?side2 ?side3 ?side4 A25.out).mono ?_); (case side1 => repeat (first | exact (Kd.N_reads' HO264.out).2.2 | (with_reducible refine Kd.C_alloc ?_ _) | (with_reducible refine Kd.C_drewN ?_ _) | (with_reducible refine Kd.C_drew ?_))); (case side2 => exact (Kd.N_reads' HO264.out).2.1); (case side3 => repeat (first | exact (Kd.C_below HR0.out HB.out) | (with_reducible refine Kd.C_alloc ?_ _) | (with_reducible refine Kd.C_drewN ?_ _) | (with_reducible refine Kd.C_drew ?_))); (case side4 => exact HC0.out); rintro e w' ⟨rfl, ⟨nd, rfl⟩⟩; refine ⟨_, rfl, ?_⟩))
         go_meet
         case rel => exact ⟨_, (true), (by first | rfl | (simp; done) | (simp [*]; done)), H', ⟨by have := HK1.out; first | omega | exact Nat.le_refl _⟩, ⟨by (with_reducible repeat (first | apply rL | apply rN | apply rW)); exact HO_5.out⟩, ⟨by (with_reducible repeat (first | apply rL | apply rN | apply rW)); exact HO_6.out⟩, ⟨by repeat (first | (with_reducible first | exact HB.out | apply bA | apply bN | apply bD) | exact HB.out)⟩⟩
       case rest =>
        clear HC22; try clear c1
        try clear c2
        try clear p2
        try clear q2
        try clear hx2
        try clear c3
        try clear c4
        try clear c5
        try clear c5b0
        try clear c5b1
        try clear p6
        try clear c8
        try clear c8b0
        try clear c9
        try clear c9b0
        try clear c10
        try clear c10b0
        try clear c10b1
        try clear c12
        try clear c12b0
        try clear c12b1
        try clear c13
        try clear c13b0
        try clear c13b1
        try clear c14
        try clear c15
        try clear c24
        try clear p24
        try clear q24
        try clear hx24
        try clear c25
        try clear p25
        try clear q25
        try clear hx25
        try clear c26
        try clear c27
        try clear c27b0
        try clear c27b1
        try clear c32
        try clear hx249_0
        try clear hx250_0
        try clear hx255_0
        try clear p2
        try clear p249
        try clear p250
        try clear p255
        try clear q249
        try clear q250
        try clear q255
        obtain ⟨kq, x80_21, rfl, HA, HJ21, HO_5, HO_6, HB⟩ := hcut
        cases kq with
        | zero => exact absurd HA.out (by simp [wristbandlaw18_SlipTorn.j1])
        | succ kj21 =>
         have H := HA.out
         clear HA; simp only [wristbandlaw18_SlipTorn.j1] at H
         by_cases c33 : x80_21 = true
         ·subst c33
          have H1 : (some false) = some r := by rw [if_pos rfl] at H; exact H
          clear H; have H := H1; clear H1; exact absurd (Option.some.inj H) (by rw [HR_.out]; decide)
         ·replace c33 := Bool.eq_false_iff.mpr c33
          subst c33; have H1 : (if (wrap64 ((x5_1.length : Int) + 1)) = 0 then (none) else (wristbandlaw18_SlipTorn.l1 kj21 l0 x5_1 x6_1 (Int.tmod (wrap64 (a1)) (wrap64 ((x5_1.length : Int) + 1))) 0 0)) = some r := by rw [if_neg (show ¬ (false = true) by decide)] at H; exact H
          clear H; have H := H1; clear H1; by_cases c34 : (wrap64 ((x5_1.length : Int) + 1)) = 0
          ·rw [if_pos c34] at H
           exact absurd H (by simp)
          ·rw [if_neg c34] at H
           have c34b0 : ((wrap64 ((x5_1.length : Int) + 1)) == 0) = false := beq_eq_false_iff_ne.mpr c34
           have c34b1 : ((wrap64 ((x5_1.length : Int) + 1)) != 0) = true := bne_iff_ne.mpr c34
           have H' := Aside0.mk H; clear H; go_wp2
           go_loopg [13, 14] kj21 (fun kq v13 v14 w' => ∃ (x13_3 : Int) (x14_3 : Int), v13 = .int .i64 x13_3 ∧ v14 = .int .i64 x14_3 ∧ Aside0 (wristbandlaw18_SlipTorn.l1 kq l0 x5_1 x6_1 (Int.tmod (wrap64 (a1)) (wrap64 ((x5_1.length : Int) + 1))) x13_3 x14_3 = some r) ∧ Aside0 (kq ≤ kj21) ∧ Aside0 (Kd.R (Kd.int .u8) 5 w' w.heap.size (fun _ => True) (.slice Ao23 x5_1.length co23) x5_1) ∧ Aside0 (Kd.R (Kd.int .i64) 3 w' w.heap.size (fun _ => True) u6 x6_1) ∧ Aside0 (Below w.heap.size w w'))
           case atStart => exact ⟨(0), (0), (by first | rfl | (simp; done) | (simp [*]; done)), (by first | rfl | (simp; done) | (simp [*]; done)), H', ⟨Nat.le_refl _⟩, ⟨by (with_reducible repeat (first | apply rL | apply rN | apply rW)); exact HO_5.out⟩, ⟨by (with_reducible repeat (first | apply rL | apply rN | apply rW)); exact HO_6.out⟩, ⟨by repeat (first | (with_reducible first | exact HB.out | apply bA | apply bN | apply bD) | exact HB.out)⟩⟩
           case round =>
            clear H'; try clear c1
            try clear c2
            try clear p2
            try clear q2
            try clear hx2
            try clear c3
            try clear c4
            try clear c5
            try clear c5b0
            try clear c5b1
            try clear p6
            try clear c8
            try clear c8b0
            try clear c9
            try clear c9b0
            try clear c10
            try clear c10b0
            try clear c10b1
            try clear c12
            try clear c12b0
            try clear c12b1
            try clear c13
            try clear c13b0
            try clear c13b1
            try clear c14
            try clear c15
            try clear c24
            try clear p24
            try clear q24
            try clear hx24
            try clear c25
            try clear p25
            try clear q25
            try clear hx25
            try clear c26
            try clear c27
            try clear c27b0
            try clear c27b1
            try clear c32
            try clear c33
            try clear c34
            try clear c34b0
            try clear c34b1
            try clear hx249_0
            try clear hx250_0
            try clear hx255_0
            try clear p2
            try clear p24
            try clear p249
            try clear p25
            try clear p250
            try clear p255
            try clear p6
            try clear q2
            try clear q24
            try clear q249
            try clear q25
            try clear q250
            try clear q255
            obtain ⟨x13_3, x14_3, rfl, rfl, HA, HK3, HO_5, HO_6, HB⟩ := hrel
            cases gk with
            | zero => exact absurd HA.out (by simp [wristbandlaw18_SlipTorn.l1])
            | succ k3 =>
             have H := HA.out
             clear HA; simp only [wristbandlaw18_SlipTorn.l1] at H
             by_cases c35 : x13_3 < (x6_1.length : Int)
             ·rw [if_pos c35] at H
              have c35b0 : decide (x13_3 < (x6_1.length : Int)) = true := decide_eq_true c35
              clear c35; by_cases c36 : 0 ≤ x13_3
              ·rw [if_pos c36] at H
               have c36b0 : decide (0 ≤ x13_3) = true := decide_eq_true c36
               clear c36; by_cases c37 : (rd x6_1 x13_3) ≤ (Int.tmod (wrap64 (a1)) (wrap64 ((x5_1.length : Int) + 1)))
               ·rw [if_pos c37] at H
                have c37b0 : decide ((rd x6_1 x13_3) ≤ (Int.tmod (wrap64 (a1)) (wrap64 ((x5_1.length : Int) + 1)))) = true := decide_eq_true c37
                clear c37; have H' := Aside0.mk H; clear H; obtain ⟨Ao38, co38, eo38⟩ := Kd.R_slice HO_6.out
                subst eo38; have p268 : 0 ≤ (x13_3 : Int) := of_decide_eq_true (by first | (with_reducible assumption) | assumption)
                have q268 : x13_3 < (x6_1.length : Int) := of_decide_eq_true (by first | (with_reducible assumption) | assumption)
                obtain ⟨ad268, e268, hx268_0⟩ := Kd.at_int (Kd.R_reads' HO_6.out).2.2 x13_3 p268 q268
                cases e268
                replace p268 := eq_true p268
                replace q268 := eq_true q268
                have p269 : 0 ≤ (x13_3 : Int) := of_decide_eq_true (by first | (with_reducible assumption) | assumption)
                have q269 : x13_3 < (x6_1.length : Int) := of_decide_eq_true (by first | (with_reducible assumption) | assumption)
                obtain ⟨ad269, e269, hx269_0⟩ := Kd.at_int (Kd.R_reads' HO_6.out).2.2 x13_3 p269 q269
                obtain rfl : ad268 = ad269 := (by injection e269)
                replace p269 := eq_true p269
                replace q269 := eq_true q269
                go_wp2
                go_roundg k3
                case measure => have := HK1.out; have := HJ21.out; have := HK3.out; omega
                case rel => exact ⟨(wrap64 (x13_3 + 1)), (rd x6_1 x13_3), (by first | rfl | (simp; done) | (simp [*]; done)), (by first | rfl | (simp; done) | (simp [*]; done)), H', ⟨by have := HK1.out; have := HJ21.out; have := HK3.out; omega⟩, ⟨by (with_reducible repeat (first | apply rL | apply rN | apply rW)); exact HO_5.out⟩, ⟨by (with_reducible repeat (first | apply rL | apply rN | apply rW)); exact HO_6.out⟩, ⟨by repeat (first | (with_reducible first | exact HB.out | apply bA | apply bN | apply bD) | exact HB.out)⟩⟩
               ·rw [if_neg c37] at H
                have c37b0 : decide ((rd x6_1 x13_3) ≤ (Int.tmod (wrap64 (a1)) (wrap64 ((x5_1.length : Int) + 1)))) = false := decide_eq_false c37
                clear c37; obtain ⟨ji39, hji39⟩ : ∃ j_ : Int, (Int.tmod (wrap64 (a1)) (wrap64 ((x5_1.length : Int) + 1))) = j_ := ⟨_, rfl⟩
                replace H : (if 0 ≤ (ji39) then (if (ji39) ≤ (x5_1.length : Int) then ((slip_Row.f k3 (x5_1.take ((ji39) : Int).toNat)).bind fun bt275 => (if x13_3 ≤ (l0.length : Int) then ((wristbandref18_Same.f k3 bt275.1 (l0.take (x13_3 : Int).toNat)).bind fun t283 => (if t283 = true then (some (bt275.2 == x14_3)) else (some false))) else (none))) else (none)) else (none)) = some r := by first | (rw [hji39] at H; exact H) | (simp only [hji39] at H ⊢; exact H)
                (try rw [hji39] at c37b0)
                by_cases c40 : 0 ≤ (ji39)
                ·rw [if_pos c40] at H
                 have c40b0 := eq_true c40
                 have c40b1 : decide (0 ≤ (ji39)) = true := decide_eq_true c40
                 clear c40; by_cases c41 : (ji39) ≤ (x5_1.length : Int)
                 ·rw [if_pos c41] at H
                  have c41b0 := eq_true c41
                  have c41b1 : decide ((ji39) ≤ (x5_1.length : Int)) = true := decide_eq_true c41
                  clear c41; obtain ⟨y270, hy270⟩ : ∃ y_ : List Int, y_ = (x5_1.take ((ji39) : Int).toNat) := ⟨_, rfl⟩
                  replace H : ((slip_Row.f k3 y270).bind fun bt275 => (if x13_3 ≤ (l0.length : Int) then ((wristbandref18_Same.f k3 bt275.1 (l0.take (x13_3 : Int).toNat)).bind fun t283 => (if t283 = true then (some (bt275.2 == x14_3)) else (some false))) else (none))) = some r := by first | (rw [hy270]; with_reducible exact H) | (have H2_ := (Option.bind_some _ _).symm.trans H; rw [hy270]; with_reducible exact H2_) | (have H2_ := (Option.bind_some _ _).symm.trans H; with_reducible exact H2_) | with_reducible exact H | (rw [hy270]; exact H) | exact H
                  have Ny270 := Aside0.mk hy270; clear hy270; replace H := Option.bind_eq_some_iff.mp H
                  obtain ⟨⟨t275, t278⟩, A420, H⟩ := H
                  replace H : (if x13_3 ≤ (l0.length : Int) then ((wristbandref18_Same.f k3 t275 (l0.take (x13_3 : Int).toNat)).bind fun t283 => (if t283 = true then (some (t278 == x14_3)) else (some false))) else (none)) = some r := H
                  have A42 := Aside0.mk A420; clear A420; have c43b0 := eq_true (of_decide_eq_true (by first | (with_reducible assumption) | assumption) : 0 ≤ x13_3)
                  by_cases c44 : x13_3 ≤ (l0.length : Int)
                  ·rw [if_pos c44] at H
                   have c44b0 := eq_true c44
                   have c44b1 : decide (x13_3 ≤ (l0.length : Int)) = true := decide_eq_true c44
                   clear c44; obtain ⟨y279, hy279⟩ : ∃ y_ : List (List Int), y_ = (l0.take (x13_3 : Int).toNat) := ⟨_, rfl⟩
                   replace H : ((wristbandref18_Same.f k3 t275 y279).bind fun t283 => (if t283 = true then (some (t278 == x14_3)) else (some false))) = some r := by first | (rw [hy279]; with_reducible exact H) | (have H2_ := (Option.bind_some _ _).symm.trans H; rw [hy279]; with_reducible exact H2_) | (have H2_ := (Option.bind_some _ _).symm.trans H; with_reducible exact H2_) | with_reducible exact H | (rw [hy279]; exact H) | exact H
                   have Ny279 := Aside0.mk hy279; clear hy279; replace H := Option.bind_eq_some_iff.mp H
                   obtain ⟨t283, A450, H⟩ := H
                   replace H : (if t283 = true then (some (t278 == x14_3)) else (some false)) = some r := H
                   have A45 := Aside0.mk A450; clear A450; by_cases c46 : t283 = true
                   ·subst c46
                    have H1 : (some (t278 == x14_3)) = some r := by rw [if_pos rfl] at H; exact H
                    clear H; have H := H1; clear H1; obtain rfl := Option.some.inj H
                    obtain ⟨Ao47, co47, eo47⟩ := Kd.R_slice HO_6.out
                    subst eo47; have p268 : 0 ≤ (x13_3 : Int) := of_decide_eq_true (by first | (with_reducible assumption) | assumption)
                    have q268 : x13_3 < (x6_1.length : Int) := of_decide_eq_true (by first | (with_reducible assumption) | assumption)
                    obtain ⟨ad268, e268, hx268_0⟩ := Kd.at_int (Kd.R_reads' HO_6.out).2.2 x13_3 p268 q268
                    cases e268
                    replace p268 := eq_true p268
                    replace q268 := eq_true q268
                    have q48 : ((ji39) : Int) ≤ ((x5_1.length : Int) : Int) := of_decide_eq_true (by first | (with_reducible assumption) | assumption)
                    obtain ⟨i048, hi048, _, hsz48, _⟩ := info_parts info5
                    have hroom48 : x5_1.length ≤ co23 := (Kd.R_reads' HO_5.out).2.1
                    have hC48 : Kd.F (Kd.int .u8) _ _ Ao23 x5_1.length x5_1 := (Kd.V_at (base := w.heap.size) (Kd.R_V (Kd.R_apart' (HO_5.out) (Kd.R_typed HO_6.out) (by decide)))).2.2
                    have hcut48 := cut_to (P := Tryd.prog) 24 5 .i64 Tryd.underlying24 hi048 Ao23 x5_1.length co23 (ji39) (of_decide_eq_true (by first | (with_reducible assumption) | assumption)) q48 hroom48
                    have hr48 := Kd.F_take (m := ((ji39) : Int).toNat) hC48 (by omega)
                    have hy48 : y270.length = ((ji39) : Int).toNat := (by rw [Ny270.out, List.length_take]; omega)
                    rw [← Ny270.out] at hr48; rw [← hy48] at hcut48
                    have HO274 := Aside0.mk (show Kd.V (Kd.int .u8) 5 _ w.heap.size _ (.slice Ao23 y270.length co23) y270 from Kd.V_mk (by omega) hr48); have HC274 := Aside0.mk (show y270.length ≤ co23 from by omega); clear hr48 hC48 hroom48 hi048 hsz48; have KY48 := Aside0.mk hy48; clear hy48; replace q48 := eq_true q48
                    go_wp2_with (first | ((with_reducible refine gate_callee (f := 34) rfl ?_); refine goesL_ (some 109) rfl rfl Tryd.func34 (by kernel_rfl) rfl #[.slice Ao23 y270.length co23] rfl (by (try simp only [mT, mC, mN]); first | done | rfl | (simp only [List.length_drop, List.length_take]; rfl)) ?_; (with_reducible refine (slip_Row.calls k3 (fun k_ => (True ∧ some k_ ≠ (.slice (some ad268) x6_1.length co47 : Value).ownBlock)) _ _ y270 t275 t278 _ ?side1 ?side2 ?side3 A42.out).mono ?_); (case side1 => exact HO274.out); (case side2 => repeat (first | exact (Kd.C_below HRL0_.out HB.out) | (with_reducible refine Kd.C_alloc ?_ _) | (with_reducible refine Kd.C_drewN ?_ _) | (with_reducible refine Kd.C_drew ?_))); (case side3 => repeat (first | exact (Kd.C_below HRL1_.out HB.out) | (with_reducible refine Kd.C_alloc ?_ _) | (with_reducible refine Kd.C_drewN ?_ _) | (with_reducible refine Kd.C_drew ?_))); rintro e w49 ⟨v276, rfl, ho0, hb⟩; refine ⟨_, rfl, ?_⟩; have n0_ := Aside0.mk (Kd.R_below (by (with_reducible repeat (first | apply rL | apply rN | apply rW)); exact HO_5.out) hb); have n1_ := Aside0.mk (Kd.R_below (by (with_reducible repeat (first | apply rL | apply rN | apply rW)); exact HO_6.out) hb); have n2_ := Aside0.mk (Kd.V_elder' (by (with_reducible repeat (first | apply Kd.V_alloc | apply Kd.V_drewN | apply Kd.V_drew)); exact HO274.out) (Kd.N_base ho0) hb); have n3_ := Aside0.mk (Kd.N_lower (Kd.N_mono (ok' := fun k_ => some k_ ≠ (.slice (some ad268) x6_1.length co47 : Value).ownBlock) ho0 (fun k_ hk_ => Or.elim hk_ (fun hs_ => hs_.2) (fun hn_ => (Kd.fresh' (Kd.R_lt (by (with_reducible repeat (first | apply rL | apply rN | apply rW)); exact HO_6.out)) k_ hn_)))) (below_size (by repeat (first | (with_reducible first | exact HB.out | apply bA | apply bN | apply bD) | exact HB.out)))); have n4_ := Aside0.mk (below_step (by repeat (first | (with_reducible first | exact HB.out | apply bA | apply bN | apply bD) | exact HB.out)) hb); clear HO_5; clear HO_6; clear HO274; clear HB; have HO_5 := n0_; have HO_6 := n1_; have HO274 := n2_; have HO277 := n3_; have HB := n4_; clear n0_ n1_ n2_ n3_ n4_; (try clear hb); (try clear hb2); (try clear hk); (try clear hi); (try clear ho0); have q50 : (x13_3 : Int) ≤ ((l0.length : Int) : Int) := of_decide_eq_true (by first | (with_reducible assumption) | assumption); obtain ⟨i050, hi050, _, hsz50, _⟩ := info_parts info24; have hroom50 : l0.length ≤ c0 := HC0.out; have hC50 : Kd.C (Kd.slice 5 (Kd.int .u8)) _ A0 l0.length l0 := HR0.out; have hcut50 := cut_to (P := Tryd.prog) 45 24 .i64 Tryd.underlying45 hi050 A0 l0.length c0 x13_3 (of_decide_eq_true (by first | (with_reducible assumption) | assumption)) q50 hroom50; have hr50 := Kd.C_take (m := (x13_3 : Int).toNat) hC50 (by omega); have hy50 : y279.length = (x13_3 : Int).toNat := (by rw [Ny279.out, List.length_take]; omega); rw [← Ny279.out] at hr50; rw [← hy50] at hcut50; have HR282 := Aside0.mk hr50; have HC282 := Aside0.mk (show y279.length ≤ c0 from by omega); clear hr50 hC50 hroom50 hi050 hsz50; have KY50 := Aside0.mk hy50; clear hy50; replace q50 := eq_true q50; obtain ⟨Ao51, co51, eo51⟩ := Kd.N_slice HO277.out; subst eo51) | ((with_reducible refine gate_callee (f := 37) rfl ?_); refine goesL_ (some 116) rfl rfl Tryd.func37 (by kernel_rfl) rfl #[.slice Ao51 t275.length co51, .slice A0 y279.length c0] rfl (by (try simp only [mT, mC, mN]); first | done | rfl | (simp only [List.length_drop, List.length_take]; rfl)) ?_; (with_reducible refine (wristbandref18_Same.calls k3 _ _ t275 _ _ y279 true _ ?side1 ?side2 ?side3 ?side4 A45.out).mono ?_); (case side1 => repeat (first | exact (Kd.N_reads' HO277.out).2.2 | (with_reducible refine Kd.C_alloc ?_ _) | (with_reducible refine Kd.C_drewN ?_ _) | (with_reducible refine Kd.C_drew ?_))); (case side2 => exact (Kd.N_reads' HO277.out).2.1); (case side3 => repeat (first | exact (Kd.C_below HR282.out HB.out) | (with_reducible refine Kd.C_alloc ?_ _) | (with_reducible refine Kd.C_drewN ?_ _) | (with_reducible refine Kd.C_drew ?_))); (case side4 => exact HC282.out); rintro e w' ⟨rfl, ⟨nd, rfl⟩⟩; refine ⟨_, rfl, ?_⟩))
                    go_ret
                    exact ⟨by first | rfl | (simp [errW_none, errW_some] <;> rfl) | (simp only [← hji39]; first | rfl | (simp [errW_none, errW_some] <;> rfl)) | (simp [*, errW_none, errW_some] <;> rfl), by repeat (first | (with_reducible first | exact HB.out | apply bA | apply bN | apply bD) | exact HB.out)⟩
                   ·replace c46 := Bool.eq_false_iff.mpr c46
                    subst c46; have H1 : (some false) = some r := by rw [if_neg (show ¬ (false = true) by decide)] at H; exact H
                    clear H; have H := H1; clear H1; exact absurd (Option.some.inj H) (by rw [HR_.out]; decide)
                  ·rw [if_neg c44] at H
                   exact absurd H (by simp)
                 ·rw [if_neg c41] at H
                  exact absurd H (by simp)
                ·rw [if_neg c40] at H
                 exact absurd H (by simp)
              ·rw [if_neg c36] at H
               exact absurd H (by simp)
             ·rw [if_neg c35] at H
              have c35b0 : decide (x13_3 < (x6_1.length : Int)) = false := decide_eq_false c35
              clear c35; obtain ⟨ji52, hji52⟩ : ∃ j_ : Int, (Int.tmod (wrap64 (a1)) (wrap64 ((x5_1.length : Int) + 1))) = j_ := ⟨_, rfl⟩
              replace H : (if 0 ≤ (ji52) then (if (ji52) ≤ (x5_1.length : Int) then ((slip_Row.f k3 (x5_1.take ((ji52) : Int).toNat)).bind fun bt289 => (if 0 ≤ x13_3 then (if x13_3 ≤ (l0.length : Int) then ((wristbandref18_Same.f k3 bt289.1 (l0.take (x13_3 : Int).toNat)).bind fun t297 => (if t297 = true then (some (bt289.2 == x14_3)) else (some false))) else (none)) else (none))) else (none)) else (none)) = some r := by first | (rw [hji52] at H; exact H) | (simp only [hji52] at H ⊢; exact H)
              by_cases c53 : 0 ≤ (ji52)
              ·rw [if_pos c53] at H
               have c53b0 := eq_true c53
               have c53b1 : decide (0 ≤ (ji52)) = true := decide_eq_true c53
               clear c53; by_cases c54 : (ji52) ≤ (x5_1.length : Int)
               ·rw [if_pos c54] at H
                have c54b0 := eq_true c54
                have c54b1 : decide ((ji52) ≤ (x5_1.length : Int)) = true := decide_eq_true c54
                clear c54; obtain ⟨y284, hy284⟩ : ∃ y_ : List Int, y_ = (x5_1.take ((ji52) : Int).toNat) := ⟨_, rfl⟩
                replace H : ((slip_Row.f k3 y284).bind fun bt289 => (if 0 ≤ x13_3 then (if x13_3 ≤ (l0.length : Int) then ((wristbandref18_Same.f k3 bt289.1 (l0.take (x13_3 : Int).toNat)).bind fun t297 => (if t297 = true then (some (bt289.2 == x14_3)) else (some false))) else (none)) else (none))) = some r := by first | (rw [hy284]; with_reducible exact H) | (have H2_ := (Option.bind_some _ _).symm.trans H; rw [hy284]; with_reducible exact H2_) | (have H2_ := (Option.bind_some _ _).symm.trans H; with_reducible exact H2_) | with_reducible exact H | (rw [hy284]; exact H) | exact H
                have Ny284 := Aside0.mk hy284; clear hy284; replace H := Option.bind_eq_some_iff.mp H
                obtain ⟨⟨t289, t292⟩, A550, H⟩ := H
                replace H : (if 0 ≤ x13_3 then (if x13_3 ≤ (l0.length : Int) then ((wristbandref18_Same.f k3 t289 (l0.take (x13_3 : Int).toNat)).bind fun t297 => (if t297 = true then (some (t292 == x14_3)) else (some false))) else (none)) else (none)) = some r := H
                have A55 := Aside0.mk A550; clear A550; by_cases c56 : 0 ≤ x13_3
                ·rw [if_pos c56] at H
                 have c56b0 := eq_true c56
                 have c56b1 : decide (0 ≤ x13_3) = true := decide_eq_true c56
                 clear c56; by_cases c57 : x13_3 ≤ (l0.length : Int)
                 ·rw [if_pos c57] at H
                  have c57b0 := eq_true c57
                  have c57b1 : decide (x13_3 ≤ (l0.length : Int)) = true := decide_eq_true c57
                  clear c57; obtain ⟨y293, hy293⟩ : ∃ y_ : List (List Int), y_ = (l0.take (x13_3 : Int).toNat) := ⟨_, rfl⟩
                  replace H : ((wristbandref18_Same.f k3 t289 y293).bind fun t297 => (if t297 = true then (some (t292 == x14_3)) else (some false))) = some r := by first | (rw [hy293]; with_reducible exact H) | (have H2_ := (Option.bind_some _ _).symm.trans H; rw [hy293]; with_reducible exact H2_) | (have H2_ := (Option.bind_some _ _).symm.trans H; with_reducible exact H2_) | with_reducible exact H | (rw [hy293]; exact H) | exact H
                  have Ny293 := Aside0.mk hy293; clear hy293; replace H := Option.bind_eq_some_iff.mp H
                  obtain ⟨t297, A580, H⟩ := H
                  replace H : (if t297 = true then (some (t292 == x14_3)) else (some false)) = some r := H
                  have A58 := Aside0.mk A580; clear A580; by_cases c59 : t297 = true
                  ·subst c59
                   have H1 : (some (t292 == x14_3)) = some r := by rw [if_pos rfl] at H; exact H
                   clear H; have H := H1; clear H1; obtain rfl := Option.some.inj H
                   obtain ⟨Ao60, co60, eo60⟩ := Kd.R_slice HO_6.out
                   subst eo60; have q61 : ((ji52) : Int) ≤ ((x5_1.length : Int) : Int) := of_decide_eq_true (by first | (with_reducible assumption) | assumption)
                   obtain ⟨i061, hi061, _, hsz61, _⟩ := info_parts info5
                   have hroom61 : x5_1.length ≤ co23 := (Kd.R_reads' HO_5.out).2.1
                   have hC61 : Kd.F (Kd.int .u8) _ _ Ao23 x5_1.length x5_1 := (Kd.V_at (base := w.heap.size) (Kd.R_V (Kd.R_apart' (HO_5.out) (Kd.R_typed HO_6.out) (by decide)))).2.2
                   have hcut61 := cut_to (P := Tryd.prog) 24 5 .i64 Tryd.underlying24 hi061 Ao23 x5_1.length co23 (ji52) (of_decide_eq_true (by first | (with_reducible assumption) | assumption)) q61 hroom61
                   have hr61 := Kd.F_take (m := ((ji52) : Int).toNat) hC61 (by omega)
                   have hy61 : y284.length = ((ji52) : Int).toNat := (by rw [Ny284.out, List.length_take]; omega)
                   rw [← Ny284.out] at hr61; rw [← hy61] at hcut61
                   have HO288 := Aside0.mk (show Kd.V (Kd.int .u8) 5 _ w.heap.size _ (.slice Ao23 y284.length co23) y284 from Kd.V_mk (by omega) hr61); have HC288 := Aside0.mk (show y284.length ≤ co23 from by omega); clear hr61 hC61 hroom61 hi061 hsz61; have KY61 := Aside0.mk hy61; clear hy61; replace q61 := eq_true q61
                   go_wp2_with (first | ((with_reducible refine gate_callee (f := 34) rfl ?_); refine goesL_ (some 109) rfl rfl Tryd.func34 (by kernel_rfl) rfl #[.slice Ao23 y284.length co23] rfl (by (try simp only [mT, mC, mN]); first | done | rfl | (simp only [List.length_drop, List.length_take]; rfl)) ?_; (with_reducible refine (slip_Row.calls k3 (fun k_ => (True ∧ some k_ ≠ (.slice Ao60 x6_1.length co60 : Value).ownBlock)) _ _ y284 t289 t292 _ ?side1 ?side2 ?side3 A55.out).mono ?_); (case side1 => exact HO288.out); (case side2 => repeat (first | exact (Kd.C_below HRL0_.out HB.out) | (with_reducible refine Kd.C_alloc ?_ _) | (with_reducible refine Kd.C_drewN ?_ _) | (with_reducible refine Kd.C_drew ?_))); (case side3 => repeat (first | exact (Kd.C_below HRL1_.out HB.out) | (with_reducible refine Kd.C_alloc ?_ _) | (with_reducible refine Kd.C_drewN ?_ _) | (with_reducible refine Kd.C_drew ?_))); rintro e w62 ⟨v290, rfl, ho0, hb⟩; refine ⟨_, rfl, ?_⟩; have n0_ := Aside0.mk (Kd.R_below (by (with_reducible repeat (first | apply rL | apply rN | apply rW)); exact HO_5.out) hb); have n1_ := Aside0.mk (Kd.R_below (by (with_reducible repeat (first | apply rL | apply rN | apply rW)); exact HO_6.out) hb); have n2_ := Aside0.mk (Kd.V_elder' (by (with_reducible repeat (first | apply Kd.V_alloc | apply Kd.V_drewN | apply Kd.V_drew)); exact HO288.out) (Kd.N_base ho0) hb); have n3_ := Aside0.mk (Kd.N_lower (Kd.N_mono (ok' := fun k_ => some k_ ≠ (.slice Ao60 x6_1.length co60 : Value).ownBlock) ho0 (fun k_ hk_ => Or.elim hk_ (fun hs_ => hs_.2) (fun hn_ => (Kd.fresh' (Kd.R_lt (by (with_reducible repeat (first | apply rL | apply rN | apply rW)); exact HO_6.out)) k_ hn_)))) (below_size (by repeat (first | (with_reducible first | exact HB.out | apply bA | apply bN | apply bD) | exact HB.out)))); have n4_ := Aside0.mk (below_step (by repeat (first | (with_reducible first | exact HB.out | apply bA | apply bN | apply bD) | exact HB.out)) hb); clear HO_5; clear HO_6; clear HO288; clear HB; have HO_5 := n0_; have HO_6 := n1_; have HO288 := n2_; have HO291 := n3_; have HB := n4_; clear n0_ n1_ n2_ n3_ n4_; (try clear hb); (try clear hb2); (try clear hk); (try clear hi); (try clear ho0); have q63 : (x13_3 : Int) ≤ ((l0.length : Int) : Int) := of_decide_eq_true (by first | (with_reducible assumption) | assumption); obtain ⟨i063, hi063, _, hsz63, _⟩ := info_parts info24; have hroom63 : l0.length ≤ c0 := HC0.out; have hC63 : Kd.C (Kd.slice 5 (Kd.int .u8)) _ A0 l0.length l0 := HR0.out; have hcut63 := cut_to (P := Tryd.prog) 45 24 .i64 Tryd.underlying45 hi063 A0 l0.length c0 x13_3 (of_decide_eq_true (by first | (with_reducible assumption) | assumption)) q63 hroom63; have hr63 := Kd.C_take (m := (x13_3 : Int).toNat) hC63 (by omega); have hy63 : y293.length = (x13_3 : Int).toNat := (by rw [Ny293.out, List.length_take]; omega); rw [← Ny293.out] at hr63; rw [← hy63] at hcut63; have HR296 := Aside0.mk hr63; have HC296 := Aside0.mk (show y293.length ≤ c0 from by omega); clear hr63 hC63 hroom63 hi063 hsz63; have KY63 := Aside0.mk hy63; clear hy63; replace q63 := eq_true q63; obtain ⟨Ao64, co64, eo64⟩ := Kd.N_slice HO291.out; subst eo64) | ((with_reducible refine gate_callee (f := 37) rfl ?_); refine goesL_ (some 116) rfl rfl Tryd.func37 (by kernel_rfl) rfl #[.slice Ao64 t289.length co64, .slice A0 y293.length c0] rfl (by (try simp only [mT, mC, mN]); first | done | rfl | (simp only [List.length_drop, List.length_take]; rfl)) ?_; (with_reducible refine (wristbandref18_Same.calls k3 _ _ t289 _ _ y293 true _ ?side1 ?side2 ?side3 ?side4 A58.out).mono ?_); (case side1 => repeat (first | exact (Kd.N_reads' HO291.out).2.2 | (with_reducible refine Kd.C_alloc ?_ _) | (with_reducible refine Kd.C_drewN ?_ _) | (with_reducible refine Kd.C_drew ?_))); (case side2 => exact (Kd.N_reads' HO291.out).2.1); (case side3 => repeat (first | exact (Kd.C_below HR296.out HB.out) | (with_reducible refine Kd.C_alloc ?_ _) | (with_reducible refine Kd.C_drewN ?_ _) | (with_reducible refine Kd.C_drew ?_))); (case side4 => exact HC296.out); rintro e w' ⟨rfl, ⟨nd, rfl⟩⟩; refine ⟨_, rfl, ?_⟩))
                   go_ret
                   exact ⟨by first | rfl | (simp [errW_none, errW_some] <;> rfl) | (simp only [← hji52]; first | rfl | (simp [errW_none, errW_some] <;> rfl)) | (simp [*, errW_none, errW_some] <;> rfl), by repeat (first | (with_reducible first | exact HB.out | apply bA | apply bN | apply bD) | exact HB.out)⟩
                  ·replace c59 := Bool.eq_false_iff.mpr c59
                   subst c59; have H1 : (some false) = some r := by rw [if_neg (show ¬ (false = true) by decide)] at H; exact H
                   clear H; have H := H1; clear H1; exact absurd (Option.some.inj H) (by rw [HR_.out]; decide)
                 ·rw [if_neg c57] at H
                  exact absurd H (by simp)
                ·rw [if_neg c56] at H
                 exact absurd H (by simp)
               ·rw [if_neg c54] at H
                exact absurd H (by simp)
              ·rw [if_neg c53] at H
               exact absurd H (by simp)
  ·replace c4 := Bool.eq_false_iff.mpr c4
   subst c4; have H1 : (some false) = some r := by rw [if_neg (show ¬ (false = true) by decide)] at H; exact H
   clear H; have H := H1; clear H1; exact absurd (Option.some.inj H) (by rw [HR_.out]; decide)

theorem wristbandlaw18_SlipTorn.open0 {H : Type} {enc : TypeId × Value → H} {W : World} {base : Nat} {sp : Nat → Bool} {held : Bool} {a : Option Addr} {len cap : Nat} {x : DataW H} {p : List MemPlace} (hT : DataW.Trod enc Tryd.prog W base sp held 45 (.slice a len cap) x p) : ∃ zs : List (List Int), zs.length = len ∧ len ≤ cap ∧ Kd.C (Kd.slice 5 (Kd.int .u8)) W a len zs ∧ (zs.length ≤ maxLen ∧ ∀ x_ ∈ zs, (fun xs_ : List Int => xs_.length ≤ maxLen ∧ ∀ x_ ∈ xs_, (fun n_ : Int => (Lit.int .u8 n_).wf = true) x_) x_) := opens_row (opens_slice Tryd.underlying45 (opens_slice Tryd.underlying24 (opens_int Tryd.underlying5) (by kernel_rfl)) (by kernel_rfl)) hT
/-- THE ONE PURE STATEMENT of wristbandlaw18_SlipTorn: yours. -/
def wristbandlaw18_SlipTorn.Pure : Prop := ∀ (l0 : List (List Int)) (a1 : Int), l0.length ≤ maxLen → (∀ x ∈ l0, (fun xs_ : List Int => xs_.length ≤ maxLen ∧ ∀ x_ ∈ xs_, (fun n_ : Int => (Lit.int .u8 n_).wf = true) x_) x) → (Lit.int .u16 a1).wf = true → ∃ k, wristbandlaw18_SlipTorn.f k l0 a1 = some true
theorem wristbandlaw18_SlipTorn.walk (P : wristbandlaw18_SlipTorn.Pure) (a0 : Option Addr) (len0 cap0 : Nat) (z0 : List (List Int)) (a1 : Int) (w : World) (w0 : z0.length = len0 ∧ len0 ≤ cap0 ∧ Kd.C (Kd.slice 5 (Kd.int .u8)) w a0 len0 z0 ∧ (z0.length ≤ maxLen ∧ ∀ x_ ∈ z0, (fun xs_ : List Int => xs_.length ≤ maxLen ∧ ∀ x_ ∈ xs_, (fun n_ : Int => (Lit.int .u8 n_).wf = true) x_) x_)) (w1 : (Lit.int .u16 a1).wf = true) (hL0_ : Kd.C (Kd.int .u32) w (some ⟨0, 0, none⟩) 64 shaK) (hL1_ : Kd.C (Kd.int .u32) w (some ⟨1, 0, none⟩) 8 shaF) :
   Calls Tryd.prog 10 #[.slice a0 len0 cap0, .int .u16 a1] w fun e w' => e = .returned (.bool true) ∧ Below w.heap.size w w' := by
  obtain ⟨rfl, hc0, hr0, hm0, hw0⟩ := w0
  obtain ⟨k, h⟩ := P z0 a1 hm0 hw0 w1
  refine (wristbandlaw18_SlipTorn.calls k _ _ z0 a1 true w hr0 hc0 hL0_ hL1_ h rfl).mono ?_
  rintro e w' ⟨rfl, hd⟩
  exact ⟨rfl, hd⟩

end Go.Proofs.YtnpkhkhlofkbhaaDoor.PSlipTorn
