-- made by a program of this session (its printer) out of what Lean prints of the given program
import Derived.Test.YtnpkhkhlofkbhaaDoorPSlipRowx0
import Derived.Test.YtnpkhkhlofkbhaaDoorPSlipRowx2
import Derived.Test.YtnpkhkhlofkbhaaDoorPSlipRowx3
namespace Go.Proofs.YtnpkhkhlofkbhaaDoor.PSlipRow
open Go.RowKit Go.Proofs.YtnpkhkhlofkbhaaDoorW.PrintWords Go.Proofs.YtnpkhkhlofkbhaaDoorW.PrintLast Go.Proofs.YtnpkhkhlofkbhaaDoorW.PrintMore
attribute [local go_sem] max2_int min2_int max_two min_two max_three min_three max_four min_four   -- for this text's walks alone
set_option linter.unusedVariables false
set_option linter.unusedSimpArgs false

/-! ### wristbandlaw18_awake: function 32 -/
def wristbandlaw18_awake.f (k : Nat)  : Option (Bool) := ((slip_Put.f k (([111, 110, 101] : List Int))).bind fun bt204 => ((slip_Put.f k ([] : List Int)).bind fun bt208 => ((some (([] : List Int) : List Int)).bind fun y212 => (if y212.length + bt204.1.length < 140737488355328 then ((some (y212 ++ bt204.1 : List Int)).bind fun y215 => (if y215.length + bt208.1.length < 140737488355328 then ((some (y215 ++ bt208.1 : List Int)).bind fun y218 => ((some (([] : List Int) : List Int)).bind fun y221 => (if y221.length + y218.length < 140737488355328 then ((some (y221 ++ y218 : List Int)).bind fun y224 => ((some (([0, 3, 120] : List Int) : List Int)).bind fun y227 => (if y224.length + y227.length < 140737488355328 then ((slip_Row.f k (y224 ++ y227)).bind fun bt233 => (if bt204.2 = 0 then (if bt208.2 = 0 then (if (bt204.1.length : Int) = 9 then (if (bt208.1.length : Int) = 6 then (if 1 < (bt204.1.length : Int) then (if (rd bt204.1 1) = 3 then (if (bt233.1.length : Int) = 2 then (if 0 < (bt233.1.length : Int) then (if (strOfNums (rd_L2 bt233.1 0)).toList = ([111, 110, 101] : List UInt8) then (if bt233.2 = 15 then ((slip_Whole.f k y218).bind fun t239 => (if t239 = true then (if 14 ≤ (y218.length : Int) then ((slip_Whole.f k (y218.take 14)).bind fun t245 => (some (!t245))) else (none)) else (some false))) else (some false)) else (some false)) else (none)) else (some false)) else (some false)) else (none)) else (some false)) else (some false)) else (some false)) else (some false))) else (none)))) else (none)))) else (none))) else (none))))).bind fun tS_ => (if tS_ = true then (some true) else (none))
theorem wristbandlaw18_awake.mono : ∀ k, LeO (wristbandlaw18_awake.f k ) (wristbandlaw18_awake.f (k + 1) ) := by
  intro  k; unfold wristbandlaw18_awake.f
  repeat' first
    | (with_reducible exact slip_Put.mono _ _)
    | (with_reducible exact slip_Row.mono _ _)
    | (with_reducible exact slip_Whole.mono _ _)
    | (with_reducible exact LeO.refl _)
    | (with_reducible exact LeO.none _)
    | (with_reducible refine LeO.ite ?_ ?_)
    | (with_reducible refine LeO.bind ?_ (fun _ => ?_))
    | exact slip_Put.mono _ _
    | exact slip_Row.mono _ _
    | exact slip_Whole.mono _ _
    | exact LeO.none _
    | refine LeO.ite ?_ ?_
    | refine LeO.bind ?_ (fun _ => ?_)
set_option maxHeartbeats 8000000 in
set_option maxRecDepth 100000 in
theorem wristbandlaw18_awake.calls (k : Nat)  (r : Bool) (w : World) (hL0_ : Kd.C (Kd.int .u32) w (some ⟨0, 0, none⟩) 64 shaK) (hL1_ : Kd.C (Kd.int .u32) w (some ⟨1, 0, none⟩) 8 shaF) (h : wristbandlaw18_awake.f k  = some r) :
   Calls Tryd.prog 32 #[] w fun e w' => e = .returned (.bool r) ∧ Below w.heap.size w w' := by
  have HRL0_ := Aside0.mk hL0_; have HRL1_ := Aside0.mk hL1_; clear hL0_ hL1_; have HB := Aside0.mk (Below.refl w.heap.size w); obtain ⟨tS_, hS_, h2_⟩ := Option.bind_eq_some_iff.mp h
  have hz_ : tS_ = true ∧ r = true := by clear hS_ h; cases tS_ <;> cases r <;> simp_all
  have H : ((slip_Put.f k (([111, 110, 101] : List Int))).bind fun bt204 => ((slip_Put.f k ([] : List Int)).bind fun bt208 => ((some (([] : List Int) : List Int)).bind fun y212 => (if y212.length + bt204.1.length < 140737488355328 then ((some (y212 ++ bt204.1 : List Int)).bind fun y215 => (if y215.length + bt208.1.length < 140737488355328 then ((some (y215 ++ bt208.1 : List Int)).bind fun y218 => ((some (([] : List Int) : List Int)).bind fun y221 => (if y221.length + y218.length < 140737488355328 then ((some (y221 ++ y218 : List Int)).bind fun y224 => ((some (([0, 3, 120] : List Int) : List Int)).bind fun y227 => (if y224.length + y227.length < 140737488355328 then ((slip_Row.f k (y224 ++ y227)).bind fun bt233 => (if bt204.2 = 0 then (if bt208.2 = 0 then (if (bt204.1.length : Int) = 9 then (if (bt208.1.length : Int) = 6 then (if 1 < (bt204.1.length : Int) then (if (rd bt204.1 1) = 3 then (if (bt233.1.length : Int) = 2 then (if 0 < (bt233.1.length : Int) then (if (strOfNums (rd_L2 bt233.1 0)).toList = ([111, 110, 101] : List UInt8) then (if bt233.2 = 15 then ((slip_Whole.f k y218).bind fun t239 => (if t239 = true then (if 14 ≤ (y218.length : Int) then ((slip_Whole.f k (y218.take 14)).bind fun t245 => (some (!t245))) else (none)) else (some false))) else (some false)) else (some false)) else (none)) else (some false)) else (some false)) else (none)) else (some false)) else (some false)) else (some false)) else (some false))) else (none)))) else (none)))) else (none))) else (none))))) = some r := hS_.trans (congrArg some (hz_.1.trans hz_.2.symm))
  have HR_ := Aside0.mk hz_.2; clear h h2_ hS_ hz_ tS_; obtain ⟨y201, hy201⟩ : ∃ y_ : List Int, y_ = (([111, 110, 101] : List Int)) := ⟨_, rfl⟩
  replace H : ((slip_Put.f k y201).bind fun bt204 => ((slip_Put.f k ([] : List Int)).bind fun bt208 => ((some (([] : List Int) : List Int)).bind fun y212 => (if y212.length + bt204.1.length < 140737488355328 then ((some (y212 ++ bt204.1 : List Int)).bind fun y215 => (if y215.length + bt208.1.length < 140737488355328 then ((some (y215 ++ bt208.1 : List Int)).bind fun y218 => ((some (([] : List Int) : List Int)).bind fun y221 => (if y221.length + y218.length < 140737488355328 then ((some (y221 ++ y218 : List Int)).bind fun y224 => ((some (([0, 3, 120] : List Int) : List Int)).bind fun y227 => (if y224.length + y227.length < 140737488355328 then ((slip_Row.f k (y224 ++ y227)).bind fun bt233 => (if bt204.2 = 0 then (if bt208.2 = 0 then (if (bt204.1.length : Int) = 9 then (if (bt208.1.length : Int) = 6 then (if 1 < (bt204.1.length : Int) then (if (rd bt204.1 1) = 3 then (if (bt233.1.length : Int) = 2 then (if 0 < (bt233.1.length : Int) then (if (strOfNums (rd_L2 bt233.1 0)).toList = ([111, 110, 101] : List UInt8) then (if bt233.2 = 15 then ((slip_Whole.f k y218).bind fun t239 => (if t239 = true then (if 14 ≤ (y218.length : Int) then ((slip_Whole.f k (y218.take 14)).bind fun t245 => (some (!t245))) else (none)) else (some false))) else (some false)) else (some false)) else (none)) else (some false)) else (some false)) else (none)) else (some false)) else (some false)) else (some false)) else (some false))) else (none)))) else (none)))) else (none))) else (none))))) = some r := by first | (rw [hy201]; with_reducible exact H) | (have H2_ := (Option.bind_some _ _).symm.trans H; rw [hy201]; with_reducible exact H2_) | (have H2_ := (Option.bind_some _ _).symm.trans H; with_reducible exact H2_) | with_reducible exact H | (rw [hy201]; exact H) | exact H
  have Ny201 := Aside0.mk hy201; clear hy201; replace H := Option.bind_eq_some_iff.mp H
  obtain ⟨⟨t204, t207⟩, A10, H⟩ := H
  replace H : ((slip_Put.f k ([] : List Int)).bind fun bt208 => ((some (([] : List Int) : List Int)).bind fun y212 => (if y212.length + t204.length < 140737488355328 then ((some (y212 ++ t204 : List Int)).bind fun y215 => (if y215.length + bt208.1.length < 140737488355328 then ((some (y215 ++ bt208.1 : List Int)).bind fun y218 => ((some (([] : List Int) : List Int)).bind fun y221 => (if y221.length + y218.length < 140737488355328 then ((some (y221 ++ y218 : List Int)).bind fun y224 => ((some (([0, 3, 120] : List Int) : List Int)).bind fun y227 => (if y224.length + y227.length < 140737488355328 then ((slip_Row.f k (y224 ++ y227)).bind fun bt233 => (if t207 = 0 then (if bt208.2 = 0 then (if (t204.length : Int) = 9 then (if (bt208.1.length : Int) = 6 then (if 1 < (t204.length : Int) then (if (rd t204 1) = 3 then (if (bt233.1.length : Int) = 2 then (if 0 < (bt233.1.length : Int) then (if (strOfNums (rd_L2 bt233.1 0)).toList = ([111, 110, 101] : List UInt8) then (if bt233.2 = 15 then ((slip_Whole.f k y218).bind fun t239 => (if t239 = true then (if 14 ≤ (y218.length : Int) then ((slip_Whole.f k (y218.take 14)).bind fun t245 => (some (!t245))) else (none)) else (some false))) else (some false)) else (some false)) else (none)) else (some false)) else (some false)) else (none)) else (some false)) else (some false)) else (some false)) else (some false))) else (none)))) else (none)))) else (none))) else (none)))) = some r := H
  have A1 := Aside0.mk A10; clear A10; replace H := Option.bind_eq_some_iff.mp H
  obtain ⟨⟨t208, t211⟩, A20, H⟩ := H
  replace H : ((some (([] : List Int) : List Int)).bind fun y212 => (if y212.length + t204.length < 140737488355328 then ((some (y212 ++ t204 : List Int)).bind fun y215 => (if y215.length + t208.length < 140737488355328 then ((some (y215 ++ t208 : List Int)).bind fun y218 => ((some (([] : List Int) : List Int)).bind fun y221 => (if y221.length + y218.length < 140737488355328 then ((some (y221 ++ y218 : List Int)).bind fun y224 => ((some (([0, 3, 120] : List Int) : List Int)).bind fun y227 => (if y224.length + y227.length < 140737488355328 then ((slip_Row.f k (y224 ++ y227)).bind fun bt233 => (if t207 = 0 then (if t211 = 0 then (if (t204.length : Int) = 9 then (if (t208.length : Int) = 6 then (if 1 < (t204.length : Int) then (if (rd t204 1) = 3 then (if (bt233.1.length : Int) = 2 then (if 0 < (bt233.1.length : Int) then (if (strOfNums (rd_L2 bt233.1 0)).toList = ([111, 110, 101] : List UInt8) then (if bt233.2 = 15 then ((slip_Whole.f k y218).bind fun t239 => (if t239 = true then (if 14 ≤ (y218.length : Int) then ((slip_Whole.f k (y218.take 14)).bind fun t245 => (some (!t245))) else (none)) else (some false))) else (some false)) else (some false)) else (none)) else (some false)) else (some false)) else (none)) else (some false)) else (some false)) else (some false)) else (some false))) else (none)))) else (none)))) else (none))) else (none))) = some r := H
  have A2 := Aside0.mk A20; clear A20; obtain ⟨y212, hy212⟩ : ∃ y_ : List Int, y_ = (([] : List Int)) := ⟨_, rfl⟩
  replace H : (if y212.length + t204.length < 140737488355328 then ((some (y212 ++ t204 : List Int)).bind fun y215 => (if y215.length + t208.length < 140737488355328 then ((some (y215 ++ t208 : List Int)).bind fun y218 => ((some (([] : List Int) : List Int)).bind fun y221 => (if y221.length + y218.length < 140737488355328 then ((some (y221 ++ y218 : List Int)).bind fun y224 => ((some (([0, 3, 120] : List Int) : List Int)).bind fun y227 => (if y224.length + y227.length < 140737488355328 then ((slip_Row.f k (y224 ++ y227)).bind fun bt233 => (if t207 = 0 then (if t211 = 0 then (if (t204.length : Int) = 9 then (if (t208.length : Int) = 6 then (if 1 < (t204.length : Int) then (if (rd t204 1) = 3 then (if (bt233.1.length : Int) = 2 then (if 0 < (bt233.1.length : Int) then (if (strOfNums (rd_L2 bt233.1 0)).toList = ([111, 110, 101] : List UInt8) then (if bt233.2 = 15 then ((slip_Whole.f k y218).bind fun t239 => (if t239 = true then (if 14 ≤ (y218.length : Int) then ((slip_Whole.f k (y218.take 14)).bind fun t245 => (some (!t245))) else (none)) else (some false))) else (some false)) else (some false)) else (none)) else (some false)) else (some false)) else (none)) else (some false)) else (some false)) else (some false)) else (some false))) else (none)))) else (none)))) else (none))) else (none)) = some r := by first | (rw [hy212]; with_reducible exact H) | (have H2_ := (Option.bind_some _ _).symm.trans H; rw [hy212]; with_reducible exact H2_) | (have H2_ := (Option.bind_some _ _).symm.trans H; with_reducible exact H2_) | with_reducible exact H | (rw [hy212]; exact H) | exact H
  have Ny212 := Aside0.mk hy212; clear hy212; by_cases c3 : y212.length + t204.length < 140737488355328
  ·rw [if_pos c3] at H
   have LMc3 := Aside0.mk c3; clear c3; obtain ⟨y215, hy215⟩ : ∃ y_ : List Int, y_ = (y212 ++ t204) := ⟨_, rfl⟩
   replace H : (if y215.length + t208.length < 140737488355328 then ((some (y215 ++ t208 : List Int)).bind fun y218 => ((some (([] : List Int) : List Int)).bind fun y221 => (if y221.length + y218.length < 140737488355328 then ((some (y221 ++ y218 : List Int)).bind fun y224 => ((some (([0, 3, 120] : List Int) : List Int)).bind fun y227 => (if y224.length + y227.length < 140737488355328 then ((slip_Row.f k (y224 ++ y227)).bind fun bt233 => (if t207 = 0 then (if t211 = 0 then (if (t204.length : Int) = 9 then (if (t208.length : Int) = 6 then (if 1 < (t204.length : Int) then (if (rd t204 1) = 3 then (if (bt233.1.length : Int) = 2 then (if 0 < (bt233.1.length : Int) then (if (strOfNums (rd_L2 bt233.1 0)).toList = ([111, 110, 101] : List UInt8) then (if bt233.2 = 15 then ((slip_Whole.f k y218).bind fun t239 => (if t239 = true then (if 14 ≤ (y218.length : Int) then ((slip_Whole.f k (y218.take 14)).bind fun t245 => (some (!t245))) else (none)) else (some false))) else (some false)) else (some false)) else (none)) else (some false)) else (some false)) else (none)) else (some false)) else (some false)) else (some false)) else (some false))) else (none)))) else (none)))) else (none)) = some r := by first | (rw [hy215]; with_reducible exact H) | (have H2_ := (Option.bind_some _ _).symm.trans H; rw [hy215]; with_reducible exact H2_) | (have H2_ := (Option.bind_some _ _).symm.trans H; with_reducible exact H2_) | with_reducible exact H | (rw [hy215]; exact H) | exact H
   have Ny215 := Aside0.mk hy215; clear hy215; by_cases c4 : y215.length + t208.length < 140737488355328
   ·rw [if_pos c4] at H
    have LMc4 := Aside0.mk c4; clear c4; obtain ⟨y218, hy218⟩ : ∃ y_ : List Int, y_ = (y215 ++ t208) := ⟨_, rfl⟩
    replace H : ((some (([] : List Int) : List Int)).bind fun y221 => (if y221.length + y218.length < 140737488355328 then ((some (y221 ++ y218 : List Int)).bind fun y224 => ((some (([0, 3, 120] : List Int) : List Int)).bind fun y227 => (if y224.length + y227.length < 140737488355328 then ((slip_Row.f k (y224 ++ y227)).bind fun bt233 => (if t207 = 0 then (if t211 = 0 then (if (t204.length : Int) = 9 then (if (t208.length : Int) = 6 then (if 1 < (t204.length : Int) then (if (rd t204 1) = 3 then (if (bt233.1.length : Int) = 2 then (if 0 < (bt233.1.length : Int) then (if (strOfNums (rd_L2 bt233.1 0)).toList = ([111, 110, 101] : List UInt8) then (if bt233.2 = 15 then ((slip_Whole.f k y218).bind fun t239 => (if t239 = true then (if 14 ≤ (y218.length : Int) then ((slip_Whole.f k (y218.take 14)).bind fun t245 => (some (!t245))) else (none)) else (some false))) else (some false)) else (some false)) else (none)) else (some false)) else (some false)) else (none)) else (some false)) else (some false)) else (some false)) else (some false))) else (none)))) else (none))) = some r := by first | (rw [hy218]; with_reducible exact H) | (have H2_ := (Option.bind_some _ _).symm.trans H; rw [hy218]; with_reducible exact H2_) | (have H2_ := (Option.bind_some _ _).symm.trans H; with_reducible exact H2_) | with_reducible exact H | (rw [hy218]; exact H) | exact H
    have Ny218 := Aside0.mk hy218; clear hy218; obtain ⟨y221, hy221⟩ : ∃ y_ : List Int, y_ = (([] : List Int)) := ⟨_, rfl⟩
    replace H : (if y221.length + y218.length < 140737488355328 then ((some (y221 ++ y218 : List Int)).bind fun y224 => ((some (([0, 3, 120] : List Int) : List Int)).bind fun y227 => (if y224.length + y227.length < 140737488355328 then ((slip_Row.f k (y224 ++ y227)).bind fun bt233 => (if t207 = 0 then (if t211 = 0 then (if (t204.length : Int) = 9 then (if (t208.length : Int) = 6 then (if 1 < (t204.length : Int) then (if (rd t204 1) = 3 then (if (bt233.1.length : Int) = 2 then (if 0 < (bt233.1.length : Int) then (if (strOfNums (rd_L2 bt233.1 0)).toList = ([111, 110, 101] : List UInt8) then (if bt233.2 = 15 then ((slip_Whole.f k y218).bind fun t239 => (if t239 = true then (if 14 ≤ (y218.length : Int) then ((slip_Whole.f k (y218.take 14)).bind fun t245 => (some (!t245))) else (none)) else (some false))) else (some false)) else (some false)) else (none)) else (some false)) else (some false)) else (none)) else (some false)) else (some false)) else (some false)) else (some false))) else (none)))) else (none)) = some r := by first | (rw [hy221]; with_reducible exact H) | (have H2_ := (Option.bind_some _ _).symm.trans H; rw [hy221]; with_reducible exact H2_) | (have H2_ := (Option.bind_some _ _).symm.trans H; with_reducible exact H2_) | with_reducible exact H | (rw [hy221]; exact H) | exact H
    have Ny221 := Aside0.mk hy221; clear hy221; by_cases c5 : y221.length + y218.length < 140737488355328
    ·rw [if_pos c5] at H
     have LMc5 := Aside0.mk c5; clear c5; obtain ⟨y224, hy224⟩ : ∃ y_ : List Int, y_ = (y221 ++ y218) := ⟨_, rfl⟩
     replace H : ((some (([0, 3, 120] : List Int) : List Int)).bind fun y227 => (if y224.length + y227.length < 140737488355328 then ((slip_Row.f k (y224 ++ y227)).bind fun bt233 => (if t207 = 0 then (if t211 = 0 then (if (t204.length : Int) = 9 then (if (t208.length : Int) = 6 then (if 1 < (t204.length : Int) then (if (rd t204 1) = 3 then (if (bt233.1.length : Int) = 2 then (if 0 < (bt233.1.length : Int) then (if (strOfNums (rd_L2 bt233.1 0)).toList = ([111, 110, 101] : List UInt8) then (if bt233.2 = 15 then ((slip_Whole.f k y218).bind fun t239 => (if t239 = true then (if 14 ≤ (y218.length : Int) then ((slip_Whole.f k (y218.take 14)).bind fun t245 => (some (!t245))) else (none)) else (some false))) else (some false)) else (some false)) else (none)) else (some false)) else (some false)) else (none)) else (some false)) else (some false)) else (some false)) else (some false))) else (none))) = some r := by first | (rw [hy224]; with_reducible exact H) | (have H2_ := (Option.bind_some _ _).symm.trans H; rw [hy224]; with_reducible exact H2_) | (have H2_ := (Option.bind_some _ _).symm.trans H; with_reducible exact H2_) | with_reducible exact H | (rw [hy224]; exact H) | exact H
     have Ny224 := Aside0.mk hy224; clear hy224; obtain ⟨y227, hy227⟩ : ∃ y_ : List Int, y_ = (([0, 3, 120] : List Int)) := ⟨_, rfl⟩
     replace H : (if y224.length + y227.length < 140737488355328 then ((slip_Row.f k (y224 ++ y227)).bind fun bt233 => (if t207 = 0 then (if t211 = 0 then (if (t204.length : Int) = 9 then (if (t208.length : Int) = 6 then (if 1 < (t204.length : Int) then (if (rd t204 1) = 3 then (if (bt233.1.length : Int) = 2 then (if 0 < (bt233.1.length : Int) then (if (strOfNums (rd_L2 bt233.1 0)).toList = ([111, 110, 101] : List UInt8) then (if bt233.2 = 15 then ((slip_Whole.f k y218).bind fun t239 => (if t239 = true then (if 14 ≤ (y218.length : Int) then ((slip_Whole.f k (y218.take 14)).bind fun t245 => (some (!t245))) else (none)) else (some false))) else (some false)) else (some false)) else (none)) else (some false)) else (some false)) else (none)) else (some false)) else (some false)) else (some false)) else (some false))) else (none)) = some r := by first | (rw [hy227]; with_reducible exact H) | (have H2_ := (Option.bind_some _ _).symm.trans H; rw [hy227]; with_reducible exact H2_) | (have H2_ := (Option.bind_some _ _).symm.trans H; with_reducible exact H2_) | with_reducible exact H | (rw [hy227]; exact H) | exact H
     have Ny227 := Aside0.mk hy227; clear hy227; by_cases c6 : y224.length + y227.length < 140737488355328
     ·rw [if_pos c6] at H
      have LMc6 := Aside0.mk c6; clear c6; obtain ⟨y230, hy230⟩ : ∃ y_ : List Int, y_ = (y224 ++ y227) := ⟨_, rfl⟩
      replace H : ((slip_Row.f k y230).bind fun bt233 => (if t207 = 0 then (if t211 = 0 then (if (t204.length : Int) = 9 then (if (t208.length : Int) = 6 then (if 1 < (t204.length : Int) then (if (rd t204 1) = 3 then (if (bt233.1.length : Int) = 2 then (if 0 < (bt233.1.length : Int) then (if (strOfNums (rd_L2 bt233.1 0)).toList = ([111, 110, 101] : List UInt8) then (if bt233.2 = 15 then ((slip_Whole.f k y218).bind fun t239 => (if t239 = true then (if 14 ≤ (y218.length : Int) then ((slip_Whole.f k (y218.take 14)).bind fun t245 => (some (!t245))) else (none)) else (some false))) else (some false)) else (some false)) else (none)) else (some false)) else (some false)) else (none)) else (some false)) else (some false)) else (some false)) else (some false))) = some r := by first | (rw [hy230]; with_reducible exact H) | (have H2_ := (Option.bind_some _ _).symm.trans H; rw [hy230]; with_reducible exact H2_) | (have H2_ := (Option.bind_some _ _).symm.trans H; with_reducible exact H2_) | with_reducible exact H | (rw [hy230]; exact H) | exact H
      have Ny230 := Aside0.mk hy230; clear hy230; replace H := Option.bind_eq_some_iff.mp H
      obtain ⟨⟨t233, t236⟩, A70, H⟩ := H
      replace H : (if t207 = 0 then (if t211 = 0 then (if (t204.length : Int) = 9 then (if (t208.length : Int) = 6 then (if 1 < (t204.length : Int) then (if (rd t204 1) = 3 then (if (t233.length : Int) = 2 then (if 0 < (t233.length : Int) then (if (strOfNums (rd_L2 t233 0)).toList = ([111, 110, 101] : List UInt8) then (if t236 = 15 then ((slip_Whole.f k y218).bind fun t239 => (if t239 = true then (if 14 ≤ (y218.length : Int) then ((slip_Whole.f k (y218.take 14)).bind fun t245 => (some (!t245))) else (none)) else (some false))) else (some false)) else (some false)) else (none)) else (some false)) else (some false)) else (none)) else (some false)) else (some false)) else (some false)) else (some false)) = some r := H
      have A7 := Aside0.mk A70; clear A70; by_cases c8 : t207 = 0
      ·rw [if_pos c8] at H
       have c8b0 : (t207 == 0) = true := beq_iff_eq.mpr c8
       have c8b1 : (t207 != 0) = false := bne_eq_false_iff_eq.mpr c8
       clear c8; by_cases c9 : t211 = 0
       ·rw [if_pos c9] at H
        have c9b0 : (t211 == 0) = true := beq_iff_eq.mpr c9
        have c9b1 : (t211 != 0) = false := bne_eq_false_iff_eq.mpr c9
        clear c9; by_cases c10 : (t204.length : Int) = 9
        ·rw [if_pos c10] at H
         have c10b0 : ((t204.length : Int) == 9) = true := beq_iff_eq.mpr c10
         have c10b1 : ((t204.length : Int) != 9) = false := bne_eq_false_iff_eq.mpr c10
         clear c10; by_cases c11 : (t208.length : Int) = 6
         ·rw [if_pos c11] at H
          have c11b0 : ((t208.length : Int) == 6) = true := beq_iff_eq.mpr c11
          have c11b1 : ((t208.length : Int) != 6) = false := bne_eq_false_iff_eq.mpr c11
          clear c11; by_cases c12 : 1 < (t204.length : Int)
          ·rw [if_pos c12] at H
           have c12b0 : decide (1 < (t204.length : Int)) = true := decide_eq_true c12
           have c12b1 : decide (1 < t204.length) = true := decide_eq_true (by omega)
           clear c12; by_cases c13 : (rd t204 1) = 3
           ·rw [if_pos c13] at H
            have c13b0 : ((rd t204 1) == 3) = true := beq_iff_eq.mpr c13
            have c13b1 : ((rd t204 1) != 3) = false := bne_eq_false_iff_eq.mpr c13
            clear c13; by_cases c14 : (t233.length : Int) = 2
            ·rw [if_pos c14] at H
             have c14b0 : ((t233.length : Int) == 2) = true := beq_iff_eq.mpr c14
             have c14b1 : ((t233.length : Int) != 2) = false := bne_eq_false_iff_eq.mpr c14
             clear c14; by_cases c15 : 0 < (t233.length : Int)
             ·rw [if_pos c15] at H
              have c15b0 : decide (0 < (t233.length : Int)) = true := decide_eq_true c15
              have c15b1 : decide (0 < t233.length) = true := decide_eq_true (by omega)
              clear c15; by_cases c16 : (strOfNums (rd_L2 t233 0)).toList = ([111, 110, 101] : List UInt8)
              ·rw [if_pos c16] at H
               have c16b0 : ((strOfNums (rd_L2 t233 0)).toList == ([111, 110, 101] : List UInt8)) = true := beq_iff_eq.mpr c16
               have c16b1 : ((strOfNums (rd_L2 t233 0)).toList != ([111, 110, 101] : List UInt8)) = false := bne_eq_false_iff_eq.mpr c16
               clear c16; by_cases c17 : t236 = 15
               ·rw [if_pos c17] at H
                have c17b0 : (t236 == 15) = true := beq_iff_eq.mpr c17
                have c17b1 : (t236 != 15) = false := bne_eq_false_iff_eq.mpr c17
                clear c17; replace H := Option.bind_eq_some_iff.mp H
                obtain ⟨t239, A180, H⟩ := H
                replace H : (if t239 = true then (if 14 ≤ (y218.length : Int) then ((slip_Whole.f k (y218.take 14)).bind fun t245 => (some (!t245))) else (none)) else (some false)) = some r := H
                have A18 := Aside0.mk A180; clear A180; by_cases c19 : t239 = true
                ·subst c19
                 have H1 : (if 14 ≤ (y218.length : Int) then ((slip_Whole.f k (y218.take 14)).bind fun t245 => (some (!t245))) else (none)) = some r := by rw [if_pos rfl] at H; exact H
                 clear H; have H := H1; clear H1; by_cases c20 : 14 ≤ (y218.length : Int)
                 ·rw [if_pos c20] at H
                  have c20b0 := eq_true c20
                  have c20b1 : decide (14 ≤ (y218.length : Int)) = true := decide_eq_true c20
                  clear c20; obtain ⟨y240, hy240⟩ : ∃ y_ : List Int, y_ = (y218.take 14) := ⟨_, rfl⟩
                  replace H : ((slip_Whole.f k y240).bind fun t245 => (some (!t245))) = some r := by first | (rw [hy240]; with_reducible exact H) | (have H2_ := (Option.bind_some _ _).symm.trans H; rw [hy240]; with_reducible exact H2_) | (have H2_ := (Option.bind_some _ _).symm.trans H; with_reducible exact H2_) | with_reducible exact H | (rw [hy240]; exact H) | exact H
                  have Ny240 := Aside0.mk hy240; clear hy240; replace H := Option.bind_eq_some_iff.mp H
                  obtain ⟨t245, A210, H⟩ := H
                  replace H : (some (!t245)) = some r := H
                  have A21 := Aside0.mk A210; clear A210; obtain rfl := Option.some.inj H
                  go_enter Tryd.func32, Tryd.ntmps32
                  go_wp2_with (first | ((with_reducible refine gate_dst (N := 9) rfl ?_); (try (refine gate_guard (by rfl) ?_; dsimp only)); refine V_const (base := _) (e := 5) (t := 24) (N' := 9) ?hg ?hd ?ho2 ?hlt Tryd.underlying24 Tryd.underlying5 (xs := [111, 110, 101]) (ok := (fun _ => True)) ?hr ?hg2 trivial (Below.refl _ _) (Nat.le_refl _) (by simp) ?_; (case hg => rfl); (case hd => rfl); (case ho2 => rfl); (case hg2 => rfl); (case hlt => exact of_decide_eq_true rfl); (case hr => first | (go_simp; done) | (go_simp; rfl)); intro v202 w22 ho23 hb hg_ hnew_; clear hg_ hnew_; (first | rw [← Ny201.out] at ho23 | (simp only [Int.reduceToNat] at ho23; rw [← Ny201.out] at ho23)); have n0_ := Aside0.mk (Kd.V_lower ho23 (below_size (by repeat (first | (with_reducible first | exact HB.out | apply bA | apply bN | apply bD) | exact HB.out)))); have n1_ := Aside0.mk (below_step (by repeat (first | (with_reducible first | exact HB.out | apply bA | apply bN | apply bD) | exact HB.out)) hb); clear HB; have HO203 := n0_; have HB := n1_; clear n0_ n1_; clear hb ho23; obtain ⟨Ao24, co24, eo24⟩ := Kd.V_slice HO203.out; subst eo24) | ((with_reducible refine gate_callee (f := 33) rfl ?_); refine goesL_ (some 11) rfl rfl Tryd.func33 (by kernel_rfl) rfl #[.slice Ao24 y201.length co24] rfl (by (try simp only [mT, mC, mN]); first | done | rfl | (simp only [List.length_drop, List.length_take]; rfl)) ?_; (with_reducible refine (slip_Put.calls k (fun k_ => True) _ _ y201 t204 t207 _ ?side1 ?side2 ?side3 A1.out).mono ?_); (case side1 => exact HO203.out); (case side2 => repeat (first | exact (Kd.C_below HRL0_.out HB.out) | (with_reducible refine Kd.C_alloc ?_ _) | (with_reducible refine Kd.C_drewN ?_ _) | (with_reducible refine Kd.C_drew ?_))); (case side3 => repeat (first | exact (Kd.C_below HRL1_.out HB.out) | (with_reducible refine Kd.C_alloc ?_ _) | (with_reducible refine Kd.C_drewN ?_ _) | (with_reducible refine Kd.C_drew ?_))); rintro e w25 ⟨v205, rfl, ho0, hb⟩; refine ⟨_, rfl, ?_⟩; have n0_ := Aside0.mk (Kd.V_elder' (by (with_reducible repeat (first | apply Kd.V_alloc | apply Kd.V_drewN | apply Kd.V_drew)); exact HO203.out) (Kd.R_base ho0) hb); have n1_ := Aside0.mk (Kd.R_lower (Kd.R_mono (ok' := fun k_ => True) ho0 (fun _ hk_ => trivial)) (below_size (by repeat (first | (with_reducible first | exact HB.out | apply bA | apply bN | apply bD) | exact HB.out)))); have n2_ := Aside0.mk (below_step (by repeat (first | (with_reducible first | exact HB.out | apply bA | apply bN | apply bD) | exact HB.out)) hb); clear HO203; clear HB; have HO203 := n0_; have HO206 := n1_; have HB := n2_; clear n0_ n1_ n2_; (try clear hb); (try clear hb2); (try clear hk); (try clear hi); (try clear ho0)) | ((with_reducible refine gate_callee (f := 33) rfl ?_); refine goesL_ (some 15) rfl rfl Tryd.func33 (by kernel_rfl) rfl #[.slice none 0 0] rfl (by (try simp only [mT, mC, mN]); first | done | rfl | (simp only [List.length_drop, List.length_take]; rfl)) ?_; (refine (slip_Put.calls k (fun k_ => False) _ _ ([] : List Int) t208 t211 _ ?side1 ?side2 ?side3 A2.out).mono ?_); (case side1 => exact Kd.V_nil _ _ _ _ _); (case side2 => repeat (first | exact (Kd.C_below HRL0_.out HB.out) | (with_reducible refine Kd.C_alloc ?_ _) | (with_reducible refine Kd.C_drewN ?_ _) | (with_reducible refine Kd.C_drew ?_))); (case side3 => repeat (first | exact (Kd.C_below HRL1_.out HB.out) | (with_reducible refine Kd.C_alloc ?_ _) | (with_reducible refine Kd.C_drewN ?_ _) | (with_reducible refine Kd.C_drew ?_))); rintro e w26 ⟨v209, rfl, ho0, hb⟩; refine ⟨_, rfl, ?_⟩; have n0_ := Aside0.mk (Kd.V_elder' (by (with_reducible repeat (first | apply Kd.V_alloc | apply Kd.V_drewN | apply Kd.V_drew)); exact HO203.out) (Kd.R_base ho0) hb); have n1_ := Aside0.mk (Kd.R_elder' (by (with_reducible repeat (first | apply rL | apply rN | apply rW)); exact HO206.out) (Kd.R_base ho0) hb); have n2_ := Aside0.mk (Kd.R_lower (Kd.R_new' (Kd.R_mono (ok' := fun k_ => True) ho0 (fun _ hk_ => trivial)) (Kd.R_lt (by (with_reducible repeat (first | apply rL | apply rN | apply rW)); exact HO206.out))) (below_size (by repeat (first | (with_reducible first | exact HB.out | apply bA | apply bN | apply bD) | exact HB.out)))); have n3_ := Aside0.mk (below_step (by repeat (first | (with_reducible first | exact HB.out | apply bA | apply bN | apply bD) | exact HB.out)) hb); clear HO203; clear HO206; clear HB; have HO203 := n0_; have HO206 := n1_; have HO210 := n2_; have HB := n3_; clear n0_ n1_ n2_ n3_; (try clear hb); (try clear hb2); (try clear hk); (try clear hi); (try clear ho0)) | ((with_reducible refine gate_dst (N := 18) rfl ?_); (try (refine gate_guard (by rfl) ?_; dsimp only)); refine Kd.R_lit (Kd.int .u8) _ 5 ?hg (N := 18) ?hd (xs := ([] : List Int)) (inner := []) (ok := fun _ => True) (okp := fun _ => True) ?hr ?hp (fun _ hk => hk) trivial (Below.refl _ _) (Nat.le_refl _) (by simp) ?_; (case hd => rfl); (case hg => rfl); (case hr => first | (go_simp; done) | (go_simp; rfl)); (case hp => exact (Reps.none _ _)); intro v213 w27 ho28 hb hg_ hnew_; clear hg_ hnew_; (first | rw [← Ny212.out] at ho28 | (simp only [Int.reduceToNat] at ho28; rw [← Ny212.out] at ho28)); have n0_ := Aside0.mk (Kd.V_elder' (by (with_reducible repeat (first | apply Kd.V_alloc | apply Kd.V_drewN | apply Kd.V_drew)); exact HO203.out) (Kd.R_base ho28) hb); have n1_ := Aside0.mk (Kd.R_elder' (by (with_reducible repeat (first | apply rL | apply rN | apply rW)); exact HO206.out) (Kd.R_base ho28) hb); have n2_ := Aside0.mk (Kd.R_elder' (by (with_reducible repeat (first | apply rL | apply rN | apply rW)); exact HO210.out) (Kd.R_base ho28) hb); have n3_ := Aside0.mk (Kd.R_lower (Kd.R_new' (Kd.R_new' ho28 (Kd.R_lt (by (with_reducible repeat (first | apply rL | apply rN | apply rW)); exact HO206.out))) (Kd.R_lt (by (with_reducible repeat (first | apply rL | apply rN | apply rW)); exact HO210.out))) (below_size (by repeat (first | (with_reducible first | exact HB.out | apply bA | apply bN | apply bD) | exact HB.out)))); have n4_ := Aside0.mk (below_step (by repeat (first | (with_reducible first | exact HB.out | apply bA | apply bN | apply bD) | exact HB.out)) hb); clear HO203; clear HO206; clear HO210; clear HB; have HO203 := n0_; have HO206 := n1_; have HO210 := n2_; have HO214 := n3_; have HB := n4_; clear n0_ n1_ n2_ n3_ n4_; clear hb ho28; obtain ⟨Ao30, co30, eo30⟩ := Kd.R_slice HO206.out; subst eo30) | ((with_reducible refine gate_builtin (b := .append) (xs := #[.tmp 18, .tmp 19]) rfl ?_); (try (refine gate_guard (by rfl) ?_; dsimp only)); at_builtin; refine Kd.R_append_rows (Kd.int .u8) (w0 := w) w.heap.size rfl (.tmp 18) (.tmp 19) 24 5 (.int .u8 0) 1 rfl Tryd.underlying24 info5 rfl (by decide) (by omega) v213 y212 t204 _ _ _ (fun k_ => some k_ ≠ (.slice Ao30 t204.length co30 : Value).ownBlock ∧ some k_ ≠ (v209 : Value).ownBlock) (fun _ => False) rfl rfl ?aO ?aR (fun _ _ h => h) (fun _ h => h.elim) ?aF ?aB ?aS ?aL ?_; (case aR => repeat (first | exact (Kd.R_reads' HO206.out).2.2 | (with_reducible refine Kd.C_alloc ?_ _) | (with_reducible refine Kd.C_drewN ?_ _) | (with_reducible refine Kd.C_drew ?_))); (case aB => exact (by repeat (first | (with_reducible first | exact HB.out | apply bA | apply bN | apply bD) | exact HB.out))); (case aF => exact (fun k_ hk => ⟨Kd.fresh' (Kd.R_lt (by (with_reducible repeat (first | apply rL | apply rN | apply rW)); exact HO206.out)) k_ hk, Kd.fresh' (Kd.R_lt (by (with_reducible repeat (first | apply rL | apply rN | apply rW)); exact HO210.out)) k_ hk⟩)); (case aO => exact (by (with_reducible repeat (first | apply rL | apply rN | apply rW)); exact Kd.R_mono HO214.out (fun _ hk => ⟨hk.1.2, hk.2⟩))); (case aS => exact (below_size (by repeat (first | (with_reducible first | exact HB.out | apply bA | apply bN | apply bD) | exact HB.out)))); (case aL => have := LMc3.out; omega); intro v216 w29 ho hb hg hat; rw [← Ny215.out] at ho; have n0_ := Aside0.mk (Kd.V_afterv (ok := (fun k_ => some k_ ≠ (.slice Ao30 t204.length co30 : Value).ownBlock ∧ some k_ ≠ (v209 : Value).ownBlock)) (by (with_reducible repeat (first | apply Kd.V_alloc | apply Kd.V_drewN | apply Kd.V_drew)); exact Kd.V_mono HO203.out (fun _ hk => ⟨⟨hk.1.1.2, hk.1.2⟩, hk.2⟩)) hg hat); have n1_ := Aside0.mk (Kd.R_after (ok := (fun k_ => some k_ ≠ (v209 : Value).ownBlock)) (by (with_reducible repeat (first | apply rL | apply rN | apply rW)); exact Kd.R_mono HO206.out (fun _ hk => ⟨hk.1.2, hk.2⟩)) hg hat); have n2_ := Aside0.mk (Kd.R_after (ok := (fun k_ => some k_ ≠ (.slice Ao30 t204.length co30 : Value).ownBlock)) (by (with_reducible repeat (first | apply rL | apply rN | apply rW)); exact Kd.R_mono HO210.out (fun _ hk => ⟨hk.1.2, hk.2⟩)) hg hat); have n3_ := Aside0.mk (hb); have n4_ := Aside0.mk (ho); clear HO203; clear HO206; clear HO210; clear HB; clear HO214; have HO203 := n0_; have HO206 := n1_; have HO210 := n2_; have HB := n3_; have HO217 := n4_; clear n0_ n1_ n2_ n3_ n4_; clear ho hb hg hat; obtain ⟨Ao32, co32, eo32⟩ := Kd.R_slice HO210.out; subst eo32) | ((with_reducible refine gate_builtin (b := .append) (xs := #[.tmp 20, .tmp 21]) rfl ?_); (try (refine gate_guard (by rfl) ?_; dsimp only)); at_builtin; refine Kd.R_append_rows (Kd.int .u8) (w0 := w) w.heap.size rfl (.tmp 20) (.tmp 21) 24 5 (.int .u8 0) 1 rfl Tryd.underlying24 info5 rfl (by decide) (by omega) v216 y215 t208 _ _ _ (fun k_ => some k_ ≠ (.slice Ao30 t204.length co30 : Value).ownBlock ∧ some k_ ≠ (.slice Ao32 t208.length co32 : Value).ownBlock) (fun _ => False) rfl rfl ?aO ?aR (fun _ _ h => h) (fun _ h => h.elim) ?aF ?aB ?aS ?aL ?_; (case aR => repeat (first | exact (Kd.R_reads' HO210.out).2.2 | (with_reducible refine Kd.C_alloc ?_ _) | (with_reducible refine Kd.C_drewN ?_ _) | (with_reducible refine Kd.C_drew ?_))); (case aB => exact (by repeat (first | (with_reducible first | exact HB.out | apply bA | apply bN | apply bD) | exact HB.out))); (case aF => exact (fun k_ hk => ⟨Kd.fresh' (Kd.R_lt (by (with_reducible repeat (first | apply rL | apply rN | apply rW)); exact HO206.out)) k_ hk, Kd.fresh' (Kd.R_lt (by (with_reducible repeat (first | apply rL | apply rN | apply rW)); exact HO210.out)) k_ hk⟩)); (case aO => exact (by (with_reducible repeat (first | apply rL | apply rN | apply rW)); exact HO217.out)); (case aS => exact (below_size (by repeat (first | (with_reducible first | exact HB.out | apply bA | apply bN | apply bD) | exact HB.out)))); (case aL => have := LMc4.out; omega); intro v219 w31 ho hb hg hat; rw [← Ny218.out] at ho; have n0_ := Aside0.mk (Kd.V_afterv (ok := (fun k_ => some k_ ≠ (.slice Ao30 t204.length co30 : Value).ownBlock ∧ some k_ ≠ (.slice Ao32 t208.length co32 : Value).ownBlock)) (by (with_reducible repeat (first | apply Kd.V_alloc | apply Kd.V_drewN | apply Kd.V_drew)); exact HO203.out) hg hat); have n1_ := Aside0.mk (Kd.R_after (ok := (fun k_ => some k_ ≠ (.slice Ao32 t208.length co32 : Value).ownBlock)) (by (with_reducible repeat (first | apply rL | apply rN | apply rW)); exact HO206.out) hg hat); have n2_ := Aside0.mk (Kd.R_after (ok := (fun k_ => some k_ ≠ (.slice Ao30 t204.length co30 : Value).ownBlock)) (by (with_reducible repeat (first | apply rL | apply rN | apply rW)); exact HO210.out) hg hat); have n3_ := Aside0.mk (hb); have n4_ := Aside0.mk (ho); clear HO203; clear HO206; clear HO210; clear HB; clear HO217; have HO203 := n0_; have HO206 := n1_; have HO210 := n2_; have HB := n3_; have HO220 := n4_; clear n0_ n1_ n2_ n3_ n4_; clear ho hb hg hat) | ((with_reducible refine gate_dst (N := 24) rfl ?_); (try (refine gate_guard (by rfl) ?_; dsimp only)); refine Kd.R_lit (Kd.int .u8) _ 5 ?hg (N := 24) ?hd (xs := ([] : List Int)) (inner := []) (ok := fun _ => True) (okp := fun _ => True) ?hr ?hp (fun _ hk => hk) trivial (Below.refl _ _) (Nat.le_refl _) (by simp) ?_; (case hd => rfl); (case hg => rfl); (case hr => first | (go_simp; done) | (go_simp; rfl)); (case hp => exact (Reps.none _ _)); intro v222 w33 ho34 hb hg_ hnew_; clear hg_ hnew_; (first | rw [← Ny221.out] at ho34 | (simp only [Int.reduceToNat] at ho34; rw [← Ny221.out] at ho34)); have n0_ := Aside0.mk (Kd.V_elder' (by (with_reducible repeat (first | apply Kd.V_alloc | apply Kd.V_drewN | apply Kd.V_drew)); exact HO203.out) (Kd.R_base ho34) hb); have n1_ := Aside0.mk (Kd.R_elder' (by (with_reducible repeat (first | apply rL | apply rN | apply rW)); exact HO206.out) (Kd.R_base ho34) hb); have n2_ := Aside0.mk (Kd.R_elder' (by (with_reducible repeat (first | apply rL | apply rN | apply rW)); exact HO210.out) (Kd.R_base ho34) hb); have n3_ := Aside0.mk (Kd.R_elder' (by (with_reducible repeat (first | apply rL | apply rN | apply rW)); exact HO220.out) (Kd.R_base ho34) hb); have n4_ := Aside0.mk (Kd.R_lower (Kd.R_new' (Kd.R_new' (Kd.R_new' ho34 (Kd.R_lt (by (with_reducible repeat (first | apply rL | apply rN | apply rW)); exact HO206.out))) (Kd.R_lt (by (with_reducible repeat (first | apply rL | apply rN | apply rW)); exact HO210.out))) (Kd.R_lt (by (with_reducible repeat (first | apply rL | apply rN | apply rW)); exact HO220.out))) (below_size (by repeat (first | (with_reducible first | exact HB.out | apply bA | apply bN | apply bD) | exact HB.out)))); have n5_ := Aside0.mk (below_step (by repeat (first | (with_reducible first | exact HB.out | apply bA | apply bN | apply bD) | exact HB.out)) hb); clear HO203; clear HO206; clear HO210; clear HO220; clear HB; have HO203 := n0_; have HO206 := n1_; have HO210 := n2_; have HO220 := n3_; have HO223 := n4_; have HB := n5_; clear n0_ n1_ n2_ n3_ n4_ n5_; clear hb ho34; obtain ⟨Ao36, co36, eo36⟩ := Kd.R_slice HO220.out; subst eo36) | ((with_reducible refine gate_builtin (b := .append) (xs := #[.tmp 24, .tmp 25]) rfl ?_); (try (refine gate_guard (by rfl) ?_; dsimp only)); at_builtin; refine Kd.R_append_rows (Kd.int .u8) (w0 := w) w.heap.size rfl (.tmp 24) (.tmp 25) 24 5 (.int .u8 0) 1 rfl Tryd.underlying24 info5 rfl (by decide) (by omega) v222 y221 y218 _ _ _ (fun k_ => some k_ ≠ (.slice Ao30 t204.length co30 : Value).ownBlock ∧ some k_ ≠ (.slice Ao32 t208.length co32 : Value).ownBlock ∧ some k_ ≠ (.slice Ao36 y218.length co36 : Value).ownBlock) (fun _ => False) rfl rfl ?aO ?aR (fun _ _ h => h) (fun _ h => h.elim) ?aF ?aB ?aS ?aL ?_; (case aR => repeat (first | exact (Kd.R_reads' HO220.out).2.2 | (with_reducible refine Kd.C_alloc ?_ _) | (with_reducible refine Kd.C_drewN ?_ _) | (with_reducible refine Kd.C_drew ?_))); (case aB => exact (by repeat (first | (with_reducible first | exact HB.out | apply bA | apply bN | apply bD) | exact HB.out))); (case aF => exact (fun k_ hk => ⟨Kd.fresh' (Kd.R_lt (by (with_reducible repeat (first | apply rL | apply rN | apply rW)); exact HO206.out)) k_ hk, Kd.fresh' (Kd.R_lt (by (with_reducible repeat (first | apply rL | apply rN | apply rW)); exact HO210.out)) k_ hk, Kd.fresh' (Kd.R_lt (by (with_reducible repeat (first | apply rL | apply rN | apply rW)); exact HO220.out)) k_ hk⟩)); (case aO => exact (by (with_reducible repeat (first | apply rL | apply rN | apply rW)); exact Kd.R_mono HO223.out (fun _ hk => ⟨hk.1.1.2, ⟨hk.1.2, hk.2⟩⟩))); (case aS => exact (below_size (by repeat (first | (with_reducible first | exact HB.out | apply bA | apply bN | apply bD) | exact HB.out)))); (case aL => have := LMc5.out; omega); intro v225 w35 ho hb hg hat; rw [← Ny224.out] at ho; have n0_ := Aside0.mk (Kd.V_afterv (ok := (fun k_ => some k_ ≠ (.slice Ao30 t204.length co30 : Value).ownBlock ∧ some k_ ≠ (.slice Ao32 t208.length co32 : Value).ownBlock ∧ some k_ ≠ (.slice Ao36 y218.length co36 : Value).ownBlock)) (by (with_reducible repeat (first | apply Kd.V_alloc | apply Kd.V_drewN | apply Kd.V_drew)); exact Kd.V_mono HO203.out (fun _ hk => ⟨⟨hk.1.1.1, ⟨hk.1.1.2, hk.1.2⟩⟩, hk.2⟩)) hg hat); have n1_ := Aside0.mk (Kd.R_after (ok := (fun k_ => some k_ ≠ (.slice Ao32 t208.length co32 : Value).ownBlock ∧ some k_ ≠ (.slice Ao36 y218.length co36 : Value).ownBlock)) (by (with_reducible repeat (first | apply rL | apply rN | apply rW)); exact HO206.out) hg hat); have n2_ := Aside0.mk (Kd.R_after (ok := (fun k_ => some k_ ≠ (.slice Ao30 t204.length co30 : Value).ownBlock ∧ some k_ ≠ (.slice Ao36 y218.length co36 : Value).ownBlock)) (by (with_reducible repeat (first | apply rL | apply rN | apply rW)); exact HO210.out) hg hat); have n3_ := Aside0.mk (Kd.R_after (ok := (fun k_ => some k_ ≠ (.slice Ao30 t204.length co30 : Value).ownBlock ∧ some k_ ≠ (.slice Ao32 t208.length co32 : Value).ownBlock)) (by (with_reducible repeat (first | apply rL | apply rN | apply rW)); exact HO220.out) hg hat); have n4_ := Aside0.mk (hb); have n5_ := Aside0.mk (ho); clear HO203; clear HO206; clear HO210; clear HO220; clear HB; clear HO223; have HO203 := n0_; have HO206 := n1_; have HO210 := n2_; have HO220 := n3_; have HB := n4_; have HO226 := n5_; clear n0_ n1_ n2_ n3_ n4_ n5_; clear ho hb hg hat) | ((with_reducible refine gate_dst (N := 27) rfl ?_); (try (refine gate_guard (by rfl) ?_; dsimp only)); refine Kd.R_lit (Kd.int .u8) _ 5 ?hg (N := 27) ?hd (xs := ([0, 3, 120] : List Int)) (inner := [.int .u8 0, .int .u8 3, .int .u8 120]) (ok := fun _ => True) (okp := fun _ => True) ?hr ?hp (fun _ hk => hk) trivial (Below.refl _ _) (Nat.le_refl _) (by simp) ?_; (case hd => rfl); (case hg => rfl); (case hr => first | (go_simp; done) | (go_simp; rfl)); (case hp => exact (Reps.one (show Kd.M (Kd.int .u8) _ _ _ 0 [.int .u8 0] from rfl) (Reps.one (show Kd.M (Kd.int .u8) _ _ _ 3 [.int .u8 3] from rfl) (Reps.one (show Kd.M (Kd.int .u8) _ _ _ 120 [.int .u8 120] from rfl) (Reps.none _ _))))); intro v228 w37 ho38 hb hg_ hnew_; clear hg_ hnew_; (first | rw [← Ny227.out] at ho38 | (simp only [Int.reduceToNat] at ho38; rw [← Ny227.out] at ho38)); have n0_ := Aside0.mk (Kd.V_elder' (by (with_reducible repeat (first | apply Kd.V_alloc | apply Kd.V_drewN | apply Kd.V_drew)); exact HO203.out) (Kd.R_base ho38) hb); have n1_ := Aside0.mk (Kd.R_elder' (by (with_reducible repeat (first | apply rL | apply rN | apply rW)); exact HO206.out) (Kd.R_base ho38) hb); have n2_ := Aside0.mk (Kd.R_elder' (by (with_reducible repeat (first | apply rL | apply rN | apply rW)); exact HO210.out) (Kd.R_base ho38) hb); have n3_ := Aside0.mk (Kd.R_elder' (by (with_reducible repeat (first | apply rL | apply rN | apply rW)); exact HO220.out) (Kd.R_base ho38) hb); have n4_ := Aside0.mk (Kd.R_elder' (by (with_reducible repeat (first | apply rL | apply rN | apply rW)); exact HO226.out) (Kd.R_base ho38) hb); have n5_ := Aside0.mk (Kd.R_lower (Kd.R_new' (Kd.R_new' (Kd.R_new' (Kd.R_new' ho38 (Kd.R_lt (by (with_reducible repeat (first | apply rL | apply rN | apply rW)); exact HO206.out))) (Kd.R_lt (by (with_reducible repeat (first | apply rL | apply rN | apply rW)); exact HO210.out))) (Kd.R_lt (by (with_reducible repeat (first | apply rL | apply rN | apply rW)); exact HO220.out))) (Kd.R_lt (by (with_reducible repeat (first | apply rL | apply rN | apply rW)); exact HO226.out))) (below_size (by repeat (first | (with_reducible first | exact HB.out | apply bA | apply bN | apply bD) | exact HB.out)))); have n6_ := Aside0.mk (below_step (by repeat (first | (with_reducible first | exact HB.out | apply bA | apply bN | apply bD) | exact HB.out)) hb); clear HO203; clear HO206; clear HO210; clear HO220; clear HO226; clear HB; have HO203 := n0_; have HO206 := n1_; have HO210 := n2_; have HO220 := n3_; have HO226 := n4_; have HO229 := n5_; have HB := n6_; clear n0_ n1_ n2_ n3_ n4_ n5_ n6_; clear hb ho38; obtain ⟨Ao40, co40, eo40⟩ := Kd.R_slice HO229.out; subst eo40) | ((with_reducible refine gate_builtin (b := .append) (xs := #[.tmp 26, .tmp 27]) rfl ?_); (try (refine gate_guard (by rfl) ?_; dsimp only)); at_builtin; refine Kd.R_append_rows (Kd.int .u8) (w0 := w) w.heap.size rfl (.tmp 26) (.tmp 27) 24 5 (.int .u8 0) 1 rfl Tryd.underlying24 info5 rfl (by decide) (by omega) v225 y224 y227 _ _ _ (fun k_ => some k_ ≠ (.slice Ao30 t204.length co30 : Value).ownBlock ∧ some k_ ≠ (.slice Ao32 t208.length co32 : Value).ownBlock ∧ some k_ ≠ (.slice Ao36 y218.length co36 : Value).ownBlock ∧ some k_ ≠ (.slice Ao40 y227.length co40 : Value).ownBlock) (fun _ => False) rfl rfl ?aO ?aR (fun _ _ h => h) (fun _ h => h.elim) ?aF ?aB ?aS ?aL ?_; (case aR => repeat (first | exact (Kd.R_reads' HO229.out).2.2 | (with_reducible refine Kd.C_alloc ?_ _) | (with_reducible refine Kd.C_drewN ?_ _) | (with_reducible refine Kd.C_drew ?_))); (case aB => exact (by repeat (first | (with_reducible first | exact HB.out | apply bA | apply bN | apply bD) | exact HB.out))); (case aF => exact (fun k_ hk => ⟨Kd.fresh' (Kd.R_lt (by (with_reducible repeat (first | apply rL | apply rN | apply rW)); exact HO206.out)) k_ hk, Kd.fresh' (Kd.R_lt (by (with_reducible repeat (first | apply rL | apply rN | apply rW)); exact HO210.out)) k_ hk, Kd.fresh' (Kd.R_lt (by (with_reducible repeat (first | apply rL | apply rN | apply rW)); exact HO220.out)) k_ hk, Kd.fresh' (Kd.R_lt (by (with_reducible repeat (first | apply rL | apply rN | apply rW)); exact HO229.out)) k_ hk⟩)); (case aO => exact (by (with_reducible repeat (first | apply rL | apply rN | apply rW)); exact Kd.R_mono HO226.out (fun _ hk => ⟨hk.1.1, ⟨hk.1.2.1, ⟨hk.1.2.2, hk.2⟩⟩⟩))); (case aS => exact (below_size (by repeat (first | (with_reducible first | exact HB.out | apply bA | apply bN | apply bD) | exact HB.out)))); (case aL => have := LMc6.out; omega); intro v231 w39 ho hb hg hat; rw [← Ny230.out] at ho; have n0_ := Aside0.mk (Kd.V_afterv (ok := (fun k_ => some k_ ≠ (.slice Ao30 t204.length co30 : Value).ownBlock ∧ some k_ ≠ (.slice Ao32 t208.length co32 : Value).ownBlock ∧ some k_ ≠ (.slice Ao36 y218.length co36 : Value).ownBlock ∧ some k_ ≠ (.slice Ao40 y227.length co40 : Value).ownBlock)) (by (with_reducible repeat (first | apply Kd.V_alloc | apply Kd.V_drewN | apply Kd.V_drew)); exact Kd.V_mono HO203.out (fun _ hk => ⟨⟨hk.1.1.1, ⟨hk.1.1.2.1, ⟨hk.1.1.2.2, hk.2⟩⟩⟩, hk.1.2⟩)) hg hat); have n1_ := Aside0.mk (Kd.R_after (ok := (fun k_ => some k_ ≠ (.slice Ao32 t208.length co32 : Value).ownBlock ∧ some k_ ≠ (.slice Ao36 y218.length co36 : Value).ownBlock ∧ some k_ ≠ (.slice Ao40 y227.length co40 : Value).ownBlock)) (by (with_reducible repeat (first | apply rL | apply rN | apply rW)); exact Kd.R_mono HO206.out (fun _ hk => ⟨⟨hk.1.1.1, ⟨hk.1.1.2, hk.2⟩⟩, hk.1.2⟩)) hg hat); have n2_ := Aside0.mk (Kd.R_after (ok := (fun k_ => some k_ ≠ (.slice Ao30 t204.length co30 : Value).ownBlock ∧ some k_ ≠ (.slice Ao36 y218.length co36 : Value).ownBlock ∧ some k_ ≠ (.slice Ao40 y227.length co40 : Value).ownBlock)) (by (with_reducible repeat (first | apply rL | apply rN | apply rW)); exact Kd.R_mono HO210.out (fun _ hk => ⟨⟨hk.1.1.1, ⟨hk.1.1.2, hk.2⟩⟩, hk.1.2⟩)) hg hat); have n3_ := Aside0.mk (Kd.R_after (ok := (fun k_ => some k_ ≠ (.slice Ao30 t204.length co30 : Value).ownBlock ∧ some k_ ≠ (.slice Ao32 t208.length co32 : Value).ownBlock ∧ some k_ ≠ (.slice Ao40 y227.length co40 : Value).ownBlock)) (by (with_reducible repeat (first | apply rL | apply rN | apply rW)); exact Kd.R_mono HO220.out (fun _ hk => ⟨⟨hk.1.1.1, ⟨hk.1.1.2, hk.2⟩⟩, hk.1.2⟩)) hg hat); have n4_ := Aside0.mk (Kd.R_after (ok := (fun k_ => some k_ ≠ (.slice Ao30 t204.length co30 : Value).ownBlock ∧ some k_ ≠ (.slice Ao32 t208.length co32 : Value).ownBlock ∧ some k_ ≠ (.slice Ao36 y218.length co36 : Value).ownBlock)) (by (with_reducible repeat (first | apply rL | apply rN | apply rW)); exact Kd.R_mono HO229.out (fun _ hk => ⟨⟨hk.1.1.1.2, ⟨hk.1.1.2, hk.1.2⟩⟩, hk.2⟩)) hg hat); have n5_ := Aside0.mk (hb); have n6_ := Aside0.mk (ho); clear HO203; clear HO206; clear HO210; clear HO220; clear HO229; clear HB; clear HO226; have HO203 := n0_; have HO206 := n1_; have HO210 := n2_; have HO220 := n3_; have HO229 := n4_; have HB := n5_; have HO232 := n6_; clear n0_ n1_ n2_ n3_ n4_ n5_ n6_; clear ho hb hg hat; obtain ⟨Ao41, co41, eo41⟩ := Kd.R_slice HO232.out; subst eo41) | ((with_reducible refine gate_callee (f := 34) rfl ?_); refine goesL_ (some 29) rfl rfl Tryd.func34 (by kernel_rfl) rfl #[.slice Ao41 y230.length co41] rfl (by (try simp only [mT, mC, mN]); first | done | rfl | (simp only [List.length_drop, List.length_take]; rfl)) ?_; (with_reducible refine (slip_Row.calls k (fun k_ => some k_ = (.slice Ao41 y230.length co41 : Value).ownBlock) _ _ y230 t233 t236 _ ?side1 ?side2 ?side3 A7.out).mono ?_); (case side1 => exact Kd.R_V (Kd.R_tight rfl (HO232.out))); (case side2 => repeat (first | exact (Kd.C_below HRL0_.out HB.out) | (with_reducible refine Kd.C_alloc ?_ _) | (with_reducible refine Kd.C_drewN ?_ _) | (with_reducible refine Kd.C_drew ?_))); (case side3 => repeat (first | exact (Kd.C_below HRL1_.out HB.out) | (with_reducible refine Kd.C_alloc ?_ _) | (with_reducible refine Kd.C_drewN ?_ _) | (with_reducible refine Kd.C_drew ?_))); rintro e w42 ⟨v234, rfl, ho0, hb⟩; refine ⟨_, rfl, ?_⟩; have n0_ := Aside0.mk (Kd.V_elder' (by (with_reducible repeat (first | apply Kd.V_alloc | apply Kd.V_drewN | apply Kd.V_drew)); exact HO203.out) (Kd.N_base ho0) hb); have n1_ := Aside0.mk (Kd.R_below (by (with_reducible repeat (first | apply rL | apply rN | apply rW)); exact HO206.out) hb); have n2_ := Aside0.mk (Kd.R_below (by (with_reducible repeat (first | apply rL | apply rN | apply rW)); exact HO210.out) hb); have n3_ := Aside0.mk (Kd.R_below (by (with_reducible repeat (first | apply rL | apply rN | apply rW)); exact HO220.out) hb); have n4_ := Aside0.mk (Kd.R_below (by (with_reducible repeat (first | apply rL | apply rN | apply rW)); exact HO229.out) hb); have n5_ := Aside0.mk (Kd.R_below (by (with_reducible repeat (first | apply rL | apply rN | apply rW)); exact HO232.out) hb); have n6_ := Aside0.mk (Kd.N_lower (Kd.N_mono (ok' := fun k_ => some k_ ≠ (.slice Ao30 t204.length co30 : Value).ownBlock ∧ some k_ ≠ (.slice Ao32 t208.length co32 : Value).ownBlock ∧ some k_ ≠ (.slice Ao36 y218.length co36 : Value).ownBlock ∧ some k_ ≠ (.slice Ao40 y227.length co40 : Value).ownBlock) ho0 (fun k_ hk_ => ⟨Or.elim hk_ (fun hs_ => ((HO232.out).1 k_ hs_.symm).1) (fun hn_ => (Kd.fresh' (Kd.R_lt (by (with_reducible repeat (first | apply rL | apply rN | apply rW)); exact HO206.out)) k_ hn_)), Or.elim hk_ (fun hs_ => ((HO232.out).1 k_ hs_.symm).2.1) (fun hn_ => (Kd.fresh' (Kd.R_lt (by (with_reducible repeat (first | apply rL | apply rN | apply rW)); exact HO210.out)) k_ hn_)), Or.elim hk_ (fun hs_ => ((HO232.out).1 k_ hs_.symm).2.2.1) (fun hn_ => (Kd.fresh' (Kd.R_lt (by (with_reducible repeat (first | apply rL | apply rN | apply rW)); exact HO220.out)) k_ hn_)), Or.elim hk_ (fun hs_ => ((HO232.out).1 k_ hs_.symm).2.2.2) (fun hn_ => (Kd.fresh' (Kd.R_lt (by (with_reducible repeat (first | apply rL | apply rN | apply rW)); exact HO229.out)) k_ hn_))⟩)) (below_size (by repeat (first | (with_reducible first | exact HB.out | apply bA | apply bN | apply bD) | exact HB.out)))); have n7_ := Aside0.mk (below_step (by repeat (first | (with_reducible first | exact HB.out | apply bA | apply bN | apply bD) | exact HB.out)) hb); clear HO203; clear HO206; clear HO210; clear HO220; clear HO229; clear HO232; clear HB; have HO203 := n0_; have HO206 := n1_; have HO210 := n2_; have HO220 := n3_; have HO229 := n4_; have HO232 := n5_; have HO235 := n6_; have HB := n7_; clear n0_ n1_ n2_ n3_ n4_ n5_ n6_ n7_; (try clear hb); (try clear hb2); (try clear hk); (try clear hi); (try clear ho0); have p237 : 0 ≤ (1 : Int) := (by omega); have q237 : 1 < (t204.length : Int) := of_decide_eq_true (by first | (with_reducible assumption) | assumption); obtain ⟨ad237, e237, hx237_0⟩ := Kd.at_int (Kd.R_reads' HO206.out).2.2 1 p237 q237; cases e237; (try simp only [show (1 : Int).toNat = 1 from rfl, Nat.reduceMul, Nat.reduceEqDiff, Go.Addr.add, ↓reduceIte] at hx237_0); have qi237 : (1 < t204.length) = True := eq_true (by omega); (try rw [show ((1 : Int)).toNat = 1 from rfl] at hx237_0); replace p237 := eq_true p237; replace q237 := eq_true q237; obtain ⟨Ao43, co43, eo43⟩ := Kd.N_slice HO235.out; subst eo43; have p238 : 0 ≤ (0 : Int) := (by omega); have q238 : 0 < (t233.length : Int) := of_decide_eq_true (by first | (with_reducible assumption) | assumption); obtain ⟨ad238, A238_0, c238_0, e238, hx238_0, hl238_0, hi238_0⟩ := at_L2 (Kd.N_reads' HO235.out).2.2 0 p238 q238; cases e238; obtain ⟨ce238, hce238, hMe238, hcc238⟩ := Kd.N_get HO235.out [] 0 p238 (by first | exact q238 | exact of_decide_eq_true (by first | (with_reducible assumption) | assumption) | (have e_ := (Kd.N_reads' HO235.out).1; omega)); obtain ⟨ua238_0, uc238_0, rfl, ul238_0, ge238_0⟩ := Kd.FK_slice_open hMe238; have hv238_0 := hcc238 0 _ rfl; rw [Nat.add_zero, show ((Kd.slice 5 (Kd.int .u8))).sz = 1 from rfl, Nat.mul_one] at hv238_0; replace hv238_0 := Option.some.inj (hv238_0.symm.trans hx238_0); injection hv238_0 with hva_ hvn_ hvc_; rw [hva_] at ge238_0; rw [hvc_] at ul238_0; have HL238_0 := Aside0.mk (show Kd.V (Kd.int .u8) 5 _ w.heap.size _ _ (rd_L2 t233 0) from Kd.V_mk ul238_0 ge238_0); clear hva_ hvn_ hvc_ ge238_0 ul238_0; clear hcc238 hce238; have qi238 : (0 < t233.length) = True := eq_true (by omega); (try rw [show ((0 : Int)).toNat = 0 from rfl] at hx238_0); (try rw [Addr.add_zero'] at hx238_0); have HR238_0 := Aside0.mk hi238_0; have HC238_0 := Aside0.mk hl238_0; clear hi238_0 hl238_0; replace p238 := eq_true p238; replace q238 := eq_true q238; have hcv44 := Kd.C_string (P := Tryd.prog) (A := A238_0) (c := c238_0) Tryd.underlying24 Tryd.underlying5 Tryd.underlying9 (by repeat (first | (with_reducible exact HR238_0.out) | (with_reducible refine Kd.C_alloc ?_ _) | (with_reducible refine Kd.C_drewN ?_ _) | (with_reducible refine Kd.C_drew ?_) | exact HR238_0.out))) | (go_at_call 38; (with_reducible refine (slip_Whole.calls k _ _ y218 true _ ?side1 ?side2 ?side3 ?side4 A18.out).mono ?_); (case side1 => repeat (first | exact (Kd.R_reads' HO220.out).2.2 | (with_reducible refine Kd.C_alloc ?_ _) | (with_reducible refine Kd.C_drewN ?_ _) | (with_reducible refine Kd.C_drew ?_))); (case side2 => exact (Kd.R_reads' HO220.out).2.1); (case side3 => repeat (first | exact (Kd.C_below HRL0_.out HB.out) | (with_reducible refine Kd.C_alloc ?_ _) | (with_reducible refine Kd.C_drewN ?_ _) | (with_reducible refine Kd.C_drew ?_))); (case side4 => repeat (first | exact (Kd.C_below HRL1_.out HB.out) | (with_reducible refine Kd.C_alloc ?_ _) | (with_reducible refine Kd.C_drewN ?_ _) | (with_reducible refine Kd.C_drew ?_))); rintro e w45 ⟨rfl, hb⟩; have n0_ := Aside0.mk (Kd.V_below (by (with_reducible repeat (first | apply Kd.V_alloc | apply Kd.V_drewN | apply Kd.V_drew)); exact HO203.out) hb); have n1_ := Aside0.mk (Kd.R_below (by (with_reducible repeat (first | apply rL | apply rN | apply rW)); exact HO206.out) hb); have n2_ := Aside0.mk (Kd.R_below (by (with_reducible repeat (first | apply rL | apply rN | apply rW)); exact HO210.out) hb); have n3_ := Aside0.mk (Kd.R_below (by (with_reducible repeat (first | apply rL | apply rN | apply rW)); exact HO220.out) hb); have n4_ := Aside0.mk (Kd.R_below (by (with_reducible repeat (first | apply rL | apply rN | apply rW)); exact HO229.out) hb); have n5_ := Aside0.mk (Kd.R_below (by (with_reducible repeat (first | apply rL | apply rN | apply rW)); exact HO232.out) hb); have n6_ := Aside0.mk (Kd.N_below (by (with_reducible repeat (first | apply Kd.N_alloc | apply Kd.N_drewN | apply Kd.N_drew)); exact HO235.out) hb); have n7_ := Aside0.mk (Kd.V_below (by (with_reducible repeat (first | apply Kd.V_alloc | apply Kd.V_drewN | apply Kd.V_drew)); exact HL238_0.out) hb); have n8_ := Aside0.mk (Kd.C_below (by repeat (first | (with_reducible exact HR238_0.out) | (with_reducible refine Kd.C_alloc ?_ _) | (with_reducible refine Kd.C_drewN ?_ _) | (with_reducible refine Kd.C_drew ?_) | exact HR238_0.out)) hb); have n9_ := Aside0.mk (below_step (by repeat (first | (with_reducible first | exact HB.out | apply bA | apply bN | apply bD) | exact HB.out)) hb); clear HO203; clear HO206; clear HO210; clear HO220; clear HO229; clear HO232; clear HO235; clear HL238_0; clear HR238_0; clear HB; have HO203 := n0_; have HO206 := n1_; have HO210 := n2_; have HO220 := n3_; have HO229 := n4_; have HO232 := n5_; have HO235 := n6_; have HL238_0 := n7_; have HR238_0 := n8_; have HB := n9_; clear n0_ n1_ n2_ n3_ n4_ n5_ n6_ n7_ n8_ n9_; (try clear hb); (try clear hb2); (try clear hk); (try clear hi); have q46 : (14 : Int) ≤ ((y218.length : Int) : Int) := of_decide_eq_true (by first | (with_reducible assumption) | assumption); obtain ⟨i046, hi046, _, hsz46, _⟩ := info_parts info5; have hroom46 : y218.length ≤ co36 := (Kd.R_reads' HO220.out).2.1; have hC46 : Kd.F (Kd.int .u8) _ _ Ao36 y218.length y218 := (Kd.V_at (base := w.heap.size) (Kd.R_V (Kd.R_apart' (HO220.out) (Kd.N_typed HO235.out) (by decide)))).2.2; have hcut46 := cut_to (P := Tryd.prog) 24 5 .i64 Tryd.underlying24 hi046 Ao36 y218.length co36 14 (by omega) q46 hroom46; have hr46 := Kd.F_take (m := 14) hC46 (by omega); have hy46 : y240.length = (14 : Int).toNat := (by rw [Ny240.out, List.length_take]; omega); rw [← Ny240.out] at hr46; rw [← hy46] at hcut46; have HO244 := Aside0.mk (show Kd.V (Kd.int .u8) 5 _ w.heap.size _ (.slice Ao36 y240.length co36) y240 from Kd.V_mk (by omega) hr46); have HC244 := Aside0.mk (show y240.length ≤ co36 from by omega); clear hr46 hC46 hroom46 hi046 hsz46; have KY46 := Aside0.mk hy46; clear hy46; replace q46 := eq_true q46) | (go_at_call 38; (with_reducible refine (slip_Whole.calls k _ _ y240 t245 _ ?side1 ?side2 ?side3 ?side4 A21.out).mono ?_); (case side1 => repeat (first | exact (Kd.V_reads' HO244.out).2.2 | (with_reducible refine Kd.C_alloc ?_ _) | (with_reducible refine Kd.C_drewN ?_ _) | (with_reducible refine Kd.C_drew ?_))); (case side2 => exact (Kd.V_reads' HO244.out).2.1); (case side3 => repeat (first | exact (Kd.C_below HRL0_.out HB.out) | (with_reducible refine Kd.C_alloc ?_ _) | (with_reducible refine Kd.C_drewN ?_ _) | (with_reducible refine Kd.C_drew ?_))); (case side4 => repeat (first | exact (Kd.C_below HRL1_.out HB.out) | (with_reducible refine Kd.C_alloc ?_ _) | (with_reducible refine Kd.C_drewN ?_ _) | (with_reducible refine Kd.C_drew ?_))); rintro e w47 ⟨rfl, hb⟩; have n0_ := Aside0.mk (Kd.V_below (by (with_reducible repeat (first | apply Kd.V_alloc | apply Kd.V_drewN | apply Kd.V_drew)); exact HO203.out) hb); have n1_ := Aside0.mk (Kd.R_below (by (with_reducible repeat (first | apply rL | apply rN | apply rW)); exact HO206.out) hb); have n2_ := Aside0.mk (Kd.R_below (by (with_reducible repeat (first | apply rL | apply rN | apply rW)); exact HO210.out) hb); have n3_ := Aside0.mk (Kd.R_below (by (with_reducible repeat (first | apply rL | apply rN | apply rW)); exact HO220.out) hb); have n4_ := Aside0.mk (Kd.R_below (by (with_reducible repeat (first | apply rL | apply rN | apply rW)); exact HO229.out) hb); have n5_ := Aside0.mk (Kd.R_below (by (with_reducible repeat (first | apply rL | apply rN | apply rW)); exact HO232.out) hb); have n6_ := Aside0.mk (Kd.N_below (by (with_reducible repeat (first | apply Kd.N_alloc | apply Kd.N_drewN | apply Kd.N_drew)); exact HO235.out) hb); have n7_ := Aside0.mk (Kd.V_below (by (with_reducible repeat (first | apply Kd.V_alloc | apply Kd.V_drewN | apply Kd.V_drew)); exact HL238_0.out) hb); have n8_ := Aside0.mk (Kd.V_below (by (with_reducible repeat (first | apply Kd.V_alloc | apply Kd.V_drewN | apply Kd.V_drew)); exact HO244.out) hb); have n9_ := Aside0.mk (Kd.C_below (by repeat (first | (with_reducible exact HR238_0.out) | (with_reducible refine Kd.C_alloc ?_ _) | (with_reducible refine Kd.C_drewN ?_ _) | (with_reducible refine Kd.C_drew ?_) | exact HR238_0.out)) hb); have n10_ := Aside0.mk (below_step (by repeat (first | (with_reducible first | exact HB.out | apply bA | apply bN | apply bD) | exact HB.out)) hb); clear HO203; clear HO206; clear HO210; clear HO220; clear HO229; clear HO232; clear HO235; clear HL238_0; clear HO244; clear HR238_0; clear HB; have HO203 := n0_; have HO206 := n1_; have HO210 := n2_; have HO220 := n3_; have HO229 := n4_; have HO232 := n5_; have HO235 := n6_; have HL238_0 := n7_; have HO244 := n8_; have HR238_0 := n9_; have HB := n10_; clear n0_ n1_ n2_ n3_ n4_ n5_ n6_ n7_ n8_ n9_ n10_; (try clear hb); (try clear hb2); (try clear hk); (try clear hi)))
                  go_ret
                  exact ⟨by first | rfl | (simp [errW_none, errW_some] <;> rfl) | (simp [*, errW_none, errW_some] <;> rfl), by repeat (first | (with_reducible first | exact HB.out | apply bA | apply bN | apply bD) | exact HB.out)⟩
                 ·rw [if_neg c20] at H
                  exact absurd H (by simp)
                ·replace c19 := Bool.eq_false_iff.mpr c19
                 subst c19; have H1 : (some false) = some r := by rw [if_neg (show ¬ (false = true) by decide)] at H; exact H
                 clear H; have H := H1; clear H1; exact absurd (Option.some.inj H) (by rw [HR_.out]; decide)
               ·rw [if_neg c17] at H
                have c17b0 : (t236 == 15) = false := beq_eq_false_iff_ne.mpr c17
                have c17b1 : (t236 != 15) = true := bne_iff_ne.mpr c17
                exact absurd (Option.some.inj H) (by rw [HR_.out]; decide)
              ·rw [if_neg c16] at H
               have c16b0 : ((strOfNums (rd_L2 t233 0)).toList == ([111, 110, 101] : List UInt8)) = false := beq_eq_false_iff_ne.mpr c16
               have c16b1 : ((strOfNums (rd_L2 t233 0)).toList != ([111, 110, 101] : List UInt8)) = true := bne_iff_ne.mpr c16
               exact absurd (Option.some.inj H) (by rw [HR_.out]; decide)
             ·rw [if_neg c15] at H
              exact absurd H (by simp)
            ·rw [if_neg c14] at H
             have c14b0 : ((t233.length : Int) == 2) = false := beq_eq_false_iff_ne.mpr c14
             have c14b1 : ((t233.length : Int) != 2) = true := bne_iff_ne.mpr c14
             exact absurd (Option.some.inj H) (by rw [HR_.out]; decide)
           ·rw [if_neg c13] at H
            have c13b0 : ((rd t204 1) == 3) = false := beq_eq_false_iff_ne.mpr c13
            have c13b1 : ((rd t204 1) != 3) = true := bne_iff_ne.mpr c13
            exact absurd (Option.some.inj H) (by rw [HR_.out]; decide)
          ·rw [if_neg c12] at H
           exact absurd H (by simp)
         ·rw [if_neg c11] at H
          have c11b0 : ((t208.length : Int) == 6) = false := beq_eq_false_iff_ne.mpr c11
          have c11b1 : ((t208.length : Int) != 6) = true := bne_iff_ne.mpr c11
          exact absurd (Option.some.inj H) (by rw [HR_.out]; decide)
        ·rw [if_neg c10] at H
         have c10b0 : ((t204.length : Int) == 9) = false := beq_eq_false_iff_ne.mpr c10
         have c10b1 : ((t204.length : Int) != 9) = true := bne_iff_ne.mpr c10
         exact absurd (Option.some.inj H) (by rw [HR_.out]; decide)
       ·rw [if_neg c9] at H
        have c9b0 : (t211 == 0) = false := beq_eq_false_iff_ne.mpr c9
        have c9b1 : (t211 != 0) = true := bne_iff_ne.mpr c9
        exact absurd (Option.some.inj H) (by rw [HR_.out]; decide)
      ·rw [if_neg c8] at H
       have c8b0 : (t207 == 0) = false := beq_eq_false_iff_ne.mpr c8
       have c8b1 : (t207 != 0) = true := bne_iff_ne.mpr c8
       exact absurd (Option.some.inj H) (by rw [HR_.out]; decide)
     ·rw [if_neg c6] at H
      exact absurd H (by simp)
    ·rw [if_neg c5] at H
     exact absurd H (by simp)
   ·rw [if_neg c4] at H
    exact absurd H (by simp)
  ·rw [if_neg c3] at H
   exact absurd H (by simp)

/-! ### wristbandref18_Same: function 37 -/
def wristbandref18_Same.l0 : Nat → List (List Int) → List (List Int) → Int → Option (Bool)
  | 0, _, _, _ => none
  | k + 1, x0, x1, x5 => if x5 < (x0.length : Int) then (if 0 ≤ x5 then (if x5 < (x1.length : Int) then (if (strOfNums (rd_L2 x0 x5)).toList = (strOfNums (rd_L2 x1 x5)).toList then (wristbandref18_Same.l0 k x0 x1 (wrap64 (x5 + 1))) else (some false)) else (none)) else (none)) else (some true)
def wristbandref18_Same.f (k : Nat) (l0 : List (List Int)) (l1 : List (List Int)) : Option (Bool) := if (l0.length : Int) = (l1.length : Int) then (wristbandref18_Same.l0 k l0 l1 0) else (some false)
theorem wristbandref18_Same.mono_l : ∀ k, (∀ y0 y1 y2, LeO (wristbandref18_Same.l0 k y0 y1 y2) (wristbandref18_Same.l0 (k + 1) y0 y1 y2))
  | 0 => fun _ _ _ r h => by simp [wristbandref18_Same.l0] at h
  | k + 1 => by
   have ih0 := wristbandref18_Same.mono_l k
   ·intro y0 y1 y2
    unfold wristbandref18_Same.l0
    repeat' first
    | (with_reducible exact ih0 _ _ _)
    | (with_reducible exact LeO.refl _)
    | (with_reducible exact LeO.none _)
    | (with_reducible refine LeO.ite ?_ ?_)
    | (with_reducible refine LeO.bind ?_ (fun _ => ?_))
    | exact ih0 _ _ _
    | exact LeO.none _
    | refine LeO.ite ?_ ?_
    | refine LeO.bind ?_ (fun _ => ?_)
theorem wristbandref18_Same.mono : ∀ a0 a1 k, LeO (wristbandref18_Same.f k a0 a1) (wristbandref18_Same.f (k + 1) a0 a1) := by
  intro a0 a1 k; have ih0 := wristbandref18_Same.mono_l k
  unfold wristbandref18_Same.f
  repeat' first
    | (with_reducible exact ih0 _ _ _)
    | (with_reducible exact LeO.refl _)
    | (with_reducible exact LeO.none _)
    | (with_reducible refine LeO.ite ?_ ?_)
    | (with_reducible refine LeO.bind ?_ (fun _ => ?_))
    | exact ih0 _ _ _
    | exact LeO.none _
    | refine LeO.ite ?_ ?_
    | refine LeO.bind ?_ (fun _ => ?_)
set_option maxHeartbeats 8000000 in
set_option maxRecDepth 100000 in
theorem wristbandref18_Same.calls (k : Nat) (A0 : Option Addr) (c0 : Nat) (l0 : List (List Int)) (A1 : Option Addr) (c1 : Nat) (l1 : List (List Int)) (r : Bool) (w : World) (hr0 : Kd.C (Kd.slice 5 (Kd.int .u8)) w A0 l0.length l0) (hc0 : l0.length ≤ c0) (hr1 : Kd.C (Kd.slice 5 (Kd.int .u8)) w A1 l1.length l1) (hc1 : l1.length ≤ c1) (h : wristbandref18_Same.f k l0 l1 = some r) :
   Calls Tryd.prog 37 #[.slice A0 l0.length c0, .slice A1 l1.length c1] w fun e w' => e = .returned (.bool r) ∧ Drawn0 w w' := by
  have HR0 := Aside0.mk hr0; have HC0 := Aside0.mk hc0; clear hr0 hc0; have HR1 := Aside0.mk hr1; have HC1 := Aside0.mk hc1; clear hr1 hc1; have H : (if (l0.length : Int) = (l1.length : Int) then (wristbandref18_Same.l0 k l0 l1 0) else (some false)) = some r := h
  clear h; by_cases c3 : (l0.length : Int) = (l1.length : Int)
  ·rw [if_pos c3] at H
   have c3b0 : ((l0.length : Int) == (l1.length : Int)) = true := beq_iff_eq.mpr c3
   have c3b1 : ((l0.length : Int) != (l1.length : Int)) = false := bne_eq_false_iff_eq.mpr c3
   have c3b2 : (l0.length == l1.length) = true := by first | simpa using c3 | (simp at c3 ⊢; omega)
   clear c3; have H' := Aside0.mk H; clear H; go_enter Tryd.func37, Tryd.ntmps37
   go_wp2
   repeat (go_quiet (fail); try go_wp2)
   go_loopg [5] k (fun kq v5 w' => ∃ (x5_1 : Int), v5 = .int .i64 x5_1 ∧ Aside0 (wristbandref18_Same.l0 kq l0 l1 x5_1 = some r) ∧ Aside0 (kq ≤ k) ∧ Drawn0 w w')
   case atStart => exact ⟨(0), (by first | rfl | (simp; done) | (simp [*]; done)), H', ⟨Nat.le_refl _⟩, by repeat (first | exact Drawn0.refl _ | apply Drawn0.step)⟩
   case round =>
    clear H'; try clear c1
    try clear p2
    try clear c3
    try clear c3b0
    try clear c3b1
    try clear c3b2
    obtain ⟨x5_1, rfl, HA, HK1, ⟨m1, rfl⟩⟩ := hrel
    cases gk with
    | zero => exact absurd HA.out (by simp [wristbandref18_Same.l0])
    | succ k1 =>
     have H := HA.out
     clear HA; simp only [wristbandref18_Same.l0] at H
     by_cases c4 : x5_1 < (l0.length : Int)
     ·rw [if_pos c4] at H
      have c4b0 : decide (x5_1 < (l0.length : Int)) = true := decide_eq_true c4
      clear c4; by_cases c5 : 0 ≤ x5_1
      ·rw [if_pos c5] at H
       have c5b0 : decide (0 ≤ x5_1) = true := decide_eq_true c5
       clear c5; by_cases c6 : x5_1 < (l1.length : Int)
       ·rw [if_pos c6] at H
        have c6b0 : decide (x5_1 < (l1.length : Int)) = true := decide_eq_true c6
        clear c6; by_cases c7 : (strOfNums (rd_L2 l0 x5_1)).toList = (strOfNums (rd_L2 l1 x5_1)).toList
        ·rw [if_pos c7] at H
         have c7b0 : ((strOfNums (rd_L2 l0 x5_1)).toList == (strOfNums (rd_L2 l1 x5_1)).toList) = true := beq_iff_eq.mpr c7
         have c7b1 : ((strOfNums (rd_L2 l0 x5_1)).toList != (strOfNums (rd_L2 l1 x5_1)).toList) = false := bne_eq_false_iff_eq.mpr c7
         clear c7; have H' := Aside0.mk H; clear H; have p246 : 0 ≤ (x5_1 : Int) := of_decide_eq_true (by first | (with_reducible assumption) | assumption)
         have q246 : x5_1 < (l0.length : Int) := of_decide_eq_true (by first | (with_reducible assumption) | assumption)
         obtain ⟨ad246, A246_0, c246_0, e246, hx246_0, hl246_0, hi246_0⟩ := at_L2 HR0.out x5_1 p246 q246
         cases e246
         have HR246_0 := Aside0.mk hi246_0; have HC246_0 := Aside0.mk hl246_0; clear hi246_0 hl246_0; replace p246 := eq_true p246
         replace q246 := eq_true q246
         have hcv8 := Kd.C_string (P := Tryd.prog) (A := A246_0) (c := c246_0) Tryd.underlying24 Tryd.underlying5 Tryd.underlying9 HR246_0.out
         have hcv8q := fun n_ : Nat => Kd.C_string (P := Tryd.prog) (A := A246_0) (c := c246_0) Tryd.underlying24 Tryd.underlying5 Tryd.underlying9 (Kd.C_drewN HR246_0.out n_)
         have p247 : 0 ≤ (x5_1 : Int) := of_decide_eq_true (by first | (with_reducible assumption) | assumption)
         have q247 : x5_1 < (l1.length : Int) := of_decide_eq_true (by first | (with_reducible assumption) | assumption)
         obtain ⟨ad247, A247_0, c247_0, e247, hx247_0, hl247_0, hi247_0⟩ := at_L2 HR1.out x5_1 p247 q247
         cases e247
         have HR247_0 := Aside0.mk hi247_0; have HC247_0 := Aside0.mk hl247_0; clear hi247_0 hl247_0; replace p247 := eq_true p247
         replace q247 := eq_true q247
         have hcv9 := Kd.C_string (P := Tryd.prog) (A := A247_0) (c := c247_0) Tryd.underlying24 Tryd.underlying5 Tryd.underlying9 HR247_0.out
         have hcv9q := fun n_ : Nat => Kd.C_string (P := Tryd.prog) (A := A247_0) (c := c247_0) Tryd.underlying24 Tryd.underlying5 Tryd.underlying9 (Kd.C_drewN HR247_0.out n_)
         go_wp2
         repeat (go_quiet (fail); try go_wp2)
         go_roundg k1
         case measure => have := HK1.out; omega
         case rel => exact ⟨(wrap64 (x5_1 + 1)), (by first | rfl | (simp; done) | (simp [*]; done)), H', ⟨by have := HK1.out; omega⟩, by repeat (first | exact Drawn0.refl _ | apply Drawn0.step)⟩
        ·rw [if_neg c7] at H
         have c7b0 : ((strOfNums (rd_L2 l0 x5_1)).toList == (strOfNums (rd_L2 l1 x5_1)).toList) = false := beq_eq_false_iff_ne.mpr c7
         have c7b1 : ((strOfNums (rd_L2 l0 x5_1)).toList != (strOfNums (rd_L2 l1 x5_1)).toList) = true := bne_iff_ne.mpr c7
         obtain rfl := Option.some.inj H
         have p246 : 0 ≤ (x5_1 : Int) := of_decide_eq_true (by first | (with_reducible assumption) | assumption)
         have q246 : x5_1 < (l0.length : Int) := of_decide_eq_true (by first | (with_reducible assumption) | assumption)
         obtain ⟨ad246, A246_0, c246_0, e246, hx246_0, hl246_0, hi246_0⟩ := at_L2 HR0.out x5_1 p246 q246
         cases e246
         have HR246_0 := Aside0.mk hi246_0; have HC246_0 := Aside0.mk hl246_0; clear hi246_0 hl246_0; replace p246 := eq_true p246
         replace q246 := eq_true q246
         have hcv10 := Kd.C_string (P := Tryd.prog) (A := A246_0) (c := c246_0) Tryd.underlying24 Tryd.underlying5 Tryd.underlying9 HR246_0.out
         have hcv10q := fun n_ : Nat => Kd.C_string (P := Tryd.prog) (A := A246_0) (c := c246_0) Tryd.underlying24 Tryd.underlying5 Tryd.underlying9 (Kd.C_drewN HR246_0.out n_)
         have p247 : 0 ≤ (x5_1 : Int) := of_decide_eq_true (by first | (with_reducible assumption) | assumption)
         have q247 : x5_1 < (l1.length : Int) := of_decide_eq_true (by first | (with_reducible assumption) | assumption)
         obtain ⟨ad247, A247_0, c247_0, e247, hx247_0, hl247_0, hi247_0⟩ := at_L2 HR1.out x5_1 p247 q247
         cases e247
         have HR247_0 := Aside0.mk hi247_0; have HC247_0 := Aside0.mk hl247_0; clear hi247_0 hl247_0; replace p247 := eq_true p247
         replace q247 := eq_true q247
         have hcv11 := Kd.C_string (P := Tryd.prog) (A := A247_0) (c := c247_0) Tryd.underlying24 Tryd.underlying5 Tryd.underlying9 HR247_0.out
         have hcv11q := fun n_ : Nat => Kd.C_string (P := Tryd.prog) (A := A247_0) (c := c247_0) Tryd.underlying24 Tryd.underlying5 Tryd.underlying9 (Kd.C_drewN HR247_0.out n_)
         go_wp2
         repeat (go_quiet (fail); try go_wp2)
         go_ret
         exact ⟨by first | rfl | (simp; done) | (simp [*]; done), by repeat (first | exact Drawn0.refl _ | apply Drawn0.step)⟩
       ·rw [if_neg c6] at H
        exact absurd H (by simp)
      ·rw [if_neg c5] at H
       exact absurd H (by simp)
     ·rw [if_neg c4] at H
      have c4b0 : decide (x5_1 < (l0.length : Int)) = false := decide_eq_false c4
      clear c4; obtain rfl := Option.some.inj H
      go_wp2
      repeat (go_quiet (fail); try go_wp2)
      go_ret
      exact ⟨by first | rfl | (simp; done) | (simp [*]; done), by repeat (first | exact Drawn0.refl _ | apply Drawn0.step)⟩
  ·rw [if_neg c3] at H
   have c3b0 : ((l0.length : Int) == (l1.length : Int)) = false := beq_eq_false_iff_ne.mpr c3
   have c3b1 : ((l0.length : Int) != (l1.length : Int)) = true := bne_iff_ne.mpr c3
   have c3b2 : (l0.length == l1.length) = false := by first | simpa using c3 | (simp at c3 ⊢; omega)
   obtain rfl := Option.some.inj H
   go_enter Tryd.func37, Tryd.ntmps37
   go_wp2
   repeat (go_quiet (fail); try go_wp2)
   go_ret
   exact ⟨by first | rfl | (simp; done) | (simp [*]; done), by repeat (first | exact Drawn0.refl _ | apply Drawn0.step)⟩

/-! ### wristbandlaw18_SlipRow: function 11 -/
mutual
def wristbandlaw18_SlipRow.j0 : Nat → List Int → List (List Int) → Int → Bool → Option (Bool)
  | 0, _, _, _, _ => none
  | k + 1, x0, x3, x4, x35 => if x35 = true then (some false) else (if 0 ≤ x4 then (if x4 ≤ (x0.length : Int) then ((slip_Row.f k (x0.take (x4 : Int).toNat)).bind fun bt256 => (wristbandlaw18_SlipRow.l0 k x0 x3 x4 bt256.1 bt256.2 ([] : List Int) 0)) else (none)) else (none))
def wristbandlaw18_SlipRow.l0 : Nat → List Int → List (List Int) → Int → List (List Int) → Int → List Int → Int → Option (Bool)
  | 0, _, _, _, _, _, _, _ => none
  | k + 1, x0, x3, x4, x5, x6, x7, x8 => if x8 < (x3.length : Int) then (if 0 ≤ x8 then ((slip_Put.f k (rd_L2 x3 x8)).bind fun bt261 => (if bt261.2 = 0 then (if x7.length + bt261.1.length < 140737488355328 then (wristbandlaw18_SlipRow.l0 k x0 x3 x4 x5 x6 (x7 ++ bt261.1) (wrap64 (x8 + 1))) else (none)) else (some false))) else (none)) else ((wristbandref18_Same.f k x3 x5).bind fun t268 => (if t268 = true then (if x6 = x4 then (if 0 ≤ x4 then (if x4 ≤ (x0.length : Int) then (some ((strOfNums x7).toList == (strOfNums (x0.take (x4 : Int).toNat)).toList)) else (none)) else (none)) else (some false)) else (some false)))
end
def wristbandlaw18_SlipRow.f (k : Nat) (l0 : List Int) : Option (Bool) := (wristbandlaw18_awake.f k).bind fun t248 => (if t248 = true then (if (l0.length : Int) > 3000 then (some true) else ((slip_Row.f k l0).bind fun bt249 => (if bt249.2 < 0 then (wristbandlaw18_SlipRow.j0 k l0 bt249.1 bt249.2 true) else (if bt249.2 > (l0.length : Int) then (wristbandlaw18_SlipRow.j0 k l0 bt249.1 bt249.2 true) else (if 0 ≤ bt249.2 then (if bt249.2 ≤ (l0.length : Int) then ((slip_Whole.f k (l0.take (bt249.2 : Int).toNat)).bind fun t254 => (wristbandlaw18_SlipRow.j0 k l0 bt249.1 bt249.2 (!t254))) else (none)) else (none)))))) else (some false))
theorem wristbandlaw18_SlipRow.mono_l : ∀ k, (∀ y0 y1 y2 y3, LeO (wristbandlaw18_SlipRow.j0 k y0 y1 y2 y3) (wristbandlaw18_SlipRow.j0 (k + 1) y0 y1 y2 y3)) ∧ (∀ y0 y1 y2 y3 y4 y5 y6, LeO (wristbandlaw18_SlipRow.l0 k y0 y1 y2 y3 y4 y5 y6) (wristbandlaw18_SlipRow.l0 (k + 1) y0 y1 y2 y3 y4 y5 y6))
  | 0 => ⟨fun _ _ _ _ r h => by simp [wristbandlaw18_SlipRow.j0] at h, fun _ _ _ _ _ _ _ r h => by simp [wristbandlaw18_SlipRow.l0] at h⟩
  | k + 1 => by
   obtain ⟨ih0, ih1⟩ := wristbandlaw18_SlipRow.mono_l k
   refine ⟨?_, ?_⟩
   ·intro y0 y1 y2 y3
    unfold wristbandlaw18_SlipRow.j0
    repeat' first
    | (with_reducible exact ih0 _ _ _ _)
    | (with_reducible exact ih1 _ _ _ _ _ _ _)
    | (with_reducible exact slip_Put.mono _ _)
    | (with_reducible exact slip_Row.mono _ _)
    | (with_reducible exact slip_Whole.mono _ _)
    | (with_reducible exact wristbandlaw18_awake.mono _)
    | (with_reducible exact wristbandref18_Same.mono _ _ _)
    | (with_reducible exact LeO.refl _)
    | (with_reducible exact LeO.none _)
    | (with_reducible refine LeO.ite ?_ ?_)
    | (with_reducible refine LeO.bind ?_ (fun _ => ?_))
    | exact ih0 _ _ _ _
    | exact ih1 _ _ _ _ _ _ _
    | exact slip_Put.mono _ _
    | exact slip_Row.mono _ _
    | exact slip_Whole.mono _ _
    | exact wristbandlaw18_awake.mono _
    | exact wristbandref18_Same.mono _ _ _
    | exact LeO.none _
    | refine LeO.ite ?_ ?_
    | refine LeO.bind ?_ (fun _ => ?_)
   ·intro y0 y1 y2 y3 y4 y5 y6
    unfold wristbandlaw18_SlipRow.l0
    repeat' first
    | (with_reducible exact ih0 _ _ _ _)
    | (with_reducible exact ih1 _ _ _ _ _ _ _)
    | (with_reducible exact slip_Put.mono _ _)
    | (with_reducible exact slip_Row.mono _ _)
    | (with_reducible exact slip_Whole.mono _ _)
    | (with_reducible exact wristbandlaw18_awake.mono _)
    | (with_reducible exact wristbandref18_Same.mono _ _ _)
    | (with_reducible exact LeO.refl _)
    | (with_reducible exact LeO.none _)
    | (with_reducible refine LeO.ite ?_ ?_)
    | (with_reducible refine LeO.bind ?_ (fun _ => ?_))
    | exact ih0 _ _ _ _
    | exact ih1 _ _ _ _ _ _ _
    | exact slip_Put.mono _ _
    | exact slip_Row.mono _ _
    | exact slip_Whole.mono _ _
    | exact wristbandlaw18_awake.mono _
    | exact wristbandref18_Same.mono _ _ _
    | exact LeO.none _
    | refine LeO.ite ?_ ?_
    | refine LeO.bind ?_ (fun _ => ?_)
theorem wristbandlaw18_SlipRow.mono : ∀ a0 k, LeO (wristbandlaw18_SlipRow.f k a0) (wristbandlaw18_SlipRow.f (k + 1) a0) := by
  intro a0 k; obtain ⟨ih0, ih1⟩ := wristbandlaw18_SlipRow.mono_l k
  unfold wristbandlaw18_SlipRow.f
  repeat' first
    | (with_reducible exact ih0 _ _ _ _)
    | (with_reducible exact ih1 _ _ _ _ _ _ _)
    | (with_reducible exact slip_Put.mono _ _)
    | (with_reducible exact slip_Row.mono _ _)
    | (with_reducible exact slip_Whole.mono _ _)
    | (with_reducible exact wristbandlaw18_awake.mono _)
    | (with_reducible exact wristbandref18_Same.mono _ _ _)
    | (with_reducible exact LeO.refl _)
    | (with_reducible exact LeO.none _)
    | (with_reducible refine LeO.ite ?_ ?_)
    | (with_reducible refine LeO.bind ?_ (fun _ => ?_))
    | exact ih0 _ _ _ _
    | exact ih1 _ _ _ _ _ _ _
    | exact slip_Put.mono _ _
    | exact slip_Row.mono _ _
    | exact slip_Whole.mono _ _
    | exact wristbandlaw18_awake.mono _
    | exact wristbandref18_Same.mono _ _ _
    | exact LeO.none _
    | refine LeO.ite ?_ ?_
    | refine LeO.bind ?_ (fun _ => ?_)
set_option maxHeartbeats 8000000 in
set_option maxRecDepth 100000 in
theorem wristbandlaw18_SlipRow.calls (k : Nat) (A0 : Option Addr) (c0 : Nat) (l0 : List Int) (r : Bool) (w : World) (hr0 : Kd.C (Kd.int .u8) w A0 l0.length l0) (hc0 : l0.length ≤ c0) (hL0_ : Kd.C (Kd.int .u32) w (some ⟨0, 0, none⟩) 64 shaK) (hL1_ : Kd.C (Kd.int .u32) w (some ⟨1, 0, none⟩) 8 shaF) (h : wristbandlaw18_SlipRow.f k l0 = some r) (hT_ : r = true) :
   Calls Tryd.prog 11 #[.slice A0 l0.length c0] w fun e w' => e = .returned (.bool r) ∧ Below w.heap.size w w' := by
  have HR0 := Aside0.mk hr0; have HC0 := Aside0.mk hc0; clear hr0 hc0; have HRL0_ := Aside0.mk hL0_; have HRL1_ := Aside0.mk hL1_; clear hL0_ hL1_; have HB := Aside0.mk (Below.refl w.heap.size w); have HR_ := Aside0.mk hT_; clear hT_; have H : ((wristbandlaw18_awake.f k).bind fun t248 => (if t248 = true then (if (l0.length : Int) > 3000 then (some true) else ((slip_Row.f k l0).bind fun bt249 => (if bt249.2 < 0 then (wristbandlaw18_SlipRow.j0 k l0 bt249.1 bt249.2 true) else (if bt249.2 > (l0.length : Int) then (wristbandlaw18_SlipRow.j0 k l0 bt249.1 bt249.2 true) else (if 0 ≤ bt249.2 then (if bt249.2 ≤ (l0.length : Int) then ((slip_Whole.f k (l0.take (bt249.2 : Int).toNat)).bind fun t254 => (wristbandlaw18_SlipRow.j0 k l0 bt249.1 bt249.2 (!t254))) else (none)) else (none)))))) else (some false))) = some r := h
  clear h; replace H := Option.bind_eq_some_iff.mp H
  obtain ⟨t248, A20, H⟩ := H
  replace H : (if t248 = true then (if (l0.length : Int) > 3000 then (some true) else ((slip_Row.f k l0).bind fun bt249 => (if bt249.2 < 0 then (wristbandlaw18_SlipRow.j0 k l0 bt249.1 bt249.2 true) else (if bt249.2 > (l0.length : Int) then (wristbandlaw18_SlipRow.j0 k l0 bt249.1 bt249.2 true) else (if 0 ≤ bt249.2 then (if bt249.2 ≤ (l0.length : Int) then ((slip_Whole.f k (l0.take (bt249.2 : Int).toNat)).bind fun t254 => (wristbandlaw18_SlipRow.j0 k l0 bt249.1 bt249.2 (!t254))) else (none)) else (none)))))) else (some false)) = some r := H
  have A2 := Aside0.mk A20; clear A20; by_cases c3 : t248 = true
  ·subst c3
   have H1 : (if (l0.length : Int) > 3000 then (some true) else ((slip_Row.f k l0).bind fun bt249 => (if bt249.2 < 0 then (wristbandlaw18_SlipRow.j0 k l0 bt249.1 bt249.2 true) else (if bt249.2 > (l0.length : Int) then (wristbandlaw18_SlipRow.j0 k l0 bt249.1 bt249.2 true) else (if 0 ≤ bt249.2 then (if bt249.2 ≤ (l0.length : Int) then ((slip_Whole.f k (l0.take (bt249.2 : Int).toNat)).bind fun t254 => (wristbandlaw18_SlipRow.j0 k l0 bt249.1 bt249.2 (!t254))) else (none)) else (none)))))) = some r := by rw [if_pos rfl] at H; exact H
   clear H; have H := H1; clear H1; by_cases c4 : (l0.length : Int) > 3000
   ·rw [if_pos c4] at H
    have c4b0 : decide (3000 < (l0.length : Int)) = true := decide_eq_true c4
    have c4b1 : decide (3000 < l0.length) = true := decide_eq_true (by omega)
    clear c4; obtain rfl := Option.some.inj H
    go_enter Tryd.func11, Tryd.ntmps11
    go_wp2_with (first | (go_at_call 32; (with_reducible refine (wristbandlaw18_awake.calls k  true _ ?side1 ?side2 A2.out).mono ?_); (case side1 => repeat (first | exact HRL0_.out | (with_reducible refine Kd.C_alloc ?_ _) | (with_reducible refine Kd.C_drewN ?_ _) | (with_reducible refine Kd.C_drew ?_))); (case side2 => repeat (first | exact HRL1_.out | (with_reducible refine Kd.C_alloc ?_ _) | (with_reducible refine Kd.C_drewN ?_ _) | (with_reducible refine Kd.C_drew ?_))); rintro e w5 ⟨rfl, hb⟩; have n0_ := Aside0.mk (below_step (by repeat (first | (with_reducible first | exact HB.out | apply bA | apply bN | apply bD) | exact HB.out)) hb); clear HB; have HB := n0_; clear n0_; (try clear hb); (try clear hb2); (try clear hk); (try clear hi)))
    repeat (go_quiet (fail); try go_wp2_with (first | (go_at_call 32; (with_reducible refine (wristbandlaw18_awake.calls k  true _ ?side1 ?side2 A2.out).mono ?_); (case side1 => repeat (first | exact HRL0_.out | (with_reducible refine Kd.C_alloc ?_ _) | (with_reducible refine Kd.C_drewN ?_ _) | (with_reducible refine Kd.C_drew ?_))); (case side2 => repeat (first | exact HRL1_.out | (with_reducible refine Kd.C_alloc ?_ _) | (with_reducible refine Kd.C_drewN ?_ _) | (with_reducible refine Kd.C_drew ?_))); rintro e w5 ⟨rfl, hb⟩; have n0_ := Aside0.mk (below_step (by repeat (first | (with_reducible first | exact HB.out | apply bA | apply bN | apply bD) | exact HB.out)) hb); clear HB; have HB := n0_; clear n0_; (try clear hb); (try clear hb2); (try clear hk); (try clear hi))))
    go_ret
    exact ⟨by first | rfl | (simp [errW_none, errW_some] <;> rfl) | (simp [*, errW_none, errW_some] <;> rfl), by repeat (first | (with_reducible first | exact HB.out | apply bA | apply bN | apply bD) | exact HB.out)⟩
   ·rw [if_neg c4] at H
    have c4b0 : decide (3000 < (l0.length : Int)) = false := decide_eq_false c4
    have c4b1 : decide (3000 < l0.length) = false := decide_eq_false (by omega)
    clear c4; replace H := Option.bind_eq_some_iff.mp H
    obtain ⟨⟨t249, t252⟩, A60, H⟩ := H
    replace H : (if t252 < 0 then (wristbandlaw18_SlipRow.j0 k l0 t249 t252 true) else (if t252 > (l0.length : Int) then (wristbandlaw18_SlipRow.j0 k l0 t249 t252 true) else (if 0 ≤ t252 then (if t252 ≤ (l0.length : Int) then ((slip_Whole.f k (l0.take (t252 : Int).toNat)).bind fun t254 => (wristbandlaw18_SlipRow.j0 k l0 t249 t252 (!t254))) else (none)) else (none)))) = some r := H
    have A6 := Aside0.mk A60; clear A60; have HC7 := Aside0.mk H; clear H; go_enter Tryd.func11, Tryd.ntmps11
    go_upto_region 6 with (first | (go_at_call 32; (with_reducible refine (wristbandlaw18_awake.calls k  true _ ?side1 ?side2 A2.out).mono ?_); (case side1 => repeat (first | exact HRL0_.out | (with_reducible refine Kd.C_alloc ?_ _) | (with_reducible refine Kd.C_drewN ?_ _) | (with_reducible refine Kd.C_drew ?_))); (case side2 => repeat (first | exact HRL1_.out | (with_reducible refine Kd.C_alloc ?_ _) | (with_reducible refine Kd.C_drewN ?_ _) | (with_reducible refine Kd.C_drew ?_))); rintro e w8 ⟨rfl, hb⟩; have n0_ := Aside0.mk (below_step (by repeat (first | (with_reducible first | exact HB.out | apply bA | apply bN | apply bD) | exact HB.out)) hb); clear HB; have HB := n0_; clear n0_; (try clear hb); (try clear hb2); (try clear hk); (try clear hi)) | (go_at_call 34; (with_reducible refine (slip_Row.calls k (fun k_ => k_ < w.heap.size) _ _ l0 t249 t252 _ ?side1 ?side2 ?side3 A6.out).mono ?_); (case side1 => exact Kd.V_mk HC0.out (Kd.F_below (Kd.C_F (Kd.heap_int .u8) HR0.out) (by repeat (first | (with_reducible first | exact HB.out | apply bA | apply bN | apply bD) | exact HB.out)))); (case side2 => repeat (first | exact (Kd.C_below HRL0_.out HB.out) | (with_reducible refine Kd.C_alloc ?_ _) | (with_reducible refine Kd.C_drewN ?_ _) | (with_reducible refine Kd.C_drew ?_))); (case side3 => repeat (first | exact (Kd.C_below HRL1_.out HB.out) | (with_reducible refine Kd.C_alloc ?_ _) | (with_reducible refine Kd.C_drewN ?_ _) | (with_reducible refine Kd.C_drew ?_))); rintro e w9 ⟨v250, rfl, ho0, hb⟩; have n0_ := Aside0.mk (Kd.N_lower (Kd.N_mono (ok' := fun k_ => True) ho0 (fun k_ hk_ => trivial)) (below_size (by repeat (first | (with_reducible first | exact HB.out | apply bA | apply bN | apply bD) | exact HB.out)))); have n1_ := Aside0.mk (below_step (by repeat (first | (with_reducible first | exact HB.out | apply bA | apply bN | apply bD) | exact HB.out)) hb); clear HB; have HO251 := n0_; have HB := n1_; clear n0_ n1_; (try clear hb); (try clear hb2); (try clear hk); (try clear hi); (try clear ho0)))
    repeat (go_quiet (fail); go_upto_region 6 with (first | (go_at_call 32; (with_reducible refine (wristbandlaw18_awake.calls k  true _ ?side1 ?side2 A2.out).mono ?_); (case side1 => repeat (first | exact HRL0_.out | (with_reducible refine Kd.C_alloc ?_ _) | (with_reducible refine Kd.C_drewN ?_ _) | (with_reducible refine Kd.C_drew ?_))); (case side2 => repeat (first | exact HRL1_.out | (with_reducible refine Kd.C_alloc ?_ _) | (with_reducible refine Kd.C_drewN ?_ _) | (with_reducible refine Kd.C_drew ?_))); rintro e w8 ⟨rfl, hb⟩; have n0_ := Aside0.mk (below_step (by repeat (first | (with_reducible first | exact HB.out | apply bA | apply bN | apply bD) | exact HB.out)) hb); clear HB; have HB := n0_; clear n0_; (try clear hb); (try clear hb2); (try clear hk); (try clear hi)) | (go_at_call 34; (with_reducible refine (slip_Row.calls k (fun k_ => k_ < w.heap.size) _ _ l0 t249 t252 _ ?side1 ?side2 ?side3 A6.out).mono ?_); (case side1 => exact Kd.V_mk HC0.out (Kd.F_below (Kd.C_F (Kd.heap_int .u8) HR0.out) (by repeat (first | (with_reducible first | exact HB.out | apply bA | apply bN | apply bD) | exact HB.out)))); (case side2 => repeat (first | exact (Kd.C_below HRL0_.out HB.out) | (with_reducible refine Kd.C_alloc ?_ _) | (with_reducible refine Kd.C_drewN ?_ _) | (with_reducible refine Kd.C_drew ?_))); (case side3 => repeat (first | exact (Kd.C_below HRL1_.out HB.out) | (with_reducible refine Kd.C_alloc ?_ _) | (with_reducible refine Kd.C_drewN ?_ _) | (with_reducible refine Kd.C_drew ?_))); rintro e w9 ⟨v250, rfl, ho0, hb⟩; have n0_ := Aside0.mk (Kd.N_lower (Kd.N_mono (ok' := fun k_ => True) ho0 (fun k_ hk_ => trivial)) (below_size (by repeat (first | (with_reducible first | exact HB.out | apply bA | apply bN | apply bD) | exact HB.out)))); have n1_ := Aside0.mk (below_step (by repeat (first | (with_reducible first | exact HB.out | apply bA | apply bN | apply bD) | exact HB.out)) hb); clear HB; have HO251 := n0_; have HB := n1_; clear n0_ n1_; (try clear hb); (try clear hb2); (try clear hk); (try clear hi); (try clear ho0))))
    (try simp only [Act.put, sA, s0, sS])
    go_cut [35] (fun v35 wc => ∃ (kq : Nat) (x35_6 : Bool), v35 = .bool x35_6 ∧ Aside0 (wristbandlaw18_SlipRow.j0 kq l0 t249 t252 x35_6 = some r) ∧ Aside0 (kq ≤ k) ∧ Aside0 (Kd.N (Kd.slice 5 (Kd.int .u8)) 24 wc w.heap.size (fun _ => True) v250 t249) ∧ Aside0 (Below w.heap.size w wc))
    case first =>
     have H := HC7.out
     clear HC7; by_cases c10 : t252 < 0
     ·rw [if_pos c10] at H
      have c10b0 : decide (t252 < 0) = true := decide_eq_true c10
      clear c10; (first | rw [c10b0] | (simp only [i64_w, i32_w]; rw [c10b0]) | skip); have H' := Aside0.mk H; clear H; go_wp2
      repeat (go_quiet (fail); try go_wp2)
      go_meet
      case rel => exact ⟨_, (true), (by first | rfl | (simp; done) | (simp [*]; done)), H', ⟨by first | omega | exact Nat.le_refl _⟩, ⟨by (with_reducible repeat (first | apply Kd.N_alloc | apply Kd.N_drewN | apply Kd.N_drew)); exact HO251.out⟩, ⟨by repeat (first | (with_reducible first | exact HB.out | apply bA | apply bN | apply bD) | exact HB.out)⟩⟩
     ·rw [if_neg c10] at H
      have c10b0 : decide (t252 < 0) = false := decide_eq_false c10
      clear c10; (first | rw [c10b0] | (simp only [i64_w, i32_w]; rw [c10b0]) | skip); by_cases c11 : t252 > (l0.length : Int)
      ·rw [if_pos c11] at H
       have c11b0 : decide ((l0.length : Int) < t252) = true := decide_eq_true c11
       clear c11; have H' := Aside0.mk H; clear H; go_wp2
       repeat (go_quiet (fail); try go_wp2)
       go_meet
       case rel => exact ⟨_, (true), (by first | rfl | (simp; done) | (simp [*]; done)), H', ⟨by first | omega | exact Nat.le_refl _⟩, ⟨by (with_reducible repeat (first | apply Kd.N_alloc | apply Kd.N_drewN | apply Kd.N_drew)); exact HO251.out⟩, ⟨by repeat (first | (with_reducible first | exact HB.out | apply bA | apply bN | apply bD) | exact HB.out)⟩⟩
      ·rw [if_neg c11] at H
       have c11b0 : decide ((l0.length : Int) < t252) = false := decide_eq_false c11
       clear c11; by_cases c12 : 0 ≤ t252
       ·rw [if_pos c12] at H
        have c12b0 := eq_true c12
        have c12b1 : decide (0 ≤ t252) = true := decide_eq_true c12
        clear c12; by_cases c13 : t252 ≤ (l0.length : Int)
        ·rw [if_pos c13] at H
         have c13b0 := eq_true c13
         have c13b1 : decide (t252 ≤ (l0.length : Int)) = true := decide_eq_true c13
         clear c13; replace H := Option.bind_eq_some_iff.mp H
         obtain ⟨t254, A140, H⟩ := H
         replace H : (wristbandlaw18_SlipRow.j0 k l0 t249 t252 (!t254)) = some r := H
         have A14 := Aside0.mk A140; clear A140; have H' := Aside0.mk H; clear H; obtain ⟨i015, hi015, _, hsz15, _⟩ := info_parts info5
         obtain ⟨hcut15, hA15, hC15⟩ := print_take_of (P := Tryd.prog) (Value.int .u8) 0 24 5 .i64 Tryd.underlying24 hi015 hsz15 A0 c0 l0 t252 (of_decide_eq_true (by first | (with_reducible assumption) | assumption)) (of_decide_eq_true (by first | (with_reducible assumption) | assumption)) HC0.out
         have HR253 := Aside0.mk (Kd.C_of_reads (h1 := fun _ => rfl) (hA15 _ (Kd.reads_of_C HR0.out))); have HC253 := Aside0.mk hC15; clear hA15 hC15 hi015 hsz15; (try (have hsl15_ : Aside0 ((l0.take (t252 : Int).toNat).length = t252.toNat) := ⟨(by rw [List.length_take]; have h_ : (t252 : Int) ≤ (l0.length : Int) := of_decide_eq_true (by first | (with_reducible assumption) | assumption); omega)⟩))
         go_wp2_with (first | (go_at_call 38; refine calls_of_args (args' := #[.slice A0 (l0.take (t252 : Int).toNat).length c0]) (by first | rfl | (rw [hsl15_.out] <;> rfl) | (rw [show (l0.take (t252 : Int).toNat).length = t252.toNat from (by rw [List.length_take]; have h_ : (t252 : Int) ≤ (l0.length : Int) := of_decide_eq_true (by first | (with_reducible assumption) | assumption); omega)] <;> rfl) | rfl) ?_; (with_reducible refine (slip_Whole.calls k _ _ (l0.take (t252 : Int).toNat) t254 _ ?side1 ?side2 ?side3 ?side4 A14.out).mono ?_); (case side1 => repeat (first | exact (Kd.C_below HR253.out HB.out) | (with_reducible refine Kd.C_alloc ?_ _) | (with_reducible refine Kd.C_drewN ?_ _) | (with_reducible refine Kd.C_drew ?_))); (case side2 => exact HC253.out); (case side3 => repeat (first | exact (Kd.C_below HRL0_.out HB.out) | (with_reducible refine Kd.C_alloc ?_ _) | (with_reducible refine Kd.C_drewN ?_ _) | (with_reducible refine Kd.C_drew ?_))); (case side4 => repeat (first | exact (Kd.C_below HRL1_.out HB.out) | (with_reducible refine Kd.C_alloc ?_ _) | (with_reducible refine Kd.C_drewN ?_ _) | (with_reducible refine Kd.C_drew ?_))); rintro e w16 ⟨rfl, hb⟩; have n0_ := Aside0.mk (Kd.N_below (by (with_reducible repeat (first | apply Kd.N_alloc | apply Kd.N_drewN | apply Kd.N_drew)); exact HO251.out) hb); have n1_ := Aside0.mk (below_step (by repeat (first | (with_reducible first | exact HB.out | apply bA | apply bN | apply bD) | exact HB.out)) hb); clear HO251; clear HB; have HO251 := n0_; have HB := n1_; clear n0_ n1_; (try clear hb); (try clear hb2); (try clear hk); (try clear hi)))
         repeat (go_quiet (fail); try go_wp2_with (first | (go_at_call 38; refine calls_of_args (args' := #[.slice A0 (l0.take (t252 : Int).toNat).length c0]) (by first | rfl | (rw [hsl15_.out] <;> rfl) | (rw [show (l0.take (t252 : Int).toNat).length = t252.toNat from (by rw [List.length_take]; have h_ : (t252 : Int) ≤ (l0.length : Int) := of_decide_eq_true (by first | (with_reducible assumption) | assumption); omega)] <;> rfl) | rfl) ?_; (with_reducible refine (slip_Whole.calls k _ _ (l0.take (t252 : Int).toNat) t254 _ ?side1 ?side2 ?side3 ?side4 A14.out).mono ?_); (case side1 => repeat (first | exact (Kd.C_below HR253.out HB.out) | (with_reducible refine Kd.C_alloc ?_ _) | (with_reducible refine Kd.C_drewN ?_ _) | (with_reducible refine Kd.C_drew ?_))); (case side2 => exact HC253.out); (case side3 => repeat (first | exact (Kd.C_below HRL0_.out HB.out) | (with_reducible refine Kd.C_alloc ?_ _) | (with_reducible refine Kd.C_drewN ?_ _) | (with_reducible refine Kd.C_drew ?_))); (case side4 => repeat (first | exact (Kd.C_below HRL1_.out HB.out) | (with_reducible refine Kd.C_alloc ?_ _) | (with_reducible refine Kd.C_drewN ?_ _) | (with_reducible refine Kd.C_drew ?_))); rintro e w16 ⟨rfl, hb⟩; have n0_ := Aside0.mk (Kd.N_below (by (with_reducible repeat (first | apply Kd.N_alloc | apply Kd.N_drewN | apply Kd.N_drew)); exact HO251.out) hb); have n1_ := Aside0.mk (below_step (by repeat (first | (with_reducible first | exact HB.out | apply bA | apply bN | apply bD) | exact HB.out)) hb); clear HO251; clear HB; have HO251 := n0_; have HB := n1_; clear n0_ n1_; (try clear hb); (try clear hb2); (try clear hk); (try clear hi))))
         go_meet
         case rel => exact ⟨_, (!t254), (by first | rfl | (simp; done) | (simp [*]; done)), H', ⟨by first | omega | exact Nat.le_refl _⟩, ⟨by (with_reducible repeat (first | apply Kd.N_alloc | apply Kd.N_drewN | apply Kd.N_drew)); exact HO251.out⟩, ⟨by repeat (first | (with_reducible first | exact HB.out | apply bA | apply bN | apply bD) | exact HB.out)⟩⟩
        ·rw [if_neg c13] at H
         exact absurd H (by simp)
       ·rw [if_neg c12] at H
        exact absurd H (by simp)
    case rest =>
     clear HC7; try clear c1
     try clear p2
     try clear c3
     try clear c4
     try clear c4b0
     try clear c4b1
     try clear c10
     try clear c10b0
     try clear c11
     try clear c11b0
     try clear c12
     try clear c12b0
     try clear c12b1
     try clear c13
     try clear c13b0
     try clear c13b1
     obtain ⟨kq, x35_6, rfl, HA, HJ6, HO_3, HB⟩ := hcut
     cases kq with
     | zero => exact absurd HA.out (by simp [wristbandlaw18_SlipRow.j0])
     | succ kj6 =>
      have H := HA.out
      clear HA; simp only [wristbandlaw18_SlipRow.j0] at H
      by_cases c17 : x35_6 = true
      ·subst c17
       have H1 : (some false) = some r := by rw [if_pos rfl] at H; exact H
       clear H; have H := H1; clear H1; exact absurd (Option.some.inj H) (by rw [HR_.out]; decide)
      ·replace c17 := Bool.eq_false_iff.mpr c17
       subst c17; have H1 : (if 0 ≤ t252 then (if t252 ≤ (l0.length : Int) then ((slip_Row.f kj6 (l0.take (t252 : Int).toNat)).bind fun bt256 => (wristbandlaw18_SlipRow.l0 kj6 l0 t249 t252 bt256.1 bt256.2 ([] : List Int) 0)) else (none)) else (none)) = some r := by rw [if_neg (show ¬ (false = true) by decide)] at H; exact H
       clear H; have H := H1; clear H1; by_cases c18 : 0 ≤ t252
       ·rw [if_pos c18] at H
        have c18b0 := eq_true c18
        have c18b1 : decide (0 ≤ t252) = true := decide_eq_true c18
        clear c18; by_cases c19 : t252 ≤ (l0.length : Int)
        ·rw [if_pos c19] at H
         have c19b0 := eq_true c19
         have c19b1 : decide (t252 ≤ (l0.length : Int)) = true := decide_eq_true c19
         clear c19; replace H := Option.bind_eq_some_iff.mp H
         obtain ⟨⟨t256, t259⟩, A200, H⟩ := H
         replace H : (wristbandlaw18_SlipRow.l0 kj6 l0 t249 t252 t256 t259 ([] : List Int) 0) = some r := H
         have A20 := Aside0.mk A200; clear A200; have H' := Aside0.mk H; clear H; obtain ⟨i021, hi021, _, hsz21, _⟩ := info_parts info5
         obtain ⟨hcut21, hA21, hC21⟩ := print_take_of (P := Tryd.prog) (Value.int .u8) 0 24 5 .i64 Tryd.underlying24 hi021 hsz21 A0 c0 l0 t252 (of_decide_eq_true (by first | (with_reducible assumption) | assumption)) (of_decide_eq_true (by first | (with_reducible assumption) | assumption)) HC0.out
         have HR255 := Aside0.mk (Kd.C_of_reads (h1 := fun _ => rfl) (hA21 _ (Kd.reads_of_C HR0.out))); have HC255 := Aside0.mk hC21; clear hA21 hC21 hi021 hsz21; (try (have hsl21_ : Aside0 ((l0.take (t252 : Int).toNat).length = t252.toNat) := ⟨(by rw [List.length_take]; have h_ : (t252 : Int) ≤ (l0.length : Int) := of_decide_eq_true (by first | (with_reducible assumption) | assumption); omega)⟩))
         go_wp2_with (first | (go_at_call 34; refine calls_of_args (args' := #[.slice A0 (l0.take (t252 : Int).toNat).length c0]) (by first | rfl | (rw [hsl21_.out] <;> rfl) | (rw [show (l0.take (t252 : Int).toNat).length = t252.toNat from (by rw [List.length_take]; have h_ : (t252 : Int) ≤ (l0.length : Int) := of_decide_eq_true (by first | (with_reducible assumption) | assumption); omega)] <;> rfl) | rfl) ?_; (with_reducible refine (slip_Row.calls kj6 (fun k_ => k_ < w.heap.size) _ _ (l0.take (t252 : Int).toNat) t256 t259 _ ?side1 ?side2 ?side3 A20.out).mono ?_); (case side1 => exact Kd.V_mk HC255.out (Kd.F_below (Kd.C_F (Kd.heap_int .u8) HR255.out) (by repeat (first | (with_reducible first | exact HB.out | apply bA | apply bN | apply bD) | exact HB.out)))); (case side2 => repeat (first | exact (Kd.C_below HRL0_.out HB.out) | (with_reducible refine Kd.C_alloc ?_ _) | (with_reducible refine Kd.C_drewN ?_ _) | (with_reducible refine Kd.C_drew ?_))); (case side3 => repeat (first | exact (Kd.C_below HRL1_.out HB.out) | (with_reducible refine Kd.C_alloc ?_ _) | (with_reducible refine Kd.C_drewN ?_ _) | (with_reducible refine Kd.C_drew ?_))); rintro e w22 ⟨v257, rfl, ho0, hb⟩; have n0_ := Aside0.mk (Kd.N_elder' (by (with_reducible repeat (first | apply Kd.N_alloc | apply Kd.N_drewN | apply Kd.N_drew)); exact HO_3.out) (Kd.N_base ho0) hb); have n1_ := Aside0.mk (Kd.N_lower (Kd.N_mono (ok' := fun k_ => some k_ ≠ (v250 : Value).ownBlock) ho0 (fun k_ hk_ => Or.elim hk_ (fun hs_ => fun e_ => Nat.not_le.2 hs_ (Kd.N_base HO_3.out k_ e_.symm)) (fun hn_ => (Kd.fresh' (Kd.N_lt (by (with_reducible repeat (first | apply Kd.N_alloc | apply Kd.N_drewN | apply Kd.N_drew)); exact HO_3.out)) k_ hn_)))) (below_size (by repeat (first | (with_reducible first | exact HB.out | apply bA | apply bN | apply bD) | exact HB.out)))); have n2_ := Aside0.mk (below_step (by repeat (first | (with_reducible first | exact HB.out | apply bA | apply bN | apply bD) | exact HB.out)) hb); clear HO_3; clear HB; have HO_3 := n0_; have HO258 := n1_; have HB := n2_; clear n0_ n1_ n2_; (try clear hb); (try clear hb2); (try clear hk); (try clear hi); (try clear ho0)))
         repeat (go_quiet (fail); try go_wp2_with (first | (go_at_call 34; refine calls_of_args (args' := #[.slice A0 (l0.take (t252 : Int).toNat).length c0]) (by first | rfl | (rw [hsl21_.out] <;> rfl) | (rw [show (l0.take (t252 : Int).toNat).length = t252.toNat from (by rw [List.length_take]; have h_ : (t252 : Int) ≤ (l0.length : Int) := of_decide_eq_true (by first | (with_reducible assumption) | assumption); omega)] <;> rfl) | rfl) ?_; (with_reducible refine (slip_Row.calls kj6 (fun k_ => k_ < w.heap.size) _ _ (l0.take (t252 : Int).toNat) t256 t259 _ ?side1 ?side2 ?side3 A20.out).mono ?_); (case side1 => exact Kd.V_mk HC255.out (Kd.F_below (Kd.C_F (Kd.heap_int .u8) HR255.out) (by repeat (first | (with_reducible first | exact HB.out | apply bA | apply bN | apply bD) | exact HB.out)))); (case side2 => repeat (first | exact (Kd.C_below HRL0_.out HB.out) | (with_reducible refine Kd.C_alloc ?_ _) | (with_reducible refine Kd.C_drewN ?_ _) | (with_reducible refine Kd.C_drew ?_))); (case side3 => repeat (first | exact (Kd.C_below HRL1_.out HB.out) | (with_reducible refine Kd.C_alloc ?_ _) | (with_reducible refine Kd.C_drewN ?_ _) | (with_reducible refine Kd.C_drew ?_))); rintro e w22 ⟨v257, rfl, ho0, hb⟩; have n0_ := Aside0.mk (Kd.N_elder' (by (with_reducible repeat (first | apply Kd.N_alloc | apply Kd.N_drewN | apply Kd.N_drew)); exact HO_3.out) (Kd.N_base ho0) hb); have n1_ := Aside0.mk (Kd.N_lower (Kd.N_mono (ok' := fun k_ => some k_ ≠ (v250 : Value).ownBlock) ho0 (fun k_ hk_ => Or.elim hk_ (fun hs_ => fun e_ => Nat.not_le.2 hs_ (Kd.N_base HO_3.out k_ e_.symm)) (fun hn_ => (Kd.fresh' (Kd.N_lt (by (with_reducible repeat (first | apply Kd.N_alloc | apply Kd.N_drewN | apply Kd.N_drew)); exact HO_3.out)) k_ hn_)))) (below_size (by repeat (first | (with_reducible first | exact HB.out | apply bA | apply bN | apply bD) | exact HB.out)))); have n2_ := Aside0.mk (below_step (by repeat (first | (with_reducible first | exact HB.out | apply bA | apply bN | apply bD) | exact HB.out)) hb); clear HO_3; clear HB; have HO_3 := n0_; have HO258 := n1_; have HB := n2_; clear n0_ n1_ n2_; (try clear hb); (try clear hb2); (try clear hk); (try clear hi); (try clear ho0))))
         go_loopg [7, 8] kj6 (fun kq v7 v8 w' => ∃ (x7_2 : List Int) (x8_2 : Int), v8 = .int .i64 x8_2 ∧ Aside0 (wristbandlaw18_SlipRow.l0 kq l0 t249 t252 t256 t259 x7_2 x8_2 = some r) ∧ Aside0 (kq ≤ kj6) ∧ Aside0 (Kd.N (Kd.slice 5 (Kd.int .u8)) 24 w' w.heap.size (fun k_ => some k_ ≠ (v257 : Value).ownBlock ∧ some k_ ≠ (v7 : Value).ownBlock) v250 t249) ∧ Aside0 (Kd.N (Kd.slice 5 (Kd.int .u8)) 24 w' w.heap.size (fun k_ => some k_ ≠ (v250 : Value).ownBlock ∧ some k_ ≠ (v7 : Value).ownBlock) v257 t256) ∧ Aside0 (Kd.R (Kd.int .u8) 5 w' w.heap.size (fun _ => True) v7 x7_2) ∧ Aside0 (Below w.heap.size w w'))
         case atStart => exact ⟨(([] : List Int)), (0), (by first | rfl | (simp; done) | (simp [*]; done)), H', ⟨Nat.le_refl _⟩, ⟨by (with_reducible repeat (first | apply Kd.N_alloc | apply Kd.N_drewN | apply Kd.N_drew)); exact Kd.N_mono HO_3.out (fun _ hk => ⟨hk.2, (by simp [Value.ownBlock])⟩)⟩, ⟨by (with_reducible repeat (first | apply Kd.N_alloc | apply Kd.N_drewN | apply Kd.N_drew)); exact Kd.N_mono HO258.out (fun _ hk => ⟨hk, (by simp [Value.ownBlock])⟩)⟩, ⟨by first | exact Kd.R_nil _ _ _ _ _ | exact Kd.N_nil _ _ _ _ _ | exact Kd.V_nil _ _ _ _ _ | exact Kd.Q_nil _ _ _ _ _ | exact Kd.S_nil _ _ _ _ _⟩, ⟨by repeat (first | (with_reducible first | exact HB.out | apply bA | apply bN | apply bD) | exact HB.out)⟩⟩
         case round =>
          clear H'; try clear c1
          try clear p2
          try clear c3
          try clear c4
          try clear c4b0
          try clear c4b1
          try clear c10
          try clear c10b0
          try clear c11
          try clear c11b0
          try clear c12
          try clear c12b0
          try clear c12b1
          try clear c13
          try clear c13b0
          try clear c13b1
          try clear c17
          try clear c18
          try clear c18b0
          try clear c18b1
          try clear c19
          try clear c19b0
          try clear c19b1
          try clear p2
          obtain ⟨x7_2, x8_2, rfl, HA, HK2, HO_3, HO_5, HO_7, HB⟩ := hrel
          cases gk with
          | zero => exact absurd HA.out (by simp [wristbandlaw18_SlipRow.l0])
          | succ k2 =>
           have H := HA.out
           clear HA; simp only [wristbandlaw18_SlipRow.l0] at H
           by_cases c23 : x8_2 < (t249.length : Int)
           ·rw [if_pos c23] at H
            have c23b0 : decide (x8_2 < (t249.length : Int)) = true := decide_eq_true c23
            (try (have c23h15 := c23b0; simp only [hsl15_.out, Int.ofNat_toNat] at c23h15))
            (try (have c23h21 := c23b0; simp only [hsl21_.out, Int.ofNat_toNat] at c23h21))
            clear c23; by_cases c24 : 0 ≤ x8_2
            ·rw [if_pos c24] at H
             have c24b0 : decide (0 ≤ x8_2) = true := decide_eq_true c24
             (try (have c24h15 := c24b0; simp only [hsl15_.out, Int.ofNat_toNat] at c24h15))
             (try (have c24h21 := c24b0; simp only [hsl21_.out, Int.ofNat_toNat] at c24h21))
             clear c24; replace H := Option.bind_eq_some_iff.mp H
             obtain ⟨⟨t261, t264⟩, A250, H⟩ := H
             replace H : (if t264 = 0 then (if x7_2.length + t261.length < 140737488355328 then (wristbandlaw18_SlipRow.l0 k2 l0 t249 t252 t256 t259 (x7_2 ++ t261) (wrap64 (x8_2 + 1))) else (none)) else (some false)) = some r := H
             have A25 := Aside0.mk A250; clear A250; by_cases c26 : t264 = 0
             ·rw [if_pos c26] at H
              have c26b0 : (t264 == 0) = true := beq_iff_eq.mpr c26
              have c26b1 : (t264 != 0) = false := bne_eq_false_iff_eq.mpr c26
              (try (have c26h15 := c26b0; simp only [hsl15_.out, Int.ofNat_toNat] at c26h15))
              (try (have c26h21 := c26b0; simp only [hsl21_.out, Int.ofNat_toNat] at c26h21))
              clear c26; by_cases c27 : x7_2.length + t261.length < 140737488355328
              ·rw [if_pos c27] at H
               have LMc27 := Aside0.mk c27; clear c27; obtain ⟨y265, hy265⟩ : ∃ y_ : List Int, y_ = (x7_2 ++ t261) := ⟨_, rfl⟩
               replace H : (wristbandlaw18_SlipRow.l0 k2 l0 t249 t252 t256 t259 y265 (wrap64 (x8_2 + 1))) = some r := by first | (rw [hy265]; with_reducible exact H) | (have H2_ := (Option.bind_some _ _).symm.trans H; rw [hy265]; with_reducible exact H2_) | (have H2_ := (Option.bind_some _ _).symm.trans H; with_reducible exact H2_) | with_reducible exact H | (rw [hy265]; exact H) | exact H
               have Ny265 := Aside0.mk hy265; clear hy265; have H' := Aside0.mk H; clear H; obtain ⟨Ao28, co28, eo28⟩ := Kd.N_slice HO_3.out
               subst eo28; have p260 : 0 ≤ (x8_2 : Int) := of_decide_eq_true (by first | (with_reducible assumption) | assumption)
               have q260 : x8_2 < (t249.length : Int) := of_decide_eq_true (by first | (with_reducible assumption) | assumption)
               obtain ⟨ad260, A260_0, c260_0, e260, hx260_0, hl260_0, hi260_0⟩ := at_L2 (Kd.N_reads' HO_3.out).2.2 x8_2 p260 q260
               cases e260
               obtain ⟨ce260, hce260, hMe260, hcc260⟩ := Kd.N_get HO_3.out [] x8_2 p260 (by first | exact q260 | exact of_decide_eq_true (by first | (with_reducible assumption) | assumption) | (have e_ := (Kd.N_reads' HO_3.out).1; omega))
               obtain ⟨ua260_0, uc260_0, rfl, ul260_0, ge260_0⟩ := Kd.FK_slice_open hMe260
               have hv260_0 := hcc260 0 _ rfl
               rw [Nat.add_zero, show ((Kd.slice 5 (Kd.int .u8))).sz = 1 from rfl, Nat.mul_one] at hv260_0; replace hv260_0 := Option.some.inj (hv260_0.symm.trans hx260_0)
               injection hv260_0 with hva_ hvn_ hvc_
               rw [hva_] at ge260_0; rw [hvc_] at ul260_0
               have HL260_0 := Aside0.mk (show Kd.V (Kd.int .u8) 5 _ w.heap.size _ _ (rd_L2 t249 x8_2) from Kd.V_mk ul260_0 ge260_0); clear hva_ hvn_ hvc_ ge260_0 ul260_0; clear hcc260 hce260; have HR260_0 := Aside0.mk hi260_0; have HC260_0 := Aside0.mk hl260_0; clear hi260_0 hl260_0; replace p260 := eq_true p260
               replace q260 := eq_true q260
               go_wp2_with (first | (go_at_call 33; (with_reducible refine (slip_Put.calls k2 (fun k_ => ((some k_ ≠ (v257 : Value).ownBlock ∧ some k_ ≠ (u7 : Value).ownBlock) ∧ some k_ ≠ (.slice (some ad260) t249.length co28 : Value).ownBlock)) _ _ (rd_L2 t249 x8_2) t261 t264 _ ?side1 ?side2 ?side3 A25.out).mono ?_); (case side1 => exact HL260_0.out); (case side2 => repeat (first | exact (Kd.C_below HRL0_.out HB.out) | (with_reducible refine Kd.C_alloc ?_ _) | (with_reducible refine Kd.C_drewN ?_ _) | (with_reducible refine Kd.C_drew ?_))); (case side3 => repeat (first | exact (Kd.C_below HRL1_.out HB.out) | (with_reducible refine Kd.C_alloc ?_ _) | (with_reducible refine Kd.C_drewN ?_ _) | (with_reducible refine Kd.C_drew ?_))); rintro e w29 ⟨v262, rfl, ho0, hb⟩; have n0_ := Aside0.mk (Kd.N_elder' (by (with_reducible repeat (first | apply Kd.N_alloc | apply Kd.N_drewN | apply Kd.N_drew)); exact HO_3.out) (Kd.R_base ho0) hb); have n1_ := Aside0.mk (Kd.N_elder' (by (with_reducible repeat (first | apply Kd.N_alloc | apply Kd.N_drewN | apply Kd.N_drew)); exact HO_5.out) (Kd.R_base ho0) hb); have n2_ := Aside0.mk (Kd.R_elder' (by (with_reducible repeat (first | apply rL | apply rN | apply rW)); exact HO_7.out) (Kd.R_base ho0) hb); have n3_ := Aside0.mk (Kd.V_elder' (by (with_reducible repeat (first | apply Kd.V_alloc | apply Kd.V_drewN | apply Kd.V_drew)); exact HL260_0.out) (Kd.R_base ho0) hb); have n4_ := Aside0.mk (Kd.R_lower (Kd.R_new' (Kd.R_mono (ok' := fun k_ => True) ho0 (fun _ hk_ => trivial)) (Kd.R_lt (by (with_reducible repeat (first | apply rL | apply rN | apply rW)); exact HO_7.out))) (below_size (by repeat (first | (with_reducible first | exact HB.out | apply bA | apply bN | apply bD) | exact HB.out)))); have n5_ := Aside0.mk (Kd.C_below (by repeat (first | (with_reducible exact HR260_0.out) | (with_reducible refine Kd.C_alloc ?_ _) | (with_reducible refine Kd.C_drewN ?_ _) | (with_reducible refine Kd.C_drew ?_) | exact HR260_0.out)) hb); have n6_ := Aside0.mk (below_step (by repeat (first | (with_reducible first | exact HB.out | apply bA | apply bN | apply bD) | exact HB.out)) hb); clear HO_3; clear HO_5; clear HO_7; clear HL260_0; clear HR260_0; clear HB; have HO_3 := n0_; have HO_5 := n1_; have HO_7 := n2_; have HL260_0 := n3_; have HO263 := n4_; have HR260_0 := n5_; have HB := n6_; clear n0_ n1_ n2_ n3_ n4_ n5_ n6_; (try clear hb); (try clear hb2); (try clear hk); (try clear hi); (try clear ho0); obtain ⟨Ao31, co31, eo31⟩ := Kd.R_slice HO263.out; subst eo31) | ((with_reducible refine gate_builtin (b := .append) (xs := #[.tmp 59, .tmp 60]) rfl ?_); (try (refine gate_guard (by rfl) ?_; dsimp only)); at_builtin; refine Kd.R_append_rows (Kd.int .u8) (w0 := w) w.heap.size rfl (.tmp 59) (.tmp 60) 24 5 (.int .u8 0) 1 rfl Tryd.underlying24 info5 rfl (by decide) (by omega) u7 x7_2 t261 _ _ _ (fun k_ => some k_ ≠ (.slice Ao31 t261.length co31 : Value).ownBlock) (fun _ => False) rfl rfl ?aO ?aR (fun _ _ h => h) (fun _ h => h.elim) ?aF ?aB ?aS ?aL ?_; (case aR => repeat (first | exact (Kd.R_reads' HO263.out).2.2 | (with_reducible refine Kd.C_alloc ?_ _) | (with_reducible refine Kd.C_drewN ?_ _) | (with_reducible refine Kd.C_drew ?_))); (case aB => exact (by repeat (first | (with_reducible first | exact HB.out | apply bA | apply bN | apply bD) | exact HB.out))); (case aF => exact (fun k_ hk => Kd.fresh' (Kd.R_lt (by (with_reducible repeat (first | apply rL | apply rN | apply rW)); exact HO263.out)) k_ hk)); (case aO => exact (by (with_reducible repeat (first | apply rL | apply rN | apply rW)); exact Kd.R_mono HO_7.out (fun _ hk => hk.2))); (case aS => exact (below_size (by repeat (first | (with_reducible first | exact HB.out | apply bA | apply bN | apply bD) | exact HB.out)))); (case aL => have := LMc27.out; omega); intro v266 w30 ho hb hg hat; rw [← Ny265.out] at ho; have n0_ := Aside0.mk (Kd.N_afterv (ok := (fun k_ => some k_ ≠ (v257 : Value).ownBlock ∧ some k_ ≠ (.slice Ao31 t261.length co31 : Value).ownBlock)) (by (with_reducible repeat (first | apply Kd.N_alloc | apply Kd.N_drewN | apply Kd.N_drew)); exact Kd.N_mono HO_3.out (fun _ hk => ⟨⟨hk.1.1, hk.2⟩, hk.1.2⟩)) hg hat); have n1_ := Aside0.mk (Kd.N_afterv (ok := (fun k_ => some k_ ≠ (.slice (some ad260) t249.length co28 : Value).ownBlock ∧ some k_ ≠ (.slice Ao31 t261.length co31 : Value).ownBlock)) (by (with_reducible repeat (first | apply Kd.N_alloc | apply Kd.N_drewN | apply Kd.N_drew)); exact Kd.N_mono HO_5.out (fun _ hk => ⟨⟨hk.1.1, hk.2⟩, hk.1.2⟩)) hg hat); have n2_ := Aside0.mk (Kd.V_afterv (ok := (fun k_ => some k_ ≠ (.slice (some ad260) t249.length co28 : Value).ownBlock ∧ some k_ ≠ (v257 : Value).ownBlock ∧ some k_ ≠ (.slice Ao31 t261.length co31 : Value).ownBlock)) (by (with_reducible repeat (first | apply Kd.V_alloc | apply Kd.V_drewN | apply Kd.V_drew)); exact Kd.V_mono HL260_0.out (fun _ hk => ⟨⟨hk.1.2, ⟨hk.1.1.1, hk.2⟩⟩, hk.1.1.2⟩)) hg hat); have n3_ := Aside0.mk (Kd.R_after (ok := (fun _ => True)) (by (with_reducible repeat (first | apply rL | apply rN | apply rW)); exact HO263.out) hg hat); have n4_ := Aside0.mk (hb); have n5_ := Aside0.mk (ho); clear HO_3; clear HO_5; clear HL260_0; clear HO263; clear HB; clear HO_7; have HO_3 := n0_; have HO_5 := n1_; have HL260_0 := n2_; have HO263 := n3_; have HB := n4_; have HO267 := n5_; clear n0_ n1_ n2_ n3_ n4_ n5_; clear ho hb hg hat))
               repeat (go_quiet (fail); try go_wp2_with (first | (go_at_call 33; (with_reducible refine (slip_Put.calls k2 (fun k_ => ((some k_ ≠ (v257 : Value).ownBlock ∧ some k_ ≠ (u7 : Value).ownBlock) ∧ some k_ ≠ (.slice (some ad260) t249.length co28 : Value).ownBlock)) _ _ (rd_L2 t249 x8_2) t261 t264 _ ?side1 ?side2 ?side3 A25.out).mono ?_); (case side1 => exact HL260_0.out); (case side2 => repeat (first | exact (Kd.C_below HRL0_.out HB.out) | (with_reducible refine Kd.C_alloc ?_ _) | (with_reducible refine Kd.C_drewN ?_ _) | (with_reducible refine Kd.C_drew ?_))); (case side3 => repeat (first | exact (Kd.C_below HRL1_.out HB.out) | (with_reducible refine Kd.C_alloc ?_ _) | (with_reducible refine Kd.C_drewN ?_ _) | (with_reducible refine Kd.C_drew ?_))); rintro e w29 ⟨v262, rfl, ho0, hb⟩; have n0_ := Aside0.mk (Kd.N_elder' (by (with_reducible repeat (first | apply Kd.N_alloc | apply Kd.N_drewN | apply Kd.N_drew)); exact HO_3.out) (Kd.R_base ho0) hb); have n1_ := Aside0.mk (Kd.N_elder' (by (with_reducible repeat (first | apply Kd.N_alloc | apply Kd.N_drewN | apply Kd.N_drew)); exact HO_5.out) (Kd.R_base ho0) hb); have n2_ := Aside0.mk (Kd.R_elder' (by (with_reducible repeat (first | apply rL | apply rN | apply rW)); exact HO_7.out) (Kd.R_base ho0) hb); have n3_ := Aside0.mk (Kd.V_elder' (by (with_reducible repeat (first | apply Kd.V_alloc | apply Kd.V_drewN | apply Kd.V_drew)); exact HL260_0.out) (Kd.R_base ho0) hb); have n4_ := Aside0.mk (Kd.R_lower (Kd.R_new' (Kd.R_mono (ok' := fun k_ => True) ho0 (fun _ hk_ => trivial)) (Kd.R_lt (by (with_reducible repeat (first | apply rL | apply rN | apply rW)); exact HO_7.out))) (below_size (by repeat (first | (with_reducible first | exact HB.out | apply bA | apply bN | apply bD) | exact HB.out)))); have n5_ := Aside0.mk (Kd.C_below (by repeat (first | (with_reducible exact HR260_0.out) | (with_reducible refine Kd.C_alloc ?_ _) | (with_reducible refine Kd.C_drewN ?_ _) | (with_reducible refine Kd.C_drew ?_) | exact HR260_0.out)) hb); have n6_ := Aside0.mk (below_step (by repeat (first | (with_reducible first | exact HB.out | apply bA | apply bN | apply bD) | exact HB.out)) hb); clear HO_3; clear HO_5; clear HO_7; clear HL260_0; clear HR260_0; clear HB; have HO_3 := n0_; have HO_5 := n1_; have HO_7 := n2_; have HL260_0 := n3_; have HO263 := n4_; have HR260_0 := n5_; have HB := n6_; clear n0_ n1_ n2_ n3_ n4_ n5_ n6_; (try clear hb); (try clear hb2); (try clear hk); (try clear hi); (try clear ho0); obtain ⟨Ao31, co31, eo31⟩ := Kd.R_slice HO263.out; subst eo31) | ((with_reducible refine gate_builtin (b := .append) (xs := #[.tmp 59, .tmp 60]) rfl ?_); (try (refine gate_guard (by rfl) ?_; dsimp only)); at_builtin; refine Kd.R_append_rows (Kd.int .u8) (w0 := w) w.heap.size rfl (.tmp 59) (.tmp 60) 24 5 (.int .u8 0) 1 rfl Tryd.underlying24 info5 rfl (by decide) (by omega) u7 x7_2 t261 _ _ _ (fun k_ => some k_ ≠ (.slice Ao31 t261.length co31 : Value).ownBlock) (fun _ => False) rfl rfl ?aO ?aR (fun _ _ h => h) (fun _ h => h.elim) ?aF ?aB ?aS ?aL ?_; (case aR => repeat (first | exact (Kd.R_reads' HO263.out).2.2 | (with_reducible refine Kd.C_alloc ?_ _) | (with_reducible refine Kd.C_drewN ?_ _) | (with_reducible refine Kd.C_drew ?_))); (case aB => exact (by repeat (first | (with_reducible first | exact HB.out | apply bA | apply bN | apply bD) | exact HB.out))); (case aF => exact (fun k_ hk => Kd.fresh' (Kd.R_lt (by (with_reducible repeat (first | apply rL | apply rN | apply rW)); exact HO263.out)) k_ hk)); (case aO => exact (by (with_reducible repeat (first | apply rL | apply rN | apply rW)); exact Kd.R_mono HO_7.out (fun _ hk => hk.2))); (case aS => exact (below_size (by repeat (first | (with_reducible first | exact HB.out | apply bA | apply bN | apply bD) | exact HB.out)))); (case aL => have := LMc27.out; omega); intro v266 w30 ho hb hg hat; rw [← Ny265.out] at ho; have n0_ := Aside0.mk (Kd.N_afterv (ok := (fun k_ => some k_ ≠ (v257 : Value).ownBlock ∧ some k_ ≠ (.slice Ao31 t261.length co31 : Value).ownBlock)) (by (with_reducible repeat (first | apply Kd.N_alloc | apply Kd.N_drewN | apply Kd.N_drew)); exact Kd.N_mono HO_3.out (fun _ hk => ⟨⟨hk.1.1, hk.2⟩, hk.1.2⟩)) hg hat); have n1_ := Aside0.mk (Kd.N_afterv (ok := (fun k_ => some k_ ≠ (.slice (some ad260) t249.length co28 : Value).ownBlock ∧ some k_ ≠ (.slice Ao31 t261.length co31 : Value).ownBlock)) (by (with_reducible repeat (first | apply Kd.N_alloc | apply Kd.N_drewN | apply Kd.N_drew)); exact Kd.N_mono HO_5.out (fun _ hk => ⟨⟨hk.1.1, hk.2⟩, hk.1.2⟩)) hg hat); have n2_ := Aside0.mk (Kd.V_afterv (ok := (fun k_ => some k_ ≠ (.slice (some ad260) t249.length co28 : Value).ownBlock ∧ some k_ ≠ (v257 : Value).ownBlock ∧ some k_ ≠ (.slice Ao31 t261.length co31 : Value).ownBlock)) (by (with_reducible repeat (first | apply Kd.V_alloc | apply Kd.V_drewN | apply Kd.V_drew)); exact Kd.V_mono HL260_0.out (fun _ hk => ⟨⟨hk.1.2, ⟨hk.1.1.1, hk.2⟩⟩, hk.1.1.2⟩)) hg hat); have n3_ := Aside0.mk (Kd.R_after (ok := (fun _ => True)) (by (with_reducible repeat (first | apply rL | apply rN | apply rW)); exact HO263.out) hg hat); have n4_ := Aside0.mk (hb); have n5_ := Aside0.mk (ho); clear HO_3; clear HO_5; clear HL260_0; clear HO263; clear HB; clear HO_7; have HO_3 := n0_; have HO_5 := n1_; have HL260_0 := n2_; have HO263 := n3_; have HB := n4_; have HO267 := n5_; clear n0_ n1_ n2_ n3_ n4_ n5_; clear ho hb hg hat)))
               go_roundg k2
               case measure => have := HJ6.out; have := HK2.out; omega
               case rel => exact ⟨(y265), (wrap64 (x8_2 + 1)), (by first | rfl | (simp; done) | (simp [*]; done)), H', ⟨by have := HJ6.out; have := HK2.out; omega⟩, ⟨by (with_reducible repeat (first | apply Kd.N_alloc | apply Kd.N_drewN | apply Kd.N_drew)); exact Kd.N_mono HO_3.out (fun _ hk => ⟨hk.1.1, hk.2⟩)⟩, ⟨by (with_reducible repeat (first | apply Kd.N_alloc | apply Kd.N_drewN | apply Kd.N_drew)); exact Kd.N_mono HO_5.out (fun _ hk => ⟨hk.1.1, hk.2⟩)⟩, ⟨by (with_reducible repeat (first | apply rL | apply rN | apply rW)); exact Kd.R_mono HO267.out (fun _ hk => trivial)⟩, ⟨by repeat (first | (with_reducible first | exact HB.out | apply bA | apply bN | apply bD) | exact HB.out)⟩⟩
              ·rw [if_neg c27] at H
               exact absurd H (by simp)
             ·rw [if_neg c26] at H
              have c26b0 : (t264 == 0) = false := beq_eq_false_iff_ne.mpr c26
              have c26b1 : (t264 != 0) = true := bne_iff_ne.mpr c26
              (try (have c26h15 := c26b0; simp only [hsl15_.out, Int.ofNat_toNat] at c26h15))
              (try (have c26h21 := c26b0; simp only [hsl21_.out, Int.ofNat_toNat] at c26h21))
              exact absurd (Option.some.inj H) (by rw [HR_.out]; decide)
            ·rw [if_neg c24] at H
             exact absurd H (by simp)
           ·rw [if_neg c23] at H
            have c23b0 : decide (x8_2 < (t249.length : Int)) = false := decide_eq_false c23
            (try (have c23h15 := c23b0; simp only [hsl15_.out, Int.ofNat_toNat] at c23h15))
            (try (have c23h21 := c23b0; simp only [hsl21_.out, Int.ofNat_toNat] at c23h21))
            clear c23; replace H := Option.bind_eq_some_iff.mp H
            obtain ⟨t268, A320, H⟩ := H
            replace H : (if t268 = true then (if t259 = t252 then (if 0 ≤ t252 then (if t252 ≤ (l0.length : Int) then (some ((strOfNums x7_2).toList == (strOfNums (l0.take (t252 : Int).toNat)).toList)) else (none)) else (none)) else (some false)) else (some false)) = some r := H
            have A32 := Aside0.mk A320; clear A320; by_cases c33 : t268 = true
            ·subst c33
             have H1 : (if t259 = t252 then (if 0 ≤ t252 then (if t252 ≤ (l0.length : Int) then (some ((strOfNums x7_2).toList == (strOfNums (l0.take (t252 : Int).toNat)).toList)) else (none)) else (none)) else (some false)) = some r := by rw [if_pos rfl] at H; exact H
             clear H; have H := H1; clear H1; by_cases c34 : t259 = t252
             ·rw [if_pos c34] at H
              have c34b0 : (t259 == t252) = true := beq_iff_eq.mpr c34
              have c34b1 : (t259 != t252) = false := bne_eq_false_iff_eq.mpr c34
              (try (have c34h15 := c34b0; simp only [hsl15_.out, Int.ofNat_toNat] at c34h15))
              (try (have c34h21 := c34b0; simp only [hsl21_.out, Int.ofNat_toNat] at c34h21))
              clear c34; by_cases c35 : 0 ≤ t252
              ·rw [if_pos c35] at H
               have c35b0 := eq_true c35
               have c35b1 : decide (0 ≤ t252) = true := decide_eq_true c35
               clear c35; by_cases c36 : t252 ≤ (l0.length : Int)
               ·rw [if_pos c36] at H
                have c36b0 := eq_true c36
                have c36b1 : decide (t252 ≤ (l0.length : Int)) = true := decide_eq_true c36
                clear c36; obtain rfl := Option.some.inj H
                obtain ⟨Ao37, co37, eo37⟩ := Kd.N_slice HO_3.out
                subst eo37; obtain ⟨Ao38, co38, eo38⟩ := Kd.N_slice HO_5.out
                subst eo38; go_wp2_with (first | (go_at_call 37; (with_reducible refine (wristbandref18_Same.calls k2 _ _ t249 _ _ t256 true _ ?side1 ?side2 ?side3 ?side4 A32.out).mono ?_); (case side1 => repeat (first | exact (Kd.N_reads' HO_3.out).2.2 | (with_reducible refine Kd.C_alloc ?_ _) | (with_reducible refine Kd.C_drewN ?_ _) | (with_reducible refine Kd.C_drew ?_))); (case side2 => exact (Kd.N_reads' HO_3.out).2.1); (case side3 => repeat (first | exact (Kd.N_reads' HO_5.out).2.2 | (with_reducible refine Kd.C_alloc ?_ _) | (with_reducible refine Kd.C_drewN ?_ _) | (with_reducible refine Kd.C_drew ?_))); (case side4 => exact (Kd.N_reads' HO_5.out).2.1); rintro e w' ⟨rfl, ⟨nd, rfl⟩⟩; (try first | exact ⟨rfl, _, World.drewN_drewN _ _ _⟩ | exact ⟨rfl, _, Eq.trans (World.drewN_drewN _ _ _) (congrArg (World.drewN _) (Nat.add_assoc _ _ _))⟩); have hcv39 := own_string (P := Tryd.prog) Tryd.underlying24 Tryd.underlying5 Tryd.underlying9 (Kd.own_of_R HO_7.out); have hcv39q := fun n_ : Nat => own_string (P := Tryd.prog) Tryd.underlying24 Tryd.underlying5 Tryd.underlying9 (Kd.own_of_R (Kd.R_drewN HO_7.out n_)); obtain ⟨i040, hi040, _, hsz40, _⟩ := info_parts info5; obtain ⟨hcut40, hA40, hC40⟩ := print_take_of (P := Tryd.prog) (Value.int .u8) 0 24 5 .i64 Tryd.underlying24 hi040 hsz40 A0 c0 l0 t252 (of_decide_eq_true (by first | (with_reducible assumption) | assumption)) (of_decide_eq_true (by first | (with_reducible assumption) | assumption)) HC0.out; have HR269 := Aside0.mk (Kd.C_of_reads (h1 := fun _ => rfl) (hA40 _ (Kd.reads_of_C HR0.out))); have HC269 := Aside0.mk hC40; clear hA40 hC40 hi040 hsz40; (try (have hsl40_ : Aside0 ((l0.take (t252 : Int).toNat).length = t252.toNat) := ⟨(by rw [List.length_take]; have h_ : (t252 : Int) ≤ (l0.length : Int) := of_decide_eq_true (by first | (with_reducible assumption) | assumption); omega)⟩)); have hcv41 := Kd.C_string (P := Tryd.prog) (A := A0) (c := c0) Tryd.underlying24 Tryd.underlying5 Tryd.underlying9 (Kd.C_below HR269.out HB.out); (try (have hcv41h := hcv41; simp only [hsl40_.out] at hcv41h)); have hcv41q := fun n_ : Nat => Kd.C_string (P := Tryd.prog) (A := A0) (c := c0) Tryd.underlying24 Tryd.underlying5 Tryd.underlying9 (Kd.C_drewN (Kd.C_below HR269.out HB.out) n_); (try (have hcv41qh := hcv41q; simp only [hsl40_.out] at hcv41qh))))
                repeat (go_quiet (first | (go_at_call 37; (with_reducible refine (wristbandref18_Same.calls k2 _ _ t249 _ _ t256 true _ ?side1 ?side2 ?side3 ?side4 A32.out).mono ?_); (case side1 => repeat (first | exact (Kd.N_reads' HO_3.out).2.2 | (with_reducible refine Kd.C_alloc ?_ _) | (with_reducible refine Kd.C_drewN ?_ _) | (with_reducible refine Kd.C_drew ?_))); (case side2 => exact (Kd.N_reads' HO_3.out).2.1); (case side3 => repeat (first | exact (Kd.N_reads' HO_5.out).2.2 | (with_reducible refine Kd.C_alloc ?_ _) | (with_reducible refine Kd.C_drewN ?_ _) | (with_reducible refine Kd.C_drew ?_))); (case side4 => exact (Kd.N_reads' HO_5.out).2.1); rintro e w' ⟨rfl, ⟨nd, rfl⟩⟩; (try first | exact ⟨rfl, _, World.drewN_drewN _ _ _⟩ | exact ⟨rfl, _, Eq.trans (World.drewN_drewN _ _ _) (congrArg (World.drewN _) (Nat.add_assoc _ _ _))⟩); have hcv39 := own_string (P := Tryd.prog) Tryd.underlying24 Tryd.underlying5 Tryd.underlying9 (Kd.own_of_R HO_7.out); have hcv39q := fun n_ : Nat => own_string (P := Tryd.prog) Tryd.underlying24 Tryd.underlying5 Tryd.underlying9 (Kd.own_of_R (Kd.R_drewN HO_7.out n_)); obtain ⟨i040, hi040, _, hsz40, _⟩ := info_parts info5; obtain ⟨hcut40, hA40, hC40⟩ := print_take_of (P := Tryd.prog) (Value.int .u8) 0 24 5 .i64 Tryd.underlying24 hi040 hsz40 A0 c0 l0 t252 (of_decide_eq_true (by first | (with_reducible assumption) | assumption)) (of_decide_eq_true (by first | (with_reducible assumption) | assumption)) HC0.out; have HR269 := Aside0.mk (Kd.C_of_reads (h1 := fun _ => rfl) (hA40 _ (Kd.reads_of_C HR0.out))); have HC269 := Aside0.mk hC40; clear hA40 hC40 hi040 hsz40; (try (have hsl40_ : Aside0 ((l0.take (t252 : Int).toNat).length = t252.toNat) := ⟨(by rw [List.length_take]; have h_ : (t252 : Int) ≤ (l0.length : Int) := of_decide_eq_true (by first | (with_reducible assumption) | assumption); omega)⟩)); have hcv41 := Kd.C_string (P := Tryd.prog) (A := A0) (c := c0) Tryd.underlying24 Tryd.underlying5 Tryd.underlying9 (Kd.C_below HR269.out HB.out); (try (have hcv41h := hcv41; simp only [hsl40_.out] at hcv41h)); have hcv41q := fun n_ : Nat => Kd.C_string (P := Tryd.prog) (A := A0) (c := c0) Tryd.underlying24 Tryd.underlying5 Tryd.underlying9 (Kd.C_drewN (Kd.C_below HR269.out HB.out) n_); (try (have hcv41qh := hcv41q; simp only [hsl40_.out] at hcv41qh)))); try go_wp2_with (first | (go_at_call 37; (with_reducible refine (wristbandref18_Same.calls k2 _ _ t249 _ _ t256 true _ ?side1 ?side2 ?side3 ?side4 A32.out).mono ?_); (case side1 => repeat (first | exact (Kd.N_reads' HO_3.out).2.2 | (with_reducible refine Kd.C_alloc ?_ _) | (with_reducible refine Kd.C_drewN ?_ _) | (with_reducible refine Kd.C_drew ?_))); (case side2 => exact (Kd.N_reads' HO_3.out).2.1); (case side3 => repeat (first | exact (Kd.N_reads' HO_5.out).2.2 | (with_reducible refine Kd.C_alloc ?_ _) | (with_reducible refine Kd.C_drewN ?_ _) | (with_reducible refine Kd.C_drew ?_))); (case side4 => exact (Kd.N_reads' HO_5.out).2.1); rintro e w' ⟨rfl, ⟨nd, rfl⟩⟩; (try first | exact ⟨rfl, _, World.drewN_drewN _ _ _⟩ | exact ⟨rfl, _, Eq.trans (World.drewN_drewN _ _ _) (congrArg (World.drewN _) (Nat.add_assoc _ _ _))⟩); have hcv39 := own_string (P := Tryd.prog) Tryd.underlying24 Tryd.underlying5 Tryd.underlying9 (Kd.own_of_R HO_7.out); have hcv39q := fun n_ : Nat => own_string (P := Tryd.prog) Tryd.underlying24 Tryd.underlying5 Tryd.underlying9 (Kd.own_of_R (Kd.R_drewN HO_7.out n_)); obtain ⟨i040, hi040, _, hsz40, _⟩ := info_parts info5; obtain ⟨hcut40, hA40, hC40⟩ := print_take_of (P := Tryd.prog) (Value.int .u8) 0 24 5 .i64 Tryd.underlying24 hi040 hsz40 A0 c0 l0 t252 (of_decide_eq_true (by first | (with_reducible assumption) | assumption)) (of_decide_eq_true (by first | (with_reducible assumption) | assumption)) HC0.out; have HR269 := Aside0.mk (Kd.C_of_reads (h1 := fun _ => rfl) (hA40 _ (Kd.reads_of_C HR0.out))); have HC269 := Aside0.mk hC40; clear hA40 hC40 hi040 hsz40; (try (have hsl40_ : Aside0 ((l0.take (t252 : Int).toNat).length = t252.toNat) := ⟨(by rw [List.length_take]; have h_ : (t252 : Int) ≤ (l0.length : Int) := of_decide_eq_true (by first | (with_reducible assumption) | assumption); omega)⟩)); have hcv41 := Kd.C_string (P := Tryd.prog) (A := A0) (c := c0) Tryd.underlying24 Tryd.underlying5 Tryd.underlying9 (Kd.C_below HR269.out HB.out); (try (have hcv41h := hcv41; simp only [hsl40_.out] at hcv41h)); have hcv41q := fun n_ : Nat => Kd.C_string (P := Tryd.prog) (A := A0) (c := c0) Tryd.underlying24 Tryd.underlying5 Tryd.underlying9 (Kd.C_drewN (Kd.C_below HR269.out HB.out) n_); (try (have hcv41qh := hcv41q; simp only [hsl40_.out] at hcv41qh)))))
                go_ret
                exact ⟨by first | rfl | (simp [errW_none, errW_some] <;> rfl) | (simp [*, errW_none, errW_some] <;> rfl), by repeat (first | (with_reducible first | exact HB.out | apply bA | apply bN | apply bD) | exact HB.out)⟩
               ·rw [if_neg c36] at H
                exact absurd H (by simp)
              ·rw [if_neg c35] at H
               exact absurd H (by simp)
             ·rw [if_neg c34] at H
              have c34b0 : (t259 == t252) = false := beq_eq_false_iff_ne.mpr c34
              have c34b1 : (t259 != t252) = true := bne_iff_ne.mpr c34
              (try (have c34h15 := c34b0; simp only [hsl15_.out, Int.ofNat_toNat] at c34h15))
              (try (have c34h21 := c34b0; simp only [hsl21_.out, Int.ofNat_toNat] at c34h21))
              (try (have c34h40 := c34b0; simp only [hsl40_.out, Int.ofNat_toNat] at c34h40))
              exact absurd (Option.some.inj H) (by rw [HR_.out]; decide)
            ·replace c33 := Bool.eq_false_iff.mpr c33
             subst c33; have H1 : (some false) = some r := by rw [if_neg (show ¬ (false = true) by decide)] at H; exact H
             clear H; have H := H1; clear H1; exact absurd (Option.some.inj H) (by rw [HR_.out]; decide)
        ·rw [if_neg c19] at H
         exact absurd H (by simp)
       ·rw [if_neg c18] at H
        exact absurd H (by simp)
  ·replace c3 := Bool.eq_false_iff.mpr c3
   subst c3; have H1 : (some false) = some r := by rw [if_neg (show ¬ (false = true) by decide)] at H; exact H
   clear H; have H := H1; clear H1; exact absurd (Option.some.inj H) (by rw [HR_.out]; decide)

/-- THE ONE PURE STATEMENT of wristbandlaw18_SlipRow: yours. -/
def wristbandlaw18_SlipRow.Pure : Prop := ∀ (l0 : List Int), l0.length ≤ maxLen → l0.length * 1 ≤ 140737488351232 → (∀ x ∈ l0, (Lit.int .u8 x).wf = true) → ∃ k, wristbandlaw18_SlipRow.f k l0 = some true
theorem wristbandlaw18_SlipRow.walk (P : wristbandlaw18_SlipRow.Pure) (a0 : Option Addr) (len0 cap0 : Nat) (z0 : List Int) (w : World) (w0 : (a0 = none ∧ len0 = 0 ∧ cap0 = 0 ∧ z0 = []) ∨ ∃ x, a0 = some x ∧ len0 ≤ cap0 ∧ cap0 ≤ maxLen ∧ z0.length = cap0 ∧ (∀ i, i < z0.length → w.cell? (x.add i) = some (.int .u8 (z0.getD i 0))) ∧ ∀ n ∈ z0, (Lit.int .u8 n).wf = true) (y0 : len0 * 1 ≤ 140737488351232) (hL0_ : Kd.C (Kd.int .u32) w (some ⟨0, 0, none⟩) 64 shaK) (hL1_ : Kd.C (Kd.int .u32) w (some ⟨1, 0, none⟩) 8 shaF) :
   Calls Tryd.prog 11 #[.slice a0 len0 cap0] w fun e w' => e = .returned (.bool true) ∧ Below w.heap.size w w' := by
  obtain ⟨l0, rfl, hr0, hm0, hw0, hc0⟩ := ReadsInt.ofRowC w0
  obtain ⟨k, h⟩ := P l0 hm0 y0 hw0
  refine (wristbandlaw18_SlipRow.calls k _ _ l0 true w (Kd.C_of_reads (d := (0 : Int)) (h1 := fun _ => rfl) hr0) hc0 hL0_ hL1_ h rfl).mono ?_
  rintro e w' ⟨rfl, hd⟩
  exact ⟨rfl, hd⟩

end Go.Proofs.YtnpkhkhlofkbhaaDoor.PSlipRow
