-- made by a program of this session (its printer) out of what Lean prints of the given program
import Derived.Test.YtnpkhkhlofkbhaaDoorProg
import Derived.Below
import Derived.Deep.Draws
import Derived.Deep.AppendLies
import Derived.Maps.AppendAt
import Derived.OwnWalk
import Derived.Laws.BytesArg
import Derived.Laws.MakeOwn
import Derived.Laws.OwnMore
import Derived.Deep.OwnRows
import Derived.Tactics
import Derived.Lib.ConvBytes
import Derived.Laws.Slices
import Derived.WalkKit
import Derived.KernelRfl
import Derived.RowKit3
import Derived.Deep.LoopGhost
import Derived.Deep.QuietTactic
import Derived.BigQuiet
import Derived.WideLaws
import Derived.Deep.DeepCutAuto
import Derived.Deep.CutBlock
import Derived.Deep.RegionHeld3
import Derived.Laws.Rows
import Derived.Lib.AppendStr
import Derived.ArgAppend
import Derived.Laws.IdiomCopy
import Derived.OrdersHeld
import Derived.Laws.BitsLemmas
import Derived.RowKit
import Derived.Shelf.Strconv.Itoa0
import Derived.Maps.OwnOps
import Derived.Maps.Views
import Derived.DeepKeys4
import Derived.Laws.CopyOwn
import Derived.Deep.RegionLaw
import Derived.LoopN
import Derived.Test.YtnpkhkhlofkbhaaDoorWWords
import Derived.Test.YtnpkhkhlofkbhaaDoorWLast
import Derived.Test.YtnpkhkhlofkbhaaDoorWTab
import Derived.Test.YtnpkhkhlofkbhaaDoorWFour
import Derived.Test.YtnpkhkhlofkbhaaDoorWQPut
import Derived.Test.YtnpkhkhlofkbhaaDoorWApart
import Derived.Test.YtnpkhkhlofkbhaaDoorWArr
import Derived.Test.YtnpkhkhlofkbhaaDoorWZeros
import Derived.Test.YtnpkhkhlofkbhaaDoorWFoot
import Derived.Test.YtnpkhkhlofkbhaaDoorWKept
import Derived.Test.YtnpkhkhlofkbhaaDoorWShare
import Derived.Test.YtnpkhkhlofkbhaaDoorWN
import Derived.Test.YtnpkhkhlofkbhaaDoorWFootNe
import Derived.Test.YtnpkhkhlofkbhaaDoorWAt
import Derived.Test.YtnpkhkhlofkbhaaDoorWEqStruct
import Derived.Test.YtnpkhkhlofkbhaaDoorWRepsOne
import Derived.Test.YtnpkhkhlofkbhaaDoorWInv
import Derived.Test.YtnpkhkhlofkbhaaDoorWInvWords
import Derived.Test.YtnpkhkhlofkbhaaDoorWGuard
import Derived.Test.YtnpkhkhlofkbhaaDoorWNEv
import Derived.Test.YtnpkhkhlofkbhaaDoorWMore
import Derived.Test.YtnpkhkhlofkbhaaDoorXWords
namespace Go.Proofs.YtnpkhkhlofkbhaaDoor.PShaRight
open Go.RowKit Go.Proofs.YtnpkhkhlofkbhaaDoorW.PrintWords Go.Proofs.YtnpkhkhlofkbhaaDoorW.PrintLast Go.Proofs.YtnpkhkhlofkbhaaDoorW.PrintMore
attribute [local go_sem] max2_int min2_int max_two min_two max_three min_three max_four min_four   -- for this text's walks alone
set_option linter.unusedVariables false
set_option linter.unusedSimpArgs false



def errW : Option Int → Value
  | none => .nilIface
  | some c => .iface 0 (.int .i64 c)
theorem errW_none : errW none = .nilIface := rfl
theorem errW_some (c : Int) : errW (some c) = .iface 0 (.int .i64 c) := rfl

theorem info5 : (Tryd.prog.info? 5).map (fun i => (i.zero, i.size, i.bytes)) = some (some (.int .u8 0), 1, 1) := by kernel_rfl
theorem info22 : (Tryd.prog.info? 22).map (fun i => (i.zero, i.size, i.bytes)) = some (some (.int .u32 0), 1, 4) := by kernel_rfl
-- the values' own types
/-! #### struct type 23 -/
structure S23 where
  f0 : Int
  f1 : Int
  f2 : Int
  f3 : Int
  f4 : Int
  f5 : Int
  f6 : Int
  f7 : Int
def k23 : Kd S23 := Kd.iso (Kd.pair (Kd.int .u32) (Kd.pair (Kd.int .u32) (Kd.pair (Kd.int .u32) (Kd.pair (Kd.int .u32) (Kd.pair (Kd.int .u32) (Kd.pair (Kd.int .u32) (Kd.pair (Kd.int .u32) (Kd.int .u32)))))))) (fun x : S23 => (x.f0, x.f1, x.f2, x.f3, x.f4, x.f5, x.f6, x.f7))
/-! #### struct type 27 -/
structure S27 where
  f0 : S23
  f1 : (List Int)
  f2 : Int
def k27 : Kd S27 := Kd.iso (Kd.pair k23 (Kd.pair (Kd.slice 5 (Kd.int .u8)) (Kd.int .u64))) (fun x : S27 => (x.f0, x.f1, x.f2))
end Go.Proofs.YtnpkhkhlofkbhaaDoor.PShaRight
