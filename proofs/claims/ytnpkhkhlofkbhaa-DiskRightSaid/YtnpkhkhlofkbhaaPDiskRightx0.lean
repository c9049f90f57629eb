-- made by a program of this session (its printer) out of what Lean prints of the given program
import Derived.Test.YtnpkhkhlofkbhaaProg
import Derived.Below
import Derived.Deep.Draws
import Derived.Deep.AppendLies
import Derived.Maps.AppendAt
import Derived.OwnWalk
import Derived.Laws.BytesArg
import Derived.Laws.MakeOwn
import Derived.Laws.OwnMore
import Derived.Deep.OwnRows
import Derived.Tactics
import Derived.Lib.ConvBytes
import Derived.Laws.Slices
import Derived.WalkKit
import Derived.KernelRfl
import Derived.RowKit3
import Derived.Deep.LoopGhost
import Derived.Deep.QuietTactic
import Derived.BigQuiet
import Derived.WideLaws
import Derived.Deep.DeepCutAuto
import Derived.Deep.CutBlock
import Derived.Deep.RegionHeld3
import Derived.Laws.Rows
import Derived.Lib.AppendStr
import Derived.ArgAppend
import Derived.Laws.IdiomCopy
import Derived.OrdersHeld
import Derived.Laws.BitsLemmas
import Derived.RowKit
import Derived.Shelf.Strconv.Itoa0
import Derived.Maps.OwnOps
import Derived.Maps.Views
import Derived.DeepKeys4
import Derived.Laws.CopyOwn
import Derived.Deep.RegionLaw
import Derived.LoopN
import Derived.Test.YtnpkhkhlofkbhaaWWords
import Derived.Test.YtnpkhkhlofkbhaaWLast
import Derived.Test.YtnpkhkhlofkbhaaWTab
import Derived.Test.YtnpkhkhlofkbhaaWFour
import Derived.Test.YtnpkhkhlofkbhaaWQPut
import Derived.Test.YtnpkhkhlofkbhaaWApart
import Derived.Test.YtnpkhkhlofkbhaaWArr
import Derived.Test.YtnpkhkhlofkbhaaWZeros
import Derived.Test.YtnpkhkhlofkbhaaWFoot
import Derived.Test.YtnpkhkhlofkbhaaWKept
import Derived.Test.YtnpkhkhlofkbhaaWShare
import Derived.Test.YtnpkhkhlofkbhaaWN
import Derived.Test.YtnpkhkhlofkbhaaWFootNe
import Derived.Test.YtnpkhkhlofkbhaaWAt
import Derived.Test.YtnpkhkhlofkbhaaWEqStruct
import Derived.Test.YtnpkhkhlofkbhaaWRepsOne
import Derived.Test.YtnpkhkhlofkbhaaWInv
import Derived.Test.YtnpkhkhlofkbhaaWInvWords
import Derived.Test.YtnpkhkhlofkbhaaWGuard
import Derived.Test.YtnpkhkhlofkbhaaWNEv
import Derived.Test.YtnpkhkhlofkbhaaWMore
import Derived.Test.YtnpkhkhlofkbhaaXWords
namespace Go.Proofs.Ytnpkhkhlofkbhaa.PDiskRight
open Go.RowKit Go.Proofs.YtnpkhkhlofkbhaaW.PrintWords Go.Proofs.YtnpkhkhlofkbhaaW.PrintLast Go.Proofs.YtnpkhkhlofkbhaaW.PrintMore
attribute [local go_sem] max2_int min2_int max_two min_two max_three min_three max_four min_four   -- for this text's walks alone
set_option linter.unusedVariables false
set_option linter.unusedSimpArgs false



def errW : Option Int → Value
  | none => .nilIface
  | some c => .iface 0 (.int .i64 c)
theorem errW_none : errW none = .nilIface := rfl
theorem errW_some (c : Int) : errW (some c) = .iface 0 (.int .i64 c) := rfl

theorem info5 : (Try.prog.info? 5).map (fun i => (i.zero, i.size, i.bytes)) = some (some (.int .u8 0), 1, 1) := by kernel_rfl
-- the values' own types

end Go.Proofs.Ytnpkhkhlofkbhaa.PDiskRight
