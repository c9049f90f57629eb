/- DiskKeeps: for every input the law answers true: behind writes and syncs of an area and a crash, wherever the power goes, what it has is a beginning of all that was written, with all that was sure; the other area is as it was, and the disk is right. No condition. -/
import Derived.Test.YtnpkhkhlofkbhaaPDiskKeepsx4
import Derived.OpenShut
set_option linter.unusedVariables false
set_option linter.unusedSimpArgs false
namespace Go.Proofs.Ytnpkhkhlofkbhaa.Pure
open Go.RowKit Go.Proofs.Ytnpkhkhlofkbhaa.PDiskKeeps Go.Proofs.YtnpkhkhlofkbhaaW.PrintWords Go.Proofs.YtnpkhkhlofkbhaaW.PrintLast Go.Proofs.YtnpkhkhlofkbhaaW.PrintMore

theorem DiskKeeps : wristbandlaw17_DiskKeeps.Pure := ⟨rfl, by kernel_rfl, by kernel_rfl⟩

end Go.Proofs.Ytnpkhkhlofkbhaa.Pure
