/-
  No cell of these rows narrows 'for every input' (looked for: loops, veiled, ifaces, maps, wideKeys, modest, calm, conditions, laid).
  DERIVED. THE GIVEN ROWS OF THIS SEAT. 15 by the template 'for every input the law returns true; each argument reads behind the call as it read before'; 0 by the template 'total and deterministic' (their statements: YtnpkhkhlofkbhaaTotals.lean).
  GIVEN WITH THE SEED: the statements are not yours to turn. If you find one false, say at which input.
  Laid BY PROGRAM, IN A SANDBOX (cutbox-rows.mjs): the forced cells as the released guide's own fill.sh prints them over the translation 5719e8c76677c957… (all of the seat's roots in one cut). By AI agents, Wed Nov 11 2026. No macro, syntax, notation, axiom, sorry.
-/
import Derived.Test.YtnpkhkhlofkbhaaChecked
import GoSem.Claim
import GoSem.ClaimJoined
import GoSem.ClaimMapViews
import Derived.JoinedTies
import Derived.KernelRfl
namespace Go.Proofs.Ytnpkhkhlofkbhaa
/- THE CELL 'sum', in the pinned program and in every row, IS THE sha256 OF THE DUMP (.gsa) THAT YtnpkhkhlofkbhaaProg.lean LOADS. Nothing in Lean hashes anything: it is a label: what it is worth is what the hold of that sum in a sandbox is worth. -/
noncomputable def Try.pinned : Pinned := { name := "ytnpkhkhlofkbhaa", sum := "5719e8c76677c9574096859c16536096c9c9242ba7134d1e86b31d99953f98be", checked := Try.checked }
namespace Rows
def none {H : Type} : Left H := { results := [], args := [] }

/-- 'wristbandlaw04.TruncRight': WHATEVER THE INPUT: true; the input reads as it did. -/
def truncRightSpec : ChangeSpec := { name := "truncRight", fn := fun _ => fun
  | [d1, d2, d3, d4] => { results := [.lit (.bool true)], args := [d1, d2, d3, d4] }
  | _ => none }
def truncRightRow : OpenClaim := { program := "ytnpkhkhlofkbhaa", sum := "5719e8c76677c9574096859c16536096c9c9242ba7134d1e86b31d99953f98be", func := "wristband/wristbandlaw04.TruncRight", spec := "truncRight", plainKeys := false, apart := false }
def TruncRightSaid : Prop := truncRightRow.holds Try.pinned (OpenSpec.ofChange truncRightSpec)

/-- ITS FALSE NEIGHBOUR: 'it returns false'. Refute it at one input. -/
def truncRightWrong : ChangeSpec := { name := "truncRight", fn := fun _ => fun
  | [d1, d2, d3, d4] => { results := [.lit (.bool false)], args := [d1, d2, d3, d4] }
  | _ => none }
def TruncRightWrongFalsely : Prop := truncRightRow.holds Try.pinned (OpenSpec.ofChange truncRightWrong)

/-- 'wristbandlaw04.TruncSame': WHATEVER THE INPUT: true; the input reads as it did. -/
def truncSameSpec : ChangeSpec := { name := "truncSame", fn := fun _ => fun
  | [d1, d2, d3, d4, d5] => { results := [.lit (.bool true)], args := [d1, d2, d3, d4, d5] }
  | _ => none }
def truncSameRow : OpenClaim := { program := "ytnpkhkhlofkbhaa", sum := "5719e8c76677c9574096859c16536096c9c9242ba7134d1e86b31d99953f98be", func := "wristband/wristbandlaw04.TruncSame", spec := "truncSame", plainKeys := false, apart := false }
def TruncSameSaid : Prop := truncSameRow.holds Try.pinned (OpenSpec.ofChange truncSameSpec)

/-- ITS FALSE NEIGHBOUR: 'it returns false'. Refute it at one input. -/
def truncSameWrong : ChangeSpec := { name := "truncSame", fn := fun _ => fun
  | [d1, d2, d3, d4, d5] => { results := [.lit (.bool false)], args := [d1, d2, d3, d4, d5] }
  | _ => none }
def TruncSameWrongFalsely : Prop := truncSameRow.holds Try.pinned (OpenSpec.ofChange truncSameWrong)

/-- 'wristbandlaw04.TruncDigits': WHATEVER THE INPUT: true; the input reads as it did. -/
def truncDigitsSpec : ChangeSpec := { name := "truncDigits", fn := fun _ => fun
  | [d1, d2, d3, d4] => { results := [.lit (.bool true)], args := [d1, d2, d3, d4] }
  | _ => none }
def truncDigitsRow : OpenClaim := { program := "ytnpkhkhlofkbhaa", sum := "5719e8c76677c9574096859c16536096c9c9242ba7134d1e86b31d99953f98be", func := "wristband/wristbandlaw04.TruncDigits", spec := "truncDigits", plainKeys := false, apart := false }
def TruncDigitsSaid : Prop := truncDigitsRow.holds Try.pinned (OpenSpec.ofChange truncDigitsSpec)

/-- ITS FALSE NEIGHBOUR: 'it returns false'. Refute it at one input. -/
def truncDigitsWrong : ChangeSpec := { name := "truncDigits", fn := fun _ => fun
  | [d1, d2, d3, d4] => { results := [.lit (.bool false)], args := [d1, d2, d3, d4] }
  | _ => none }
def TruncDigitsWrongFalsely : Prop := truncDigitsRow.holds Try.pinned (OpenSpec.ofChange truncDigitsWrong)

/-- 'wristbandlaw01.WordRight': WHATEVER THE INPUT: true; the input reads as it did. -/
def wordRightSpec : ChangeSpec := { name := "wordRight", fn := fun _ => fun
  | [d1, d2, d3, d4, d5] => { results := [.lit (.bool true)], args := [d1, d2, d3, d4, d5] }
  | _ => none }
def wordRightRow : OpenClaim := { program := "ytnpkhkhlofkbhaa", sum := "5719e8c76677c9574096859c16536096c9c9242ba7134d1e86b31d99953f98be", func := "wristband/wristbandlaw01.WordRight", spec := "wordRight", plainKeys := false, apart := false }
def WordRightSaid : Prop := wordRightRow.holds Try.pinned (OpenSpec.ofChange wordRightSpec)

/-- ITS FALSE NEIGHBOUR: 'it returns false'. Refute it at one input. -/
def wordRightWrong : ChangeSpec := { name := "wordRight", fn := fun _ => fun
  | [d1, d2, d3, d4, d5] => { results := [.lit (.bool false)], args := [d1, d2, d3, d4, d5] }
  | _ => none }
def WordRightWrongFalsely : Prop := wordRightRow.holds Try.pinned (OpenSpec.ofChange wordRightWrong)

/-- 'wristbandlaw01.WordBack': WHATEVER THE INPUT: true; the input reads as it did. -/
def wordBackSpec : ChangeSpec := { name := "wordBack", fn := fun _ => fun
  | [d1, d2, d3, d4] => { results := [.lit (.bool true)], args := [d1, d2, d3, d4] }
  | _ => none }
def wordBackRow : OpenClaim := { program := "ytnpkhkhlofkbhaa", sum := "5719e8c76677c9574096859c16536096c9c9242ba7134d1e86b31d99953f98be", func := "wristband/wristbandlaw01.WordBack", spec := "wordBack", plainKeys := false, apart := false }
def WordBackSaid : Prop := wordBackRow.holds Try.pinned (OpenSpec.ofChange wordBackSpec)

/-- ITS FALSE NEIGHBOUR: 'it returns false'. Refute it at one input. -/
def wordBackWrong : ChangeSpec := { name := "wordBack", fn := fun _ => fun
  | [d1, d2, d3, d4] => { results := [.lit (.bool false)], args := [d1, d2, d3, d4] }
  | _ => none }
def WordBackWrongFalsely : Prop := wordBackRow.holds Try.pinned (OpenSpec.ofChange wordBackWrong)

/-- 'wristbandlaw01.WordTurns': WHATEVER THE INPUT: true; the input reads as it did. -/
def wordTurnsSpec : ChangeSpec := { name := "wordTurns", fn := fun _ => fun
  | [d1, d2, d3] => { results := [.lit (.bool true)], args := [d1, d2, d3] }
  | _ => none }
def wordTurnsRow : OpenClaim := { program := "ytnpkhkhlofkbhaa", sum := "5719e8c76677c9574096859c16536096c9c9242ba7134d1e86b31d99953f98be", func := "wristband/wristbandlaw01.WordTurns", spec := "wordTurns", plainKeys := false, apart := false }
def WordTurnsSaid : Prop := wordTurnsRow.holds Try.pinned (OpenSpec.ofChange wordTurnsSpec)

/-- ITS FALSE NEIGHBOUR: 'it returns false'. Refute it at one input. -/
def wordTurnsWrong : ChangeSpec := { name := "wordTurns", fn := fun _ => fun
  | [d1, d2, d3] => { results := [.lit (.bool false)], args := [d1, d2, d3] }
  | _ => none }
def WordTurnsWrongFalsely : Prop := wordTurnsRow.holds Try.pinned (OpenSpec.ofChange wordTurnsWrong)

/-- 'wristbandlaw05.TermRight': WHATEVER THE INPUT: true; the input reads as it did. -/
def termRightSpec : ChangeSpec := { name := "termRight", fn := fun _ => fun
  | [d1, d2, d3, d4] => { results := [.lit (.bool true)], args := [d1, d2, d3, d4] }
  | _ => none }
def termRightRow : OpenClaim := { program := "ytnpkhkhlofkbhaa", sum := "5719e8c76677c9574096859c16536096c9c9242ba7134d1e86b31d99953f98be", func := "wristband/wristbandlaw05.TermRight", spec := "termRight", unfollowed := true, recurses := true, plainKeys := false, apart := false }
def TermRightSaid : Prop := termRightRow.holds Try.pinned (OpenSpec.ofChange termRightSpec)

/-- ITS FALSE NEIGHBOUR: 'it returns false'. Refute it at one input. -/
def termRightWrong : ChangeSpec := { name := "termRight", fn := fun _ => fun
  | [d1, d2, d3, d4] => { results := [.lit (.bool false)], args := [d1, d2, d3, d4] }
  | _ => none }
def TermRightWrongFalsely : Prop := termRightRow.holds Try.pinned (OpenSpec.ofChange termRightWrong)

/-- 'wristbandlaw05.TermFound': WHATEVER THE INPUT: true; the input reads as it did. -/
def termFoundSpec : ChangeSpec := { name := "termFound", fn := fun _ => fun
  | [d1, d2, d3, d4] => { results := [.lit (.bool true)], args := [d1, d2, d3, d4] }
  | _ => none }
def termFoundRow : OpenClaim := { program := "ytnpkhkhlofkbhaa", sum := "5719e8c76677c9574096859c16536096c9c9242ba7134d1e86b31d99953f98be", func := "wristband/wristbandlaw05.TermFound", spec := "termFound", unfollowed := true, recurses := true, plainKeys := false, apart := false }
def TermFoundSaid : Prop := termFoundRow.holds Try.pinned (OpenSpec.ofChange termFoundSpec)

/-- ITS FALSE NEIGHBOUR: 'it returns false'. Refute it at one input. -/
def termFoundWrong : ChangeSpec := { name := "termFound", fn := fun _ => fun
  | [d1, d2, d3, d4] => { results := [.lit (.bool false)], args := [d1, d2, d3, d4] }
  | _ => none }
def TermFoundWrongFalsely : Prop := termFoundRow.holds Try.pinned (OpenSpec.ofChange termFoundWrong)

/-- 'wristbandlaw17.DiskFull': WHATEVER THE INPUT: true; the input reads as it did. -/
def diskFullSpec : ChangeSpec := { name := "diskFull", fn := fun _ => fun
  | [d1, d2] => { results := [.lit (.bool true)], args := [d1, d2] }
  | _ => none }
def diskFullRow : OpenClaim := { program := "ytnpkhkhlofkbhaa", sum := "5719e8c76677c9574096859c16536096c9c9242ba7134d1e86b31d99953f98be", func := "wristband/wristbandlaw17.DiskFull", spec := "diskFull", unfollowed := true, recurses := true, plainKeys := false, apart := false }
def DiskFullSaid : Prop := diskFullRow.holds Try.pinned (OpenSpec.ofChange diskFullSpec)

/-- ITS FALSE NEIGHBOUR: 'it returns false'. Refute it at one input. -/
def diskFullWrong : ChangeSpec := { name := "diskFull", fn := fun _ => fun
  | [d1, d2] => { results := [.lit (.bool false)], args := [d1, d2] }
  | _ => none }
def DiskFullWrongFalsely : Prop := diskFullRow.holds Try.pinned (OpenSpec.ofChange diskFullWrong)

/-- 'wristbandlaw17.DiskKeeps': WHATEVER THE INPUT: true; the input reads as it did. -/
def diskKeepsSpec : ChangeSpec := { name := "diskKeeps", fn := fun _ => fun
  | [d1, d2, d3, d4] => { results := [.lit (.bool true)], args := [d1, d2, d3, d4] }
  | _ => none }
def diskKeepsRow : OpenClaim := { program := "ytnpkhkhlofkbhaa", sum := "5719e8c76677c9574096859c16536096c9c9242ba7134d1e86b31d99953f98be", func := "wristband/wristbandlaw17.DiskKeeps", spec := "diskKeeps", unfollowed := true, recurses := true, plainKeys := false, apart := false }
def DiskKeepsSaid : Prop := diskKeepsRow.holds Try.pinned (OpenSpec.ofChange diskKeepsSpec)

/-- ITS FALSE NEIGHBOUR: 'it returns false'. Refute it at one input. -/
def diskKeepsWrong : ChangeSpec := { name := "diskKeeps", fn := fun _ => fun
  | [d1, d2, d3, d4] => { results := [.lit (.bool false)], args := [d1, d2, d3, d4] }
  | _ => none }
def DiskKeepsWrongFalsely : Prop := diskKeepsRow.holds Try.pinned (OpenSpec.ofChange diskKeepsWrong)

/-- 'wristbandlaw17.DiskRight': WHATEVER THE INPUT: true; the input reads as it did. -/
def diskRightSpec : ChangeSpec := { name := "diskRight", fn := fun _ => fun
  | [d1, d2, d3, d4] => { results := [.lit (.bool true)], args := [d1, d2, d3, d4] }
  | _ => none }
def diskRightRow : OpenClaim := { program := "ytnpkhkhlofkbhaa", sum := "5719e8c76677c9574096859c16536096c9c9242ba7134d1e86b31d99953f98be", func := "wristband/wristbandlaw17.DiskRight", spec := "diskRight", unfollowed := true, recurses := true, plainKeys := false, apart := false }
def DiskRightSaid : Prop := diskRightRow.holds Try.pinned (OpenSpec.ofChange diskRightSpec)

/-- ITS FALSE NEIGHBOUR: 'it returns false'. Refute it at one input. -/
def diskRightWrong : ChangeSpec := { name := "diskRight", fn := fun _ => fun
  | [d1, d2, d3, d4] => { results := [.lit (.bool false)], args := [d1, d2, d3, d4] }
  | _ => none }
def DiskRightWrongFalsely : Prop := diskRightRow.holds Try.pinned (OpenSpec.ofChange diskRightWrong)

/-- 'wristbandlaw12.FrameRight': WHATEVER THE INPUT: true; the input reads as it did. -/
def frameRightSpec : ChangeSpec := { name := "frameRight", fn := fun _ => fun
  | [d1, d2] => { results := [.lit (.bool true)], args := [d1, d2] }
  | _ => none }
def frameRightRow : OpenClaim := { program := "ytnpkhkhlofkbhaa", sum := "5719e8c76677c9574096859c16536096c9c9242ba7134d1e86b31d99953f98be", func := "wristband/wristbandlaw12.FrameRight", spec := "frameRight", plainKeys := false, apart := false }
def FrameRightSaid : Prop := frameRightRow.holds Try.pinned (OpenSpec.ofChange frameRightSpec)

/-- ITS FALSE NEIGHBOUR: 'it returns false'. Refute it at one input. -/
def frameRightWrong : ChangeSpec := { name := "frameRight", fn := fun _ => fun
  | [d1, d2] => { results := [.lit (.bool false)], args := [d1, d2] }
  | _ => none }
def FrameRightWrongFalsely : Prop := frameRightRow.holds Try.pinned (OpenSpec.ofChange frameRightWrong)

/-- 'wristbandlaw12.FrameBack': WHATEVER THE INPUT: true; the input reads as it did. -/
def frameBackSpec : ChangeSpec := { name := "frameBack", fn := fun _ => fun
  | [d1, d2, d3, d4, d5] => { results := [.lit (.bool true)], args := [d1, d2, d3, d4, d5] }
  | _ => none }
def frameBackRow : OpenClaim := { program := "ytnpkhkhlofkbhaa", sum := "5719e8c76677c9574096859c16536096c9c9242ba7134d1e86b31d99953f98be", func := "wristband/wristbandlaw12.FrameBack", spec := "frameBack", plainKeys := false, apart := false }
def FrameBackSaid : Prop := frameBackRow.holds Try.pinned (OpenSpec.ofChange frameBackSpec)

/-- ITS FALSE NEIGHBOUR: 'it returns false'. Refute it at one input. -/
def frameBackWrong : ChangeSpec := { name := "frameBack", fn := fun _ => fun
  | [d1, d2, d3, d4, d5] => { results := [.lit (.bool false)], args := [d1, d2, d3, d4, d5] }
  | _ => none }
def FrameBackWrongFalsely : Prop := frameBackRow.holds Try.pinned (OpenSpec.ofChange frameBackWrong)

/-- 'wristbandlaw06.MacRight': WHATEVER THE INPUT: true; the input reads as it did. -/
def macRightSpec : ChangeSpec := { name := "macRight", fn := fun _ => fun
  | [d1, d2, d3, d4, d5] => { results := [.lit (.bool true)], args := [d1, d2, d3, d4, d5] }
  | _ => none }
def macRightRow : OpenClaim := { program := "ytnpkhkhlofkbhaa", sum := "5719e8c76677c9574096859c16536096c9c9242ba7134d1e86b31d99953f98be", func := "wristband/wristbandlaw06.MacRight", spec := "macRight", unfollowed := true, recurses := true, plainKeys := false, apart := false }
def MacRightSaid : Prop := macRightRow.holds Try.pinned (OpenSpec.ofChange macRightSpec)

/-- ITS FALSE NEIGHBOUR: 'it returns false'. Refute it at one input. -/
def macRightWrong : ChangeSpec := { name := "macRight", fn := fun _ => fun
  | [d1, d2, d3, d4, d5] => { results := [.lit (.bool false)], args := [d1, d2, d3, d4, d5] }
  | _ => none }
def MacRightWrongFalsely : Prop := macRightRow.holds Try.pinned (OpenSpec.ofChange macRightWrong)

/-- 'wristbandlaw06.MacSymbolic': WHATEVER THE INPUT: true; the input reads as it did. -/
def macSymbolicSpec : ChangeSpec := { name := "macSymbolic", fn := fun _ => fun
  | [d1, d2, d3, d4, d5, d6] => { results := [.lit (.bool true)], args := [d1, d2, d3, d4, d5, d6] }
  | _ => none }
def macSymbolicRow : OpenClaim := { program := "ytnpkhkhlofkbhaa", sum := "5719e8c76677c9574096859c16536096c9c9242ba7134d1e86b31d99953f98be", func := "wristband/wristbandlaw06.MacSymbolic", spec := "macSymbolic", unfollowed := true, recurses := true, plainKeys := false, apart := false }
def MacSymbolicSaid : Prop := macSymbolicRow.holds Try.pinned (OpenSpec.ofChange macSymbolicSpec)

/-- ITS FALSE NEIGHBOUR: 'it returns false'. Refute it at one input. -/
def macSymbolicWrong : ChangeSpec := { name := "macSymbolic", fn := fun _ => fun
  | [d1, d2, d3, d4, d5, d6] => { results := [.lit (.bool false)], args := [d1, d2, d3, d4, d5, d6] }
  | _ => none }
def MacSymbolicWrongFalsely : Prop := macSymbolicRow.holds Try.pinned (OpenSpec.ofChange macSymbolicWrong)

/- THE SECOND FORM. 'bulk': how many values and letters a reading holds, each counted each time it is reached (what is shared counts as often as it is met; a slice's spare places count too). A statement '..UptoSaid' is the law's where the arguments, and the package variables that the reading takes, are together of bulk at most 1048576: NARROWER than '..Said'. Prove '..Said' where nothing that the law and all that it calls make is longer than what came in: it says more and counts as full. Else prove '..UptoSaid'. A law counts once. -/
mutual
def uptoBulk {H : Type} : DataW H → Nat
  | .lit (.string bytes) => bytes.length + 1
  | .lit _ => 1
  | .nil => 1
  | .ptr d => uptoBulk d + 1
  | .slice elems spare => uptoBulkAll elems + uptoBulkAll spare + 1
  | .agg parts => uptoBulkAll parts + 1
  | .iface _ d => uptoBulk d + 1
  | .map entries => uptoBulkEntries entries + 1
  | .held _ => 1
def uptoBulkAll {H : Type} : List (DataW H) → Nat
  | [] => 0
  | d :: r => uptoBulk d + uptoBulkAll r
def uptoBulkEntries {H : Type} : List (Lit × DataW H) → Nat
  | [] => 0
  | x :: r => uptoBulkEntry x + uptoBulkEntries r
def uptoBulkEntry {H : Type} : Lit × DataW H → Nat
  | (.string bytes, d) => bytes.length + uptoBulk d + 1
  | (_, d) => uptoBulk d + 1
 end
def uptoSmall : (H : Type) → List (DataW H) → Bool := fun _ ds => decide (uptoBulkAll ds ≤ 1048576)
def OpenSpec.upto (s : _root_.Go.ChangeSpec) : _root_.Go.OpenSpec := { _root_.Go.OpenSpec.ofChange s with cond := some uptoSmall }

/-- 'wristbandlaw04.TruncRight', WHERE WHAT IT READS IS OF BULK AT MOST 1048576: true; the input reads as it did. -/
def truncRightUptoRow : OpenClaim := { program := "ytnpkhkhlofkbhaa", sum := "5719e8c76677c9574096859c16536096c9c9242ba7134d1e86b31d99953f98be", func := "wristband/wristbandlaw04.TruncRight", spec := "truncRight", plainKeys := false, apart := false, narrowed := true }
def TruncRightUptoSaid : Prop := truncRightUptoRow.holds Try.pinned (OpenSpec.upto truncRightSpec)

/-- 'wristbandlaw04.TruncSame', WHERE WHAT IT READS IS OF BULK AT MOST 1048576: true; the input reads as it did. -/
def truncSameUptoRow : OpenClaim := { program := "ytnpkhkhlofkbhaa", sum := "5719e8c76677c9574096859c16536096c9c9242ba7134d1e86b31d99953f98be", func := "wristband/wristbandlaw04.TruncSame", spec := "truncSame", plainKeys := false, apart := false, narrowed := true }
def TruncSameUptoSaid : Prop := truncSameUptoRow.holds Try.pinned (OpenSpec.upto truncSameSpec)

/-- 'wristbandlaw04.TruncDigits', WHERE WHAT IT READS IS OF BULK AT MOST 1048576: true; the input reads as it did. -/
def truncDigitsUptoRow : OpenClaim := { program := "ytnpkhkhlofkbhaa", sum := "5719e8c76677c9574096859c16536096c9c9242ba7134d1e86b31d99953f98be", func := "wristband/wristbandlaw04.TruncDigits", spec := "truncDigits", plainKeys := false, apart := false, narrowed := true }
def TruncDigitsUptoSaid : Prop := truncDigitsUptoRow.holds Try.pinned (OpenSpec.upto truncDigitsSpec)

/-- 'wristbandlaw01.WordRight', WHERE WHAT IT READS IS OF BULK AT MOST 1048576: true; the input reads as it did. -/
def wordRightUptoRow : OpenClaim := { program := "ytnpkhkhlofkbhaa", sum := "5719e8c76677c9574096859c16536096c9c9242ba7134d1e86b31d99953f98be", func := "wristband/wristbandlaw01.WordRight", spec := "wordRight", plainKeys := false, apart := false, narrowed := true }
def WordRightUptoSaid : Prop := wordRightUptoRow.holds Try.pinned (OpenSpec.upto wordRightSpec)

/-- 'wristbandlaw01.WordBack', WHERE WHAT IT READS IS OF BULK AT MOST 1048576: true; the input reads as it did. -/
def wordBackUptoRow : OpenClaim := { program := "ytnpkhkhlofkbhaa", sum := "5719e8c76677c9574096859c16536096c9c9242ba7134d1e86b31d99953f98be", func := "wristband/wristbandlaw01.WordBack", spec := "wordBack", plainKeys := false, apart := false, narrowed := true }
def WordBackUptoSaid : Prop := wordBackUptoRow.holds Try.pinned (OpenSpec.upto wordBackSpec)

/-- 'wristbandlaw01.WordTurns', WHERE WHAT IT READS IS OF BULK AT MOST 1048576: true; the input reads as it did. -/
def wordTurnsUptoRow : OpenClaim := { program := "ytnpkhkhlofkbhaa", sum := "5719e8c76677c9574096859c16536096c9c9242ba7134d1e86b31d99953f98be", func := "wristband/wristbandlaw01.WordTurns", spec := "wordTurns", plainKeys := false, apart := false, narrowed := true }
def WordTurnsUptoSaid : Prop := wordTurnsUptoRow.holds Try.pinned (OpenSpec.upto wordTurnsSpec)

/-- 'wristbandlaw05.TermRight', WHERE WHAT IT READS IS OF BULK AT MOST 1048576: true; the input reads as it did. -/
def termRightUptoRow : OpenClaim := { program := "ytnpkhkhlofkbhaa", sum := "5719e8c76677c9574096859c16536096c9c9242ba7134d1e86b31d99953f98be", func := "wristband/wristbandlaw05.TermRight", spec := "termRight", unfollowed := true, recurses := true, plainKeys := false, apart := false, narrowed := true }
def TermRightUptoSaid : Prop := termRightUptoRow.holds Try.pinned (OpenSpec.upto termRightSpec)

/-- 'wristbandlaw05.TermFound', WHERE WHAT IT READS IS OF BULK AT MOST 1048576: true; the input reads as it did. -/
def termFoundUptoRow : OpenClaim := { program := "ytnpkhkhlofkbhaa", sum := "5719e8c76677c9574096859c16536096c9c9242ba7134d1e86b31d99953f98be", func := "wristband/wristbandlaw05.TermFound", spec := "termFound", unfollowed := true, recurses := true, plainKeys := false, apart := false, narrowed := true }
def TermFoundUptoSaid : Prop := termFoundUptoRow.holds Try.pinned (OpenSpec.upto termFoundSpec)

/-- 'wristbandlaw17.DiskFull', WHERE WHAT IT READS IS OF BULK AT MOST 1048576: true; the input reads as it did. -/
def diskFullUptoRow : OpenClaim := { program := "ytnpkhkhlofkbhaa", sum := "5719e8c76677c9574096859c16536096c9c9242ba7134d1e86b31d99953f98be", func := "wristband/wristbandlaw17.DiskFull", spec := "diskFull", unfollowed := true, recurses := true, plainKeys := false, apart := false, narrowed := true }
def DiskFullUptoSaid : Prop := diskFullUptoRow.holds Try.pinned (OpenSpec.upto diskFullSpec)

/-- 'wristbandlaw17.DiskKeeps', WHERE WHAT IT READS IS OF BULK AT MOST 1048576: true; the input reads as it did. -/
def diskKeepsUptoRow : OpenClaim := { program := "ytnpkhkhlofkbhaa", sum := "5719e8c76677c9574096859c16536096c9c9242ba7134d1e86b31d99953f98be", func := "wristband/wristbandlaw17.DiskKeeps", spec := "diskKeeps", unfollowed := true, recurses := true, plainKeys := false, apart := false, narrowed := true }
def DiskKeepsUptoSaid : Prop := diskKeepsUptoRow.holds Try.pinned (OpenSpec.upto diskKeepsSpec)

/-- 'wristbandlaw17.DiskRight', WHERE WHAT IT READS IS OF BULK AT MOST 1048576: true; the input reads as it did. -/
def diskRightUptoRow : OpenClaim := { program := "ytnpkhkhlofkbhaa", sum := "5719e8c76677c9574096859c16536096c9c9242ba7134d1e86b31d99953f98be", func := "wristband/wristbandlaw17.DiskRight", spec := "diskRight", unfollowed := true, recurses := true, plainKeys := false, apart := false, narrowed := true }
def DiskRightUptoSaid : Prop := diskRightUptoRow.holds Try.pinned (OpenSpec.upto diskRightSpec)

/-- 'wristbandlaw12.FrameRight', WHERE WHAT IT READS IS OF BULK AT MOST 1048576: true; the input reads as it did. -/
def frameRightUptoRow : OpenClaim := { program := "ytnpkhkhlofkbhaa", sum := "5719e8c76677c9574096859c16536096c9c9242ba7134d1e86b31d99953f98be", func := "wristband/wristbandlaw12.FrameRight", spec := "frameRight", plainKeys := false, apart := false, narrowed := true }
def FrameRightUptoSaid : Prop := frameRightUptoRow.holds Try.pinned (OpenSpec.upto frameRightSpec)

/-- 'wristbandlaw12.FrameBack', WHERE WHAT IT READS IS OF BULK AT MOST 1048576: true; the input reads as it did. -/
def frameBackUptoRow : OpenClaim := { program := "ytnpkhkhlofkbhaa", sum := "5719e8c76677c9574096859c16536096c9c9242ba7134d1e86b31d99953f98be", func := "wristband/wristbandlaw12.FrameBack", spec := "frameBack", plainKeys := false, apart := false, narrowed := true }
def FrameBackUptoSaid : Prop := frameBackUptoRow.holds Try.pinned (OpenSpec.upto frameBackSpec)

/-- 'wristbandlaw06.MacRight', WHERE WHAT IT READS IS OF BULK AT MOST 1048576: true; the input reads as it did. -/
def macRightUptoRow : OpenClaim := { program := "ytnpkhkhlofkbhaa", sum := "5719e8c76677c9574096859c16536096c9c9242ba7134d1e86b31d99953f98be", func := "wristband/wristbandlaw06.MacRight", spec := "macRight", unfollowed := true, recurses := true, plainKeys := false, apart := false, narrowed := true }
def MacRightUptoSaid : Prop := macRightUptoRow.holds Try.pinned (OpenSpec.upto macRightSpec)

/-- 'wristbandlaw06.MacSymbolic', WHERE WHAT IT READS IS OF BULK AT MOST 1048576: true; the input reads as it did. -/
def macSymbolicUptoRow : OpenClaim := { program := "ytnpkhkhlofkbhaa", sum := "5719e8c76677c9574096859c16536096c9c9242ba7134d1e86b31d99953f98be", func := "wristband/wristbandlaw06.MacSymbolic", spec := "macSymbolic", unfollowed := true, recurses := true, plainKeys := false, apart := false, narrowed := true }
def MacSymbolicUptoSaid : Prop := macSymbolicUptoRow.holds Try.pinned (OpenSpec.upto macSymbolicSpec)

end Rows
end Go.Proofs.Ytnpkhkhlofkbhaa
