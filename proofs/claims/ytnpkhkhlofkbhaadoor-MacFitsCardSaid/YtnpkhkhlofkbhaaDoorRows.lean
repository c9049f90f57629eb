/-
  NARROWER THAN 'FOR EVERY INPUT', by the rows' own cells (each row's printed sentence says how): ShaRight: laid · ShaGoesOn: laid · ShaBlocks: laid · HmacRight: laid · HmacKeys: laid · SlipRight: laid · SlipLong: laid · SlipTorn: laid · SlipRow: laid · MacFits: laid.
  DERIVED. THE GIVEN ROWS OF THIS SEAT. 10 by the template 'for every input the law returns true; each argument reads behind the call as it read before'; 0 by the template 'total and deterministic' (their statements: YtnpkhkhlofkbhaaDoorTotals.lean).
  GIVEN WITH THE SEED: the statements are not yours to turn. If you find one false, say at which input.
  Laid BY PROGRAM, IN A SANDBOX (cutbox-rows.mjs): the forced cells as the released guide's own fill.sh prints them over the translation 9a15da1448b81f1a… (all of the seat's roots in one cut). By AI agents, Wed Nov 11 2026. No macro, syntax, notation, axiom, sorry.
-/
import Derived.Test.YtnpkhkhlofkbhaaDoorChecked
import GoSem.Claim
import GoSem.ClaimJoined
import GoSem.ClaimMapViews
import Derived.JoinedTies
import Derived.KernelRfl
namespace Go.Proofs.YtnpkhkhlofkbhaaDoor
/- THE CELL 'sum', in the pinned program and in every row, IS THE sha256 OF THE DUMP (.gsa) THAT YtnpkhkhlofkbhaaDoorProg.lean LOADS. Nothing in Lean hashes anything: it is a label: what it is worth is what the hold of that sum in a sandbox is worth. -/
noncomputable def Tryd.pinned : Pinned := { name := "ytnpkhkhlofkbhaadoor", sum := "9a15da1448b81f1ac5560263c1d17e37a66d604a1f37d943ff24ec8edb323c86", checked := Tryd.checked }
namespace Rows
def none {H : Type} : Left H := { results := [], args := [] }

/- WHAT THE LISTED PACKAGE-LEVEL VARIABLES READ AS WHEN THE CALL BEGINS. Each datum BY PROGRAM (the guide's laid-datum.mjs) off the statement by which the dump's own 'gosem.cut.vars' lays the variable. In a bare row this is a premise. The card (YtnpkhkhlofkbhaaDoorCards.lean) ties it to the program's text. -/
def laid_wristband_sha_constants {H : Type} : DataW H := .agg [.lit (.int .u32 1116352408), .lit (.int .u32 1899447441), .lit (.int .u32 3049323471), .lit (.int .u32 3921009573), .lit (.int .u32 961987163), .lit (.int .u32 1508970993), .lit (.int .u32 2453635748), .lit (.int .u32 2870763221), .lit (.int .u32 3624381080), .lit (.int .u32 310598401), .lit (.int .u32 607225278), .lit (.int .u32 1426881987), .lit (.int .u32 1925078388), .lit (.int .u32 2162078206), .lit (.int .u32 2614888103), .lit (.int .u32 3248222580), .lit (.int .u32 3835390401), .lit (.int .u32 4022224774), .lit (.int .u32 264347078), .lit (.int .u32 604807628), .lit (.int .u32 770255983), .lit (.int .u32 1249150122), .lit (.int .u32 1555081692), .lit (.int .u32 1996064986), .lit (.int .u32 2554220882), .lit (.int .u32 2821834349), .lit (.int .u32 2952996808), .lit (.int .u32 3210313671), .lit (.int .u32 3336571891), .lit (.int .u32 3584528711), .lit (.int .u32 113926993), .lit (.int .u32 338241895), .lit (.int .u32 666307205), .lit (.int .u32 773529912), .lit (.int .u32 1294757372), .lit (.int .u32 1396182291), .lit (.int .u32 1695183700), .lit (.int .u32 1986661051), .lit (.int .u32 2177026350), .lit (.int .u32 2456956037), .lit (.int .u32 2730485921), .lit (.int .u32 2820302411), .lit (.int .u32 3259730800), .lit (.int .u32 3345764771), .lit (.int .u32 3516065817), .lit (.int .u32 3600352804), .lit (.int .u32 4094571909), .lit (.int .u32 275423344), .lit (.int .u32 430227734), .lit (.int .u32 506948616), .lit (.int .u32 659060556), .lit (.int .u32 883997877), .lit (.int .u32 958139571), .lit (.int .u32 1322822218), .lit (.int .u32 1537002063), .lit (.int .u32 1747873779), .lit (.int .u32 1955562222), .lit (.int .u32 2024104815), .lit (.int .u32 2227730452), .lit (.int .u32 2361852424), .lit (.int .u32 2428436474), .lit (.int .u32 2756734187), .lit (.int .u32 3204031479), .lit (.int .u32 3329325298)]
def laid_wristband_sha_first {H : Type} : DataW H := .agg [.lit (.int .u32 1779033703), .lit (.int .u32 3144134277), .lit (.int .u32 1013904242), .lit (.int .u32 2773480762), .lit (.int .u32 1359893119), .lit (.int .u32 2600822924), .lit (.int .u32 528734635), .lit (.int .u32 1541459225)]

/-- 'wristbandlaw02.ShaRight': WHATEVER THE INPUT: true; the input reads as it did. -/
def shaRightSpec : ChangeSpec := { name := "shaRight", fn := fun _ => fun
  | [d1, d2, d3] => { results := [.lit (.bool true)], args := [d1, d2, d3] }
  | _ => none }
def shaRightRow : OpenClaim := { program := "ytnpkhkhlofkbhaadoor", sum := "9a15da1448b81f1ac5560263c1d17e37a66d604a1f37d943ff24ec8edb323c86", func := "wristband/wristbandlaw02.ShaRight", spec := "shaRight", named := ["wristband/sha.first", "wristband/sha.constants"], plainKeys := false, apart := false, laid := [("wristband/sha.constants", laid_wristband_sha_constants), ("wristband/sha.first", laid_wristband_sha_first)] }
def ShaRightSaid : Prop := shaRightRow.holds Tryd.pinned (OpenSpec.ofChange shaRightSpec)

/-- ITS FALSE NEIGHBOUR: 'it returns false'. Refute it at one input. -/
def shaRightWrong : ChangeSpec := { name := "shaRight", fn := fun _ => fun
  | [d1, d2, d3] => { results := [.lit (.bool false)], args := [d1, d2, d3] }
  | _ => none }
def ShaRightWrongFalsely : Prop := shaRightRow.holds Tryd.pinned (OpenSpec.ofChange shaRightWrong)

/-- 'wristbandlaw02.ShaGoesOn': WHATEVER THE INPUT: true; the input reads as it did. -/
def shaGoesOnSpec : ChangeSpec := { name := "shaGoesOn", fn := fun _ => fun
  | [d] => { results := [.lit (.bool true)], args := [d] }
  | _ => none }
def shaGoesOnRow : OpenClaim := { program := "ytnpkhkhlofkbhaadoor", sum := "9a15da1448b81f1ac5560263c1d17e37a66d604a1f37d943ff24ec8edb323c86", func := "wristband/wristbandlaw02.ShaGoesOn", spec := "shaGoesOn", named := ["wristband/sha.first", "wristband/sha.constants"], plainKeys := false, apart := false, laid := [("wristband/sha.constants", laid_wristband_sha_constants), ("wristband/sha.first", laid_wristband_sha_first)] }
def ShaGoesOnSaid : Prop := shaGoesOnRow.holds Tryd.pinned (OpenSpec.ofChange shaGoesOnSpec)

/-- ITS FALSE NEIGHBOUR: 'it returns false'. Refute it at one input. -/
def shaGoesOnWrong : ChangeSpec := { name := "shaGoesOn", fn := fun _ => fun
  | [d] => { results := [.lit (.bool false)], args := [d] }
  | _ => none }
def ShaGoesOnWrongFalsely : Prop := shaGoesOnRow.holds Tryd.pinned (OpenSpec.ofChange shaGoesOnWrong)

/-- 'wristbandlaw02.ShaBlocks': WHATEVER THE INPUT: true; the input reads as it did. -/
def shaBlocksSpec : ChangeSpec := { name := "shaBlocks", fn := fun _ => fun
  | [d1, d2] => { results := [.lit (.bool true)], args := [d1, d2] }
  | _ => none }
def shaBlocksRow : OpenClaim := { program := "ytnpkhkhlofkbhaadoor", sum := "9a15da1448b81f1ac5560263c1d17e37a66d604a1f37d943ff24ec8edb323c86", func := "wristband/wristbandlaw02.ShaBlocks", spec := "shaBlocks", named := ["wristband/sha.first", "wristband/sha.constants"], plainKeys := false, apart := false, laid := [("wristband/sha.constants", laid_wristband_sha_constants), ("wristband/sha.first", laid_wristband_sha_first)] }
def ShaBlocksSaid : Prop := shaBlocksRow.holds Tryd.pinned (OpenSpec.ofChange shaBlocksSpec)

/-- ITS FALSE NEIGHBOUR: 'it returns false'. Refute it at one input. -/
def shaBlocksWrong : ChangeSpec := { name := "shaBlocks", fn := fun _ => fun
  | [d1, d2] => { results := [.lit (.bool false)], args := [d1, d2] }
  | _ => none }
def ShaBlocksWrongFalsely : Prop := shaBlocksRow.holds Tryd.pinned (OpenSpec.ofChange shaBlocksWrong)

/-- 'wristbandlaw03.HmacRight': WHATEVER THE INPUT: true; the input reads as it did. -/
def hmacRightSpec : ChangeSpec := { name := "hmacRight", fn := fun _ => fun
  | [d1, d2] => { results := [.lit (.bool true)], args := [d1, d2] }
  | _ => none }
def hmacRightRow : OpenClaim := { program := "ytnpkhkhlofkbhaadoor", sum := "9a15da1448b81f1ac5560263c1d17e37a66d604a1f37d943ff24ec8edb323c86", func := "wristband/wristbandlaw03.HmacRight", spec := "hmacRight", recurses := true, named := ["wristband/sha.first", "wristband/sha.constants"], plainKeys := false, apart := false, laid := [("wristband/sha.constants", laid_wristband_sha_constants), ("wristband/sha.first", laid_wristband_sha_first)] }
def HmacRightSaid : Prop := hmacRightRow.holds Tryd.pinned (OpenSpec.ofChange hmacRightSpec)

/-- ITS FALSE NEIGHBOUR: 'it returns false'. Refute it at one input. -/
def hmacRightWrong : ChangeSpec := { name := "hmacRight", fn := fun _ => fun
  | [d1, d2] => { results := [.lit (.bool false)], args := [d1, d2] }
  | _ => none }
def HmacRightWrongFalsely : Prop := hmacRightRow.holds Tryd.pinned (OpenSpec.ofChange hmacRightWrong)

/-- 'wristbandlaw03.HmacKeys': WHATEVER THE INPUT: true; the input reads as it did. -/
def hmacKeysSpec : ChangeSpec := { name := "hmacKeys", fn := fun _ => fun
  | [d1, d2] => { results := [.lit (.bool true)], args := [d1, d2] }
  | _ => none }
def hmacKeysRow : OpenClaim := { program := "ytnpkhkhlofkbhaadoor", sum := "9a15da1448b81f1ac5560263c1d17e37a66d604a1f37d943ff24ec8edb323c86", func := "wristband/wristbandlaw03.HmacKeys", spec := "hmacKeys", named := ["wristband/sha.first", "wristband/sha.constants"], plainKeys := false, apart := false, laid := [("wristband/sha.constants", laid_wristband_sha_constants), ("wristband/sha.first", laid_wristband_sha_first)] }
def HmacKeysSaid : Prop := hmacKeysRow.holds Tryd.pinned (OpenSpec.ofChange hmacKeysSpec)

/-- ITS FALSE NEIGHBOUR: 'it returns false'. Refute it at one input. -/
def hmacKeysWrong : ChangeSpec := { name := "hmacKeys", fn := fun _ => fun
  | [d1, d2] => { results := [.lit (.bool false)], args := [d1, d2] }
  | _ => none }
def HmacKeysWrongFalsely : Prop := hmacKeysRow.holds Tryd.pinned (OpenSpec.ofChange hmacKeysWrong)

/-- 'wristbandlaw18.SlipRight': WHATEVER THE INPUT: true; the input reads as it did. -/
def slipRightSpec : ChangeSpec := { name := "slipRight", fn := fun _ => fun
  | [d1, d2] => { results := [.lit (.bool true)], args := [d1, d2] }
  | _ => none }
def slipRightRow : OpenClaim := { program := "ytnpkhkhlofkbhaadoor", sum := "9a15da1448b81f1ac5560263c1d17e37a66d604a1f37d943ff24ec8edb323c86", func := "wristband/wristbandlaw18.SlipRight", spec := "slipRight", named := ["wristband/sha.first", "wristband/sha.constants"], plainKeys := false, apart := false, laid := [("wristband/sha.constants", laid_wristband_sha_constants), ("wristband/sha.first", laid_wristband_sha_first)] }
def SlipRightSaid : Prop := slipRightRow.holds Tryd.pinned (OpenSpec.ofChange slipRightSpec)

/-- ITS FALSE NEIGHBOUR: 'it returns false'. Refute it at one input. -/
def slipRightWrong : ChangeSpec := { name := "slipRight", fn := fun _ => fun
  | [d1, d2] => { results := [.lit (.bool false)], args := [d1, d2] }
  | _ => none }
def SlipRightWrongFalsely : Prop := slipRightRow.holds Tryd.pinned (OpenSpec.ofChange slipRightWrong)

/-- 'wristbandlaw18.SlipLong': WHATEVER THE INPUT: true; the input reads as it did. -/
def slipLongSpec : ChangeSpec := { name := "slipLong", fn := fun _ => fun
  | [d] => { results := [.lit (.bool true)], args := [d] }
  | _ => none }
def slipLongRow : OpenClaim := { program := "ytnpkhkhlofkbhaadoor", sum := "9a15da1448b81f1ac5560263c1d17e37a66d604a1f37d943ff24ec8edb323c86", func := "wristband/wristbandlaw18.SlipLong", spec := "slipLong", named := ["wristband/sha.first", "wristband/sha.constants"], plainKeys := false, apart := false, laid := [("wristband/sha.constants", laid_wristband_sha_constants), ("wristband/sha.first", laid_wristband_sha_first)] }
def SlipLongSaid : Prop := slipLongRow.holds Tryd.pinned (OpenSpec.ofChange slipLongSpec)

/-- ITS FALSE NEIGHBOUR: 'it returns false'. Refute it at one input. -/
def slipLongWrong : ChangeSpec := { name := "slipLong", fn := fun _ => fun
  | [d] => { results := [.lit (.bool false)], args := [d] }
  | _ => none }
def SlipLongWrongFalsely : Prop := slipLongRow.holds Tryd.pinned (OpenSpec.ofChange slipLongWrong)

/-- 'wristbandlaw18.SlipTorn': WHATEVER THE INPUT: true; the input reads as it did. -/
def slipTornSpec : ChangeSpec := { name := "slipTorn", fn := fun _ => fun
  | [d1, d2] => { results := [.lit (.bool true)], args := [d1, d2] }
  | _ => none }
def slipTornRow : OpenClaim := { program := "ytnpkhkhlofkbhaadoor", sum := "9a15da1448b81f1ac5560263c1d17e37a66d604a1f37d943ff24ec8edb323c86", func := "wristband/wristbandlaw18.SlipTorn", spec := "slipTorn", named := ["wristband/sha.first", "wristband/sha.constants"], plainKeys := false, apart := false, laid := [("wristband/sha.constants", laid_wristband_sha_constants), ("wristband/sha.first", laid_wristband_sha_first)] }
def SlipTornSaid : Prop := slipTornRow.holds Tryd.pinned (OpenSpec.ofChange slipTornSpec)

/-- ITS FALSE NEIGHBOUR: 'it returns false'. Refute it at one input. -/
def slipTornWrong : ChangeSpec := { name := "slipTorn", fn := fun _ => fun
  | [d1, d2] => { results := [.lit (.bool false)], args := [d1, d2] }
  | _ => none }
def SlipTornWrongFalsely : Prop := slipTornRow.holds Tryd.pinned (OpenSpec.ofChange slipTornWrong)

/-- 'wristbandlaw18.SlipRow': WHATEVER THE INPUT: true; the input reads as it did. -/
def slipRowSpec : ChangeSpec := { name := "slipRow", fn := fun _ => fun
  | [d] => { results := [.lit (.bool true)], args := [d] }
  | _ => none }
def slipRowRow : OpenClaim := { program := "ytnpkhkhlofkbhaadoor", sum := "9a15da1448b81f1ac5560263c1d17e37a66d604a1f37d943ff24ec8edb323c86", func := "wristband/wristbandlaw18.SlipRow", spec := "slipRow", named := ["wristband/sha.first", "wristband/sha.constants"], plainKeys := false, apart := false, laid := [("wristband/sha.constants", laid_wristband_sha_constants), ("wristband/sha.first", laid_wristband_sha_first)] }
def SlipRowSaid : Prop := slipRowRow.holds Tryd.pinned (OpenSpec.ofChange slipRowSpec)

/-- ITS FALSE NEIGHBOUR: 'it returns false'. Refute it at one input. -/
def slipRowWrong : ChangeSpec := { name := "slipRow", fn := fun _ => fun
  | [d] => { results := [.lit (.bool false)], args := [d] }
  | _ => none }
def SlipRowWrongFalsely : Prop := slipRowRow.holds Tryd.pinned (OpenSpec.ofChange slipRowWrong)

/-- 'wristbandlaw06.MacFits': WHATEVER THE INPUT: true; the input reads as it did. -/
def macFitsSpec : ChangeSpec := { name := "macFits", fn := fun _ => fun
  | [d1, d2, d3, d4, d5, d6] => { results := [.lit (.bool true)], args := [d1, d2, d3, d4, d5, d6] }
  | _ => none }
def macFitsRow : OpenClaim := { program := "ytnpkhkhlofkbhaadoor", sum := "9a15da1448b81f1ac5560263c1d17e37a66d604a1f37d943ff24ec8edb323c86", func := "wristband/wristbandlaw06.MacFits", spec := "macFits", unfollowed := true, recurses := true, named := ["wristband/sha.first", "wristband/sha.constants"], plainKeys := false, apart := false, laid := [("wristband/sha.constants", laid_wristband_sha_constants), ("wristband/sha.first", laid_wristband_sha_first)] }
def MacFitsSaid : Prop := macFitsRow.holds Tryd.pinned (OpenSpec.ofChange macFitsSpec)

/-- ITS FALSE NEIGHBOUR: 'it returns false'. Refute it at one input. -/
def macFitsWrong : ChangeSpec := { name := "macFits", fn := fun _ => fun
  | [d1, d2, d3, d4, d5, d6] => { results := [.lit (.bool false)], args := [d1, d2, d3, d4, d5, d6] }
  | _ => none }
def MacFitsWrongFalsely : Prop := macFitsRow.holds Tryd.pinned (OpenSpec.ofChange macFitsWrong)

/- THE SECOND FORM. 'bulk': how many values and letters a reading holds, each counted each time it is reached (what is shared counts as often as it is met; a slice's spare places count too). A statement '..UptoSaid' is the law's where the arguments, and the package variables that the reading takes, are together of bulk at most 1048576: NARROWER than '..Said'. Prove '..Said' where nothing that the law and all that it calls make is longer than what came in: it says more and counts as full. Else prove '..UptoSaid'. A law counts once. -/
mutual
def uptoBulk {H : Type} : DataW H → Nat
  | .lit (.string bytes) => bytes.length + 1
  | .lit _ => 1
  | .nil => 1
  | .ptr d => uptoBulk d + 1
  | .slice elems spare => uptoBulkAll elems + uptoBulkAll spare + 1
  | .agg parts => uptoBulkAll parts + 1
  | .iface _ d => uptoBulk d + 1
  | .map entries => uptoBulkEntries entries + 1
  | .held _ => 1
def uptoBulkAll {H : Type} : List (DataW H) → Nat
  | [] => 0
  | d :: r => uptoBulk d + uptoBulkAll r
def uptoBulkEntries {H : Type} : List (Lit × DataW H) → Nat
  | [] => 0
  | x :: r => uptoBulkEntry x + uptoBulkEntries r
def uptoBulkEntry {H : Type} : Lit × DataW H → Nat
  | (.string bytes, d) => bytes.length + uptoBulk d + 1
  | (_, d) => uptoBulk d + 1
 end
def uptoSmall : (H : Type) → List (DataW H) → Bool := fun _ ds => decide (uptoBulkAll ds ≤ 1048576)
def OpenSpec.upto (s : _root_.Go.ChangeSpec) : _root_.Go.OpenSpec := { _root_.Go.OpenSpec.ofChange s with cond := some uptoSmall }

/-- 'wristbandlaw02.ShaRight', WHERE WHAT IT READS IS OF BULK AT MOST 1048576: true; the input reads as it did. -/
def shaRightUptoRow : OpenClaim := { program := "ytnpkhkhlofkbhaadoor", sum := "9a15da1448b81f1ac5560263c1d17e37a66d604a1f37d943ff24ec8edb323c86", func := "wristband/wristbandlaw02.ShaRight", spec := "shaRight", named := ["wristband/sha.first", "wristband/sha.constants"], plainKeys := false, apart := false, laid := [("wristband/sha.constants", laid_wristband_sha_constants), ("wristband/sha.first", laid_wristband_sha_first)], narrowed := true }
def ShaRightUptoSaid : Prop := shaRightUptoRow.holds Tryd.pinned (OpenSpec.upto shaRightSpec)

/-- 'wristbandlaw02.ShaGoesOn', WHERE WHAT IT READS IS OF BULK AT MOST 1048576: true; the input reads as it did. -/
def shaGoesOnUptoRow : OpenClaim := { program := "ytnpkhkhlofkbhaadoor", sum := "9a15da1448b81f1ac5560263c1d17e37a66d604a1f37d943ff24ec8edb323c86", func := "wristband/wristbandlaw02.ShaGoesOn", spec := "shaGoesOn", named := ["wristband/sha.first", "wristband/sha.constants"], plainKeys := false, apart := false, laid := [("wristband/sha.constants", laid_wristband_sha_constants), ("wristband/sha.first", laid_wristband_sha_first)], narrowed := true }
def ShaGoesOnUptoSaid : Prop := shaGoesOnUptoRow.holds Tryd.pinned (OpenSpec.upto shaGoesOnSpec)

/-- 'wristbandlaw02.ShaBlocks', WHERE WHAT IT READS IS OF BULK AT MOST 1048576: true; the input reads as it did. -/
def shaBlocksUptoRow : OpenClaim := { program := "ytnpkhkhlofkbhaadoor", sum := "9a15da1448b81f1ac5560263c1d17e37a66d604a1f37d943ff24ec8edb323c86", func := "wristband/wristbandlaw02.ShaBlocks", spec := "shaBlocks", named := ["wristband/sha.first", "wristband/sha.constants"], plainKeys := false, apart := false, laid := [("wristband/sha.constants", laid_wristband_sha_constants), ("wristband/sha.first", laid_wristband_sha_first)], narrowed := true }
def ShaBlocksUptoSaid : Prop := shaBlocksUptoRow.holds Tryd.pinned (OpenSpec.upto shaBlocksSpec)

/-- 'wristbandlaw03.HmacRight', WHERE WHAT IT READS IS OF BULK AT MOST 1048576: true; the input reads as it did. -/
def hmacRightUptoRow : OpenClaim := { program := "ytnpkhkhlofkbhaadoor", sum := "9a15da1448b81f1ac5560263c1d17e37a66d604a1f37d943ff24ec8edb323c86", func := "wristband/wristbandlaw03.HmacRight", spec := "hmacRight", recurses := true, named := ["wristband/sha.first", "wristband/sha.constants"], plainKeys := false, apart := false, laid := [("wristband/sha.constants", laid_wristband_sha_constants), ("wristband/sha.first", laid_wristband_sha_first)], narrowed := true }
def HmacRightUptoSaid : Prop := hmacRightUptoRow.holds Tryd.pinned (OpenSpec.upto hmacRightSpec)

/-- 'wristbandlaw03.HmacKeys', WHERE WHAT IT READS IS OF BULK AT MOST 1048576: true; the input reads as it did. -/
def hmacKeysUptoRow : OpenClaim := { program := "ytnpkhkhlofkbhaadoor", sum := "9a15da1448b81f1ac5560263c1d17e37a66d604a1f37d943ff24ec8edb323c86", func := "wristband/wristbandlaw03.HmacKeys", spec := "hmacKeys", named := ["wristband/sha.first", "wristband/sha.constants"], plainKeys := false, apart := false, laid := [("wristband/sha.constants", laid_wristband_sha_constants), ("wristband/sha.first", laid_wristband_sha_first)], narrowed := true }
def HmacKeysUptoSaid : Prop := hmacKeysUptoRow.holds Tryd.pinned (OpenSpec.upto hmacKeysSpec)

/-- 'wristbandlaw18.SlipRight', WHERE WHAT IT READS IS OF BULK AT MOST 1048576: true; the input reads as it did. -/
def slipRightUptoRow : OpenClaim := { program := "ytnpkhkhlofkbhaadoor", sum := "9a15da1448b81f1ac5560263c1d17e37a66d604a1f37d943ff24ec8edb323c86", func := "wristband/wristbandlaw18.SlipRight", spec := "slipRight", named := ["wristband/sha.first", "wristband/sha.constants"], plainKeys := false, apart := false, laid := [("wristband/sha.constants", laid_wristband_sha_constants), ("wristband/sha.first", laid_wristband_sha_first)], narrowed := true }
def SlipRightUptoSaid : Prop := slipRightUptoRow.holds Tryd.pinned (OpenSpec.upto slipRightSpec)

/-- 'wristbandlaw18.SlipLong', WHERE WHAT IT READS IS OF BULK AT MOST 1048576: true; the input reads as it did. -/
def slipLongUptoRow : OpenClaim := { program := "ytnpkhkhlofkbhaadoor", sum := "9a15da1448b81f1ac5560263c1d17e37a66d604a1f37d943ff24ec8edb323c86", func := "wristband/wristbandlaw18.SlipLong", spec := "slipLong", named := ["wristband/sha.first", "wristband/sha.constants"], plainKeys := false, apart := false, laid := [("wristband/sha.constants", laid_wristband_sha_constants), ("wristband/sha.first", laid_wristband_sha_first)], narrowed := true }
def SlipLongUptoSaid : Prop := slipLongUptoRow.holds Tryd.pinned (OpenSpec.upto slipLongSpec)

/-- 'wristbandlaw18.SlipTorn', WHERE WHAT IT READS IS OF BULK AT MOST 1048576: true; the input reads as it did. -/
def slipTornUptoRow : OpenClaim := { program := "ytnpkhkhlofkbhaadoor", sum := "9a15da1448b81f1ac5560263c1d17e37a66d604a1f37d943ff24ec8edb323c86", func := "wristband/wristbandlaw18.SlipTorn", spec := "slipTorn", named := ["wristband/sha.first", "wristband/sha.constants"], plainKeys := false, apart := false, laid := [("wristband/sha.constants", laid_wristband_sha_constants), ("wristband/sha.first", laid_wristband_sha_first)], narrowed := true }
def SlipTornUptoSaid : Prop := slipTornUptoRow.holds Tryd.pinned (OpenSpec.upto slipTornSpec)

/-- 'wristbandlaw18.SlipRow', WHERE WHAT IT READS IS OF BULK AT MOST 1048576: true; the input reads as it did. -/
def slipRowUptoRow : OpenClaim := { program := "ytnpkhkhlofkbhaadoor", sum := "9a15da1448b81f1ac5560263c1d17e37a66d604a1f37d943ff24ec8edb323c86", func := "wristband/wristbandlaw18.SlipRow", spec := "slipRow", named := ["wristband/sha.first", "wristband/sha.constants"], plainKeys := false, apart := false, laid := [("wristband/sha.constants", laid_wristband_sha_constants), ("wristband/sha.first", laid_wristband_sha_first)], narrowed := true }
def SlipRowUptoSaid : Prop := slipRowUptoRow.holds Tryd.pinned (OpenSpec.upto slipRowSpec)

/-- 'wristbandlaw06.MacFits', WHERE WHAT IT READS IS OF BULK AT MOST 1048576: true; the input reads as it did. -/
def macFitsUptoRow : OpenClaim := { program := "ytnpkhkhlofkbhaadoor", sum := "9a15da1448b81f1ac5560263c1d17e37a66d604a1f37d943ff24ec8edb323c86", func := "wristband/wristbandlaw06.MacFits", spec := "macFits", unfollowed := true, recurses := true, named := ["wristband/sha.first", "wristband/sha.constants"], plainKeys := false, apart := false, laid := [("wristband/sha.constants", laid_wristband_sha_constants), ("wristband/sha.first", laid_wristband_sha_first)], narrowed := true }
def MacFitsUptoSaid : Prop := macFitsUptoRow.holds Tryd.pinned (OpenSpec.upto macFitsSpec)

end Rows
end Go.Proofs.YtnpkhkhlofkbhaaDoor
