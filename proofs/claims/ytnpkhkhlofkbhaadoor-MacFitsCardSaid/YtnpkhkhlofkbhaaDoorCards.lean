/-
  DERIVED. GIVEN WITH THE SEED: THE CARDS: each row of YtnpkhkhlofkbhaaDoorRows.lean that lists a variable, with what it lists TIED to the program's text (the seventh form; the later family's looks); each row that meets fmt, with fmt's text TOLD by the authors' own Lean function (tested against real Go, not proved from fmt's source: count such statements apart). THE CARD IS WHAT COUNTS. Prove the row's statement (the work); the ties are given (YtnpkhkhlofkbhaaDoorTie.lean); close each card by the builder's one call (the guide's Derived/Test/ToyasCard.lean, 'card_holds'). Laid BY PROGRAM, IN A SANDBOX (cutbox-door.mjs). By AI agents, Wed Nov 11 2026. No macro, syntax, notation, axiom, sorry.
-/
import Derived.Test.YtnpkhkhlofkbhaaDoorRows
import GoSem.ClaimSeven
namespace Go.Proofs.YtnpkhkhlofkbhaaDoor
namespace Rows

/-- THE TIED CARD OF 'wristbandlaw02.ShaRight'. -/
def shaRightCard : Claim7 := { stood := { row := shaRightRow, standIns := [], harness := (true, "159432ddb4a4705eb25efa8c436598a8a1aba8f877684863d63d2fa930ac38aa"), looks := false }, kinds := [], alts := [], laidByText := true, laidKinds := [.data, .data], laidTests := true, laidLooks := .later }
def ShaRightCardSaid : Prop := Claim7.holds Tryd.pinned (.plain (OpenSpec.ofChange shaRightSpec)) shaRightCard

/-- THE TIED CARD OF 'wristbandlaw02.ShaGoesOn'. -/
def shaGoesOnCard : Claim7 := { stood := { row := shaGoesOnRow, standIns := [], harness := (true, "159432ddb4a4705eb25efa8c436598a8a1aba8f877684863d63d2fa930ac38aa"), looks := false }, kinds := [], alts := [], laidByText := true, laidKinds := [.data, .data], laidTests := true, laidLooks := .later }
def ShaGoesOnCardSaid : Prop := Claim7.holds Tryd.pinned (.plain (OpenSpec.ofChange shaGoesOnSpec)) shaGoesOnCard

/-- THE TIED CARD OF 'wristbandlaw02.ShaBlocks'. -/
def shaBlocksCard : Claim7 := { stood := { row := shaBlocksRow, standIns := [], harness := (true, "159432ddb4a4705eb25efa8c436598a8a1aba8f877684863d63d2fa930ac38aa"), looks := false }, kinds := [], alts := [], laidByText := true, laidKinds := [.data, .data], laidTests := true, laidLooks := .later }
def ShaBlocksCardSaid : Prop := Claim7.holds Tryd.pinned (.plain (OpenSpec.ofChange shaBlocksSpec)) shaBlocksCard

/-- THE TIED CARD OF 'wristbandlaw03.HmacRight'. -/
def hmacRightCard : Claim7 := { stood := { row := hmacRightRow, standIns := [], harness := (true, "159432ddb4a4705eb25efa8c436598a8a1aba8f877684863d63d2fa930ac38aa"), looks := false }, kinds := [], alts := [], laidByText := true, laidKinds := [.data, .data], laidTests := true, laidLooks := .later }
def HmacRightCardSaid : Prop := Claim7.holds Tryd.pinned (.plain (OpenSpec.ofChange hmacRightSpec)) hmacRightCard

/-- THE TIED CARD OF 'wristbandlaw03.HmacKeys'. -/
def hmacKeysCard : Claim7 := { stood := { row := hmacKeysRow, standIns := [], harness := (true, "159432ddb4a4705eb25efa8c436598a8a1aba8f877684863d63d2fa930ac38aa"), looks := false }, kinds := [], alts := [], laidByText := true, laidKinds := [.data, .data], laidTests := true, laidLooks := .later }
def HmacKeysCardSaid : Prop := Claim7.holds Tryd.pinned (.plain (OpenSpec.ofChange hmacKeysSpec)) hmacKeysCard

/-- THE TIED CARD OF 'wristbandlaw18.SlipRight'. -/
def slipRightCard : Claim7 := { stood := { row := slipRightRow, standIns := [], harness := (true, "159432ddb4a4705eb25efa8c436598a8a1aba8f877684863d63d2fa930ac38aa"), looks := false }, kinds := [], alts := [], laidByText := true, laidKinds := [.data, .data], laidTests := true, laidLooks := .later }
def SlipRightCardSaid : Prop := Claim7.holds Tryd.pinned (.plain (OpenSpec.ofChange slipRightSpec)) slipRightCard

/-- THE TIED CARD OF 'wristbandlaw18.SlipLong'. -/
def slipLongCard : Claim7 := { stood := { row := slipLongRow, standIns := [], harness := (true, "159432ddb4a4705eb25efa8c436598a8a1aba8f877684863d63d2fa930ac38aa"), looks := false }, kinds := [], alts := [], laidByText := true, laidKinds := [.data, .data], laidTests := true, laidLooks := .later }
def SlipLongCardSaid : Prop := Claim7.holds Tryd.pinned (.plain (OpenSpec.ofChange slipLongSpec)) slipLongCard

/-- THE TIED CARD OF 'wristbandlaw18.SlipTorn'. -/
def slipTornCard : Claim7 := { stood := { row := slipTornRow, standIns := [], harness := (true, "159432ddb4a4705eb25efa8c436598a8a1aba8f877684863d63d2fa930ac38aa"), looks := false }, kinds := [], alts := [], laidByText := true, laidKinds := [.data, .data], laidTests := true, laidLooks := .later }
def SlipTornCardSaid : Prop := Claim7.holds Tryd.pinned (.plain (OpenSpec.ofChange slipTornSpec)) slipTornCard

/-- THE TIED CARD OF 'wristbandlaw18.SlipRow'. -/
def slipRowCard : Claim7 := { stood := { row := slipRowRow, standIns := [], harness := (true, "159432ddb4a4705eb25efa8c436598a8a1aba8f877684863d63d2fa930ac38aa"), looks := false }, kinds := [], alts := [], laidByText := true, laidKinds := [.data, .data], laidTests := true, laidLooks := .later }
def SlipRowCardSaid : Prop := Claim7.holds Tryd.pinned (.plain (OpenSpec.ofChange slipRowSpec)) slipRowCard

/-- THE TIED CARD OF 'wristbandlaw06.MacFits'. -/
def macFitsCard : Claim7 := { stood := { row := macFitsRow, standIns := [], harness := (true, "159432ddb4a4705eb25efa8c436598a8a1aba8f877684863d63d2fa930ac38aa"), looks := false }, kinds := [], alts := [], laidByText := true, laidKinds := [.data, .data], laidTests := true, laidLooks := .later }
def MacFitsCardSaid : Prop := Claim7.holds Tryd.pinned (.plain (OpenSpec.ofChange macFitsSpec)) macFitsCard

/-- THE SECOND FORM's CARD OF 'wristbandlaw02.ShaRight'. -/
def shaRightUptoCard : Claim7 := { stood := { row := shaRightUptoRow, standIns := [], harness := (true, "159432ddb4a4705eb25efa8c436598a8a1aba8f877684863d63d2fa930ac38aa"), looks := false }, kinds := [], alts := [], laidByText := true, laidKinds := [.data, .data], laidTests := true, laidLooks := .later }
def ShaRightUptoCardSaid : Prop := Claim7.holds Tryd.pinned (.plain (OpenSpec.upto shaRightSpec)) shaRightUptoCard

/-- THE SECOND FORM's CARD OF 'wristbandlaw02.ShaGoesOn'. -/
def shaGoesOnUptoCard : Claim7 := { stood := { row := shaGoesOnUptoRow, standIns := [], harness := (true, "159432ddb4a4705eb25efa8c436598a8a1aba8f877684863d63d2fa930ac38aa"), looks := false }, kinds := [], alts := [], laidByText := true, laidKinds := [.data, .data], laidTests := true, laidLooks := .later }
def ShaGoesOnUptoCardSaid : Prop := Claim7.holds Tryd.pinned (.plain (OpenSpec.upto shaGoesOnSpec)) shaGoesOnUptoCard

/-- THE SECOND FORM's CARD OF 'wristbandlaw02.ShaBlocks'. -/
def shaBlocksUptoCard : Claim7 := { stood := { row := shaBlocksUptoRow, standIns := [], harness := (true, "159432ddb4a4705eb25efa8c436598a8a1aba8f877684863d63d2fa930ac38aa"), looks := false }, kinds := [], alts := [], laidByText := true, laidKinds := [.data, .data], laidTests := true, laidLooks := .later }
def ShaBlocksUptoCardSaid : Prop := Claim7.holds Tryd.pinned (.plain (OpenSpec.upto shaBlocksSpec)) shaBlocksUptoCard

/-- THE SECOND FORM's CARD OF 'wristbandlaw03.HmacRight'. -/
def hmacRightUptoCard : Claim7 := { stood := { row := hmacRightUptoRow, standIns := [], harness := (true, "159432ddb4a4705eb25efa8c436598a8a1aba8f877684863d63d2fa930ac38aa"), looks := false }, kinds := [], alts := [], laidByText := true, laidKinds := [.data, .data], laidTests := true, laidLooks := .later }
def HmacRightUptoCardSaid : Prop := Claim7.holds Tryd.pinned (.plain (OpenSpec.upto hmacRightSpec)) hmacRightUptoCard

/-- THE SECOND FORM's CARD OF 'wristbandlaw03.HmacKeys'. -/
def hmacKeysUptoCard : Claim7 := { stood := { row := hmacKeysUptoRow, standIns := [], harness := (true, "159432ddb4a4705eb25efa8c436598a8a1aba8f877684863d63d2fa930ac38aa"), looks := false }, kinds := [], alts := [], laidByText := true, laidKinds := [.data, .data], laidTests := true, laidLooks := .later }
def HmacKeysUptoCardSaid : Prop := Claim7.holds Tryd.pinned (.plain (OpenSpec.upto hmacKeysSpec)) hmacKeysUptoCard

/-- THE SECOND FORM's CARD OF 'wristbandlaw18.SlipRight'. -/
def slipRightUptoCard : Claim7 := { stood := { row := slipRightUptoRow, standIns := [], harness := (true, "159432ddb4a4705eb25efa8c436598a8a1aba8f877684863d63d2fa930ac38aa"), looks := false }, kinds := [], alts := [], laidByText := true, laidKinds := [.data, .data], laidTests := true, laidLooks := .later }
def SlipRightUptoCardSaid : Prop := Claim7.holds Tryd.pinned (.plain (OpenSpec.upto slipRightSpec)) slipRightUptoCard

/-- THE SECOND FORM's CARD OF 'wristbandlaw18.SlipLong'. -/
def slipLongUptoCard : Claim7 := { stood := { row := slipLongUptoRow, standIns := [], harness := (true, "159432ddb4a4705eb25efa8c436598a8a1aba8f877684863d63d2fa930ac38aa"), looks := false }, kinds := [], alts := [], laidByText := true, laidKinds := [.data, .data], laidTests := true, laidLooks := .later }
def SlipLongUptoCardSaid : Prop := Claim7.holds Tryd.pinned (.plain (OpenSpec.upto slipLongSpec)) slipLongUptoCard

/-- THE SECOND FORM's CARD OF 'wristbandlaw18.SlipTorn'. -/
def slipTornUptoCard : Claim7 := { stood := { row := slipTornUptoRow, standIns := [], harness := (true, "159432ddb4a4705eb25efa8c436598a8a1aba8f877684863d63d2fa930ac38aa"), looks := false }, kinds := [], alts := [], laidByText := true, laidKinds := [.data, .data], laidTests := true, laidLooks := .later }
def SlipTornUptoCardSaid : Prop := Claim7.holds Tryd.pinned (.plain (OpenSpec.upto slipTornSpec)) slipTornUptoCard

/-- THE SECOND FORM's CARD OF 'wristbandlaw18.SlipRow'. -/
def slipRowUptoCard : Claim7 := { stood := { row := slipRowUptoRow, standIns := [], harness := (true, "159432ddb4a4705eb25efa8c436598a8a1aba8f877684863d63d2fa930ac38aa"), looks := false }, kinds := [], alts := [], laidByText := true, laidKinds := [.data, .data], laidTests := true, laidLooks := .later }
def SlipRowUptoCardSaid : Prop := Claim7.holds Tryd.pinned (.plain (OpenSpec.upto slipRowSpec)) slipRowUptoCard

/-- THE SECOND FORM's CARD OF 'wristbandlaw06.MacFits'. -/
def macFitsUptoCard : Claim7 := { stood := { row := macFitsUptoRow, standIns := [], harness := (true, "159432ddb4a4705eb25efa8c436598a8a1aba8f877684863d63d2fa930ac38aa"), looks := false }, kinds := [], alts := [], laidByText := true, laidKinds := [.data, .data], laidTests := true, laidLooks := .later }
def MacFitsUptoCardSaid : Prop := Claim7.holds Tryd.pinned (.plain (OpenSpec.upto macFitsSpec)) macFitsUptoCard
end Rows
end Go.Proofs.YtnpkhkhlofkbhaaDoor
