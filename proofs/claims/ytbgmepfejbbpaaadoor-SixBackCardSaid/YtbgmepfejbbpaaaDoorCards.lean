/-
  DERIVED. GIVEN WITH THE SEED: THE CARDS: each row of YtbgmepfejbbpaaaDoorRows.lean that lists a variable, with what it lists TIED to the program's text (the seventh form; the later family's looks); each row that meets fmt, with fmt's text TOLD by the authors' own Lean function (tested against real Go, not proved from fmt's source: count such statements apart). THE CARD IS WHAT COUNTS. Prove the row's statement (the work); the ties are given (YtbgmepfejbbpaaaDoorTie.lean); close each card by the builder's one call (the guide's Derived/Test/ToyasCard.lean, 'card_holds'). Laid BY PROGRAM, IN A SANDBOX (cutbox-door.mjs). By AI agents, Wed Nov 11 2026. No macro, syntax, notation, axiom, sorry.
-/
import Derived.Test.YtbgmepfejbbpaaaDoorRows
import GoSem.ClaimSeven
namespace Go.Proofs.YtbgmepfejbbpaaaDoor
namespace Rows

/-- THE TIED CARD OF 'portcullislaw11.SixTells'. -/
def sixTellsCard : Claim7 := { stood := { row := sixTellsRow, standIns := [], harness := (true, "24000a6f6d762baed897b6f931b8d70ebf1dc64f13ca0e1b2c6a0d1ada663070"), looks := false }, kinds := [], alts := [], laidByText := true, laidKinds := [.data, .data, .data, .data, .pinned], laidTests := true, laidLooks := .later }
def SixTellsCardSaid : Prop := Claim7.holds Tryd.pinned (.plain (OpenSpec.ofChange sixTellsSpec)) sixTellsCard

/-- THE TIED CARD OF 'portcullislaw11.SixBack'. -/
def sixBackCard : Claim7 := { stood := { row := sixBackRow, standIns := [], harness := (true, "24000a6f6d762baed897b6f931b8d70ebf1dc64f13ca0e1b2c6a0d1ada663070"), looks := false }, kinds := [], alts := [], laidByText := true, laidKinds := [.data, .data, .data, .data, .pinned], laidTests := true, laidLooks := .later }
def SixBackCardSaid : Prop := Claim7.holds Tryd.pinned (.plain (OpenSpec.ofChange sixBackSpec)) sixBackCard

/-- THE TIED CARD OF 'portcullislaw11.SixShape'. -/
def sixShapeCard : Claim7 := { stood := { row := sixShapeRow, standIns := [], harness := (true, "24000a6f6d762baed897b6f931b8d70ebf1dc64f13ca0e1b2c6a0d1ada663070"), looks := false }, kinds := [], alts := [], laidByText := true, laidKinds := [.data, .data, .data, .data, .pinned], laidTests := true, laidLooks := .later }
def SixShapeCardSaid : Prop := Claim7.holds Tryd.pinned (.plain (OpenSpec.ofChange sixShapeSpec)) sixShapeCard

/-- THE TIED CARD OF 'portcullislaw11.SixPieces'. -/
def sixPiecesCard : Claim7 := { stood := { row := sixPiecesRow, standIns := [], harness := (true, "24000a6f6d762baed897b6f931b8d70ebf1dc64f13ca0e1b2c6a0d1ada663070"), looks := false }, kinds := [], alts := [], laidByText := true, laidKinds := [.data, .data, .data, .data, .pinned], laidTests := true, laidLooks := .later }
def SixPiecesCardSaid : Prop := Claim7.holds Tryd.pinned (.plain (OpenSpec.ofChange sixPiecesSpec)) sixPiecesCard

/-- THE SECOND FORM's CARD OF 'portcullislaw11.SixTells'. -/
def sixTellsUptoCard : Claim7 := { stood := { row := sixTellsUptoRow, standIns := [], harness := (true, "24000a6f6d762baed897b6f931b8d70ebf1dc64f13ca0e1b2c6a0d1ada663070"), looks := false }, kinds := [], alts := [], laidByText := true, laidKinds := [.data, .data, .data, .data, .pinned], laidTests := true, laidLooks := .later }
def SixTellsUptoCardSaid : Prop := Claim7.holds Tryd.pinned (.plain (OpenSpec.upto sixTellsSpec)) sixTellsUptoCard

/-- THE SECOND FORM's CARD OF 'portcullislaw11.SixBack'. -/
def sixBackUptoCard : Claim7 := { stood := { row := sixBackUptoRow, standIns := [], harness := (true, "24000a6f6d762baed897b6f931b8d70ebf1dc64f13ca0e1b2c6a0d1ada663070"), looks := false }, kinds := [], alts := [], laidByText := true, laidKinds := [.data, .data, .data, .data, .pinned], laidTests := true, laidLooks := .later }
def SixBackUptoCardSaid : Prop := Claim7.holds Tryd.pinned (.plain (OpenSpec.upto sixBackSpec)) sixBackUptoCard

/-- THE SECOND FORM's CARD OF 'portcullislaw11.SixShape'. -/
def sixShapeUptoCard : Claim7 := { stood := { row := sixShapeUptoRow, standIns := [], harness := (true, "24000a6f6d762baed897b6f931b8d70ebf1dc64f13ca0e1b2c6a0d1ada663070"), looks := false }, kinds := [], alts := [], laidByText := true, laidKinds := [.data, .data, .data, .data, .pinned], laidTests := true, laidLooks := .later }
def SixShapeUptoCardSaid : Prop := Claim7.holds Tryd.pinned (.plain (OpenSpec.upto sixShapeSpec)) sixShapeUptoCard

/-- THE SECOND FORM's CARD OF 'portcullislaw11.SixPieces'. -/
def sixPiecesUptoCard : Claim7 := { stood := { row := sixPiecesUptoRow, standIns := [], harness := (true, "24000a6f6d762baed897b6f931b8d70ebf1dc64f13ca0e1b2c6a0d1ada663070"), looks := false }, kinds := [], alts := [], laidByText := true, laidKinds := [.data, .data, .data, .data, .pinned], laidTests := true, laidLooks := .later }
def SixPiecesUptoCardSaid : Prop := Claim7.holds Tryd.pinned (.plain (OpenSpec.upto sixPiecesSpec)) sixPiecesUptoCard
end Rows
end Go.Proofs.YtbgmepfejbbpaaaDoor
