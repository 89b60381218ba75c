/-
  DERIVED. GIVEN WITH THE SEED: THE CARDS: each row of YtlnlfglhboccpaaDoorRows.lean that lists a variable, with what it lists TIED to the program's text (the seventh form; the later family's looks); each row that meets fmt, with fmt's text TOLD by the authors' own Lean function (tested against real Go, not proved from fmt's source: count such statements apart). THE CARD IS WHAT COUNTS. Prove the row's statement (the work); the ties are given (YtlnlfglhboccpaaDoorTie.lean); close each card by the builder's one call (the guide's Derived/Test/ToyasCard.lean, 'card_holds'). Laid BY PROGRAM, IN A SANDBOX (cutbox-door.mjs). By AI agents, Wed Nov 11 2026. No macro, syntax, notation, axiom, sorry.
-/
import Derived.Test.YtlnlfglhboccpaaDoorRows
import GoSem.ClaimSeven
namespace Go.Proofs.YtlnlfglhboccpaaDoor
namespace Rows

/-- THE TIED CARD OF 'portcullislaw10.FourTells'. -/
def fourTellsCard : Claim7 := { stood := { row := fourTellsRow, standIns := [], harness := (true, "90f14b72b3703099fb060308711d80b5b1e81055d9139da4326ecfaba0b43201"), looks := false }, kinds := [], alts := [], laidByText := true, laidKinds := [.data, .data, .data, .data, .pinned], laidTests := true, laidLooks := .later }
def FourTellsCardSaid : Prop := Claim7.holds Tryd.pinned (.plain (OpenSpec.ofChange fourTellsSpec)) fourTellsCard

/-- THE TIED CARD OF 'portcullislaw10.FourBack'. -/
def fourBackCard : Claim7 := { stood := { row := fourBackRow, standIns := [], harness := (true, "90f14b72b3703099fb060308711d80b5b1e81055d9139da4326ecfaba0b43201"), looks := false }, kinds := [], alts := [], laidByText := true, laidKinds := [.data, .data, .data, .data, .pinned], laidTests := true, laidLooks := .later }
def FourBackCardSaid : Prop := Claim7.holds Tryd.pinned (.plain (OpenSpec.ofChange fourBackSpec)) fourBackCard

/-- THE TIED CARD OF 'portcullislaw10.FourNoughts'. -/
def fourNoughtsCard : Claim7 := { stood := { row := fourNoughtsRow, standIns := [], harness := (true, "90f14b72b3703099fb060308711d80b5b1e81055d9139da4326ecfaba0b43201"), looks := false }, kinds := [], alts := [], laidByText := true, laidKinds := [.data, .data, .data, .data, .pinned], laidTests := true, laidLooks := .later }
def FourNoughtsCardSaid : Prop := Claim7.holds Tryd.pinned (.plain (OpenSpec.ofChange fourNoughtsSpec)) fourNoughtsCard

/-- THE TIED CARD OF 'portcullislaw10.FourGreat'. -/
def fourGreatCard : Claim7 := { stood := { row := fourGreatRow, standIns := [], harness := (true, "90f14b72b3703099fb060308711d80b5b1e81055d9139da4326ecfaba0b43201"), looks := false }, kinds := [], alts := [], laidByText := true, laidKinds := [.data, .data, .data, .data, .pinned], laidTests := true, laidLooks := .later }
def FourGreatCardSaid : Prop := Claim7.holds Tryd.pinned (.plain (OpenSpec.ofChange fourGreatSpec)) fourGreatCard

/-- THE SECOND FORM's CARD OF 'portcullislaw10.FourTells'. -/
def fourTellsUptoCard : Claim7 := { stood := { row := fourTellsUptoRow, standIns := [], harness := (true, "90f14b72b3703099fb060308711d80b5b1e81055d9139da4326ecfaba0b43201"), looks := false }, kinds := [], alts := [], laidByText := true, laidKinds := [.data, .data, .data, .data, .pinned], laidTests := true, laidLooks := .later }
def FourTellsUptoCardSaid : Prop := Claim7.holds Tryd.pinned (.plain (OpenSpec.upto fourTellsSpec)) fourTellsUptoCard

/-- THE SECOND FORM's CARD OF 'portcullislaw10.FourBack'. -/
def fourBackUptoCard : Claim7 := { stood := { row := fourBackUptoRow, standIns := [], harness := (true, "90f14b72b3703099fb060308711d80b5b1e81055d9139da4326ecfaba0b43201"), looks := false }, kinds := [], alts := [], laidByText := true, laidKinds := [.data, .data, .data, .data, .pinned], laidTests := true, laidLooks := .later }
def FourBackUptoCardSaid : Prop := Claim7.holds Tryd.pinned (.plain (OpenSpec.upto fourBackSpec)) fourBackUptoCard

/-- THE SECOND FORM's CARD OF 'portcullislaw10.FourNoughts'. -/
def fourNoughtsUptoCard : Claim7 := { stood := { row := fourNoughtsUptoRow, standIns := [], harness := (true, "90f14b72b3703099fb060308711d80b5b1e81055d9139da4326ecfaba0b43201"), looks := false }, kinds := [], alts := [], laidByText := true, laidKinds := [.data, .data, .data, .data, .pinned], laidTests := true, laidLooks := .later }
def FourNoughtsUptoCardSaid : Prop := Claim7.holds Tryd.pinned (.plain (OpenSpec.upto fourNoughtsSpec)) fourNoughtsUptoCard

/-- THE SECOND FORM's CARD OF 'portcullislaw10.FourGreat'. -/
def fourGreatUptoCard : Claim7 := { stood := { row := fourGreatUptoRow, standIns := [], harness := (true, "90f14b72b3703099fb060308711d80b5b1e81055d9139da4326ecfaba0b43201"), looks := false }, kinds := [], alts := [], laidByText := true, laidKinds := [.data, .data, .data, .data, .pinned], laidTests := true, laidLooks := .later }
def FourGreatUptoCardSaid : Prop := Claim7.holds Tryd.pinned (.plain (OpenSpec.upto fourGreatSpec)) fourGreatUptoCard
end Rows
end Go.Proofs.YtlnlfglhboccpaaDoor
