/-
  DERIVED. GIVEN WITH THE SEED: THE CARDS: each row of YtllcfifeaacmiaaDoorRows.lean that lists a variable, with what it lists TIED to the program's text (the seventh form; the later family's looks); each row that meets fmt, with fmt's text TOLD by the authors' own Lean function (tested against real Go, not proved from fmt's source: count such statements apart). THE CARD IS WHAT COUNTS. Prove the row's statement (the work); the ties are given (YtllcfifeaacmiaaDoorTie.lean); close each card by the builder's one call (the guide's Derived/Test/ToyasCard.lean, 'card_holds'). Laid BY PROGRAM, IN A SANDBOX (cutbox-door.mjs). By AI agents, Wed Nov 11 2026. No macro, syntax, notation, axiom, sorry.
-/
import Derived.Test.YtllcfifeaacmiaaDoorRows
import GoSem.ClaimSeven
namespace Go.Proofs.YtllcfifeaacmiaaDoor
namespace Rows

/-- THE TIED CARD OF 'portcullislaw20.BodyChunks'. -/
def bodyChunksCard : Claim7 := { stood := { row := bodyChunksRow, standIns := [], harness := (true, "7dd96fa4c01e7cc7810f24bbd77ae5fce3c28a119841f5632d642a0013c2a528"), looks := false }, kinds := [], alts := [], laidByText := true, laidKinds := [.data, .data, .data, .data, .pinned, .pinned], laidTests := true, laidLooks := .later }
def BodyChunksCardSaid : Prop := Claim7.holds Tryd.pinned (.plain (OpenSpec.ofChange bodyChunksSpec)) bodyChunksCard

/-- THE TIED CARD OF 'portcullislaw20.BodyWhole'. -/
def bodyWholeCard : Claim7 := { stood := { row := bodyWholeRow, standIns := [], harness := (true, "7dd96fa4c01e7cc7810f24bbd77ae5fce3c28a119841f5632d642a0013c2a528"), looks := false }, kinds := [], alts := [], laidByText := true, laidKinds := [.data, .data, .data, .data, .pinned, .pinned], laidTests := true, laidLooks := .later }
def BodyWholeCardSaid : Prop := Claim7.holds Tryd.pinned (.plain (OpenSpec.ofChange bodyWholeSpec)) bodyWholeCard

/-- THE TIED CARD OF 'portcullislaw20.BodyReads'. -/
def bodyReadsCard : Claim7 := { stood := { row := bodyReadsRow, standIns := [], harness := (true, "7dd96fa4c01e7cc7810f24bbd77ae5fce3c28a119841f5632d642a0013c2a528"), looks := false }, kinds := [], alts := [], laidByText := true, laidKinds := [.data, .data, .data, .data, .pinned, .pinned], laidTests := true, laidLooks := .later }
def BodyReadsCardSaid : Prop := Claim7.holds Tryd.pinned (.plain (OpenSpec.ofChange bodyReadsSpec)) bodyReadsCard

/-- THE TIED CARD OF 'portcullislaw20.BodyNil'. -/
def bodyNilCard : Claim7 := { stood := { row := bodyNilRow, standIns := [], harness := (true, "7dd96fa4c01e7cc7810f24bbd77ae5fce3c28a119841f5632d642a0013c2a528"), looks := false }, kinds := [], alts := [], laidByText := true, laidKinds := [.data, .data, .data, .data, .pinned, .pinned], laidTests := true, laidLooks := .later }
def BodyNilCardSaid : Prop := Claim7.holds Tryd.pinned (.plain (OpenSpec.ofChange bodyNilSpec)) bodyNilCard

/-- THE SECOND FORM's CARD OF 'portcullislaw20.BodyChunks'. -/
def bodyChunksUptoCard : Claim7 := { stood := { row := bodyChunksUptoRow, standIns := [], harness := (true, "7dd96fa4c01e7cc7810f24bbd77ae5fce3c28a119841f5632d642a0013c2a528"), looks := false }, kinds := [], alts := [], laidByText := true, laidKinds := [.data, .data, .data, .data, .pinned, .pinned], laidTests := true, laidLooks := .later }
def BodyChunksUptoCardSaid : Prop := Claim7.holds Tryd.pinned (.plain (OpenSpec.upto bodyChunksSpec)) bodyChunksUptoCard

/-- THE SECOND FORM's CARD OF 'portcullislaw20.BodyWhole'. -/
def bodyWholeUptoCard : Claim7 := { stood := { row := bodyWholeUptoRow, standIns := [], harness := (true, "7dd96fa4c01e7cc7810f24bbd77ae5fce3c28a119841f5632d642a0013c2a528"), looks := false }, kinds := [], alts := [], laidByText := true, laidKinds := [.data, .data, .data, .data, .pinned, .pinned], laidTests := true, laidLooks := .later }
def BodyWholeUptoCardSaid : Prop := Claim7.holds Tryd.pinned (.plain (OpenSpec.upto bodyWholeSpec)) bodyWholeUptoCard

/-- THE SECOND FORM's CARD OF 'portcullislaw20.BodyReads'. -/
def bodyReadsUptoCard : Claim7 := { stood := { row := bodyReadsUptoRow, standIns := [], harness := (true, "7dd96fa4c01e7cc7810f24bbd77ae5fce3c28a119841f5632d642a0013c2a528"), looks := false }, kinds := [], alts := [], laidByText := true, laidKinds := [.data, .data, .data, .data, .pinned, .pinned], laidTests := true, laidLooks := .later }
def BodyReadsUptoCardSaid : Prop := Claim7.holds Tryd.pinned (.plain (OpenSpec.upto bodyReadsSpec)) bodyReadsUptoCard

/-- THE SECOND FORM's CARD OF 'portcullislaw20.BodyNil'. -/
def bodyNilUptoCard : Claim7 := { stood := { row := bodyNilUptoRow, standIns := [], harness := (true, "7dd96fa4c01e7cc7810f24bbd77ae5fce3c28a119841f5632d642a0013c2a528"), looks := false }, kinds := [], alts := [], laidByText := true, laidKinds := [.data, .data, .data, .data, .pinned, .pinned], laidTests := true, laidLooks := .later }
def BodyNilUptoCardSaid : Prop := Claim7.holds Tryd.pinned (.plain (OpenSpec.upto bodyNilSpec)) bodyNilUptoCard
end Rows
end Go.Proofs.YtllcfifeaacmiaaDoor
