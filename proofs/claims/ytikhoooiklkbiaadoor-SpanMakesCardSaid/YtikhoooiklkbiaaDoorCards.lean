/-
  DERIVED. GIVEN WITH THE SEED: THE CARDS: each row of YtikhoooiklkbiaaDoorRows.lean that lists a variable, with what it lists TIED to the program's text (the seventh form; the later family's looks); each row that meets fmt, with fmt's text TOLD by the authors' own Lean function (tested against real Go, not proved from fmt's source: count such statements apart). THE CARD IS WHAT COUNTS. Prove the row's statement (the work); the ties are given (YtikhoooiklkbiaaDoorTie.lean); close each card by the builder's one call (the guide's Derived/Test/ToyasCard.lean, 'card_holds'). Laid BY PROGRAM, IN A SANDBOX (cutbox-door.mjs). By AI agents, Wed Nov 11 2026. No macro, syntax, notation, axiom, sorry.
-/
import Derived.Test.YtikhoooiklkbiaaDoorRows
import GoSem.ClaimSeven
namespace Go.Proofs.YtikhoooiklkbiaaDoor
namespace Rows

/-- THE TIED CARD OF 'portcullislaw02.SpanTells'. -/
def spanTellsCard : Claim7 := { stood := { row := spanTellsRow, standIns := [], harness := (true, "6cb9fd25ae2458098cefbdd7dd4f13a63a8fc5e21f95102c35f033c2928711ca"), looks := false }, kinds := [], alts := [], laidByText := true, laidKinds := [.data, .data, .data], laidTests := true, laidLooks := .later }
def SpanTellsCardSaid : Prop := Claim7.holds Tryd.pinned (.plain (OpenSpec.ofChange spanTellsSpec)) spanTellsCard

/-- THE TIED CARD OF 'portcullislaw02.SpanBack'. -/
def spanBackCard : Claim7 := { stood := { row := spanBackRow, standIns := [], harness := (true, "6cb9fd25ae2458098cefbdd7dd4f13a63a8fc5e21f95102c35f033c2928711ca"), looks := false }, kinds := [], alts := [], laidByText := true, laidKinds := [.data, .data, .data], laidTests := true, laidLooks := .later }
def SpanBackCardSaid : Prop := Claim7.holds Tryd.pinned (.plain (OpenSpec.ofChange spanBackSpec)) spanBackCard

/-- THE TIED CARD OF 'portcullislaw02.SpanOne'. -/
def spanOneCard : Claim7 := { stood := { row := spanOneRow, standIns := [], harness := (true, "6cb9fd25ae2458098cefbdd7dd4f13a63a8fc5e21f95102c35f033c2928711ca"), looks := false }, kinds := [], alts := [], laidByText := true, laidKinds := [.data, .data, .data], laidTests := true, laidLooks := .later }
def SpanOneCardSaid : Prop := Claim7.holds Tryd.pinned (.plain (OpenSpec.ofChange spanOneSpec)) spanOneCard

/-- THE TIED CARD OF 'portcullislaw02.SpanMakes'. -/
def spanMakesCard : Claim7 := { stood := { row := spanMakesRow, standIns := [], harness := (true, "6cb9fd25ae2458098cefbdd7dd4f13a63a8fc5e21f95102c35f033c2928711ca"), looks := false }, kinds := [], alts := [], laidByText := true, laidKinds := [.data, .data, .data], laidTests := true, laidLooks := .later }
def SpanMakesCardSaid : Prop := Claim7.holds Tryd.pinned (.plain (OpenSpec.ofChange spanMakesSpec)) spanMakesCard

/-- THE TIED CARD OF 'portcullislaw02.SpanSets'. -/
def spanSetsCard : Claim7 := { stood := { row := spanSetsRow, standIns := [], harness := (true, "6cb9fd25ae2458098cefbdd7dd4f13a63a8fc5e21f95102c35f033c2928711ca"), looks := false }, kinds := [], alts := [], laidByText := true, laidKinds := [.data, .data, .data], laidTests := true, laidLooks := .later }
def SpanSetsCardSaid : Prop := Claim7.holds Tryd.pinned (.plain (OpenSpec.ofChange spanSetsSpec)) spanSetsCard

/-- THE SECOND FORM's CARD OF 'portcullislaw02.SpanTells'. -/
def spanTellsUptoCard : Claim7 := { stood := { row := spanTellsUptoRow, standIns := [], harness := (true, "6cb9fd25ae2458098cefbdd7dd4f13a63a8fc5e21f95102c35f033c2928711ca"), looks := false }, kinds := [], alts := [], laidByText := true, laidKinds := [.data, .data, .data], laidTests := true, laidLooks := .later }
def SpanTellsUptoCardSaid : Prop := Claim7.holds Tryd.pinned (.plain (OpenSpec.upto spanTellsSpec)) spanTellsUptoCard

/-- THE SECOND FORM's CARD OF 'portcullislaw02.SpanBack'. -/
def spanBackUptoCard : Claim7 := { stood := { row := spanBackUptoRow, standIns := [], harness := (true, "6cb9fd25ae2458098cefbdd7dd4f13a63a8fc5e21f95102c35f033c2928711ca"), looks := false }, kinds := [], alts := [], laidByText := true, laidKinds := [.data, .data, .data], laidTests := true, laidLooks := .later }
def SpanBackUptoCardSaid : Prop := Claim7.holds Tryd.pinned (.plain (OpenSpec.upto spanBackSpec)) spanBackUptoCard

/-- THE SECOND FORM's CARD OF 'portcullislaw02.SpanOne'. -/
def spanOneUptoCard : Claim7 := { stood := { row := spanOneUptoRow, standIns := [], harness := (true, "6cb9fd25ae2458098cefbdd7dd4f13a63a8fc5e21f95102c35f033c2928711ca"), looks := false }, kinds := [], alts := [], laidByText := true, laidKinds := [.data, .data, .data], laidTests := true, laidLooks := .later }
def SpanOneUptoCardSaid : Prop := Claim7.holds Tryd.pinned (.plain (OpenSpec.upto spanOneSpec)) spanOneUptoCard

/-- THE SECOND FORM's CARD OF 'portcullislaw02.SpanMakes'. -/
def spanMakesUptoCard : Claim7 := { stood := { row := spanMakesUptoRow, standIns := [], harness := (true, "6cb9fd25ae2458098cefbdd7dd4f13a63a8fc5e21f95102c35f033c2928711ca"), looks := false }, kinds := [], alts := [], laidByText := true, laidKinds := [.data, .data, .data], laidTests := true, laidLooks := .later }
def SpanMakesUptoCardSaid : Prop := Claim7.holds Tryd.pinned (.plain (OpenSpec.upto spanMakesSpec)) spanMakesUptoCard

/-- THE SECOND FORM's CARD OF 'portcullislaw02.SpanSets'. -/
def spanSetsUptoCard : Claim7 := { stood := { row := spanSetsUptoRow, standIns := [], harness := (true, "6cb9fd25ae2458098cefbdd7dd4f13a63a8fc5e21f95102c35f033c2928711ca"), looks := false }, kinds := [], alts := [], laidByText := true, laidKinds := [.data, .data, .data], laidTests := true, laidLooks := .later }
def SpanSetsUptoCardSaid : Prop := Claim7.holds Tryd.pinned (.plain (OpenSpec.upto spanSetsSpec)) spanSetsUptoCard
end Rows
end Go.Proofs.YtikhoooiklkbiaaDoor
