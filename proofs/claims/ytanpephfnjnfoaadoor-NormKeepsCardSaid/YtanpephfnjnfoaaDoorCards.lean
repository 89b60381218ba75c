/-
  DERIVED. GIVEN WITH THE SEED: THE CARDS: each row of YtanpephfnjnfoaaDoorRows.lean that lists a variable, with what it lists TIED to the program's text (the seventh form; the later family's looks); each row that meets fmt, with fmt's text TOLD by the authors' own Lean function (tested against real Go, not proved from fmt's source: count such statements apart). THE CARD IS WHAT COUNTS. Prove the row's statement (the work); the ties are given (YtanpephfnjnfoaaDoorTie.lean); close each card by the builder's one call (the guide's Derived/Test/ToyasCard.lean, 'card_holds'). Laid BY PROGRAM, IN A SANDBOX (cutbox-door.mjs). By AI agents, Wed Nov 11 2026. No macro, syntax, notation, axiom, sorry.
-/
import Derived.Test.YtanpephfnjnfoaaDoorRows
import GoSem.ClaimSeven
namespace Go.Proofs.YtanpephfnjnfoaaDoor
namespace Rows

/-- THE TIED CARD OF 'portcullislaw04.NormMakes'. -/
def normMakesCard : Claim7 := { stood := { row := normMakesRow, standIns := [], harness := (true, "9c0b372cebe075016b359bf89e5990f153102969b248e3209ecd169789270993"), looks := false }, kinds := [], alts := [], laidByText := true, laidKinds := [.data, .pinned], laidTests := true, laidLooks := .later }
def NormMakesCardSaid : Prop := Claim7.holds Tryd.pinned (.plain (OpenSpec.ofChange normMakesSpec)) normMakesCard

/-- THE TIED CARD OF 'portcullislaw04.NormRests'. -/
def normRestsCard : Claim7 := { stood := { row := normRestsRow, standIns := [], harness := (true, "9c0b372cebe075016b359bf89e5990f153102969b248e3209ecd169789270993"), looks := false }, kinds := [], alts := [], laidByText := true, laidKinds := [.data, .pinned], laidTests := true, laidLooks := .later }
def NormRestsCardSaid : Prop := Claim7.holds Tryd.pinned (.plain (OpenSpec.ofChange normRestsSpec)) normRestsCard

/-- THE TIED CARD OF 'portcullislaw04.NormKeeps'. -/
def normKeepsCard : Claim7 := { stood := { row := normKeepsRow, standIns := [], harness := (true, "9c0b372cebe075016b359bf89e5990f153102969b248e3209ecd169789270993"), looks := false }, kinds := [], alts := [], laidByText := true, laidKinds := [.data, .pinned], laidTests := true, laidLooks := .later }
def NormKeepsCardSaid : Prop := Claim7.holds Tryd.pinned (.plain (OpenSpec.ofChange normKeepsSpec)) normKeepsCard

/-- THE TIED CARD OF 'portcullislaw04.NormJoins'. -/
def normJoinsCard : Claim7 := { stood := { row := normJoinsRow, standIns := [], harness := (true, "9c0b372cebe075016b359bf89e5990f153102969b248e3209ecd169789270993"), looks := false }, kinds := [], alts := [], laidByText := true, laidKinds := [.data, .pinned], laidTests := true, laidLooks := .later }
def NormJoinsCardSaid : Prop := Claim7.holds Tryd.pinned (.plain (OpenSpec.ofChange normJoinsSpec)) normJoinsCard

/-- THE SECOND FORM's CARD OF 'portcullislaw04.NormMakes'. -/
def normMakesUptoCard : Claim7 := { stood := { row := normMakesUptoRow, standIns := [], harness := (true, "9c0b372cebe075016b359bf89e5990f153102969b248e3209ecd169789270993"), looks := false }, kinds := [], alts := [], laidByText := true, laidKinds := [.data, .pinned], laidTests := true, laidLooks := .later }
def NormMakesUptoCardSaid : Prop := Claim7.holds Tryd.pinned (.plain (OpenSpec.upto normMakesSpec)) normMakesUptoCard

/-- THE SECOND FORM's CARD OF 'portcullislaw04.NormRests'. -/
def normRestsUptoCard : Claim7 := { stood := { row := normRestsUptoRow, standIns := [], harness := (true, "9c0b372cebe075016b359bf89e5990f153102969b248e3209ecd169789270993"), looks := false }, kinds := [], alts := [], laidByText := true, laidKinds := [.data, .pinned], laidTests := true, laidLooks := .later }
def NormRestsUptoCardSaid : Prop := Claim7.holds Tryd.pinned (.plain (OpenSpec.upto normRestsSpec)) normRestsUptoCard

/-- THE SECOND FORM's CARD OF 'portcullislaw04.NormKeeps'. -/
def normKeepsUptoCard : Claim7 := { stood := { row := normKeepsUptoRow, standIns := [], harness := (true, "9c0b372cebe075016b359bf89e5990f153102969b248e3209ecd169789270993"), looks := false }, kinds := [], alts := [], laidByText := true, laidKinds := [.data, .pinned], laidTests := true, laidLooks := .later }
def NormKeepsUptoCardSaid : Prop := Claim7.holds Tryd.pinned (.plain (OpenSpec.upto normKeepsSpec)) normKeepsUptoCard

/-- THE SECOND FORM's CARD OF 'portcullislaw04.NormJoins'. -/
def normJoinsUptoCard : Claim7 := { stood := { row := normJoinsUptoRow, standIns := [], harness := (true, "9c0b372cebe075016b359bf89e5990f153102969b248e3209ecd169789270993"), looks := false }, kinds := [], alts := [], laidByText := true, laidKinds := [.data, .pinned], laidTests := true, laidLooks := .later }
def NormJoinsUptoCardSaid : Prop := Claim7.holds Tryd.pinned (.plain (OpenSpec.upto normJoinsSpec)) normJoinsUptoCard
end Rows
end Go.Proofs.YtanpephfnjnfoaaDoor
