/-
  DERIVED. GIVEN WITH THE SEED: THE CARDS: each row of YtncbbgmhmofhnaaDoorRows.lean that lists a variable, with what it lists TIED to the program's text (the seventh form; the later family's looks); each row that meets fmt, with fmt's text TOLD by the authors' own Lean function (tested against real Go, not proved from fmt's source: count such statements apart). THE CARD IS WHAT COUNTS. Prove the row's statement (the work); the ties are given (YtncbbgmhmofhnaaDoorTie.lean); close each card by the builder's one call (the guide's Derived/Test/ToyasCard.lean, 'card_holds'). Laid BY PROGRAM, IN A SANDBOX (cutbox-door.mjs). By AI agents, Wed Nov 11 2026. No macro, syntax, notation, axiom, sorry.
-/
import Derived.Test.YtncbbgmhmofhnaaDoorRows
import GoSem.ClaimSeven
namespace Go.Proofs.YtncbbgmhmofhnaaDoor
namespace Rows

/-- THE TIED CARD OF 'portcullislaw08.SkelRests'. -/
def skelRestsCard : Claim7 := { stood := { row := skelRestsRow, standIns := [], harness := (true, "267516b4ab2d087fbc9eeeee4a9495d0b941ae58205b9f1b44e1a9183ad247df"), looks := false }, kinds := [], alts := [], laidByText := true, laidKinds := [.data, .pinned], laidTests := true, laidLooks := .later }
def SkelRestsCardSaid : Prop := Claim7.holds Tryd.pinned (.plain (OpenSpec.ofChange skelRestsSpec)) skelRestsCard

/-- THE TIED CARD OF 'portcullislaw08.SkelAlike'. -/
def skelAlikeCard : Claim7 := { stood := { row := skelAlikeRow, standIns := [], harness := (true, "267516b4ab2d087fbc9eeeee4a9495d0b941ae58205b9f1b44e1a9183ad247df"), looks := false }, kinds := [], alts := [], laidByText := true, laidKinds := [.data, .pinned], laidTests := true, laidLooks := .later }
def SkelAlikeCardSaid : Prop := Claim7.holds Tryd.pinned (.plain (OpenSpec.ofChange skelAlikeSpec)) skelAlikeCard

/-- THE TIED CARD OF 'portcullislaw08.SkelPlain'. -/
def skelPlainCard : Claim7 := { stood := { row := skelPlainRow, standIns := [], harness := (true, "267516b4ab2d087fbc9eeeee4a9495d0b941ae58205b9f1b44e1a9183ad247df"), looks := false }, kinds := [], alts := [], laidByText := true, laidKinds := [.data, .pinned], laidTests := true, laidLooks := .later }
def SkelPlainCardSaid : Prop := Claim7.holds Tryd.pinned (.plain (OpenSpec.ofChange skelPlainSpec)) skelPlainCard

/-- THE TIED CARD OF 'portcullislaw08.SkelTells'. -/
def skelTellsCard : Claim7 := { stood := { row := skelTellsRow, standIns := [], harness := (true, "267516b4ab2d087fbc9eeeee4a9495d0b941ae58205b9f1b44e1a9183ad247df"), looks := false }, kinds := [], alts := [], laidByText := true, laidKinds := [.data, .pinned], laidTests := true, laidLooks := .later }
def SkelTellsCardSaid : Prop := Claim7.holds Tryd.pinned (.plain (OpenSpec.ofChange skelTellsSpec)) skelTellsCard

/-- THE TIED CARD OF 'portcullislaw08.SkelLevels'. -/
def skelLevelsCard : Claim7 := { stood := { row := skelLevelsRow, standIns := [], harness := (true, "267516b4ab2d087fbc9eeeee4a9495d0b941ae58205b9f1b44e1a9183ad247df"), looks := false }, kinds := [], alts := [], laidByText := true, laidKinds := [.data, .pinned], laidTests := true, laidLooks := .later }
def SkelLevelsCardSaid : Prop := Claim7.holds Tryd.pinned (.plain (OpenSpec.ofChange skelLevelsSpec)) skelLevelsCard

/-- THE SECOND FORM's CARD OF 'portcullislaw08.SkelRests'. -/
def skelRestsUptoCard : Claim7 := { stood := { row := skelRestsUptoRow, standIns := [], harness := (true, "267516b4ab2d087fbc9eeeee4a9495d0b941ae58205b9f1b44e1a9183ad247df"), looks := false }, kinds := [], alts := [], laidByText := true, laidKinds := [.data, .pinned], laidTests := true, laidLooks := .later }
def SkelRestsUptoCardSaid : Prop := Claim7.holds Tryd.pinned (.plain (OpenSpec.upto skelRestsSpec)) skelRestsUptoCard

/-- THE SECOND FORM's CARD OF 'portcullislaw08.SkelAlike'. -/
def skelAlikeUptoCard : Claim7 := { stood := { row := skelAlikeUptoRow, standIns := [], harness := (true, "267516b4ab2d087fbc9eeeee4a9495d0b941ae58205b9f1b44e1a9183ad247df"), looks := false }, kinds := [], alts := [], laidByText := true, laidKinds := [.data, .pinned], laidTests := true, laidLooks := .later }
def SkelAlikeUptoCardSaid : Prop := Claim7.holds Tryd.pinned (.plain (OpenSpec.upto skelAlikeSpec)) skelAlikeUptoCard

/-- THE SECOND FORM's CARD OF 'portcullislaw08.SkelPlain'. -/
def skelPlainUptoCard : Claim7 := { stood := { row := skelPlainUptoRow, standIns := [], harness := (true, "267516b4ab2d087fbc9eeeee4a9495d0b941ae58205b9f1b44e1a9183ad247df"), looks := false }, kinds := [], alts := [], laidByText := true, laidKinds := [.data, .pinned], laidTests := true, laidLooks := .later }
def SkelPlainUptoCardSaid : Prop := Claim7.holds Tryd.pinned (.plain (OpenSpec.upto skelPlainSpec)) skelPlainUptoCard

/-- THE SECOND FORM's CARD OF 'portcullislaw08.SkelTells'. -/
def skelTellsUptoCard : Claim7 := { stood := { row := skelTellsUptoRow, standIns := [], harness := (true, "267516b4ab2d087fbc9eeeee4a9495d0b941ae58205b9f1b44e1a9183ad247df"), looks := false }, kinds := [], alts := [], laidByText := true, laidKinds := [.data, .pinned], laidTests := true, laidLooks := .later }
def SkelTellsUptoCardSaid : Prop := Claim7.holds Tryd.pinned (.plain (OpenSpec.upto skelTellsSpec)) skelTellsUptoCard

/-- THE SECOND FORM's CARD OF 'portcullislaw08.SkelLevels'. -/
def skelLevelsUptoCard : Claim7 := { stood := { row := skelLevelsUptoRow, standIns := [], harness := (true, "267516b4ab2d087fbc9eeeee4a9495d0b941ae58205b9f1b44e1a9183ad247df"), looks := false }, kinds := [], alts := [], laidByText := true, laidKinds := [.data, .pinned], laidTests := true, laidLooks := .later }
def SkelLevelsUptoCardSaid : Prop := Claim7.holds Tryd.pinned (.plain (OpenSpec.upto skelLevelsSpec)) skelLevelsUptoCard
end Rows
end Go.Proofs.YtncbbgmhmofhnaaDoor
