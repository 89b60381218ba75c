/-
  NARROWER THAN 'FOR EVERY INPUT', by the rows' own cells (each row's printed sentence says how): NormMakes: laid · NormRests: laid · NormKeeps: laid · NormJoins: laid.
  DERIVED. THE GIVEN ROWS OF THIS SEAT. 4 by the template 'for every input the law returns true; each argument reads behind the call as it read before'; 0 by the template 'total and deterministic' (their statements: YtanpephfnjnfoaaDoorTotals.lean).
  GIVEN WITH THE SEED: the statements are not yours to turn. If you find one false, say at which input.
  Laid BY PROGRAM, IN A SANDBOX (cutbox-rows.mjs): the forced cells as the released guide's own fill.sh prints them over the translation afab778cb4f1535d… (all of the seat's roots in one cut). By AI agents, Wed Nov 11 2026. No macro, syntax, notation, axiom, sorry.
-/
import Derived.Test.YtanpephfnjnfoaaDoorChecked
import GoSem.PinnedTables
import GoSem.Claim
import GoSem.ClaimJoined
import GoSem.ClaimMapViews
import Derived.JoinedTies
import Derived.KernelRfl
namespace Go.Proofs.YtanpephfnjnfoaaDoor
/- THE CELL 'sum', in the pinned program and in every row, IS THE sha256 OF THE DUMP (.gsa) THAT YtanpephfnjnfoaaDoorProg.lean LOADS. Nothing in Lean hashes anything: it is a label: what it is worth is what the hold of that sum in a sandbox is worth. -/
noncomputable def Tryd.pinned : Pinned := { name := "ytanpephfnjnfoaadoor", sum := "afab778cb4f1535dbd61146a9f3efdbb932f1bb830625b12228d2bf116aa8742", checked := Tryd.checked }
namespace Rows
def none {H : Type} : Left H := { results := [], args := [] }

/- WHAT THE LISTED PACKAGE-LEVEL VARIABLES READ AS WHEN THE CALL BEGINS. Each datum BY PROGRAM (the guide's laid-datum.mjs) off the statement by which the dump's own 'gosem.cut.vars' lays the variable. In a bare row this is a premise. The card (YtanpephfnjnfoaaDoorCards.lean) ties it to the program's text. -/
def laid_unicode_utf8_acceptRanges {H : Type} : DataW H := .agg [.agg [.lit (.int .u8 128), .lit (.int .u8 191)], .agg [.lit (.int .u8 160), .lit (.int .u8 191)], .agg [.lit (.int .u8 128), .lit (.int .u8 159)], .agg [.lit (.int .u8 144), .lit (.int .u8 191)], .agg [.lit (.int .u8 128), .lit (.int .u8 143)], .agg [.lit (.int .u8 0), .lit (.int .u8 0)], .agg [.lit (.int .u8 0), .lit (.int .u8 0)], .agg [.lit (.int .u8 0), .lit (.int .u8 0)], .agg [.lit (.int .u8 0), .lit (.int .u8 0)], .agg [.lit (.int .u8 0), .lit (.int .u8 0)], .agg [.lit (.int .u8 0), .lit (.int .u8 0)], .agg [.lit (.int .u8 0), .lit (.int .u8 0)], .agg [.lit (.int .u8 0), .lit (.int .u8 0)], .agg [.lit (.int .u8 0), .lit (.int .u8 0)], .agg [.lit (.int .u8 0), .lit (.int .u8 0)], .agg [.lit (.int .u8 0), .lit (.int .u8 0)]]
/-- One of Go's own tables, pinned by name: the form's constant. -/
def laid_unicode_utf8_first : DataW Unit := Go.Pinned.utf8First

/-- 'portcullislaw04.NormMakes': WHATEVER THE INPUT: true; the input reads as it did. -/
def normMakesSpec : ChangeSpec := { name := "normMakes", fn := fun _ => fun
  | [d1, d2] => { results := [.lit (.bool true)], args := [d1, d2] }
  | _ => none }
def normMakesRow : OpenClaim := { program := "ytanpephfnjnfoaadoor", sum := "afab778cb4f1535dbd61146a9f3efdbb932f1bb830625b12228d2bf116aa8742", func := "portcullis/portcullislaw04.NormMakes", spec := "normMakes", unfollowed := true, recurses := true, named := ["unicode/utf8.first", "unicode/utf8.acceptRanges"], apart := false, laid := [("unicode/utf8.acceptRanges", laid_unicode_utf8_acceptRanges), ("unicode/utf8.first", laid_unicode_utf8_first)] }
def NormMakesSaid : Prop := normMakesRow.holds Tryd.pinned (OpenSpec.ofChange normMakesSpec)

/-- ITS FALSE NEIGHBOUR: 'it returns false'. Refute it at one input. -/
def normMakesWrong : ChangeSpec := { name := "normMakes", fn := fun _ => fun
  | [d1, d2] => { results := [.lit (.bool false)], args := [d1, d2] }
  | _ => none }
def NormMakesWrongFalsely : Prop := normMakesRow.holds Tryd.pinned (OpenSpec.ofChange normMakesWrong)

/-- 'portcullislaw04.NormRests': WHATEVER THE INPUT: true; the input reads as it did. -/
def normRestsSpec : ChangeSpec := { name := "normRests", fn := fun _ => fun
  | [d] => { results := [.lit (.bool true)], args := [d] }
  | _ => none }
def normRestsRow : OpenClaim := { program := "ytanpephfnjnfoaadoor", sum := "afab778cb4f1535dbd61146a9f3efdbb932f1bb830625b12228d2bf116aa8742", func := "portcullis/portcullislaw04.NormRests", spec := "normRests", unfollowed := true, recurses := true, named := ["unicode/utf8.first", "unicode/utf8.acceptRanges"], apart := false, laid := [("unicode/utf8.acceptRanges", laid_unicode_utf8_acceptRanges), ("unicode/utf8.first", laid_unicode_utf8_first)] }
def NormRestsSaid : Prop := normRestsRow.holds Tryd.pinned (OpenSpec.ofChange normRestsSpec)

/-- ITS FALSE NEIGHBOUR: 'it returns false'. Refute it at one input. -/
def normRestsWrong : ChangeSpec := { name := "normRests", fn := fun _ => fun
  | [d] => { results := [.lit (.bool false)], args := [d] }
  | _ => none }
def NormRestsWrongFalsely : Prop := normRestsRow.holds Tryd.pinned (OpenSpec.ofChange normRestsWrong)

/-- 'portcullislaw04.NormKeeps': WHATEVER THE INPUT: true; the input reads as it did. -/
def normKeepsSpec : ChangeSpec := { name := "normKeeps", fn := fun _ => fun
  | [d] => { results := [.lit (.bool true)], args := [d] }
  | _ => none }
def normKeepsRow : OpenClaim := { program := "ytanpephfnjnfoaadoor", sum := "afab778cb4f1535dbd61146a9f3efdbb932f1bb830625b12228d2bf116aa8742", func := "portcullis/portcullislaw04.NormKeeps", spec := "normKeeps", unfollowed := true, recurses := true, named := ["unicode/utf8.first", "unicode/utf8.acceptRanges"], apart := false, laid := [("unicode/utf8.acceptRanges", laid_unicode_utf8_acceptRanges), ("unicode/utf8.first", laid_unicode_utf8_first)] }
def NormKeepsSaid : Prop := normKeepsRow.holds Tryd.pinned (OpenSpec.ofChange normKeepsSpec)

/-- ITS FALSE NEIGHBOUR: 'it returns false'. Refute it at one input. -/
def normKeepsWrong : ChangeSpec := { name := "normKeeps", fn := fun _ => fun
  | [d] => { results := [.lit (.bool false)], args := [d] }
  | _ => none }
def NormKeepsWrongFalsely : Prop := normKeepsRow.holds Tryd.pinned (OpenSpec.ofChange normKeepsWrong)

/-- 'portcullislaw04.NormJoins': WHATEVER THE INPUT: true; the input reads as it did. -/
def normJoinsSpec : ChangeSpec := { name := "normJoins", fn := fun _ => fun
  | [d1, d2] => { results := [.lit (.bool true)], args := [d1, d2] }
  | _ => none }
def normJoinsRow : OpenClaim := { program := "ytanpephfnjnfoaadoor", sum := "afab778cb4f1535dbd61146a9f3efdbb932f1bb830625b12228d2bf116aa8742", func := "portcullis/portcullislaw04.NormJoins", spec := "normJoins", unfollowed := true, recurses := true, named := ["unicode/utf8.first", "unicode/utf8.acceptRanges"], apart := false, laid := [("unicode/utf8.acceptRanges", laid_unicode_utf8_acceptRanges), ("unicode/utf8.first", laid_unicode_utf8_first)] }
def NormJoinsSaid : Prop := normJoinsRow.holds Tryd.pinned (OpenSpec.ofChange normJoinsSpec)

/-- ITS FALSE NEIGHBOUR: 'it returns false'. Refute it at one input. -/
def normJoinsWrong : ChangeSpec := { name := "normJoins", fn := fun _ => fun
  | [d1, d2] => { results := [.lit (.bool false)], args := [d1, d2] }
  | _ => none }
def NormJoinsWrongFalsely : Prop := normJoinsRow.holds Tryd.pinned (OpenSpec.ofChange normJoinsWrong)

/- THE SECOND FORM. 'bulk': how many values and letters a reading holds, each counted each time it is reached (what is shared counts as often as it is met; a slice's spare places count too). A statement '..UptoSaid' is the law's where the arguments, and the package variables that the reading takes, are together of bulk at most 1048576: NARROWER than '..Said'. Prove '..Said' where nothing that the law and all that it calls make is longer than what came in: it says more and counts as full. Else prove '..UptoSaid'. A law counts once. -/
mutual
def uptoBulk {H : Type} : DataW H → Nat
  | .lit (.string bytes) => bytes.length + 1
  | .lit _ => 1
  | .nil => 1
  | .ptr d => uptoBulk d + 1
  | .slice elems spare => uptoBulkAll elems + uptoBulkAll spare + 1
  | .agg parts => uptoBulkAll parts + 1
  | .iface _ d => uptoBulk d + 1
  | .map entries => uptoBulkEntries entries + 1
  | .held _ => 1
def uptoBulkAll {H : Type} : List (DataW H) → Nat
  | [] => 0
  | d :: r => uptoBulk d + uptoBulkAll r
def uptoBulkEntries {H : Type} : List (Lit × DataW H) → Nat
  | [] => 0
  | x :: r => uptoBulkEntry x + uptoBulkEntries r
def uptoBulkEntry {H : Type} : Lit × DataW H → Nat
  | (.string bytes, d) => bytes.length + uptoBulk d + 1
  | (_, d) => uptoBulk d + 1
 end
def uptoSmall : (H : Type) → List (DataW H) → Bool := fun _ ds => decide (uptoBulkAll ds ≤ 1048576)
def OpenSpec.upto (s : _root_.Go.ChangeSpec) : _root_.Go.OpenSpec := { _root_.Go.OpenSpec.ofChange s with cond := some uptoSmall }

/-- 'portcullislaw04.NormMakes', WHERE WHAT IT READS IS OF BULK AT MOST 1048576: true; the input reads as it did. -/
def normMakesUptoRow : OpenClaim := { program := "ytanpephfnjnfoaadoor", sum := "afab778cb4f1535dbd61146a9f3efdbb932f1bb830625b12228d2bf116aa8742", func := "portcullis/portcullislaw04.NormMakes", spec := "normMakes", unfollowed := true, recurses := true, named := ["unicode/utf8.first", "unicode/utf8.acceptRanges"], apart := false, laid := [("unicode/utf8.acceptRanges", laid_unicode_utf8_acceptRanges), ("unicode/utf8.first", laid_unicode_utf8_first)], narrowed := true }
def NormMakesUptoSaid : Prop := normMakesUptoRow.holds Tryd.pinned (OpenSpec.upto normMakesSpec)

/-- 'portcullislaw04.NormRests', WHERE WHAT IT READS IS OF BULK AT MOST 1048576: true; the input reads as it did. -/
def normRestsUptoRow : OpenClaim := { program := "ytanpephfnjnfoaadoor", sum := "afab778cb4f1535dbd61146a9f3efdbb932f1bb830625b12228d2bf116aa8742", func := "portcullis/portcullislaw04.NormRests", spec := "normRests", unfollowed := true, recurses := true, named := ["unicode/utf8.first", "unicode/utf8.acceptRanges"], apart := false, laid := [("unicode/utf8.acceptRanges", laid_unicode_utf8_acceptRanges), ("unicode/utf8.first", laid_unicode_utf8_first)], narrowed := true }
def NormRestsUptoSaid : Prop := normRestsUptoRow.holds Tryd.pinned (OpenSpec.upto normRestsSpec)

/-- 'portcullislaw04.NormKeeps', WHERE WHAT IT READS IS OF BULK AT MOST 1048576: true; the input reads as it did. -/
def normKeepsUptoRow : OpenClaim := { program := "ytanpephfnjnfoaadoor", sum := "afab778cb4f1535dbd61146a9f3efdbb932f1bb830625b12228d2bf116aa8742", func := "portcullis/portcullislaw04.NormKeeps", spec := "normKeeps", unfollowed := true, recurses := true, named := ["unicode/utf8.first", "unicode/utf8.acceptRanges"], apart := false, laid := [("unicode/utf8.acceptRanges", laid_unicode_utf8_acceptRanges), ("unicode/utf8.first", laid_unicode_utf8_first)], narrowed := true }
def NormKeepsUptoSaid : Prop := normKeepsUptoRow.holds Tryd.pinned (OpenSpec.upto normKeepsSpec)

/-- 'portcullislaw04.NormJoins', WHERE WHAT IT READS IS OF BULK AT MOST 1048576: true; the input reads as it did. -/
def normJoinsUptoRow : OpenClaim := { program := "ytanpephfnjnfoaadoor", sum := "afab778cb4f1535dbd61146a9f3efdbb932f1bb830625b12228d2bf116aa8742", func := "portcullis/portcullislaw04.NormJoins", spec := "normJoins", unfollowed := true, recurses := true, named := ["unicode/utf8.first", "unicode/utf8.acceptRanges"], apart := false, laid := [("unicode/utf8.acceptRanges", laid_unicode_utf8_acceptRanges), ("unicode/utf8.first", laid_unicode_utf8_first)], narrowed := true }
def NormJoinsUptoSaid : Prop := normJoinsUptoRow.holds Tryd.pinned (OpenSpec.upto normJoinsSpec)

end Rows
end Go.Proofs.YtanpephfnjnfoaaDoor
