/-
  No cell of these rows narrows 'for every input' (looked for: loops, veiled, ifaces, maps, wideKeys, modest, calm, conditions, laid).
  DERIVED. THE GIVEN ROWS OF THIS SEAT. 5 by the template 'for every input the law returns true; each argument reads behind the call as it read before'; 0 by the template 'total and deterministic' (their statements: YtkdhmdmmdbmeaaaTotals.lean).
  GIVEN WITH THE SEED: the statements are not yours to turn. If you find one false, say at which input.
  Laid BY PROGRAM, IN A SANDBOX (cutbox-rows.mjs): the forced cells as the released guide's own fill.sh prints them over the translation 867480cd90d694ea… (all of the seat's roots in one cut). By AI agents, Wed Nov 11 2026. No macro, syntax, notation, axiom, sorry.
-/
import Derived.Test.YtkdhmdmmdbmeaaaChecked
import GoSem.Claim
import GoSem.ClaimJoined
import GoSem.ClaimMapViews
import Derived.JoinedTies
import Derived.KernelRfl
namespace Go.Proofs.Ytkdhmdmmdbmeaaa
/- THE CELL 'sum', in the pinned program and in every row, IS THE sha256 OF THE DUMP (.gsa) THAT YtkdhmdmmdbmeaaaProg.lean LOADS. Nothing in Lean hashes anything: it is a label: what it is worth is what the hold of that sum in a sandbox is worth. -/
noncomputable def Try.pinned : Pinned := { name := "ytkdhmdmmdbmeaaa", sum := "867480cd90d694ea3e5e24be02710dc83fcc4f9c102264d6fff91767efce3d5e", checked := Try.checked }
namespace Rows
def none {H : Type} : Left H := { results := [], args := [] }

/-- 'portcullislaw03.DataRests': WHATEVER THE INPUT: true; the input reads as it did. -/
def dataRestsSpec : ChangeSpec := { name := "dataRests", fn := fun _ => fun
  | [d] => { results := [.lit (.bool true)], args := [d] }
  | _ => none }
def dataRestsRow : OpenClaim := { program := "ytkdhmdmmdbmeaaa", sum := "867480cd90d694ea3e5e24be02710dc83fcc4f9c102264d6fff91767efce3d5e", func := "portcullis/portcullislaw03.DataRests", spec := "dataRests", unfollowed := true, recurses := true, apart := false }
def DataRestsSaid : Prop := dataRestsRow.holds Try.pinned (OpenSpec.ofChange dataRestsSpec)

/-- ITS FALSE NEIGHBOUR: 'it returns false'. Refute it at one input. -/
def dataRestsWrong : ChangeSpec := { name := "dataRests", fn := fun _ => fun
  | [d] => { results := [.lit (.bool false)], args := [d] }
  | _ => none }
def DataRestsWrongFalsely : Prop := dataRestsRow.holds Try.pinned (OpenSpec.ofChange dataRestsWrong)

/-- 'portcullislaw03.DataScripts': WHATEVER THE INPUT: true; the input reads as it did. -/
def dataScriptsSpec : ChangeSpec := { name := "dataScripts", fn := fun _ => fun
  | [d] => { results := [.lit (.bool true)], args := [d] }
  | _ => none }
def dataScriptsRow : OpenClaim := { program := "ytkdhmdmmdbmeaaa", sum := "867480cd90d694ea3e5e24be02710dc83fcc4f9c102264d6fff91767efce3d5e", func := "portcullis/portcullislaw03.DataScripts", spec := "dataScripts", unfollowed := true, recurses := true, apart := false }
def DataScriptsSaid : Prop := dataScriptsRow.holds Try.pinned (OpenSpec.ofChange dataScriptsSpec)

/-- ITS FALSE NEIGHBOUR: 'it returns false'. Refute it at one input. -/
def dataScriptsWrong : ChangeSpec := { name := "dataScripts", fn := fun _ => fun
  | [d] => { results := [.lit (.bool false)], args := [d] }
  | _ => none }
def DataScriptsWrongFalsely : Prop := dataScriptsRow.holds Try.pinned (OpenSpec.ofChange dataScriptsWrong)

/-- 'portcullislaw03.DataPairs': WHATEVER THE INPUT: true; the input reads as it did. -/
def dataPairsSpec : ChangeSpec := { name := "dataPairs", fn := fun _ => fun
  | [d1, d2, d3] => { results := [.lit (.bool true)], args := [d1, d2, d3] }
  | _ => none }
def dataPairsRow : OpenClaim := { program := "ytkdhmdmmdbmeaaa", sum := "867480cd90d694ea3e5e24be02710dc83fcc4f9c102264d6fff91767efce3d5e", func := "portcullis/portcullislaw03.DataPairs", spec := "dataPairs", unfollowed := true, recurses := true, apart := false }
def DataPairsSaid : Prop := dataPairsRow.holds Try.pinned (OpenSpec.ofChange dataPairsSpec)

/-- ITS FALSE NEIGHBOUR: 'it returns false'. Refute it at one input. -/
def dataPairsWrong : ChangeSpec := { name := "dataPairs", fn := fun _ => fun
  | [d1, d2, d3] => { results := [.lit (.bool false)], args := [d1, d2, d3] }
  | _ => none }
def DataPairsWrongFalsely : Prop := dataPairsRow.holds Try.pinned (OpenSpec.ofChange dataPairsWrong)

/-- 'portcullislaw03.DataTells': WHATEVER THE INPUT: true; the input reads as it did. -/
def dataTellsSpec : ChangeSpec := { name := "dataTells", fn := fun _ => fun
  | [d1, d2] => { results := [.lit (.bool true)], args := [d1, d2] }
  | _ => none }
def dataTellsRow : OpenClaim := { program := "ytkdhmdmmdbmeaaa", sum := "867480cd90d694ea3e5e24be02710dc83fcc4f9c102264d6fff91767efce3d5e", func := "portcullis/portcullislaw03.DataTells", spec := "dataTells", unfollowed := true, recurses := true, apart := false }
def DataTellsSaid : Prop := dataTellsRow.holds Try.pinned (OpenSpec.ofChange dataTellsSpec)

/-- ITS FALSE NEIGHBOUR: 'it returns false'. Refute it at one input. -/
def dataTellsWrong : ChangeSpec := { name := "dataTells", fn := fun _ => fun
  | [d1, d2] => { results := [.lit (.bool false)], args := [d1, d2] }
  | _ => none }
def DataTellsWrongFalsely : Prop := dataTellsRow.holds Try.pinned (OpenSpec.ofChange dataTellsWrong)

/-- 'portcullislaw03.DataRange': WHATEVER THE INPUT: true; the input reads as it did. -/
def dataRangeSpec : ChangeSpec := { name := "dataRange", fn := fun _ => fun
  | [d1, d2] => { results := [.lit (.bool true)], args := [d1, d2] }
  | _ => none }
def dataRangeRow : OpenClaim := { program := "ytkdhmdmmdbmeaaa", sum := "867480cd90d694ea3e5e24be02710dc83fcc4f9c102264d6fff91767efce3d5e", func := "portcullis/portcullislaw03.DataRange", spec := "dataRange", unfollowed := true, recurses := true, apart := false }
def DataRangeSaid : Prop := dataRangeRow.holds Try.pinned (OpenSpec.ofChange dataRangeSpec)

/-- ITS FALSE NEIGHBOUR: 'it returns false'. Refute it at one input. -/
def dataRangeWrong : ChangeSpec := { name := "dataRange", fn := fun _ => fun
  | [d1, d2] => { results := [.lit (.bool false)], args := [d1, d2] }
  | _ => none }
def DataRangeWrongFalsely : Prop := dataRangeRow.holds Try.pinned (OpenSpec.ofChange dataRangeWrong)

/- THE SECOND FORM. 'bulk': how many values and letters a reading holds, each counted each time it is reached (what is shared counts as often as it is met; a slice's spare places count too). A statement '..UptoSaid' is the law's where the arguments, and the package variables that the reading takes, are together of bulk at most 1048576: NARROWER than '..Said'. Prove '..Said' where nothing that the law and all that it calls make is longer than what came in: it says more and counts as full. Else prove '..UptoSaid'. A law counts once. -/
mutual
def uptoBulk {H : Type} : DataW H → Nat
  | .lit (.string bytes) => bytes.length + 1
  | .lit _ => 1
  | .nil => 1
  | .ptr d => uptoBulk d + 1
  | .slice elems spare => uptoBulkAll elems + uptoBulkAll spare + 1
  | .agg parts => uptoBulkAll parts + 1
  | .iface _ d => uptoBulk d + 1
  | .map entries => uptoBulkEntries entries + 1
  | .held _ => 1
def uptoBulkAll {H : Type} : List (DataW H) → Nat
  | [] => 0
  | d :: r => uptoBulk d + uptoBulkAll r
def uptoBulkEntries {H : Type} : List (Lit × DataW H) → Nat
  | [] => 0
  | x :: r => uptoBulkEntry x + uptoBulkEntries r
def uptoBulkEntry {H : Type} : Lit × DataW H → Nat
  | (.string bytes, d) => bytes.length + uptoBulk d + 1
  | (_, d) => uptoBulk d + 1
 end
def uptoSmall : (H : Type) → List (DataW H) → Bool := fun _ ds => decide (uptoBulkAll ds ≤ 1048576)
def OpenSpec.upto (s : _root_.Go.ChangeSpec) : _root_.Go.OpenSpec := { _root_.Go.OpenSpec.ofChange s with cond := some uptoSmall }

/-- 'portcullislaw03.DataRests', WHERE WHAT IT READS IS OF BULK AT MOST 1048576: true; the input reads as it did. -/
def dataRestsUptoRow : OpenClaim := { program := "ytkdhmdmmdbmeaaa", sum := "867480cd90d694ea3e5e24be02710dc83fcc4f9c102264d6fff91767efce3d5e", func := "portcullis/portcullislaw03.DataRests", spec := "dataRests", unfollowed := true, recurses := true, apart := false, narrowed := true }
def DataRestsUptoSaid : Prop := dataRestsUptoRow.holds Try.pinned (OpenSpec.upto dataRestsSpec)

/-- 'portcullislaw03.DataScripts', WHERE WHAT IT READS IS OF BULK AT MOST 1048576: true; the input reads as it did. -/
def dataScriptsUptoRow : OpenClaim := { program := "ytkdhmdmmdbmeaaa", sum := "867480cd90d694ea3e5e24be02710dc83fcc4f9c102264d6fff91767efce3d5e", func := "portcullis/portcullislaw03.DataScripts", spec := "dataScripts", unfollowed := true, recurses := true, apart := false, narrowed := true }
def DataScriptsUptoSaid : Prop := dataScriptsUptoRow.holds Try.pinned (OpenSpec.upto dataScriptsSpec)

/-- 'portcullislaw03.DataPairs', WHERE WHAT IT READS IS OF BULK AT MOST 1048576: true; the input reads as it did. -/
def dataPairsUptoRow : OpenClaim := { program := "ytkdhmdmmdbmeaaa", sum := "867480cd90d694ea3e5e24be02710dc83fcc4f9c102264d6fff91767efce3d5e", func := "portcullis/portcullislaw03.DataPairs", spec := "dataPairs", unfollowed := true, recurses := true, apart := false, narrowed := true }
def DataPairsUptoSaid : Prop := dataPairsUptoRow.holds Try.pinned (OpenSpec.upto dataPairsSpec)

/-- 'portcullislaw03.DataTells', WHERE WHAT IT READS IS OF BULK AT MOST 1048576: true; the input reads as it did. -/
def dataTellsUptoRow : OpenClaim := { program := "ytkdhmdmmdbmeaaa", sum := "867480cd90d694ea3e5e24be02710dc83fcc4f9c102264d6fff91767efce3d5e", func := "portcullis/portcullislaw03.DataTells", spec := "dataTells", unfollowed := true, recurses := true, apart := false, narrowed := true }
def DataTellsUptoSaid : Prop := dataTellsUptoRow.holds Try.pinned (OpenSpec.upto dataTellsSpec)

/-- 'portcullislaw03.DataRange', WHERE WHAT IT READS IS OF BULK AT MOST 1048576: true; the input reads as it did. -/
def dataRangeUptoRow : OpenClaim := { program := "ytkdhmdmmdbmeaaa", sum := "867480cd90d694ea3e5e24be02710dc83fcc4f9c102264d6fff91767efce3d5e", func := "portcullis/portcullislaw03.DataRange", spec := "dataRange", unfollowed := true, recurses := true, apart := false, narrowed := true }
def DataRangeUptoSaid : Prop := dataRangeUptoRow.holds Try.pinned (OpenSpec.upto dataRangeSpec)

end Rows
end Go.Proofs.Ytkdhmdmmdbmeaaa
