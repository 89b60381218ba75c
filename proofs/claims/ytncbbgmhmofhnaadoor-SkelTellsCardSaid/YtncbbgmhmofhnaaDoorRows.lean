/-
  NARROWER THAN 'FOR EVERY INPUT', by the rows' own cells (each row's printed sentence says how): SkelRests: laid · SkelAlike: laid · SkelPlain: laid · SkelTells: laid · SkelLevels: laid.
  DERIVED. THE GIVEN ROWS OF THIS SEAT. 5 by the template 'for every input the law returns true; each argument reads behind the call as it read before'; 0 by the template 'total and deterministic' (their statements: YtncbbgmhmofhnaaDoorTotals.lean).
  GIVEN WITH THE SEED: the statements are not yours to turn. If you find one false, say at which input.
  Laid BY PROGRAM, IN A SANDBOX (cutbox-rows.mjs): the forced cells as the released guide's own fill.sh prints them over the translation 9814c869362c8455… (all of the seat's roots in one cut). By AI agents, Wed Nov 11 2026. No macro, syntax, notation, axiom, sorry.
-/
import Derived.Test.YtncbbgmhmofhnaaDoorChecked
import GoSem.PinnedTables
import GoSem.Claim
import GoSem.ClaimJoined
import GoSem.ClaimMapViews
import Derived.JoinedTies
import Derived.KernelRfl
namespace Go.Proofs.YtncbbgmhmofhnaaDoor
/- THE CELL 'sum', in the pinned program and in every row, IS THE sha256 OF THE DUMP (.gsa) THAT YtncbbgmhmofhnaaDoorProg.lean LOADS. Nothing in Lean hashes anything: it is a label: what it is worth is what the hold of that sum in a sandbox is worth. -/
noncomputable def Tryd.pinned : Pinned := { name := "ytncbbgmhmofhnaadoor", sum := "9814c869362c845523c9d78cdafa73813c62524b9ac93dd34e0874480f4218a6", checked := Tryd.checked }
namespace Rows
def none {H : Type} : Left H := { results := [], args := [] }

/- WHAT THE LISTED PACKAGE-LEVEL VARIABLES READ AS WHEN THE CALL BEGINS. Each datum BY PROGRAM (the guide's laid-datum.mjs) off the statement by which the dump's own 'gosem.cut.vars' lays the variable. In a bare row this is a premise. The card (YtncbbgmhmofhnaaDoorCards.lean) ties it to the program's text. -/
def laid_unicode_utf8_acceptRanges {H : Type} : DataW H := .agg [.agg [.lit (.int .u8 128), .lit (.int .u8 191)], .agg [.lit (.int .u8 160), .lit (.int .u8 191)], .agg [.lit (.int .u8 128), .lit (.int .u8 159)], .agg [.lit (.int .u8 144), .lit (.int .u8 191)], .agg [.lit (.int .u8 128), .lit (.int .u8 143)], .agg [.lit (.int .u8 0), .lit (.int .u8 0)], .agg [.lit (.int .u8 0), .lit (.int .u8 0)], .agg [.lit (.int .u8 0), .lit (.int .u8 0)], .agg [.lit (.int .u8 0), .lit (.int .u8 0)], .agg [.lit (.int .u8 0), .lit (.int .u8 0)], .agg [.lit (.int .u8 0), .lit (.int .u8 0)], .agg [.lit (.int .u8 0), .lit (.int .u8 0)], .agg [.lit (.int .u8 0), .lit (.int .u8 0)], .agg [.lit (.int .u8 0), .lit (.int .u8 0)], .agg [.lit (.int .u8 0), .lit (.int .u8 0)], .agg [.lit (.int .u8 0), .lit (.int .u8 0)]]
/-- One of Go's own tables, pinned by name: the form's constant. -/
def laid_unicode_utf8_first : DataW Unit := Go.Pinned.utf8First

/-- 'portcullislaw08.SkelRests': WHATEVER THE INPUT: true; the input reads as it did. -/
def skelRestsSpec : ChangeSpec := { name := "skelRests", fn := fun _ => fun
  | [d] => { results := [.lit (.bool true)], args := [d] }
  | _ => none }
def skelRestsRow : OpenClaim := { program := "ytncbbgmhmofhnaadoor", sum := "9814c869362c845523c9d78cdafa73813c62524b9ac93dd34e0874480f4218a6", func := "portcullis/portcullislaw08.SkelRests", spec := "skelRests", unfollowed := true, recurses := true, named := ["unicode/utf8.first", "unicode/utf8.acceptRanges"], apart := false, laid := [("unicode/utf8.acceptRanges", laid_unicode_utf8_acceptRanges), ("unicode/utf8.first", laid_unicode_utf8_first)] }
def SkelRestsSaid : Prop := skelRestsRow.holds Tryd.pinned (OpenSpec.ofChange skelRestsSpec)

/-- ITS FALSE NEIGHBOUR: 'it returns false'. Refute it at one input. -/
def skelRestsWrong : ChangeSpec := { name := "skelRests", fn := fun _ => fun
  | [d] => { results := [.lit (.bool false)], args := [d] }
  | _ => none }
def SkelRestsWrongFalsely : Prop := skelRestsRow.holds Tryd.pinned (OpenSpec.ofChange skelRestsWrong)

/-- 'portcullislaw08.SkelAlike': WHATEVER THE INPUT: true; the input reads as it did. -/
def skelAlikeSpec : ChangeSpec := { name := "skelAlike", fn := fun _ => fun
  | [d1, d2, d3] => { results := [.lit (.bool true)], args := [d1, d2, d3] }
  | _ => none }
def skelAlikeRow : OpenClaim := { program := "ytncbbgmhmofhnaadoor", sum := "9814c869362c845523c9d78cdafa73813c62524b9ac93dd34e0874480f4218a6", func := "portcullis/portcullislaw08.SkelAlike", spec := "skelAlike", unfollowed := true, recurses := true, named := ["unicode/utf8.first", "unicode/utf8.acceptRanges"], apart := false, laid := [("unicode/utf8.acceptRanges", laid_unicode_utf8_acceptRanges), ("unicode/utf8.first", laid_unicode_utf8_first)] }
def SkelAlikeSaid : Prop := skelAlikeRow.holds Tryd.pinned (OpenSpec.ofChange skelAlikeSpec)

/-- ITS FALSE NEIGHBOUR: 'it returns false'. Refute it at one input. -/
def skelAlikeWrong : ChangeSpec := { name := "skelAlike", fn := fun _ => fun
  | [d1, d2, d3] => { results := [.lit (.bool false)], args := [d1, d2, d3] }
  | _ => none }
def SkelAlikeWrongFalsely : Prop := skelAlikeRow.holds Tryd.pinned (OpenSpec.ofChange skelAlikeWrong)

/-- 'portcullislaw08.SkelPlain': WHATEVER THE INPUT: true; the input reads as it did. -/
def skelPlainSpec : ChangeSpec := { name := "skelPlain", fn := fun _ => fun
  | [d] => { results := [.lit (.bool true)], args := [d] }
  | _ => none }
def skelPlainRow : OpenClaim := { program := "ytncbbgmhmofhnaadoor", sum := "9814c869362c845523c9d78cdafa73813c62524b9ac93dd34e0874480f4218a6", func := "portcullis/portcullislaw08.SkelPlain", spec := "skelPlain", unfollowed := true, recurses := true, named := ["unicode/utf8.first", "unicode/utf8.acceptRanges"], apart := false, laid := [("unicode/utf8.acceptRanges", laid_unicode_utf8_acceptRanges), ("unicode/utf8.first", laid_unicode_utf8_first)] }
def SkelPlainSaid : Prop := skelPlainRow.holds Tryd.pinned (OpenSpec.ofChange skelPlainSpec)

/-- ITS FALSE NEIGHBOUR: 'it returns false'. Refute it at one input. -/
def skelPlainWrong : ChangeSpec := { name := "skelPlain", fn := fun _ => fun
  | [d] => { results := [.lit (.bool false)], args := [d] }
  | _ => none }
def SkelPlainWrongFalsely : Prop := skelPlainRow.holds Tryd.pinned (OpenSpec.ofChange skelPlainWrong)

/-- 'portcullislaw08.SkelTells': WHATEVER THE INPUT: true; the input reads as it did. -/
def skelTellsSpec : ChangeSpec := { name := "skelTells", fn := fun _ => fun
  | [d1, d2, d3] => { results := [.lit (.bool true)], args := [d1, d2, d3] }
  | _ => none }
def skelTellsRow : OpenClaim := { program := "ytncbbgmhmofhnaadoor", sum := "9814c869362c845523c9d78cdafa73813c62524b9ac93dd34e0874480f4218a6", func := "portcullis/portcullislaw08.SkelTells", spec := "skelTells", unfollowed := true, recurses := true, named := ["unicode/utf8.first", "unicode/utf8.acceptRanges"], apart := false, laid := [("unicode/utf8.acceptRanges", laid_unicode_utf8_acceptRanges), ("unicode/utf8.first", laid_unicode_utf8_first)] }
def SkelTellsSaid : Prop := skelTellsRow.holds Tryd.pinned (OpenSpec.ofChange skelTellsSpec)

/-- ITS FALSE NEIGHBOUR: 'it returns false'. Refute it at one input. -/
def skelTellsWrong : ChangeSpec := { name := "skelTells", fn := fun _ => fun
  | [d1, d2, d3] => { results := [.lit (.bool false)], args := [d1, d2, d3] }
  | _ => none }
def SkelTellsWrongFalsely : Prop := skelTellsRow.holds Tryd.pinned (OpenSpec.ofChange skelTellsWrong)

/-- 'portcullislaw08.SkelLevels': WHATEVER THE INPUT: true; the input reads as it did. -/
def skelLevelsSpec : ChangeSpec := { name := "skelLevels", fn := fun _ => fun
  | [d1, d2] => { results := [.lit (.bool true)], args := [d1, d2] }
  | _ => none }
def skelLevelsRow : OpenClaim := { program := "ytncbbgmhmofhnaadoor", sum := "9814c869362c845523c9d78cdafa73813c62524b9ac93dd34e0874480f4218a6", func := "portcullis/portcullislaw08.SkelLevels", spec := "skelLevels", unfollowed := true, recurses := true, named := ["unicode/utf8.first", "unicode/utf8.acceptRanges"], apart := false, laid := [("unicode/utf8.acceptRanges", laid_unicode_utf8_acceptRanges), ("unicode/utf8.first", laid_unicode_utf8_first)] }
def SkelLevelsSaid : Prop := skelLevelsRow.holds Tryd.pinned (OpenSpec.ofChange skelLevelsSpec)

/-- ITS FALSE NEIGHBOUR: 'it returns false'. Refute it at one input. -/
def skelLevelsWrong : ChangeSpec := { name := "skelLevels", fn := fun _ => fun
  | [d1, d2] => { results := [.lit (.bool false)], args := [d1, d2] }
  | _ => none }
def SkelLevelsWrongFalsely : Prop := skelLevelsRow.holds Tryd.pinned (OpenSpec.ofChange skelLevelsWrong)

/- THE SECOND FORM. 'bulk': how many values and letters a reading holds, each counted each time it is reached (what is shared counts as often as it is met; a slice's spare places count too). A statement '..UptoSaid' is the law's where the arguments, and the package variables that the reading takes, are together of bulk at most 1048576: NARROWER than '..Said'. Prove '..Said' where nothing that the law and all that it calls make is longer than what came in: it says more and counts as full. Else prove '..UptoSaid'. A law counts once. -/
mutual
def uptoBulk {H : Type} : DataW H → Nat
  | .lit (.string bytes) => bytes.length + 1
  | .lit _ => 1
  | .nil => 1
  | .ptr d => uptoBulk d + 1
  | .slice elems spare => uptoBulkAll elems + uptoBulkAll spare + 1
  | .agg parts => uptoBulkAll parts + 1
  | .iface _ d => uptoBulk d + 1
  | .map entries => uptoBulkEntries entries + 1
  | .held _ => 1
def uptoBulkAll {H : Type} : List (DataW H) → Nat
  | [] => 0
  | d :: r => uptoBulk d + uptoBulkAll r
def uptoBulkEntries {H : Type} : List (Lit × DataW H) → Nat
  | [] => 0
  | x :: r => uptoBulkEntry x + uptoBulkEntries r
def uptoBulkEntry {H : Type} : Lit × DataW H → Nat
  | (.string bytes, d) => bytes.length + uptoBulk d + 1
  | (_, d) => uptoBulk d + 1
 end
def uptoSmall : (H : Type) → List (DataW H) → Bool := fun _ ds => decide (uptoBulkAll ds ≤ 1048576)
def OpenSpec.upto (s : _root_.Go.ChangeSpec) : _root_.Go.OpenSpec := { _root_.Go.OpenSpec.ofChange s with cond := some uptoSmall }

/-- 'portcullislaw08.SkelRests', WHERE WHAT IT READS IS OF BULK AT MOST 1048576: true; the input reads as it did. -/
def skelRestsUptoRow : OpenClaim := { program := "ytncbbgmhmofhnaadoor", sum := "9814c869362c845523c9d78cdafa73813c62524b9ac93dd34e0874480f4218a6", func := "portcullis/portcullislaw08.SkelRests", spec := "skelRests", unfollowed := true, recurses := true, named := ["unicode/utf8.first", "unicode/utf8.acceptRanges"], apart := false, laid := [("unicode/utf8.acceptRanges", laid_unicode_utf8_acceptRanges), ("unicode/utf8.first", laid_unicode_utf8_first)], narrowed := true }
def SkelRestsUptoSaid : Prop := skelRestsUptoRow.holds Tryd.pinned (OpenSpec.upto skelRestsSpec)

/-- 'portcullislaw08.SkelAlike', WHERE WHAT IT READS IS OF BULK AT MOST 1048576: true; the input reads as it did. -/
def skelAlikeUptoRow : OpenClaim := { program := "ytncbbgmhmofhnaadoor", sum := "9814c869362c845523c9d78cdafa73813c62524b9ac93dd34e0874480f4218a6", func := "portcullis/portcullislaw08.SkelAlike", spec := "skelAlike", unfollowed := true, recurses := true, named := ["unicode/utf8.first", "unicode/utf8.acceptRanges"], apart := false, laid := [("unicode/utf8.acceptRanges", laid_unicode_utf8_acceptRanges), ("unicode/utf8.first", laid_unicode_utf8_first)], narrowed := true }
def SkelAlikeUptoSaid : Prop := skelAlikeUptoRow.holds Tryd.pinned (OpenSpec.upto skelAlikeSpec)

/-- 'portcullislaw08.SkelPlain', WHERE WHAT IT READS IS OF BULK AT MOST 1048576: true; the input reads as it did. -/
def skelPlainUptoRow : OpenClaim := { program := "ytncbbgmhmofhnaadoor", sum := "9814c869362c845523c9d78cdafa73813c62524b9ac93dd34e0874480f4218a6", func := "portcullis/portcullislaw08.SkelPlain", spec := "skelPlain", unfollowed := true, recurses := true, named := ["unicode/utf8.first", "unicode/utf8.acceptRanges"], apart := false, laid := [("unicode/utf8.acceptRanges", laid_unicode_utf8_acceptRanges), ("unicode/utf8.first", laid_unicode_utf8_first)], narrowed := true }
def SkelPlainUptoSaid : Prop := skelPlainUptoRow.holds Tryd.pinned (OpenSpec.upto skelPlainSpec)

/-- 'portcullislaw08.SkelTells', WHERE WHAT IT READS IS OF BULK AT MOST 1048576: true; the input reads as it did. -/
def skelTellsUptoRow : OpenClaim := { program := "ytncbbgmhmofhnaadoor", sum := "9814c869362c845523c9d78cdafa73813c62524b9ac93dd34e0874480f4218a6", func := "portcullis/portcullislaw08.SkelTells", spec := "skelTells", unfollowed := true, recurses := true, named := ["unicode/utf8.first", "unicode/utf8.acceptRanges"], apart := false, laid := [("unicode/utf8.acceptRanges", laid_unicode_utf8_acceptRanges), ("unicode/utf8.first", laid_unicode_utf8_first)], narrowed := true }
def SkelTellsUptoSaid : Prop := skelTellsUptoRow.holds Tryd.pinned (OpenSpec.upto skelTellsSpec)

/-- 'portcullislaw08.SkelLevels', WHERE WHAT IT READS IS OF BULK AT MOST 1048576: true; the input reads as it did. -/
def skelLevelsUptoRow : OpenClaim := { program := "ytncbbgmhmofhnaadoor", sum := "9814c869362c845523c9d78cdafa73813c62524b9ac93dd34e0874480f4218a6", func := "portcullis/portcullislaw08.SkelLevels", spec := "skelLevels", unfollowed := true, recurses := true, named := ["unicode/utf8.first", "unicode/utf8.acceptRanges"], apart := false, laid := [("unicode/utf8.acceptRanges", laid_unicode_utf8_acceptRanges), ("unicode/utf8.first", laid_unicode_utf8_first)], narrowed := true }
def SkelLevelsUptoSaid : Prop := skelLevelsUptoRow.holds Tryd.pinned (OpenSpec.upto skelLevelsSpec)

end Rows
end Go.Proofs.YtncbbgmhmofhnaaDoor
