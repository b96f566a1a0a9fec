/-
  NARROWER THAN 'FOR EVERY INPUT', by the rows' own cells (each row's printed sentence says how): VfsLinked: laid · VfsRenamed: laid · VfsScript: laid · VfsErrors: laid.
  DERIVED. THE GIVEN ROWS OF THIS SEAT. 4 by the template 'for every input the law returns true; each argument reads behind the call as it read before'; 0 by the template 'total and deterministic' (their statements: YtchnjfmimpikcaaGreatDoorTotals.lean).
  GIVEN WITH THE SEED: the statements are not yours to turn. If you find one false, say at which input.
  Laid BY PROGRAM, IN A SANDBOX (cutbox-rows.mjs): the forced cells as the released guide's own fill.sh prints them over the translation 8697114e6a9635ef… (all of the seat's roots in one cut). By AI agents, Wed Nov 11 2026. No macro, syntax, notation, axiom, sorry.
-/
import Derived.Test.YtchnjfmimpikcaaGreatDoorChecked
import GoSem.PinnedTables
import GoSem.Claim
import GoSem.ClaimJoined
import GoSem.ClaimMapViews
import Derived.JoinedTies
import Derived.KernelRfl
namespace Go.Proofs.YtchnjfmimpikcaaGreatDoor
/- THE CELL 'sum', in the pinned program and in every row, IS THE sha256 OF THE DUMP (.gsa) THAT YtchnjfmimpikcaaGreatDoorProg.lean LOADS. Nothing in Lean hashes anything: it is a label: what it is worth is what the hold of that sum in a sandbox is worth. -/
noncomputable def Tryz.pinned : Pinned := { name := "ytchnjfmimpikcaagreatdoor", sum := "8697114e6a9635ef7078bc6db0d1d120e82c7462a9a5b5f5eef2830167821ecf", checked := Tryz.checked }
namespace Rows
def none {H : Type} : Left H := { results := [], args := [] }

/- WHAT THE LISTED PACKAGE-LEVEL VARIABLES READ AS WHEN THE CALL BEGINS. Each datum BY PROGRAM (the guide's laid-datum.mjs) off the statement by which the dump's own 'gosem.cut.vars' lays the variable. In a bare row this is a premise. The card (YtchnjfmimpikcaaGreatDoorCards.lean) ties it to the program's text. -/
def laid_unicode_utf8_acceptRanges {H : Type} : DataW H := .agg [.agg [.lit (.int .u8 128), .lit (.int .u8 191)], .agg [.lit (.int .u8 160), .lit (.int .u8 191)], .agg [.lit (.int .u8 128), .lit (.int .u8 159)], .agg [.lit (.int .u8 144), .lit (.int .u8 191)], .agg [.lit (.int .u8 128), .lit (.int .u8 143)], .agg [.lit (.int .u8 0), .lit (.int .u8 0)], .agg [.lit (.int .u8 0), .lit (.int .u8 0)], .agg [.lit (.int .u8 0), .lit (.int .u8 0)], .agg [.lit (.int .u8 0), .lit (.int .u8 0)], .agg [.lit (.int .u8 0), .lit (.int .u8 0)], .agg [.lit (.int .u8 0), .lit (.int .u8 0)], .agg [.lit (.int .u8 0), .lit (.int .u8 0)], .agg [.lit (.int .u8 0), .lit (.int .u8 0)], .agg [.lit (.int .u8 0), .lit (.int .u8 0)], .agg [.lit (.int .u8 0), .lit (.int .u8 0)], .agg [.lit (.int .u8 0), .lit (.int .u8 0)]]
/-- One of Go's own tables, pinned by name: the form's constant. -/
def laid_unicode_utf8_first : DataW Unit := Go.Pinned.utf8First

/-- 'coxswainlaw22.VfsLinked': WHATEVER THE INPUT: true; the input reads as it did. -/
def vfsLinkedSpec : ChangeSpec := { name := "vfsLinked", fn := fun _ => fun
  | [d1, d2, d3, d4] => { results := [.lit (.bool true)], args := [d1, d2, d3, d4] }
  | _ => none }
def vfsLinkedRow : OpenClaim := { program := "ytchnjfmimpikcaagreatdoor", sum := "8697114e6a9635ef7078bc6db0d1d120e82c7462a9a5b5f5eef2830167821ecf", func := "coxswain/coxswainlaw22.VfsLinked", spec := "vfsLinked", inPlace := ["internal/bytealg.IndexByteString", "slices.overlaps[coxswain/api.Entry]", "internal/bytealg.CountString", "internal/bytealg.IndexString", "internal/abi.NoEscape", "internal/bytealg.MakeNoZero"], unfollowed := true, recurses := true, named := ["unicode/utf8.first", "unicode/utf8.acceptRanges", "internal/bytealg.MaxLen"], apart := false, laid := [("unicode/utf8.acceptRanges", laid_unicode_utf8_acceptRanges), ("unicode/utf8.first", laid_unicode_utf8_first)] }
def VfsLinkedSaid : Prop := vfsLinkedRow.holds Tryz.pinned (OpenSpec.ofChange vfsLinkedSpec)

/-- ITS FALSE NEIGHBOUR: 'it returns false'. Refute it at one input. -/
def vfsLinkedWrong : ChangeSpec := { name := "vfsLinked", fn := fun _ => fun
  | [d1, d2, d3, d4] => { results := [.lit (.bool false)], args := [d1, d2, d3, d4] }
  | _ => none }
def VfsLinkedWrongFalsely : Prop := vfsLinkedRow.holds Tryz.pinned (OpenSpec.ofChange vfsLinkedWrong)

/-- 'coxswainlaw22.VfsRenamed': WHATEVER THE INPUT: true; the input reads as it did. -/
def vfsRenamedSpec : ChangeSpec := { name := "vfsRenamed", fn := fun _ => fun
  | [d1, d2, d3] => { results := [.lit (.bool true)], args := [d1, d2, d3] }
  | _ => none }
def vfsRenamedRow : OpenClaim := { program := "ytchnjfmimpikcaagreatdoor", sum := "8697114e6a9635ef7078bc6db0d1d120e82c7462a9a5b5f5eef2830167821ecf", func := "coxswain/coxswainlaw22.VfsRenamed", spec := "vfsRenamed", inPlace := ["internal/bytealg.IndexByteString", "slices.overlaps[coxswain/api.Entry]", "internal/bytealg.CountString", "internal/bytealg.IndexString", "internal/abi.NoEscape", "internal/bytealg.MakeNoZero"], unfollowed := true, recurses := true, named := ["unicode/utf8.first", "unicode/utf8.acceptRanges", "internal/bytealg.MaxLen"], apart := false, laid := [("unicode/utf8.acceptRanges", laid_unicode_utf8_acceptRanges), ("unicode/utf8.first", laid_unicode_utf8_first)] }
def VfsRenamedSaid : Prop := vfsRenamedRow.holds Tryz.pinned (OpenSpec.ofChange vfsRenamedSpec)

/-- ITS FALSE NEIGHBOUR: 'it returns false'. Refute it at one input. -/
def vfsRenamedWrong : ChangeSpec := { name := "vfsRenamed", fn := fun _ => fun
  | [d1, d2, d3] => { results := [.lit (.bool false)], args := [d1, d2, d3] }
  | _ => none }
def VfsRenamedWrongFalsely : Prop := vfsRenamedRow.holds Tryz.pinned (OpenSpec.ofChange vfsRenamedWrong)

/-- 'coxswainlaw22.VfsScript': WHATEVER THE INPUT: true; the input reads as it did. -/
def vfsScriptSpec : ChangeSpec := { name := "vfsScript", fn := fun _ => fun
  | [d] => { results := [.lit (.bool true)], args := [d] }
  | _ => none }
def vfsScriptRow : OpenClaim := { program := "ytchnjfmimpikcaagreatdoor", sum := "8697114e6a9635ef7078bc6db0d1d120e82c7462a9a5b5f5eef2830167821ecf", func := "coxswain/coxswainlaw22.VfsScript", spec := "vfsScript", inPlace := ["internal/bytealg.IndexByteString", "slices.overlaps[coxswain/api.Entry]", "internal/bytealg.CountString", "internal/bytealg.IndexString", "internal/abi.NoEscape", "internal/bytealg.MakeNoZero"], unfollowed := true, recurses := true, named := ["unicode/utf8.first", "unicode/utf8.acceptRanges", "internal/bytealg.MaxLen"], apart := false, laid := [("unicode/utf8.acceptRanges", laid_unicode_utf8_acceptRanges), ("unicode/utf8.first", laid_unicode_utf8_first)] }
def VfsScriptSaid : Prop := vfsScriptRow.holds Tryz.pinned (OpenSpec.ofChange vfsScriptSpec)

/-- ITS FALSE NEIGHBOUR: 'it returns false'. Refute it at one input. -/
def vfsScriptWrong : ChangeSpec := { name := "vfsScript", fn := fun _ => fun
  | [d] => { results := [.lit (.bool false)], args := [d] }
  | _ => none }
def VfsScriptWrongFalsely : Prop := vfsScriptRow.holds Tryz.pinned (OpenSpec.ofChange vfsScriptWrong)

/-- 'coxswainlaw22.VfsErrors': WHATEVER THE INPUT: true; the input reads as it did. -/
def vfsErrorsSpec : ChangeSpec := { name := "vfsErrors", fn := fun _ => fun
  | [d1, d2] => { results := [.lit (.bool true)], args := [d1, d2] }
  | _ => none }
def vfsErrorsRow : OpenClaim := { program := "ytchnjfmimpikcaagreatdoor", sum := "8697114e6a9635ef7078bc6db0d1d120e82c7462a9a5b5f5eef2830167821ecf", func := "coxswain/coxswainlaw22.VfsErrors", spec := "vfsErrors", inPlace := ["internal/bytealg.IndexByteString", "slices.overlaps[coxswain/api.Entry]", "internal/bytealg.CountString", "internal/bytealg.IndexString", "internal/abi.NoEscape", "internal/bytealg.MakeNoZero"], unfollowed := true, recurses := true, named := ["unicode/utf8.first", "unicode/utf8.acceptRanges", "internal/bytealg.MaxLen"], apart := false, laid := [("unicode/utf8.acceptRanges", laid_unicode_utf8_acceptRanges), ("unicode/utf8.first", laid_unicode_utf8_first)] }
def VfsErrorsSaid : Prop := vfsErrorsRow.holds Tryz.pinned (OpenSpec.ofChange vfsErrorsSpec)

/-- ITS FALSE NEIGHBOUR: 'it returns false'. Refute it at one input. -/
def vfsErrorsWrong : ChangeSpec := { name := "vfsErrors", fn := fun _ => fun
  | [d1, d2] => { results := [.lit (.bool false)], args := [d1, d2] }
  | _ => none }
def VfsErrorsWrongFalsely : Prop := vfsErrorsRow.holds Tryz.pinned (OpenSpec.ofChange vfsErrorsWrong)

/- THE SECOND FORM. 'bulk': how many values and letters a reading holds, each counted each time it is reached (what is shared counts as often as it is met; a slice's spare places count too). A statement '..UptoSaid' is the law's where the arguments, and the package variables that the reading takes, are together of bulk at most 1048576: NARROWER than '..Said'. Prove '..Said' where nothing that the law and all that it calls make is longer than what came in: it says more and counts as full. Else prove '..UptoSaid'. A law counts once. -/
mutual
def uptoBulk {H : Type} : DataW H → Nat
  | .lit (.string bytes) => bytes.length + 1
  | .lit _ => 1
  | .nil => 1
  | .ptr d => uptoBulk d + 1
  | .slice elems spare => uptoBulkAll elems + uptoBulkAll spare + 1
  | .agg parts => uptoBulkAll parts + 1
  | .iface _ d => uptoBulk d + 1
  | .map entries => uptoBulkEntries entries + 1
  | .held _ => 1
def uptoBulkAll {H : Type} : List (DataW H) → Nat
  | [] => 0
  | d :: r => uptoBulk d + uptoBulkAll r
def uptoBulkEntries {H : Type} : List (Lit × DataW H) → Nat
  | [] => 0
  | x :: r => uptoBulkEntry x + uptoBulkEntries r
def uptoBulkEntry {H : Type} : Lit × DataW H → Nat
  | (.string bytes, d) => bytes.length + uptoBulk d + 1
  | (_, d) => uptoBulk d + 1
 end
def uptoSmall : (H : Type) → List (DataW H) → Bool := fun _ ds => decide (uptoBulkAll ds ≤ 1048576)
def OpenSpec.upto (s : _root_.Go.ChangeSpec) : _root_.Go.OpenSpec := { _root_.Go.OpenSpec.ofChange s with cond := some uptoSmall }

/-- 'coxswainlaw22.VfsLinked', WHERE WHAT IT READS IS OF BULK AT MOST 1048576: true; the input reads as it did. -/
def vfsLinkedUptoRow : OpenClaim := { program := "ytchnjfmimpikcaagreatdoor", sum := "8697114e6a9635ef7078bc6db0d1d120e82c7462a9a5b5f5eef2830167821ecf", func := "coxswain/coxswainlaw22.VfsLinked", spec := "vfsLinked", inPlace := ["internal/bytealg.IndexByteString", "slices.overlaps[coxswain/api.Entry]", "internal/bytealg.CountString", "internal/bytealg.IndexString", "internal/abi.NoEscape", "internal/bytealg.MakeNoZero"], unfollowed := true, recurses := true, named := ["unicode/utf8.first", "unicode/utf8.acceptRanges", "internal/bytealg.MaxLen"], apart := false, laid := [("unicode/utf8.acceptRanges", laid_unicode_utf8_acceptRanges), ("unicode/utf8.first", laid_unicode_utf8_first)], narrowed := true }
def VfsLinkedUptoSaid : Prop := vfsLinkedUptoRow.holds Tryz.pinned (OpenSpec.upto vfsLinkedSpec)

/-- 'coxswainlaw22.VfsRenamed', WHERE WHAT IT READS IS OF BULK AT MOST 1048576: true; the input reads as it did. -/
def vfsRenamedUptoRow : OpenClaim := { program := "ytchnjfmimpikcaagreatdoor", sum := "8697114e6a9635ef7078bc6db0d1d120e82c7462a9a5b5f5eef2830167821ecf", func := "coxswain/coxswainlaw22.VfsRenamed", spec := "vfsRenamed", inPlace := ["internal/bytealg.IndexByteString", "slices.overlaps[coxswain/api.Entry]", "internal/bytealg.CountString", "internal/bytealg.IndexString", "internal/abi.NoEscape", "internal/bytealg.MakeNoZero"], unfollowed := true, recurses := true, named := ["unicode/utf8.first", "unicode/utf8.acceptRanges", "internal/bytealg.MaxLen"], apart := false, laid := [("unicode/utf8.acceptRanges", laid_unicode_utf8_acceptRanges), ("unicode/utf8.first", laid_unicode_utf8_first)], narrowed := true }
def VfsRenamedUptoSaid : Prop := vfsRenamedUptoRow.holds Tryz.pinned (OpenSpec.upto vfsRenamedSpec)

/-- 'coxswainlaw22.VfsScript', WHERE WHAT IT READS IS OF BULK AT MOST 1048576: true; the input reads as it did. -/
def vfsScriptUptoRow : OpenClaim := { program := "ytchnjfmimpikcaagreatdoor", sum := "8697114e6a9635ef7078bc6db0d1d120e82c7462a9a5b5f5eef2830167821ecf", func := "coxswain/coxswainlaw22.VfsScript", spec := "vfsScript", inPlace := ["internal/bytealg.IndexByteString", "slices.overlaps[coxswain/api.Entry]", "internal/bytealg.CountString", "internal/bytealg.IndexString", "internal/abi.NoEscape", "internal/bytealg.MakeNoZero"], unfollowed := true, recurses := true, named := ["unicode/utf8.first", "unicode/utf8.acceptRanges", "internal/bytealg.MaxLen"], apart := false, laid := [("unicode/utf8.acceptRanges", laid_unicode_utf8_acceptRanges), ("unicode/utf8.first", laid_unicode_utf8_first)], narrowed := true }
def VfsScriptUptoSaid : Prop := vfsScriptUptoRow.holds Tryz.pinned (OpenSpec.upto vfsScriptSpec)

/-- 'coxswainlaw22.VfsErrors', WHERE WHAT IT READS IS OF BULK AT MOST 1048576: true; the input reads as it did. -/
def vfsErrorsUptoRow : OpenClaim := { program := "ytchnjfmimpikcaagreatdoor", sum := "8697114e6a9635ef7078bc6db0d1d120e82c7462a9a5b5f5eef2830167821ecf", func := "coxswain/coxswainlaw22.VfsErrors", spec := "vfsErrors", inPlace := ["internal/bytealg.IndexByteString", "slices.overlaps[coxswain/api.Entry]", "internal/bytealg.CountString", "internal/bytealg.IndexString", "internal/abi.NoEscape", "internal/bytealg.MakeNoZero"], unfollowed := true, recurses := true, named := ["unicode/utf8.first", "unicode/utf8.acceptRanges", "internal/bytealg.MaxLen"], apart := false, laid := [("unicode/utf8.acceptRanges", laid_unicode_utf8_acceptRanges), ("unicode/utf8.first", laid_unicode_utf8_first)], narrowed := true }
def VfsErrorsUptoSaid : Prop := vfsErrorsUptoRow.holds Tryz.pinned (OpenSpec.upto vfsErrorsSpec)

end Rows
end Go.Proofs.YtchnjfmimpikcaaGreatDoor
