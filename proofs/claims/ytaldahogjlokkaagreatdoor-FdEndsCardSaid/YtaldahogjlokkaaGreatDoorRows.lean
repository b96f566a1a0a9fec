/-
  NARROWER THAN 'FOR EVERY INPUT', by the rows' own cells (each row's printed sentence says how): FdAppends: laid · FdPieces: laid · FdShared: laid · FdLeast: laid · FdScript: laid · FdEnds: laid · FdNone: laid.
  DERIVED. THE GIVEN ROWS OF THIS SEAT. 7 by the template 'for every input the law returns true; each argument reads behind the call as it read before'; 0 by the template 'total and deterministic' (their statements: YtaldahogjlokkaaGreatDoorTotals.lean).
  GIVEN WITH THE SEED: the statements are not yours to turn. If you find one false, say at which input.
  Laid BY PROGRAM, IN A SANDBOX (cutbox-rows.mjs): the forced cells as the released guide's own fill.sh prints them over the translation b0bb4ea9f7e4f74a… (all of the seat's roots in one cut). By AI agents, Wed Nov 11 2026. No macro, syntax, notation, axiom, sorry.
-/
import Derived.Test.YtaldahogjlokkaaGreatDoorChecked
import GoSem.PinnedTables
import GoSem.Claim
import GoSem.ClaimJoined
import GoSem.ClaimMapViews
import Derived.JoinedTies
import Derived.KernelRfl
namespace Go.Proofs.YtaldahogjlokkaaGreatDoor
/- THE CELL 'sum', in the pinned program and in every row, IS THE sha256 OF THE DUMP (.gsa) THAT YtaldahogjlokkaaGreatDoorProg.lean LOADS. Nothing in Lean hashes anything: it is a label: what it is worth is what the hold of that sum in a sandbox is worth. -/
noncomputable def Tryz.pinned : Pinned := { name := "ytaldahogjlokkaagreatdoor", sum := "b0bb4ea9f7e4f74afa222727b9a8f6756f3960469adf3333d3daf1068d45e762", checked := Tryz.checked }
namespace Rows
def none {H : Type} : Left H := { results := [], args := [] }

/- WHAT THE LISTED PACKAGE-LEVEL VARIABLES READ AS WHEN THE CALL BEGINS. Each datum BY PROGRAM (the guide's laid-datum.mjs) off the statement by which the dump's own 'gosem.cut.vars' lays the variable. In a bare row this is a premise. The card (YtaldahogjlokkaaGreatDoorCards.lean) ties it to the program's text. -/
def laid_unicode_utf8_acceptRanges {H : Type} : DataW H := .agg [.agg [.lit (.int .u8 128), .lit (.int .u8 191)], .agg [.lit (.int .u8 160), .lit (.int .u8 191)], .agg [.lit (.int .u8 128), .lit (.int .u8 159)], .agg [.lit (.int .u8 144), .lit (.int .u8 191)], .agg [.lit (.int .u8 128), .lit (.int .u8 143)], .agg [.lit (.int .u8 0), .lit (.int .u8 0)], .agg [.lit (.int .u8 0), .lit (.int .u8 0)], .agg [.lit (.int .u8 0), .lit (.int .u8 0)], .agg [.lit (.int .u8 0), .lit (.int .u8 0)], .agg [.lit (.int .u8 0), .lit (.int .u8 0)], .agg [.lit (.int .u8 0), .lit (.int .u8 0)], .agg [.lit (.int .u8 0), .lit (.int .u8 0)], .agg [.lit (.int .u8 0), .lit (.int .u8 0)], .agg [.lit (.int .u8 0), .lit (.int .u8 0)], .agg [.lit (.int .u8 0), .lit (.int .u8 0)], .agg [.lit (.int .u8 0), .lit (.int .u8 0)]]
/-- One of Go's own tables, pinned by name: the form's constant. -/
def laid_unicode_utf8_first : DataW Unit := Go.Pinned.utf8First

/-- 'coxswainlaw24.FdAppends': WHATEVER THE INPUT: true; the input reads as it did. -/
def fdAppendsSpec : ChangeSpec := { name := "fdAppends", fn := fun _ => fun
  | [d1, d2] => { results := [.lit (.bool true)], args := [d1, d2] }
  | _ => none }
def fdAppendsRow : OpenClaim := { program := "ytaldahogjlokkaagreatdoor", sum := "b0bb4ea9f7e4f74afa222727b9a8f6756f3960469adf3333d3daf1068d45e762", func := "coxswain/coxswainlaw24.FdAppends", spec := "fdAppends", inPlace := ["internal/bytealg.CountString", "internal/bytealg.IndexByteString", "internal/bytealg.IndexString", "slices.overlaps[coxswain/api.Entry]", "internal/abi.NoEscape", "internal/bytealg.MakeNoZero"], unfollowed := true, recurses := true, named := ["unicode/utf8.first", "unicode/utf8.acceptRanges", "internal/bytealg.MaxLen"], apart := false, laid := [("unicode/utf8.acceptRanges", laid_unicode_utf8_acceptRanges), ("unicode/utf8.first", laid_unicode_utf8_first)] }
def FdAppendsSaid : Prop := fdAppendsRow.holds Tryz.pinned (OpenSpec.ofChange fdAppendsSpec)

/-- ITS FALSE NEIGHBOUR: 'it returns false'. Refute it at one input. -/
def fdAppendsWrong : ChangeSpec := { name := "fdAppends", fn := fun _ => fun
  | [d1, d2] => { results := [.lit (.bool false)], args := [d1, d2] }
  | _ => none }
def FdAppendsWrongFalsely : Prop := fdAppendsRow.holds Tryz.pinned (OpenSpec.ofChange fdAppendsWrong)

/-- 'coxswainlaw24.FdPieces': WHATEVER THE INPUT: true; the input reads as it did. -/
def fdPiecesSpec : ChangeSpec := { name := "fdPieces", fn := fun _ => fun
  | [d1, d2, d3, d4] => { results := [.lit (.bool true)], args := [d1, d2, d3, d4] }
  | _ => none }
def fdPiecesRow : OpenClaim := { program := "ytaldahogjlokkaagreatdoor", sum := "b0bb4ea9f7e4f74afa222727b9a8f6756f3960469adf3333d3daf1068d45e762", func := "coxswain/coxswainlaw24.FdPieces", spec := "fdPieces", inPlace := ["internal/bytealg.CountString", "internal/bytealg.IndexByteString", "internal/bytealg.IndexString", "slices.overlaps[coxswain/api.Entry]", "internal/abi.NoEscape", "internal/bytealg.MakeNoZero"], unfollowed := true, recurses := true, named := ["unicode/utf8.first", "unicode/utf8.acceptRanges", "internal/bytealg.MaxLen"], apart := false, laid := [("unicode/utf8.acceptRanges", laid_unicode_utf8_acceptRanges), ("unicode/utf8.first", laid_unicode_utf8_first)] }
def FdPiecesSaid : Prop := fdPiecesRow.holds Tryz.pinned (OpenSpec.ofChange fdPiecesSpec)

/-- ITS FALSE NEIGHBOUR: 'it returns false'. Refute it at one input. -/
def fdPiecesWrong : ChangeSpec := { name := "fdPieces", fn := fun _ => fun
  | [d1, d2, d3, d4] => { results := [.lit (.bool false)], args := [d1, d2, d3, d4] }
  | _ => none }
def FdPiecesWrongFalsely : Prop := fdPiecesRow.holds Tryz.pinned (OpenSpec.ofChange fdPiecesWrong)

/-- 'coxswainlaw24.FdShared': WHATEVER THE INPUT: true; the input reads as it did. -/
def fdSharedSpec : ChangeSpec := { name := "fdShared", fn := fun _ => fun
  | [d1, d2, d3] => { results := [.lit (.bool true)], args := [d1, d2, d3] }
  | _ => none }
def fdSharedRow : OpenClaim := { program := "ytaldahogjlokkaagreatdoor", sum := "b0bb4ea9f7e4f74afa222727b9a8f6756f3960469adf3333d3daf1068d45e762", func := "coxswain/coxswainlaw24.FdShared", spec := "fdShared", inPlace := ["internal/bytealg.CountString", "internal/bytealg.IndexByteString", "internal/bytealg.IndexString", "slices.overlaps[coxswain/api.Entry]", "internal/abi.NoEscape", "internal/bytealg.MakeNoZero"], unfollowed := true, recurses := true, named := ["unicode/utf8.first", "unicode/utf8.acceptRanges", "internal/bytealg.MaxLen"], apart := false, laid := [("unicode/utf8.acceptRanges", laid_unicode_utf8_acceptRanges), ("unicode/utf8.first", laid_unicode_utf8_first)] }
def FdSharedSaid : Prop := fdSharedRow.holds Tryz.pinned (OpenSpec.ofChange fdSharedSpec)

/-- ITS FALSE NEIGHBOUR: 'it returns false'. Refute it at one input. -/
def fdSharedWrong : ChangeSpec := { name := "fdShared", fn := fun _ => fun
  | [d1, d2, d3] => { results := [.lit (.bool false)], args := [d1, d2, d3] }
  | _ => none }
def FdSharedWrongFalsely : Prop := fdSharedRow.holds Tryz.pinned (OpenSpec.ofChange fdSharedWrong)

/-- 'coxswainlaw24.FdLeast': WHATEVER THE INPUT: true; the input reads as it did. -/
def fdLeastSpec : ChangeSpec := { name := "fdLeast", fn := fun _ => fun
  | [d] => { results := [.lit (.bool true)], args := [d] }
  | _ => none }
def fdLeastRow : OpenClaim := { program := "ytaldahogjlokkaagreatdoor", sum := "b0bb4ea9f7e4f74afa222727b9a8f6756f3960469adf3333d3daf1068d45e762", func := "coxswain/coxswainlaw24.FdLeast", spec := "fdLeast", inPlace := ["internal/bytealg.CountString", "internal/bytealg.IndexByteString", "internal/bytealg.IndexString", "slices.overlaps[coxswain/api.Entry]", "internal/abi.NoEscape", "internal/bytealg.MakeNoZero"], unfollowed := true, recurses := true, named := ["unicode/utf8.first", "unicode/utf8.acceptRanges", "internal/bytealg.MaxLen"], apart := false, laid := [("unicode/utf8.acceptRanges", laid_unicode_utf8_acceptRanges), ("unicode/utf8.first", laid_unicode_utf8_first)] }
def FdLeastSaid : Prop := fdLeastRow.holds Tryz.pinned (OpenSpec.ofChange fdLeastSpec)

/-- ITS FALSE NEIGHBOUR: 'it returns false'. Refute it at one input. -/
def fdLeastWrong : ChangeSpec := { name := "fdLeast", fn := fun _ => fun
  | [d] => { results := [.lit (.bool false)], args := [d] }
  | _ => none }
def FdLeastWrongFalsely : Prop := fdLeastRow.holds Tryz.pinned (OpenSpec.ofChange fdLeastWrong)

/-- 'coxswainlaw24.FdScript': WHATEVER THE INPUT: true; the input reads as it did. -/
def fdScriptSpec : ChangeSpec := { name := "fdScript", fn := fun _ => fun
  | [d] => { results := [.lit (.bool true)], args := [d] }
  | _ => none }
def fdScriptRow : OpenClaim := { program := "ytaldahogjlokkaagreatdoor", sum := "b0bb4ea9f7e4f74afa222727b9a8f6756f3960469adf3333d3daf1068d45e762", func := "coxswain/coxswainlaw24.FdScript", spec := "fdScript", inPlace := ["internal/bytealg.CountString", "internal/bytealg.IndexByteString", "internal/bytealg.IndexString", "slices.overlaps[coxswain/api.Entry]", "internal/abi.NoEscape", "internal/bytealg.MakeNoZero"], unfollowed := true, recurses := true, named := ["unicode/utf8.first", "unicode/utf8.acceptRanges", "internal/bytealg.MaxLen"], apart := false, laid := [("unicode/utf8.acceptRanges", laid_unicode_utf8_acceptRanges), ("unicode/utf8.first", laid_unicode_utf8_first)] }
def FdScriptSaid : Prop := fdScriptRow.holds Tryz.pinned (OpenSpec.ofChange fdScriptSpec)

/-- ITS FALSE NEIGHBOUR: 'it returns false'. Refute it at one input. -/
def fdScriptWrong : ChangeSpec := { name := "fdScript", fn := fun _ => fun
  | [d] => { results := [.lit (.bool false)], args := [d] }
  | _ => none }
def FdScriptWrongFalsely : Prop := fdScriptRow.holds Tryz.pinned (OpenSpec.ofChange fdScriptWrong)

/-- 'coxswainlaw24.FdEnds': WHATEVER THE INPUT: true; the input reads as it did. -/
def fdEndsSpec : ChangeSpec := { name := "fdEnds", fn := fun _ => fun
  | [d1, d2] => { results := [.lit (.bool true)], args := [d1, d2] }
  | _ => none }
def fdEndsRow : OpenClaim := { program := "ytaldahogjlokkaagreatdoor", sum := "b0bb4ea9f7e4f74afa222727b9a8f6756f3960469adf3333d3daf1068d45e762", func := "coxswain/coxswainlaw24.FdEnds", spec := "fdEnds", inPlace := ["internal/bytealg.CountString", "internal/bytealg.IndexByteString", "internal/bytealg.IndexString", "slices.overlaps[coxswain/api.Entry]", "internal/abi.NoEscape", "internal/bytealg.MakeNoZero"], unfollowed := true, recurses := true, named := ["unicode/utf8.first", "unicode/utf8.acceptRanges", "internal/bytealg.MaxLen"], apart := false, laid := [("unicode/utf8.acceptRanges", laid_unicode_utf8_acceptRanges), ("unicode/utf8.first", laid_unicode_utf8_first)] }
def FdEndsSaid : Prop := fdEndsRow.holds Tryz.pinned (OpenSpec.ofChange fdEndsSpec)

/-- ITS FALSE NEIGHBOUR: 'it returns false'. Refute it at one input. -/
def fdEndsWrong : ChangeSpec := { name := "fdEnds", fn := fun _ => fun
  | [d1, d2] => { results := [.lit (.bool false)], args := [d1, d2] }
  | _ => none }
def FdEndsWrongFalsely : Prop := fdEndsRow.holds Tryz.pinned (OpenSpec.ofChange fdEndsWrong)

/-- 'coxswainlaw24.FdNone': WHATEVER THE INPUT: true; the input reads as it did. -/
def fdNoneSpec : ChangeSpec := { name := "fdNone", fn := fun _ => fun
  | [d] => { results := [.lit (.bool true)], args := [d] }
  | _ => none }
def fdNoneRow : OpenClaim := { program := "ytaldahogjlokkaagreatdoor", sum := "b0bb4ea9f7e4f74afa222727b9a8f6756f3960469adf3333d3daf1068d45e762", func := "coxswain/coxswainlaw24.FdNone", spec := "fdNone", inPlace := ["internal/bytealg.CountString", "internal/bytealg.IndexByteString", "internal/bytealg.IndexString", "slices.overlaps[coxswain/api.Entry]", "internal/abi.NoEscape", "internal/bytealg.MakeNoZero"], unfollowed := true, recurses := true, named := ["unicode/utf8.first", "unicode/utf8.acceptRanges", "internal/bytealg.MaxLen"], apart := false, laid := [("unicode/utf8.acceptRanges", laid_unicode_utf8_acceptRanges), ("unicode/utf8.first", laid_unicode_utf8_first)] }
def FdNoneSaid : Prop := fdNoneRow.holds Tryz.pinned (OpenSpec.ofChange fdNoneSpec)

/-- ITS FALSE NEIGHBOUR: 'it returns false'. Refute it at one input. -/
def fdNoneWrong : ChangeSpec := { name := "fdNone", fn := fun _ => fun
  | [d] => { results := [.lit (.bool false)], args := [d] }
  | _ => none }
def FdNoneWrongFalsely : Prop := fdNoneRow.holds Tryz.pinned (OpenSpec.ofChange fdNoneWrong)

/- THE SECOND FORM. 'bulk': how many values and letters a reading holds, each counted each time it is reached (what is shared counts as often as it is met; a slice's spare places count too). A statement '..UptoSaid' is the law's where the arguments, and the package variables that the reading takes, are together of bulk at most 1048576: NARROWER than '..Said'. Prove '..Said' where nothing that the law and all that it calls make is longer than what came in: it says more and counts as full. Else prove '..UptoSaid'. A law counts once. -/
mutual
def uptoBulk {H : Type} : DataW H → Nat
  | .lit (.string bytes) => bytes.length + 1
  | .lit _ => 1
  | .nil => 1
  | .ptr d => uptoBulk d + 1
  | .slice elems spare => uptoBulkAll elems + uptoBulkAll spare + 1
  | .agg parts => uptoBulkAll parts + 1
  | .iface _ d => uptoBulk d + 1
  | .map entries => uptoBulkEntries entries + 1
  | .held _ => 1
def uptoBulkAll {H : Type} : List (DataW H) → Nat
  | [] => 0
  | d :: r => uptoBulk d + uptoBulkAll r
def uptoBulkEntries {H : Type} : List (Lit × DataW H) → Nat
  | [] => 0
  | x :: r => uptoBulkEntry x + uptoBulkEntries r
def uptoBulkEntry {H : Type} : Lit × DataW H → Nat
  | (.string bytes, d) => bytes.length + uptoBulk d + 1
  | (_, d) => uptoBulk d + 1
 end
def uptoSmall : (H : Type) → List (DataW H) → Bool := fun _ ds => decide (uptoBulkAll ds ≤ 1048576)
def OpenSpec.upto (s : _root_.Go.ChangeSpec) : _root_.Go.OpenSpec := { _root_.Go.OpenSpec.ofChange s with cond := some uptoSmall }

/-- 'coxswainlaw24.FdAppends', WHERE WHAT IT READS IS OF BULK AT MOST 1048576: true; the input reads as it did. -/
def fdAppendsUptoRow : OpenClaim := { program := "ytaldahogjlokkaagreatdoor", sum := "b0bb4ea9f7e4f74afa222727b9a8f6756f3960469adf3333d3daf1068d45e762", func := "coxswain/coxswainlaw24.FdAppends", spec := "fdAppends", inPlace := ["internal/bytealg.CountString", "internal/bytealg.IndexByteString", "internal/bytealg.IndexString", "slices.overlaps[coxswain/api.Entry]", "internal/abi.NoEscape", "internal/bytealg.MakeNoZero"], unfollowed := true, recurses := true, named := ["unicode/utf8.first", "unicode/utf8.acceptRanges", "internal/bytealg.MaxLen"], apart := false, laid := [("unicode/utf8.acceptRanges", laid_unicode_utf8_acceptRanges), ("unicode/utf8.first", laid_unicode_utf8_first)], narrowed := true }
def FdAppendsUptoSaid : Prop := fdAppendsUptoRow.holds Tryz.pinned (OpenSpec.upto fdAppendsSpec)

/-- 'coxswainlaw24.FdPieces', WHERE WHAT IT READS IS OF BULK AT MOST 1048576: true; the input reads as it did. -/
def fdPiecesUptoRow : OpenClaim := { program := "ytaldahogjlokkaagreatdoor", sum := "b0bb4ea9f7e4f74afa222727b9a8f6756f3960469adf3333d3daf1068d45e762", func := "coxswain/coxswainlaw24.FdPieces", spec := "fdPieces", inPlace := ["internal/bytealg.CountString", "internal/bytealg.IndexByteString", "internal/bytealg.IndexString", "slices.overlaps[coxswain/api.Entry]", "internal/abi.NoEscape", "internal/bytealg.MakeNoZero"], unfollowed := true, recurses := true, named := ["unicode/utf8.first", "unicode/utf8.acceptRanges", "internal/bytealg.MaxLen"], apart := false, laid := [("unicode/utf8.acceptRanges", laid_unicode_utf8_acceptRanges), ("unicode/utf8.first", laid_unicode_utf8_first)], narrowed := true }
def FdPiecesUptoSaid : Prop := fdPiecesUptoRow.holds Tryz.pinned (OpenSpec.upto fdPiecesSpec)

/-- 'coxswainlaw24.FdShared', WHERE WHAT IT READS IS OF BULK AT MOST 1048576: true; the input reads as it did. -/
def fdSharedUptoRow : OpenClaim := { program := "ytaldahogjlokkaagreatdoor", sum := "b0bb4ea9f7e4f74afa222727b9a8f6756f3960469adf3333d3daf1068d45e762", func := "coxswain/coxswainlaw24.FdShared", spec := "fdShared", inPlace := ["internal/bytealg.CountString", "internal/bytealg.IndexByteString", "internal/bytealg.IndexString", "slices.overlaps[coxswain/api.Entry]", "internal/abi.NoEscape", "internal/bytealg.MakeNoZero"], unfollowed := true, recurses := true, named := ["unicode/utf8.first", "unicode/utf8.acceptRanges", "internal/bytealg.MaxLen"], apart := false, laid := [("unicode/utf8.acceptRanges", laid_unicode_utf8_acceptRanges), ("unicode/utf8.first", laid_unicode_utf8_first)], narrowed := true }
def FdSharedUptoSaid : Prop := fdSharedUptoRow.holds Tryz.pinned (OpenSpec.upto fdSharedSpec)

/-- 'coxswainlaw24.FdLeast', WHERE WHAT IT READS IS OF BULK AT MOST 1048576: true; the input reads as it did. -/
def fdLeastUptoRow : OpenClaim := { program := "ytaldahogjlokkaagreatdoor", sum := "b0bb4ea9f7e4f74afa222727b9a8f6756f3960469adf3333d3daf1068d45e762", func := "coxswain/coxswainlaw24.FdLeast", spec := "fdLeast", inPlace := ["internal/bytealg.CountString", "internal/bytealg.IndexByteString", "internal/bytealg.IndexString", "slices.overlaps[coxswain/api.Entry]", "internal/abi.NoEscape", "internal/bytealg.MakeNoZero"], unfollowed := true, recurses := true, named := ["unicode/utf8.first", "unicode/utf8.acceptRanges", "internal/bytealg.MaxLen"], apart := false, laid := [("unicode/utf8.acceptRanges", laid_unicode_utf8_acceptRanges), ("unicode/utf8.first", laid_unicode_utf8_first)], narrowed := true }
def FdLeastUptoSaid : Prop := fdLeastUptoRow.holds Tryz.pinned (OpenSpec.upto fdLeastSpec)

/-- 'coxswainlaw24.FdScript', WHERE WHAT IT READS IS OF BULK AT MOST 1048576: true; the input reads as it did. -/
def fdScriptUptoRow : OpenClaim := { program := "ytaldahogjlokkaagreatdoor", sum := "b0bb4ea9f7e4f74afa222727b9a8f6756f3960469adf3333d3daf1068d45e762", func := "coxswain/coxswainlaw24.FdScript", spec := "fdScript", inPlace := ["internal/bytealg.CountString", "internal/bytealg.IndexByteString", "internal/bytealg.IndexString", "slices.overlaps[coxswain/api.Entry]", "internal/abi.NoEscape", "internal/bytealg.MakeNoZero"], unfollowed := true, recurses := true, named := ["unicode/utf8.first", "unicode/utf8.acceptRanges", "internal/bytealg.MaxLen"], apart := false, laid := [("unicode/utf8.acceptRanges", laid_unicode_utf8_acceptRanges), ("unicode/utf8.first", laid_unicode_utf8_first)], narrowed := true }
def FdScriptUptoSaid : Prop := fdScriptUptoRow.holds Tryz.pinned (OpenSpec.upto fdScriptSpec)

/-- 'coxswainlaw24.FdEnds', WHERE WHAT IT READS IS OF BULK AT MOST 1048576: true; the input reads as it did. -/
def fdEndsUptoRow : OpenClaim := { program := "ytaldahogjlokkaagreatdoor", sum := "b0bb4ea9f7e4f74afa222727b9a8f6756f3960469adf3333d3daf1068d45e762", func := "coxswain/coxswainlaw24.FdEnds", spec := "fdEnds", inPlace := ["internal/bytealg.CountString", "internal/bytealg.IndexByteString", "internal/bytealg.IndexString", "slices.overlaps[coxswain/api.Entry]", "internal/abi.NoEscape", "internal/bytealg.MakeNoZero"], unfollowed := true, recurses := true, named := ["unicode/utf8.first", "unicode/utf8.acceptRanges", "internal/bytealg.MaxLen"], apart := false, laid := [("unicode/utf8.acceptRanges", laid_unicode_utf8_acceptRanges), ("unicode/utf8.first", laid_unicode_utf8_first)], narrowed := true }
def FdEndsUptoSaid : Prop := fdEndsUptoRow.holds Tryz.pinned (OpenSpec.upto fdEndsSpec)

/-- 'coxswainlaw24.FdNone', WHERE WHAT IT READS IS OF BULK AT MOST 1048576: true; the input reads as it did. -/
def fdNoneUptoRow : OpenClaim := { program := "ytaldahogjlokkaagreatdoor", sum := "b0bb4ea9f7e4f74afa222727b9a8f6756f3960469adf3333d3daf1068d45e762", func := "coxswain/coxswainlaw24.FdNone", spec := "fdNone", inPlace := ["internal/bytealg.CountString", "internal/bytealg.IndexByteString", "internal/bytealg.IndexString", "slices.overlaps[coxswain/api.Entry]", "internal/abi.NoEscape", "internal/bytealg.MakeNoZero"], unfollowed := true, recurses := true, named := ["unicode/utf8.first", "unicode/utf8.acceptRanges", "internal/bytealg.MaxLen"], apart := false, laid := [("unicode/utf8.acceptRanges", laid_unicode_utf8_acceptRanges), ("unicode/utf8.first", laid_unicode_utf8_first)], narrowed := true }
def FdNoneUptoSaid : Prop := fdNoneUptoRow.holds Tryz.pinned (OpenSpec.upto fdNoneSpec)

end Rows
end Go.Proofs.YtaldahogjlokkaaGreatDoor
