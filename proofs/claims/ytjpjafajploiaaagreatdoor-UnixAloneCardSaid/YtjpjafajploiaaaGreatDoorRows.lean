/-
  NARROWER THAN 'FOR EVERY INPUT', by the rows' own cells (each row's printed sentence says how): UnixAlone: laid · UnixErrors: laid · UnixScript: laid · UnixGone: laid · UnixNone: laid.
  DERIVED. THE GIVEN ROWS OF THIS SEAT. 5 by the template 'for every input the law returns true; each argument reads behind the call as it read before'; 0 by the template 'total and deterministic' (their statements: YtjpjafajploiaaaGreatDoorTotals.lean).
  GIVEN WITH THE SEED: the statements are not yours to turn. If you find one false, say at which input.
  Laid BY PROGRAM, IN A SANDBOX (cutbox-rows.mjs): the forced cells as the released guide's own fill.sh prints them over the translation 62138fd1646dd0e1… (all of the seat's roots in one cut). By AI agents, Wed Nov 11 2026. No macro, syntax, notation, axiom, sorry.
-/
import Derived.Test.YtjpjafajploiaaaGreatDoorChecked
import GoSem.PinnedTables
import GoSem.Claim
import GoSem.ClaimJoined
import GoSem.ClaimMapViews
import Derived.JoinedTies
import Derived.KernelRfl
namespace Go.Proofs.YtjpjafajploiaaaGreatDoor
/- THE CELL 'sum', in the pinned program and in every row, IS THE sha256 OF THE DUMP (.gsa) THAT YtjpjafajploiaaaGreatDoorProg.lean LOADS. Nothing in Lean hashes anything: it is a label: what it is worth is what the hold of that sum in a sandbox is worth. -/
noncomputable def Tryz.pinned : Pinned := { name := "ytjpjafajploiaaagreatdoor", sum := "62138fd1646dd0e1016d24643141278c618fcbca8114c8568fb6f13c9f7f6935", checked := Tryz.checked }
namespace Rows
def none {H : Type} : Left H := { results := [], args := [] }

/- WHAT THE LISTED PACKAGE-LEVEL VARIABLES READ AS WHEN THE CALL BEGINS. Each datum BY PROGRAM (the guide's laid-datum.mjs) off the statement by which the dump's own 'gosem.cut.vars' lays the variable. In a bare row this is a premise. The card (YtjpjafajploiaaaGreatDoorCards.lean) ties it to the program's text. -/
def laid_unicode_utf8_acceptRanges {H : Type} : DataW H := .agg [.agg [.lit (.int .u8 128), .lit (.int .u8 191)], .agg [.lit (.int .u8 160), .lit (.int .u8 191)], .agg [.lit (.int .u8 128), .lit (.int .u8 159)], .agg [.lit (.int .u8 144), .lit (.int .u8 191)], .agg [.lit (.int .u8 128), .lit (.int .u8 143)], .agg [.lit (.int .u8 0), .lit (.int .u8 0)], .agg [.lit (.int .u8 0), .lit (.int .u8 0)], .agg [.lit (.int .u8 0), .lit (.int .u8 0)], .agg [.lit (.int .u8 0), .lit (.int .u8 0)], .agg [.lit (.int .u8 0), .lit (.int .u8 0)], .agg [.lit (.int .u8 0), .lit (.int .u8 0)], .agg [.lit (.int .u8 0), .lit (.int .u8 0)], .agg [.lit (.int .u8 0), .lit (.int .u8 0)], .agg [.lit (.int .u8 0), .lit (.int .u8 0)], .agg [.lit (.int .u8 0), .lit (.int .u8 0)], .agg [.lit (.int .u8 0), .lit (.int .u8 0)]]
/-- One of Go's own tables, pinned by name: the form's constant. -/
def laid_unicode_utf8_first : DataW Unit := Go.Pinned.utf8First

/-- 'coxswainlaw27.UnixAlone': WHATEVER THE INPUT: true; the input reads as it did. -/
def unixAloneSpec : ChangeSpec := { name := "unixAlone", fn := fun _ => fun
  | [d1, d2] => { results := [.lit (.bool true)], args := [d1, d2] }
  | _ => none }
def unixAloneRow : OpenClaim := { program := "ytjpjafajploiaaagreatdoor", sum := "62138fd1646dd0e1016d24643141278c618fcbca8114c8568fb6f13c9f7f6935", func := "coxswain/coxswainlaw27.UnixAlone", spec := "unixAlone", inPlace := ["internal/bytealg.CountString", "internal/bytealg.IndexByteString", "internal/bytealg.IndexString", "slices.overlaps[coxswain/api.Entry]", "internal/abi.NoEscape", "internal/bytealg.MakeNoZero"], unfollowed := true, recurses := true, named := ["unicode/utf8.first", "unicode/utf8.acceptRanges", "internal/bytealg.MaxLen"], apart := false, laid := [("unicode/utf8.acceptRanges", laid_unicode_utf8_acceptRanges), ("unicode/utf8.first", laid_unicode_utf8_first)] }
def UnixAloneSaid : Prop := unixAloneRow.holds Tryz.pinned (OpenSpec.ofChange unixAloneSpec)

/-- ITS FALSE NEIGHBOUR: 'it returns false'. Refute it at one input. -/
def unixAloneWrong : ChangeSpec := { name := "unixAlone", fn := fun _ => fun
  | [d1, d2] => { results := [.lit (.bool false)], args := [d1, d2] }
  | _ => none }
def UnixAloneWrongFalsely : Prop := unixAloneRow.holds Tryz.pinned (OpenSpec.ofChange unixAloneWrong)

/-- 'coxswainlaw27.UnixErrors': WHATEVER THE INPUT: true; the input reads as it did. -/
def unixErrorsSpec : ChangeSpec := { name := "unixErrors", fn := fun _ => fun
  | [d1, d2, d3, d4] => { results := [.lit (.bool true)], args := [d1, d2, d3, d4] }
  | _ => none }
def unixErrorsRow : OpenClaim := { program := "ytjpjafajploiaaagreatdoor", sum := "62138fd1646dd0e1016d24643141278c618fcbca8114c8568fb6f13c9f7f6935", func := "coxswain/coxswainlaw27.UnixErrors", spec := "unixErrors", inPlace := ["internal/bytealg.CountString", "internal/bytealg.IndexByteString", "internal/bytealg.IndexString", "slices.overlaps[coxswain/api.Entry]", "internal/abi.NoEscape", "internal/bytealg.MakeNoZero"], unfollowed := true, recurses := true, named := ["unicode/utf8.first", "unicode/utf8.acceptRanges", "internal/bytealg.MaxLen"], apart := false, laid := [("unicode/utf8.acceptRanges", laid_unicode_utf8_acceptRanges), ("unicode/utf8.first", laid_unicode_utf8_first)] }
def UnixErrorsSaid : Prop := unixErrorsRow.holds Tryz.pinned (OpenSpec.ofChange unixErrorsSpec)

/-- ITS FALSE NEIGHBOUR: 'it returns false'. Refute it at one input. -/
def unixErrorsWrong : ChangeSpec := { name := "unixErrors", fn := fun _ => fun
  | [d1, d2, d3, d4] => { results := [.lit (.bool false)], args := [d1, d2, d3, d4] }
  | _ => none }
def UnixErrorsWrongFalsely : Prop := unixErrorsRow.holds Tryz.pinned (OpenSpec.ofChange unixErrorsWrong)

/-- 'coxswainlaw27.UnixScript': WHATEVER THE INPUT: true; the input reads as it did. -/
def unixScriptSpec : ChangeSpec := { name := "unixScript", fn := fun _ => fun
  | [d1, d2] => { results := [.lit (.bool true)], args := [d1, d2] }
  | _ => none }
def unixScriptRow : OpenClaim := { program := "ytjpjafajploiaaagreatdoor", sum := "62138fd1646dd0e1016d24643141278c618fcbca8114c8568fb6f13c9f7f6935", func := "coxswain/coxswainlaw27.UnixScript", spec := "unixScript", inPlace := ["internal/bytealg.CountString", "internal/bytealg.IndexByteString", "internal/bytealg.IndexString", "slices.overlaps[coxswain/api.Entry]", "internal/abi.NoEscape", "internal/bytealg.MakeNoZero"], unfollowed := true, recurses := true, named := ["unicode/utf8.first", "unicode/utf8.acceptRanges", "internal/bytealg.MaxLen"], apart := false, laid := [("unicode/utf8.acceptRanges", laid_unicode_utf8_acceptRanges), ("unicode/utf8.first", laid_unicode_utf8_first)] }
def UnixScriptSaid : Prop := unixScriptRow.holds Tryz.pinned (OpenSpec.ofChange unixScriptSpec)

/-- ITS FALSE NEIGHBOUR: 'it returns false'. Refute it at one input. -/
def unixScriptWrong : ChangeSpec := { name := "unixScript", fn := fun _ => fun
  | [d1, d2] => { results := [.lit (.bool false)], args := [d1, d2] }
  | _ => none }
def UnixScriptWrongFalsely : Prop := unixScriptRow.holds Tryz.pinned (OpenSpec.ofChange unixScriptWrong)

/-- 'coxswainlaw27.UnixGone': WHATEVER THE INPUT: true; the input reads as it did. -/
def unixGoneSpec : ChangeSpec := { name := "unixGone", fn := fun _ => fun
  | [d] => { results := [.lit (.bool true)], args := [d] }
  | _ => none }
def unixGoneRow : OpenClaim := { program := "ytjpjafajploiaaagreatdoor", sum := "62138fd1646dd0e1016d24643141278c618fcbca8114c8568fb6f13c9f7f6935", func := "coxswain/coxswainlaw27.UnixGone", spec := "unixGone", inPlace := ["internal/bytealg.CountString", "internal/bytealg.IndexByteString", "internal/bytealg.IndexString", "slices.overlaps[coxswain/api.Entry]", "internal/abi.NoEscape", "internal/bytealg.MakeNoZero"], unfollowed := true, recurses := true, named := ["unicode/utf8.first", "unicode/utf8.acceptRanges", "internal/bytealg.MaxLen"], apart := false, laid := [("unicode/utf8.acceptRanges", laid_unicode_utf8_acceptRanges), ("unicode/utf8.first", laid_unicode_utf8_first)] }
def UnixGoneSaid : Prop := unixGoneRow.holds Tryz.pinned (OpenSpec.ofChange unixGoneSpec)

/-- ITS FALSE NEIGHBOUR: 'it returns false'. Refute it at one input. -/
def unixGoneWrong : ChangeSpec := { name := "unixGone", fn := fun _ => fun
  | [d] => { results := [.lit (.bool false)], args := [d] }
  | _ => none }
def UnixGoneWrongFalsely : Prop := unixGoneRow.holds Tryz.pinned (OpenSpec.ofChange unixGoneWrong)

/-- 'coxswainlaw27.UnixNone': WHATEVER THE INPUT: true; the input reads as it did. -/
def unixNoneSpec : ChangeSpec := { name := "unixNone", fn := fun _ => fun
  | [d] => { results := [.lit (.bool true)], args := [d] }
  | _ => none }
def unixNoneRow : OpenClaim := { program := "ytjpjafajploiaaagreatdoor", sum := "62138fd1646dd0e1016d24643141278c618fcbca8114c8568fb6f13c9f7f6935", func := "coxswain/coxswainlaw27.UnixNone", spec := "unixNone", inPlace := ["internal/bytealg.CountString", "internal/bytealg.IndexByteString", "internal/bytealg.IndexString", "slices.overlaps[coxswain/api.Entry]", "internal/abi.NoEscape", "internal/bytealg.MakeNoZero"], unfollowed := true, recurses := true, named := ["unicode/utf8.first", "unicode/utf8.acceptRanges", "internal/bytealg.MaxLen"], apart := false, laid := [("unicode/utf8.acceptRanges", laid_unicode_utf8_acceptRanges), ("unicode/utf8.first", laid_unicode_utf8_first)] }
def UnixNoneSaid : Prop := unixNoneRow.holds Tryz.pinned (OpenSpec.ofChange unixNoneSpec)

/-- ITS FALSE NEIGHBOUR: 'it returns false'. Refute it at one input. -/
def unixNoneWrong : ChangeSpec := { name := "unixNone", fn := fun _ => fun
  | [d] => { results := [.lit (.bool false)], args := [d] }
  | _ => none }
def UnixNoneWrongFalsely : Prop := unixNoneRow.holds Tryz.pinned (OpenSpec.ofChange unixNoneWrong)

/- THE SECOND FORM. 'bulk': how many values and letters a reading holds, each counted each time it is reached (what is shared counts as often as it is met; a slice's spare places count too). A statement '..UptoSaid' is the law's where the arguments, and the package variables that the reading takes, are together of bulk at most 1048576: NARROWER than '..Said'. Prove '..Said' where nothing that the law and all that it calls make is longer than what came in: it says more and counts as full. Else prove '..UptoSaid'. A law counts once. -/
mutual
def uptoBulk {H : Type} : DataW H → Nat
  | .lit (.string bytes) => bytes.length + 1
  | .lit _ => 1
  | .nil => 1
  | .ptr d => uptoBulk d + 1
  | .slice elems spare => uptoBulkAll elems + uptoBulkAll spare + 1
  | .agg parts => uptoBulkAll parts + 1
  | .iface _ d => uptoBulk d + 1
  | .map entries => uptoBulkEntries entries + 1
  | .held _ => 1
def uptoBulkAll {H : Type} : List (DataW H) → Nat
  | [] => 0
  | d :: r => uptoBulk d + uptoBulkAll r
def uptoBulkEntries {H : Type} : List (Lit × DataW H) → Nat
  | [] => 0
  | x :: r => uptoBulkEntry x + uptoBulkEntries r
def uptoBulkEntry {H : Type} : Lit × DataW H → Nat
  | (.string bytes, d) => bytes.length + uptoBulk d + 1
  | (_, d) => uptoBulk d + 1
 end
def uptoSmall : (H : Type) → List (DataW H) → Bool := fun _ ds => decide (uptoBulkAll ds ≤ 1048576)
def OpenSpec.upto (s : _root_.Go.ChangeSpec) : _root_.Go.OpenSpec := { _root_.Go.OpenSpec.ofChange s with cond := some uptoSmall }

/-- 'coxswainlaw27.UnixAlone', WHERE WHAT IT READS IS OF BULK AT MOST 1048576: true; the input reads as it did. -/
def unixAloneUptoRow : OpenClaim := { program := "ytjpjafajploiaaagreatdoor", sum := "62138fd1646dd0e1016d24643141278c618fcbca8114c8568fb6f13c9f7f6935", func := "coxswain/coxswainlaw27.UnixAlone", spec := "unixAlone", inPlace := ["internal/bytealg.CountString", "internal/bytealg.IndexByteString", "internal/bytealg.IndexString", "slices.overlaps[coxswain/api.Entry]", "internal/abi.NoEscape", "internal/bytealg.MakeNoZero"], unfollowed := true, recurses := true, named := ["unicode/utf8.first", "unicode/utf8.acceptRanges", "internal/bytealg.MaxLen"], apart := false, laid := [("unicode/utf8.acceptRanges", laid_unicode_utf8_acceptRanges), ("unicode/utf8.first", laid_unicode_utf8_first)], narrowed := true }
def UnixAloneUptoSaid : Prop := unixAloneUptoRow.holds Tryz.pinned (OpenSpec.upto unixAloneSpec)

/-- 'coxswainlaw27.UnixErrors', WHERE WHAT IT READS IS OF BULK AT MOST 1048576: true; the input reads as it did. -/
def unixErrorsUptoRow : OpenClaim := { program := "ytjpjafajploiaaagreatdoor", sum := "62138fd1646dd0e1016d24643141278c618fcbca8114c8568fb6f13c9f7f6935", func := "coxswain/coxswainlaw27.UnixErrors", spec := "unixErrors", inPlace := ["internal/bytealg.CountString", "internal/bytealg.IndexByteString", "internal/bytealg.IndexString", "slices.overlaps[coxswain/api.Entry]", "internal/abi.NoEscape", "internal/bytealg.MakeNoZero"], unfollowed := true, recurses := true, named := ["unicode/utf8.first", "unicode/utf8.acceptRanges", "internal/bytealg.MaxLen"], apart := false, laid := [("unicode/utf8.acceptRanges", laid_unicode_utf8_acceptRanges), ("unicode/utf8.first", laid_unicode_utf8_first)], narrowed := true }
def UnixErrorsUptoSaid : Prop := unixErrorsUptoRow.holds Tryz.pinned (OpenSpec.upto unixErrorsSpec)

/-- 'coxswainlaw27.UnixScript', WHERE WHAT IT READS IS OF BULK AT MOST 1048576: true; the input reads as it did. -/
def unixScriptUptoRow : OpenClaim := { program := "ytjpjafajploiaaagreatdoor", sum := "62138fd1646dd0e1016d24643141278c618fcbca8114c8568fb6f13c9f7f6935", func := "coxswain/coxswainlaw27.UnixScript", spec := "unixScript", inPlace := ["internal/bytealg.CountString", "internal/bytealg.IndexByteString", "internal/bytealg.IndexString", "slices.overlaps[coxswain/api.Entry]", "internal/abi.NoEscape", "internal/bytealg.MakeNoZero"], unfollowed := true, recurses := true, named := ["unicode/utf8.first", "unicode/utf8.acceptRanges", "internal/bytealg.MaxLen"], apart := false, laid := [("unicode/utf8.acceptRanges", laid_unicode_utf8_acceptRanges), ("unicode/utf8.first", laid_unicode_utf8_first)], narrowed := true }
def UnixScriptUptoSaid : Prop := unixScriptUptoRow.holds Tryz.pinned (OpenSpec.upto unixScriptSpec)

/-- 'coxswainlaw27.UnixGone', WHERE WHAT IT READS IS OF BULK AT MOST 1048576: true; the input reads as it did. -/
def unixGoneUptoRow : OpenClaim := { program := "ytjpjafajploiaaagreatdoor", sum := "62138fd1646dd0e1016d24643141278c618fcbca8114c8568fb6f13c9f7f6935", func := "coxswain/coxswainlaw27.UnixGone", spec := "unixGone", inPlace := ["internal/bytealg.CountString", "internal/bytealg.IndexByteString", "internal/bytealg.IndexString", "slices.overlaps[coxswain/api.Entry]", "internal/abi.NoEscape", "internal/bytealg.MakeNoZero"], unfollowed := true, recurses := true, named := ["unicode/utf8.first", "unicode/utf8.acceptRanges", "internal/bytealg.MaxLen"], apart := false, laid := [("unicode/utf8.acceptRanges", laid_unicode_utf8_acceptRanges), ("unicode/utf8.first", laid_unicode_utf8_first)], narrowed := true }
def UnixGoneUptoSaid : Prop := unixGoneUptoRow.holds Tryz.pinned (OpenSpec.upto unixGoneSpec)

/-- 'coxswainlaw27.UnixNone', WHERE WHAT IT READS IS OF BULK AT MOST 1048576: true; the input reads as it did. -/
def unixNoneUptoRow : OpenClaim := { program := "ytjpjafajploiaaagreatdoor", sum := "62138fd1646dd0e1016d24643141278c618fcbca8114c8568fb6f13c9f7f6935", func := "coxswain/coxswainlaw27.UnixNone", spec := "unixNone", inPlace := ["internal/bytealg.CountString", "internal/bytealg.IndexByteString", "internal/bytealg.IndexString", "slices.overlaps[coxswain/api.Entry]", "internal/abi.NoEscape", "internal/bytealg.MakeNoZero"], unfollowed := true, recurses := true, named := ["unicode/utf8.first", "unicode/utf8.acceptRanges", "internal/bytealg.MaxLen"], apart := false, laid := [("unicode/utf8.acceptRanges", laid_unicode_utf8_acceptRanges), ("unicode/utf8.first", laid_unicode_utf8_first)], narrowed := true }
def UnixNoneUptoSaid : Prop := unixNoneUptoRow.holds Tryz.pinned (OpenSpec.upto unixNoneSpec)

end Rows
end Go.Proofs.YtjpjafajploiaaaGreatDoor
