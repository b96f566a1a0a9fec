/-
  NARROWER THAN 'FOR EVERY INPUT', by the rows' own cells (each row's printed sentence says how): VfsDeep: laid · VfsNone: laid · VfsOpen: laid.
  DERIVED. THE GIVEN ROWS OF THIS SEAT. 3 by the template 'for every input the law returns true; each argument reads behind the call as it read before'; 0 by the template 'total and deterministic' (their statements: YtchnjfmimpikcaaDoorTotals.lean).
  GIVEN WITH THE SEED: the statements are not yours to turn. If you find one false, say at which input.
  Laid BY PROGRAM, IN A SANDBOX (cutbox-rows.mjs): the forced cells as the released guide's own fill.sh prints them over the translation e14390238aacb319… (all of the seat's roots in one cut). By AI agents, Wed Nov 11 2026. No macro, syntax, notation, axiom, sorry.
-/
import Derived.Test.YtchnjfmimpikcaaDoorChecked
import GoSem.PinnedTables
import GoSem.Claim
import GoSem.ClaimJoined
import GoSem.ClaimMapViews
import Derived.JoinedTies
import Derived.KernelRfl
namespace Go.Proofs.YtchnjfmimpikcaaDoor
/- THE CELL 'sum', in the pinned program and in every row, IS THE sha256 OF THE DUMP (.gsa) THAT YtchnjfmimpikcaaDoorProg.lean LOADS. Nothing in Lean hashes anything: it is a label: what it is worth is what the hold of that sum in a sandbox is worth. -/
noncomputable def Tryd.pinned : Pinned := { name := "ytchnjfmimpikcaadoor", sum := "e14390238aacb31935334cfc98caf285a2d2ee02772c31fee72a813a10d74cc9", checked := Tryd.checked }
namespace Rows
def none {H : Type} : Left H := { results := [], args := [] }

/- WHAT THE LISTED PACKAGE-LEVEL VARIABLES READ AS WHEN THE CALL BEGINS. Each datum BY PROGRAM (the guide's laid-datum.mjs) off the statement by which the dump's own 'gosem.cut.vars' lays the variable. In a bare row this is a premise. The card (YtchnjfmimpikcaaDoorCards.lean) ties it to the program's text. -/
def laid_unicode_utf8_acceptRanges {H : Type} : DataW H := .agg [.agg [.lit (.int .u8 128), .lit (.int .u8 191)], .agg [.lit (.int .u8 160), .lit (.int .u8 191)], .agg [.lit (.int .u8 128), .lit (.int .u8 159)], .agg [.lit (.int .u8 144), .lit (.int .u8 191)], .agg [.lit (.int .u8 128), .lit (.int .u8 143)], .agg [.lit (.int .u8 0), .lit (.int .u8 0)], .agg [.lit (.int .u8 0), .lit (.int .u8 0)], .agg [.lit (.int .u8 0), .lit (.int .u8 0)], .agg [.lit (.int .u8 0), .lit (.int .u8 0)], .agg [.lit (.int .u8 0), .lit (.int .u8 0)], .agg [.lit (.int .u8 0), .lit (.int .u8 0)], .agg [.lit (.int .u8 0), .lit (.int .u8 0)], .agg [.lit (.int .u8 0), .lit (.int .u8 0)], .agg [.lit (.int .u8 0), .lit (.int .u8 0)], .agg [.lit (.int .u8 0), .lit (.int .u8 0)], .agg [.lit (.int .u8 0), .lit (.int .u8 0)]]
/-- One of Go's own tables, pinned by name: the form's constant. -/
def laid_unicode_utf8_first : DataW Unit := Go.Pinned.utf8First

/-- 'coxswainlaw22.VfsDeep': WHATEVER THE INPUT: true; the input reads as it did. -/
def vfsDeepSpec : ChangeSpec := { name := "vfsDeep", fn := fun _ => fun
  | [d1, d2] => { results := [.lit (.bool true)], args := [d1, d2] }
  | _ => none }
def vfsDeepRow : OpenClaim := { program := "ytchnjfmimpikcaadoor", sum := "e14390238aacb31935334cfc98caf285a2d2ee02772c31fee72a813a10d74cc9", func := "coxswain/coxswainlaw22.VfsDeep", spec := "vfsDeep", inPlace := ["internal/bytealg.IndexByteString", "slices.overlaps[coxswain/api.Entry]", "internal/bytealg.CountString", "internal/bytealg.IndexString", "internal/abi.NoEscape", "internal/bytealg.MakeNoZero"], unfollowed := true, recurses := true, named := ["unicode/utf8.first", "unicode/utf8.acceptRanges", "internal/bytealg.MaxLen"], apart := false, laid := [("unicode/utf8.acceptRanges", laid_unicode_utf8_acceptRanges), ("unicode/utf8.first", laid_unicode_utf8_first)] }
def VfsDeepSaid : Prop := vfsDeepRow.holds Tryd.pinned (OpenSpec.ofChange vfsDeepSpec)

/-- ITS FALSE NEIGHBOUR: 'it returns false'. Refute it at one input. -/
def vfsDeepWrong : ChangeSpec := { name := "vfsDeep", fn := fun _ => fun
  | [d1, d2] => { results := [.lit (.bool false)], args := [d1, d2] }
  | _ => none }
def VfsDeepWrongFalsely : Prop := vfsDeepRow.holds Tryd.pinned (OpenSpec.ofChange vfsDeepWrong)

/-- 'coxswainlaw22.VfsNone': WHATEVER THE INPUT: true; the input reads as it did. -/
def vfsNoneSpec : ChangeSpec := { name := "vfsNone", fn := fun _ => fun
  | [d1, d2] => { results := [.lit (.bool true)], args := [d1, d2] }
  | _ => none }
def vfsNoneRow : OpenClaim := { program := "ytchnjfmimpikcaadoor", sum := "e14390238aacb31935334cfc98caf285a2d2ee02772c31fee72a813a10d74cc9", func := "coxswain/coxswainlaw22.VfsNone", spec := "vfsNone", inPlace := ["internal/bytealg.IndexByteString", "slices.overlaps[coxswain/api.Entry]", "internal/bytealg.CountString", "internal/bytealg.IndexString", "internal/abi.NoEscape", "internal/bytealg.MakeNoZero"], unfollowed := true, recurses := true, named := ["unicode/utf8.first", "unicode/utf8.acceptRanges", "internal/bytealg.MaxLen"], apart := false, laid := [("unicode/utf8.acceptRanges", laid_unicode_utf8_acceptRanges), ("unicode/utf8.first", laid_unicode_utf8_first)] }
def VfsNoneSaid : Prop := vfsNoneRow.holds Tryd.pinned (OpenSpec.ofChange vfsNoneSpec)

/-- ITS FALSE NEIGHBOUR: 'it returns false'. Refute it at one input. -/
def vfsNoneWrong : ChangeSpec := { name := "vfsNone", fn := fun _ => fun
  | [d1, d2] => { results := [.lit (.bool false)], args := [d1, d2] }
  | _ => none }
def VfsNoneWrongFalsely : Prop := vfsNoneRow.holds Tryd.pinned (OpenSpec.ofChange vfsNoneWrong)

/-- 'coxswainlaw22.VfsOpen': WHATEVER THE INPUT: true; the input reads as it did. -/
def vfsOpenSpec : ChangeSpec := { name := "vfsOpen", fn := fun _ => fun
  | [d1, d2] => { results := [.lit (.bool true)], args := [d1, d2] }
  | _ => none }
def vfsOpenRow : OpenClaim := { program := "ytchnjfmimpikcaadoor", sum := "e14390238aacb31935334cfc98caf285a2d2ee02772c31fee72a813a10d74cc9", func := "coxswain/coxswainlaw22.VfsOpen", spec := "vfsOpen", inPlace := ["internal/bytealg.IndexByteString", "slices.overlaps[coxswain/api.Entry]", "internal/bytealg.CountString", "internal/bytealg.IndexString", "internal/abi.NoEscape", "internal/bytealg.MakeNoZero"], unfollowed := true, recurses := true, named := ["unicode/utf8.first", "unicode/utf8.acceptRanges", "internal/bytealg.MaxLen"], apart := false, laid := [("unicode/utf8.acceptRanges", laid_unicode_utf8_acceptRanges), ("unicode/utf8.first", laid_unicode_utf8_first)] }
def VfsOpenSaid : Prop := vfsOpenRow.holds Tryd.pinned (OpenSpec.ofChange vfsOpenSpec)

/-- ITS FALSE NEIGHBOUR: 'it returns false'. Refute it at one input. -/
def vfsOpenWrong : ChangeSpec := { name := "vfsOpen", fn := fun _ => fun
  | [d1, d2] => { results := [.lit (.bool false)], args := [d1, d2] }
  | _ => none }
def VfsOpenWrongFalsely : Prop := vfsOpenRow.holds Tryd.pinned (OpenSpec.ofChange vfsOpenWrong)

/- THE SECOND FORM. 'bulk': how many values and letters a reading holds, each counted each time it is reached (what is shared counts as often as it is met; a slice's spare places count too). A statement '..UptoSaid' is the law's where the arguments, and the package variables that the reading takes, are together of bulk at most 1048576: NARROWER than '..Said'. Prove '..Said' where nothing that the law and all that it calls make is longer than what came in: it says more and counts as full. Else prove '..UptoSaid'. A law counts once. -/
mutual
def uptoBulk {H : Type} : DataW H → Nat
  | .lit (.string bytes) => bytes.length + 1
  | .lit _ => 1
  | .nil => 1
  | .ptr d => uptoBulk d + 1
  | .slice elems spare => uptoBulkAll elems + uptoBulkAll spare + 1
  | .agg parts => uptoBulkAll parts + 1
  | .iface _ d => uptoBulk d + 1
  | .map entries => uptoBulkEntries entries + 1
  | .held _ => 1
def uptoBulkAll {H : Type} : List (DataW H) → Nat
  | [] => 0
  | d :: r => uptoBulk d + uptoBulkAll r
def uptoBulkEntries {H : Type} : List (Lit × DataW H) → Nat
  | [] => 0
  | x :: r => uptoBulkEntry x + uptoBulkEntries r
def uptoBulkEntry {H : Type} : Lit × DataW H → Nat
  | (.string bytes, d) => bytes.length + uptoBulk d + 1
  | (_, d) => uptoBulk d + 1
 end
def uptoSmall : (H : Type) → List (DataW H) → Bool := fun _ ds => decide (uptoBulkAll ds ≤ 1048576)
def OpenSpec.upto (s : _root_.Go.ChangeSpec) : _root_.Go.OpenSpec := { _root_.Go.OpenSpec.ofChange s with cond := some uptoSmall }

/-- 'coxswainlaw22.VfsDeep', WHERE WHAT IT READS IS OF BULK AT MOST 1048576: true; the input reads as it did. -/
def vfsDeepUptoRow : OpenClaim := { program := "ytchnjfmimpikcaadoor", sum := "e14390238aacb31935334cfc98caf285a2d2ee02772c31fee72a813a10d74cc9", func := "coxswain/coxswainlaw22.VfsDeep", spec := "vfsDeep", inPlace := ["internal/bytealg.IndexByteString", "slices.overlaps[coxswain/api.Entry]", "internal/bytealg.CountString", "internal/bytealg.IndexString", "internal/abi.NoEscape", "internal/bytealg.MakeNoZero"], unfollowed := true, recurses := true, named := ["unicode/utf8.first", "unicode/utf8.acceptRanges", "internal/bytealg.MaxLen"], apart := false, laid := [("unicode/utf8.acceptRanges", laid_unicode_utf8_acceptRanges), ("unicode/utf8.first", laid_unicode_utf8_first)], narrowed := true }
def VfsDeepUptoSaid : Prop := vfsDeepUptoRow.holds Tryd.pinned (OpenSpec.upto vfsDeepSpec)

/-- 'coxswainlaw22.VfsNone', WHERE WHAT IT READS IS OF BULK AT MOST 1048576: true; the input reads as it did. -/
def vfsNoneUptoRow : OpenClaim := { program := "ytchnjfmimpikcaadoor", sum := "e14390238aacb31935334cfc98caf285a2d2ee02772c31fee72a813a10d74cc9", func := "coxswain/coxswainlaw22.VfsNone", spec := "vfsNone", inPlace := ["internal/bytealg.IndexByteString", "slices.overlaps[coxswain/api.Entry]", "internal/bytealg.CountString", "internal/bytealg.IndexString", "internal/abi.NoEscape", "internal/bytealg.MakeNoZero"], unfollowed := true, recurses := true, named := ["unicode/utf8.first", "unicode/utf8.acceptRanges", "internal/bytealg.MaxLen"], apart := false, laid := [("unicode/utf8.acceptRanges", laid_unicode_utf8_acceptRanges), ("unicode/utf8.first", laid_unicode_utf8_first)], narrowed := true }
def VfsNoneUptoSaid : Prop := vfsNoneUptoRow.holds Tryd.pinned (OpenSpec.upto vfsNoneSpec)

/-- 'coxswainlaw22.VfsOpen', WHERE WHAT IT READS IS OF BULK AT MOST 1048576: true; the input reads as it did. -/
def vfsOpenUptoRow : OpenClaim := { program := "ytchnjfmimpikcaadoor", sum := "e14390238aacb31935334cfc98caf285a2d2ee02772c31fee72a813a10d74cc9", func := "coxswain/coxswainlaw22.VfsOpen", spec := "vfsOpen", inPlace := ["internal/bytealg.IndexByteString", "slices.overlaps[coxswain/api.Entry]", "internal/bytealg.CountString", "internal/bytealg.IndexString", "internal/abi.NoEscape", "internal/bytealg.MakeNoZero"], unfollowed := true, recurses := true, named := ["unicode/utf8.first", "unicode/utf8.acceptRanges", "internal/bytealg.MaxLen"], apart := false, laid := [("unicode/utf8.acceptRanges", laid_unicode_utf8_acceptRanges), ("unicode/utf8.first", laid_unicode_utf8_first)], narrowed := true }
def VfsOpenUptoSaid : Prop := vfsOpenUptoRow.holds Tryd.pinned (OpenSpec.upto vfsOpenSpec)

end Rows
end Go.Proofs.YtchnjfmimpikcaaDoor
