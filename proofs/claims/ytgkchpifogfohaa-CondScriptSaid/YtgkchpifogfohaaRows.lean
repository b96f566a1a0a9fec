/-
  No cell of these rows narrows 'for every input' (looked for: loops, veiled, ifaces, maps, wideKeys, modest, calm, conditions, laid).
  DERIVED. THE GIVEN ROWS OF THIS SEAT. 5 by the template 'for every input the law returns true; each argument reads behind the call as it read before'; 0 by the template 'total and deterministic' (their statements: YtgkchpifogfohaaTotals.lean).
  GIVEN WITH THE SEED: the statements are not yours to turn. If you find one false, say at which input.
  Laid BY PROGRAM, IN A SANDBOX (cutbox-rows.mjs): the forced cells as the released guide's own fill.sh prints them over the translation ca1118aa55e9876f… (all of the seat's roots in one cut). By AI agents, Wed Nov 11 2026. No macro, syntax, notation, axiom, sorry.
-/
import Derived.Test.YtgkchpifogfohaaChecked
import GoSem.Claim
import GoSem.ClaimJoined
import GoSem.ClaimMapViews
import Derived.JoinedTies
import Derived.KernelRfl
namespace Go.Proofs.Ytgkchpifogfohaa
/- THE CELL 'sum', in the pinned program and in every row, IS THE sha256 OF THE DUMP (.gsa) THAT YtgkchpifogfohaaProg.lean LOADS. Nothing in Lean hashes anything: it is a label: what it is worth is what the hold of that sum in a sandbox is worth. -/
noncomputable def Try.pinned : Pinned := { name := "ytgkchpifogfohaa", sum := "ca1118aa55e9876fdd2fd0603e5de6af3ef5cc877cd1bbdfc1edc41b3d90149b", checked := Try.checked }
namespace Rows
def none {H : Type} : Left H := { results := [], args := [] }

/-- 'coxswainlaw13.CondOrder': WHATEVER THE INPUT: true; the input reads as it did. -/
def condOrderSpec : ChangeSpec := { name := "condOrder", fn := fun _ => fun
  | [d1, d2] => { results := [.lit (.bool true)], args := [d1, d2] }
  | _ => none }
def condOrderRow : OpenClaim := { program := "ytgkchpifogfohaa", sum := "ca1118aa55e9876fdd2fd0603e5de6af3ef5cc877cd1bbdfc1edc41b3d90149b", func := "coxswain/coxswainlaw13.CondOrder", spec := "condOrder", inPlace := ["slices.overlaps[int]"], unfollowed := true, recurses := true, apart := false }
def CondOrderSaid : Prop := condOrderRow.holds Try.pinned (OpenSpec.ofChange condOrderSpec)

/-- ITS FALSE NEIGHBOUR: 'it returns false'. Refute it at one input. -/
def condOrderWrong : ChangeSpec := { name := "condOrder", fn := fun _ => fun
  | [d1, d2] => { results := [.lit (.bool false)], args := [d1, d2] }
  | _ => none }
def CondOrderWrongFalsely : Prop := condOrderRow.holds Try.pinned (OpenSpec.ofChange condOrderWrong)

/-- 'coxswainlaw13.CondScript': WHATEVER THE INPUT: true; the input reads as it did. -/
def condScriptSpec : ChangeSpec := { name := "condScript", fn := fun _ => fun
  | [d1, d2, d3] => { results := [.lit (.bool true)], args := [d1, d2, d3] }
  | _ => none }
def condScriptRow : OpenClaim := { program := "ytgkchpifogfohaa", sum := "ca1118aa55e9876fdd2fd0603e5de6af3ef5cc877cd1bbdfc1edc41b3d90149b", func := "coxswain/coxswainlaw13.CondScript", spec := "condScript", inPlace := ["slices.overlaps[int]"], unfollowed := true, recurses := true, apart := false }
def CondScriptSaid : Prop := condScriptRow.holds Try.pinned (OpenSpec.ofChange condScriptSpec)

/-- ITS FALSE NEIGHBOUR: 'it returns false'. Refute it at one input. -/
def condScriptWrong : ChangeSpec := { name := "condScript", fn := fun _ => fun
  | [d1, d2, d3] => { results := [.lit (.bool false)], args := [d1, d2, d3] }
  | _ => none }
def CondScriptWrongFalsely : Prop := condScriptRow.holds Try.pinned (OpenSpec.ofChange condScriptWrong)

/-- 'coxswainlaw13.CondNil': WHATEVER THE INPUT: true; the input reads as it did. -/
def condNilSpec : ChangeSpec := { name := "condNil", fn := fun _ => fun
  | [d1, d2] => { results := [.lit (.bool true)], args := [d1, d2] }
  | _ => none }
def condNilRow : OpenClaim := { program := "ytgkchpifogfohaa", sum := "ca1118aa55e9876fdd2fd0603e5de6af3ef5cc877cd1bbdfc1edc41b3d90149b", func := "coxswain/coxswainlaw13.CondNil", spec := "condNil", inPlace := ["slices.overlaps[int]"], unfollowed := true, recurses := true, apart := false }
def CondNilSaid : Prop := condNilRow.holds Try.pinned (OpenSpec.ofChange condNilSpec)

/-- ITS FALSE NEIGHBOUR: 'it returns false'. Refute it at one input. -/
def condNilWrong : ChangeSpec := { name := "condNil", fn := fun _ => fun
  | [d1, d2] => { results := [.lit (.bool false)], args := [d1, d2] }
  | _ => none }
def CondNilWrongFalsely : Prop := condNilRow.holds Try.pinned (OpenSpec.ofChange condNilWrong)

/-- 'coxswainlaw13.CondNone': WHATEVER THE INPUT: true; the input reads as it did. -/
def condNoneSpec : ChangeSpec := { name := "condNone", fn := fun _ => fun
  | [d] => { results := [.lit (.bool true)], args := [d] }
  | _ => none }
def condNoneRow : OpenClaim := { program := "ytgkchpifogfohaa", sum := "ca1118aa55e9876fdd2fd0603e5de6af3ef5cc877cd1bbdfc1edc41b3d90149b", func := "coxswain/coxswainlaw13.CondNone", spec := "condNone", inPlace := ["slices.overlaps[int]"], unfollowed := true, recurses := true, apart := false }
def CondNoneSaid : Prop := condNoneRow.holds Try.pinned (OpenSpec.ofChange condNoneSpec)

/-- ITS FALSE NEIGHBOUR: 'it returns false'. Refute it at one input. -/
def condNoneWrong : ChangeSpec := { name := "condNone", fn := fun _ => fun
  | [d] => { results := [.lit (.bool false)], args := [d] }
  | _ => none }
def CondNoneWrongFalsely : Prop := condNoneRow.holds Try.pinned (OpenSpec.ofChange condNoneWrong)

/-- 'coxswainlaw13.CondCancel': WHATEVER THE INPUT: true; the input reads as it did. -/
def condCancelSpec : ChangeSpec := { name := "condCancel", fn := fun _ => fun
  | [d1, d2, d3, d4] => { results := [.lit (.bool true)], args := [d1, d2, d3, d4] }
  | _ => none }
def condCancelRow : OpenClaim := { program := "ytgkchpifogfohaa", sum := "ca1118aa55e9876fdd2fd0603e5de6af3ef5cc877cd1bbdfc1edc41b3d90149b", func := "coxswain/coxswainlaw13.CondCancel", spec := "condCancel", inPlace := ["slices.overlaps[int]"], unfollowed := true, recurses := true, apart := false }
def CondCancelSaid : Prop := condCancelRow.holds Try.pinned (OpenSpec.ofChange condCancelSpec)

/-- ITS FALSE NEIGHBOUR: 'it returns false'. Refute it at one input. -/
def condCancelWrong : ChangeSpec := { name := "condCancel", fn := fun _ => fun
  | [d1, d2, d3, d4] => { results := [.lit (.bool false)], args := [d1, d2, d3, d4] }
  | _ => none }
def CondCancelWrongFalsely : Prop := condCancelRow.holds Try.pinned (OpenSpec.ofChange condCancelWrong)

/- THE SECOND FORM. 'bulk': how many values and letters a reading holds, each counted each time it is reached (what is shared counts as often as it is met; a slice's spare places count too). A statement '..UptoSaid' is the law's where the arguments, and the package variables that the reading takes, are together of bulk at most 1048576: NARROWER than '..Said'. Prove '..Said' where nothing that the law and all that it calls make is longer than what came in: it says more and counts as full. Else prove '..UptoSaid'. A law counts once. -/
mutual
def uptoBulk {H : Type} : DataW H → Nat
  | .lit (.string bytes) => bytes.length + 1
  | .lit _ => 1
  | .nil => 1
  | .ptr d => uptoBulk d + 1
  | .slice elems spare => uptoBulkAll elems + uptoBulkAll spare + 1
  | .agg parts => uptoBulkAll parts + 1
  | .iface _ d => uptoBulk d + 1
  | .map entries => uptoBulkEntries entries + 1
  | .held _ => 1
def uptoBulkAll {H : Type} : List (DataW H) → Nat
  | [] => 0
  | d :: r => uptoBulk d + uptoBulkAll r
def uptoBulkEntries {H : Type} : List (Lit × DataW H) → Nat
  | [] => 0
  | x :: r => uptoBulkEntry x + uptoBulkEntries r
def uptoBulkEntry {H : Type} : Lit × DataW H → Nat
  | (.string bytes, d) => bytes.length + uptoBulk d + 1
  | (_, d) => uptoBulk d + 1
 end
def uptoSmall : (H : Type) → List (DataW H) → Bool := fun _ ds => decide (uptoBulkAll ds ≤ 1048576)
def OpenSpec.upto (s : _root_.Go.ChangeSpec) : _root_.Go.OpenSpec := { _root_.Go.OpenSpec.ofChange s with cond := some uptoSmall }

/-- 'coxswainlaw13.CondOrder', WHERE WHAT IT READS IS OF BULK AT MOST 1048576: true; the input reads as it did. -/
def condOrderUptoRow : OpenClaim := { program := "ytgkchpifogfohaa", sum := "ca1118aa55e9876fdd2fd0603e5de6af3ef5cc877cd1bbdfc1edc41b3d90149b", func := "coxswain/coxswainlaw13.CondOrder", spec := "condOrder", inPlace := ["slices.overlaps[int]"], unfollowed := true, recurses := true, apart := false, narrowed := true }
def CondOrderUptoSaid : Prop := condOrderUptoRow.holds Try.pinned (OpenSpec.upto condOrderSpec)

/-- 'coxswainlaw13.CondScript', WHERE WHAT IT READS IS OF BULK AT MOST 1048576: true; the input reads as it did. -/
def condScriptUptoRow : OpenClaim := { program := "ytgkchpifogfohaa", sum := "ca1118aa55e9876fdd2fd0603e5de6af3ef5cc877cd1bbdfc1edc41b3d90149b", func := "coxswain/coxswainlaw13.CondScript", spec := "condScript", inPlace := ["slices.overlaps[int]"], unfollowed := true, recurses := true, apart := false, narrowed := true }
def CondScriptUptoSaid : Prop := condScriptUptoRow.holds Try.pinned (OpenSpec.upto condScriptSpec)

/-- 'coxswainlaw13.CondNil', WHERE WHAT IT READS IS OF BULK AT MOST 1048576: true; the input reads as it did. -/
def condNilUptoRow : OpenClaim := { program := "ytgkchpifogfohaa", sum := "ca1118aa55e9876fdd2fd0603e5de6af3ef5cc877cd1bbdfc1edc41b3d90149b", func := "coxswain/coxswainlaw13.CondNil", spec := "condNil", inPlace := ["slices.overlaps[int]"], unfollowed := true, recurses := true, apart := false, narrowed := true }
def CondNilUptoSaid : Prop := condNilUptoRow.holds Try.pinned (OpenSpec.upto condNilSpec)

/-- 'coxswainlaw13.CondNone', WHERE WHAT IT READS IS OF BULK AT MOST 1048576: true; the input reads as it did. -/
def condNoneUptoRow : OpenClaim := { program := "ytgkchpifogfohaa", sum := "ca1118aa55e9876fdd2fd0603e5de6af3ef5cc877cd1bbdfc1edc41b3d90149b", func := "coxswain/coxswainlaw13.CondNone", spec := "condNone", inPlace := ["slices.overlaps[int]"], unfollowed := true, recurses := true, apart := false, narrowed := true }
def CondNoneUptoSaid : Prop := condNoneUptoRow.holds Try.pinned (OpenSpec.upto condNoneSpec)

/-- 'coxswainlaw13.CondCancel', WHERE WHAT IT READS IS OF BULK AT MOST 1048576: true; the input reads as it did. -/
def condCancelUptoRow : OpenClaim := { program := "ytgkchpifogfohaa", sum := "ca1118aa55e9876fdd2fd0603e5de6af3ef5cc877cd1bbdfc1edc41b3d90149b", func := "coxswain/coxswainlaw13.CondCancel", spec := "condCancel", inPlace := ["slices.overlaps[int]"], unfollowed := true, recurses := true, apart := false, narrowed := true }
def CondCancelUptoSaid : Prop := condCancelUptoRow.holds Try.pinned (OpenSpec.upto condCancelSpec)

end Rows
end Go.Proofs.Ytgkchpifogfohaa
