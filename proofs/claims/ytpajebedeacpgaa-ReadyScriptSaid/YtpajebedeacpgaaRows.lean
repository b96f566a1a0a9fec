/-
  No cell of these rows narrows 'for every input' (looked for: loops, veiled, ifaces, maps, wideKeys, modest, calm, conditions, laid).
  DERIVED. THE GIVEN ROWS OF THIS SEAT. 4 by the template 'for every input the law returns true; each argument reads behind the call as it read before'; 0 by the template 'total and deterministic' (their statements: YtpajebedeacpgaaTotals.lean).
  GIVEN WITH THE SEED: the statements are not yours to turn. If you find one false, say at which input.
  Laid BY PROGRAM, IN A SANDBOX (cutbox-rows.mjs): the forced cells as the released guide's own fill.sh prints them over the translation 23a1de2b4133552a… (all of the seat's roots in one cut). By AI agents, Wed Nov 11 2026. No macro, syntax, notation, axiom, sorry.
-/
import Derived.Test.YtpajebedeacpgaaChecked
import GoSem.Claim
import GoSem.ClaimJoined
import GoSem.ClaimMapViews
import Derived.JoinedTies
import Derived.KernelRfl
namespace Go.Proofs.Ytpajebedeacpgaa
/- THE CELL 'sum', in the pinned program and in every row, IS THE sha256 OF THE DUMP (.gsa) THAT YtpajebedeacpgaaProg.lean LOADS. Nothing in Lean hashes anything: it is a label: what it is worth is what the hold of that sum in a sandbox is worth. -/
noncomputable def Try.pinned : Pinned := { name := "ytpajebedeacpgaa", sum := "23a1de2b4133552a0366d4d4fe4fcc35608cb31d0f1cf64317bbae91d7456c8e", checked := Try.checked }
namespace Rows
def none {H : Type} : Left H := { results := [], args := [] }

/-- 'coxswainlaw8.ReadyScript': WHATEVER THE INPUT: true; the input reads as it did. -/
def readyScriptSpec : ChangeSpec := { name := "readyScript", fn := fun _ => fun
  | [d] => { results := [.lit (.bool true)], args := [d] }
  | _ => none }
def readyScriptRow : OpenClaim := { program := "ytpajebedeacpgaa", sum := "23a1de2b4133552a0366d4d4fe4fcc35608cb31d0f1cf64317bbae91d7456c8e", func := "coxswain/coxswainlaw8.ReadyScript", spec := "readyScript", inPlace := ["slices.overlaps[int]"], unfollowed := true, recurses := true, apart := false }
def ReadyScriptSaid : Prop := readyScriptRow.holds Try.pinned (OpenSpec.ofChange readyScriptSpec)

/-- ITS FALSE NEIGHBOUR: 'it returns false'. Refute it at one input. -/
def readyScriptWrong : ChangeSpec := { name := "readyScript", fn := fun _ => fun
  | [d] => { results := [.lit (.bool false)], args := [d] }
  | _ => none }
def ReadyScriptWrongFalsely : Prop := readyScriptRow.holds Try.pinned (OpenSpec.ofChange readyScriptWrong)

/-- 'coxswainlaw8.ReadyFirst': WHATEVER THE INPUT: true; the input reads as it did. -/
def readyFirstSpec : ChangeSpec := { name := "readyFirst", fn := fun _ => fun
  | [d] => { results := [.lit (.bool true)], args := [d] }
  | _ => none }
def readyFirstRow : OpenClaim := { program := "ytpajebedeacpgaa", sum := "23a1de2b4133552a0366d4d4fe4fcc35608cb31d0f1cf64317bbae91d7456c8e", func := "coxswain/coxswainlaw8.ReadyFirst", spec := "readyFirst", inPlace := ["slices.overlaps[int]"], unfollowed := true, recurses := true, apart := false }
def ReadyFirstSaid : Prop := readyFirstRow.holds Try.pinned (OpenSpec.ofChange readyFirstSpec)

/-- ITS FALSE NEIGHBOUR: 'it returns false'. Refute it at one input. -/
def readyFirstWrong : ChangeSpec := { name := "readyFirst", fn := fun _ => fun
  | [d] => { results := [.lit (.bool false)], args := [d] }
  | _ => none }
def ReadyFirstWrongFalsely : Prop := readyFirstRow.holds Try.pinned (OpenSpec.ofChange readyFirstWrong)

/-- 'coxswainlaw8.ReadyNone': WHATEVER THE INPUT: true; the input reads as it did. -/
def readyNoneSpec : ChangeSpec := { name := "readyNone", fn := fun _ => fun
  | [d] => { results := [.lit (.bool true)], args := [d] }
  | _ => none }
def readyNoneRow : OpenClaim := { program := "ytpajebedeacpgaa", sum := "23a1de2b4133552a0366d4d4fe4fcc35608cb31d0f1cf64317bbae91d7456c8e", func := "coxswain/coxswainlaw8.ReadyNone", spec := "readyNone", inPlace := ["slices.overlaps[int]"], unfollowed := true, recurses := true, apart := false }
def ReadyNoneSaid : Prop := readyNoneRow.holds Try.pinned (OpenSpec.ofChange readyNoneSpec)

/-- ITS FALSE NEIGHBOUR: 'it returns false'. Refute it at one input. -/
def readyNoneWrong : ChangeSpec := { name := "readyNone", fn := fun _ => fun
  | [d] => { results := [.lit (.bool false)], args := [d] }
  | _ => none }
def ReadyNoneWrongFalsely : Prop := readyNoneRow.holds Try.pinned (OpenSpec.ofChange readyNoneWrong)

/-- 'coxswainlaw8.ReadyTurned': WHATEVER THE INPUT: true; the input reads as it did. -/
def readyTurnedSpec : ChangeSpec := { name := "readyTurned", fn := fun _ => fun
  | [d1, d2, d3] => { results := [.lit (.bool true)], args := [d1, d2, d3] }
  | _ => none }
def readyTurnedRow : OpenClaim := { program := "ytpajebedeacpgaa", sum := "23a1de2b4133552a0366d4d4fe4fcc35608cb31d0f1cf64317bbae91d7456c8e", func := "coxswain/coxswainlaw8.ReadyTurned", spec := "readyTurned", inPlace := ["slices.overlaps[int]"], unfollowed := true, recurses := true, apart := false }
def ReadyTurnedSaid : Prop := readyTurnedRow.holds Try.pinned (OpenSpec.ofChange readyTurnedSpec)

/-- ITS FALSE NEIGHBOUR: 'it returns false'. Refute it at one input. -/
def readyTurnedWrong : ChangeSpec := { name := "readyTurned", fn := fun _ => fun
  | [d1, d2, d3] => { results := [.lit (.bool false)], args := [d1, d2, d3] }
  | _ => none }
def ReadyTurnedWrongFalsely : Prop := readyTurnedRow.holds Try.pinned (OpenSpec.ofChange readyTurnedWrong)

/- THE SECOND FORM. 'bulk': how many values and letters a reading holds, each counted each time it is reached (what is shared counts as often as it is met; a slice's spare places count too). A statement '..UptoSaid' is the law's where the arguments, and the package variables that the reading takes, are together of bulk at most 1048576: NARROWER than '..Said'. Prove '..Said' where nothing that the law and all that it calls make is longer than what came in: it says more and counts as full. Else prove '..UptoSaid'. A law counts once. -/
mutual
def uptoBulk {H : Type} : DataW H → Nat
  | .lit (.string bytes) => bytes.length + 1
  | .lit _ => 1
  | .nil => 1
  | .ptr d => uptoBulk d + 1
  | .slice elems spare => uptoBulkAll elems + uptoBulkAll spare + 1
  | .agg parts => uptoBulkAll parts + 1
  | .iface _ d => uptoBulk d + 1
  | .map entries => uptoBulkEntries entries + 1
  | .held _ => 1
def uptoBulkAll {H : Type} : List (DataW H) → Nat
  | [] => 0
  | d :: r => uptoBulk d + uptoBulkAll r
def uptoBulkEntries {H : Type} : List (Lit × DataW H) → Nat
  | [] => 0
  | x :: r => uptoBulkEntry x + uptoBulkEntries r
def uptoBulkEntry {H : Type} : Lit × DataW H → Nat
  | (.string bytes, d) => bytes.length + uptoBulk d + 1
  | (_, d) => uptoBulk d + 1
 end
def uptoSmall : (H : Type) → List (DataW H) → Bool := fun _ ds => decide (uptoBulkAll ds ≤ 1048576)
def OpenSpec.upto (s : _root_.Go.ChangeSpec) : _root_.Go.OpenSpec := { _root_.Go.OpenSpec.ofChange s with cond := some uptoSmall }

/-- 'coxswainlaw8.ReadyScript', WHERE WHAT IT READS IS OF BULK AT MOST 1048576: true; the input reads as it did. -/
def readyScriptUptoRow : OpenClaim := { program := "ytpajebedeacpgaa", sum := "23a1de2b4133552a0366d4d4fe4fcc35608cb31d0f1cf64317bbae91d7456c8e", func := "coxswain/coxswainlaw8.ReadyScript", spec := "readyScript", inPlace := ["slices.overlaps[int]"], unfollowed := true, recurses := true, apart := false, narrowed := true }
def ReadyScriptUptoSaid : Prop := readyScriptUptoRow.holds Try.pinned (OpenSpec.upto readyScriptSpec)

/-- 'coxswainlaw8.ReadyFirst', WHERE WHAT IT READS IS OF BULK AT MOST 1048576: true; the input reads as it did. -/
def readyFirstUptoRow : OpenClaim := { program := "ytpajebedeacpgaa", sum := "23a1de2b4133552a0366d4d4fe4fcc35608cb31d0f1cf64317bbae91d7456c8e", func := "coxswain/coxswainlaw8.ReadyFirst", spec := "readyFirst", inPlace := ["slices.overlaps[int]"], unfollowed := true, recurses := true, apart := false, narrowed := true }
def ReadyFirstUptoSaid : Prop := readyFirstUptoRow.holds Try.pinned (OpenSpec.upto readyFirstSpec)

/-- 'coxswainlaw8.ReadyNone', WHERE WHAT IT READS IS OF BULK AT MOST 1048576: true; the input reads as it did. -/
def readyNoneUptoRow : OpenClaim := { program := "ytpajebedeacpgaa", sum := "23a1de2b4133552a0366d4d4fe4fcc35608cb31d0f1cf64317bbae91d7456c8e", func := "coxswain/coxswainlaw8.ReadyNone", spec := "readyNone", inPlace := ["slices.overlaps[int]"], unfollowed := true, recurses := true, apart := false, narrowed := true }
def ReadyNoneUptoSaid : Prop := readyNoneUptoRow.holds Try.pinned (OpenSpec.upto readyNoneSpec)

/-- 'coxswainlaw8.ReadyTurned', WHERE WHAT IT READS IS OF BULK AT MOST 1048576: true; the input reads as it did. -/
def readyTurnedUptoRow : OpenClaim := { program := "ytpajebedeacpgaa", sum := "23a1de2b4133552a0366d4d4fe4fcc35608cb31d0f1cf64317bbae91d7456c8e", func := "coxswain/coxswainlaw8.ReadyTurned", spec := "readyTurned", inPlace := ["slices.overlaps[int]"], unfollowed := true, recurses := true, apart := false, narrowed := true }
def ReadyTurnedUptoSaid : Prop := readyTurnedUptoRow.holds Try.pinned (OpenSpec.upto readyTurnedSpec)

end Rows
end Go.Proofs.Ytpajebedeacpgaa
