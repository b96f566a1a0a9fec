/-
  No cell of these rows narrows 'for every input' (looked for: loops, veiled, ifaces, maps, wideKeys, modest, calm, conditions, laid).
  DERIVED. THE GIVEN ROWS OF THIS SEAT. 4 by the template 'for every input the law returns true; each argument reads behind the call as it read before'; 0 by the template 'total and deterministic' (their statements: YtapkdaccbojbgaaTotals.lean).
  GIVEN WITH THE SEED: the statements are not yours to turn. If you find one false, say at which input.
  Laid BY PROGRAM, IN A SANDBOX (cutbox-rows.mjs): the forced cells as the released guide's own fill.sh prints them over the translation 9d5f15db1feacae3… (all of the seat's roots in one cut). By AI agents, Wed Nov 11 2026. No macro, syntax, notation, axiom, sorry.
-/
import Derived.Test.YtapkdaccbojbgaaChecked
import GoSem.Claim
import GoSem.ClaimJoined
import GoSem.ClaimMapViews
import Derived.JoinedTies
import Derived.KernelRfl
namespace Go.Proofs.Ytapkdaccbojbgaa
/- THE CELL 'sum', in the pinned program and in every row, IS THE sha256 OF THE DUMP (.gsa) THAT YtapkdaccbojbgaaProg.lean LOADS. Nothing in Lean hashes anything: it is a label: what it is worth is what the hold of that sum in a sandbox is worth. -/
noncomputable def Try.pinned : Pinned := { name := "ytapkdaccbojbgaa", sum := "9d5f15db1feacae37c21d9bef85f05723b57afe13933d7ff23c9004f89367a51", checked := Try.checked }
namespace Rows
def none {H : Type} : Left H := { results := [], args := [] }

/-- 'coxswainlaw21.InodeNames': WHATEVER THE INPUT: true; the input reads as it did. -/
def inodeNamesSpec : ChangeSpec := { name := "inodeNames", fn := fun _ => fun
  | [d1, d2] => { results := [.lit (.bool true)], args := [d1, d2] }
  | _ => none }
def inodeNamesRow : OpenClaim := { program := "ytapkdaccbojbgaa", sum := "9d5f15db1feacae37c21d9bef85f05723b57afe13933d7ff23c9004f89367a51", func := "coxswain/coxswainlaw21.InodeNames", spec := "inodeNames", inPlace := ["internal/bytealg.IndexByteString", "slices.overlaps[coxswain/api.Entry]"], unfollowed := true, recurses := true, apart := false }
def InodeNamesSaid : Prop := inodeNamesRow.holds Try.pinned (OpenSpec.ofChange inodeNamesSpec)

/-- ITS FALSE NEIGHBOUR: 'it returns false'. Refute it at one input. -/
def inodeNamesWrong : ChangeSpec := { name := "inodeNames", fn := fun _ => fun
  | [d1, d2] => { results := [.lit (.bool false)], args := [d1, d2] }
  | _ => none }
def InodeNamesWrongFalsely : Prop := inodeNamesRow.holds Try.pinned (OpenSpec.ofChange inodeNamesWrong)

/-- 'coxswainlaw21.InodeScript': WHATEVER THE INPUT: true; the input reads as it did. -/
def inodeScriptSpec : ChangeSpec := { name := "inodeScript", fn := fun _ => fun
  | [d] => { results := [.lit (.bool true)], args := [d] }
  | _ => none }
def inodeScriptRow : OpenClaim := { program := "ytapkdaccbojbgaa", sum := "9d5f15db1feacae37c21d9bef85f05723b57afe13933d7ff23c9004f89367a51", func := "coxswain/coxswainlaw21.InodeScript", spec := "inodeScript", inPlace := ["internal/bytealg.IndexByteString", "slices.overlaps[coxswain/api.Entry]"], unfollowed := true, recurses := true, apart := false }
def InodeScriptSaid : Prop := inodeScriptRow.holds Try.pinned (OpenSpec.ofChange inodeScriptSpec)

/-- ITS FALSE NEIGHBOUR: 'it returns false'. Refute it at one input. -/
def inodeScriptWrong : ChangeSpec := { name := "inodeScript", fn := fun _ => fun
  | [d] => { results := [.lit (.bool false)], args := [d] }
  | _ => none }
def InodeScriptWrongFalsely : Prop := inodeScriptRow.holds Try.pinned (OpenSpec.ofChange inodeScriptWrong)

/-- 'coxswainlaw21.InodeLinks': WHATEVER THE INPUT: true; the input reads as it did. -/
def inodeLinksSpec : ChangeSpec := { name := "inodeLinks", fn := fun _ => fun
  | [d] => { results := [.lit (.bool true)], args := [d] }
  | _ => none }
def inodeLinksRow : OpenClaim := { program := "ytapkdaccbojbgaa", sum := "9d5f15db1feacae37c21d9bef85f05723b57afe13933d7ff23c9004f89367a51", func := "coxswain/coxswainlaw21.InodeLinks", spec := "inodeLinks", inPlace := ["internal/bytealg.IndexByteString", "slices.overlaps[coxswain/api.Entry]"], unfollowed := true, recurses := true, apart := false }
def InodeLinksSaid : Prop := inodeLinksRow.holds Try.pinned (OpenSpec.ofChange inodeLinksSpec)

/-- ITS FALSE NEIGHBOUR: 'it returns false'. Refute it at one input. -/
def inodeLinksWrong : ChangeSpec := { name := "inodeLinks", fn := fun _ => fun
  | [d] => { results := [.lit (.bool false)], args := [d] }
  | _ => none }
def InodeLinksWrongFalsely : Prop := inodeLinksRow.holds Try.pinned (OpenSpec.ofChange inodeLinksWrong)

/-- 'coxswainlaw21.InodeNone': WHATEVER THE INPUT: true; the input reads as it did. -/
def inodeNoneSpec : ChangeSpec := { name := "inodeNone", fn := fun _ => fun
  | [d] => { results := [.lit (.bool true)], args := [d] }
  | _ => none }
def inodeNoneRow : OpenClaim := { program := "ytapkdaccbojbgaa", sum := "9d5f15db1feacae37c21d9bef85f05723b57afe13933d7ff23c9004f89367a51", func := "coxswain/coxswainlaw21.InodeNone", spec := "inodeNone", inPlace := ["internal/bytealg.IndexByteString", "slices.overlaps[coxswain/api.Entry]"], unfollowed := true, recurses := true, apart := false }
def InodeNoneSaid : Prop := inodeNoneRow.holds Try.pinned (OpenSpec.ofChange inodeNoneSpec)

/-- ITS FALSE NEIGHBOUR: 'it returns false'. Refute it at one input. -/
def inodeNoneWrong : ChangeSpec := { name := "inodeNone", fn := fun _ => fun
  | [d] => { results := [.lit (.bool false)], args := [d] }
  | _ => none }
def InodeNoneWrongFalsely : Prop := inodeNoneRow.holds Try.pinned (OpenSpec.ofChange inodeNoneWrong)

/- THE SECOND FORM. 'bulk': how many values and letters a reading holds, each counted each time it is reached (what is shared counts as often as it is met; a slice's spare places count too). A statement '..UptoSaid' is the law's where the arguments, and the package variables that the reading takes, are together of bulk at most 1048576: NARROWER than '..Said'. Prove '..Said' where nothing that the law and all that it calls make is longer than what came in: it says more and counts as full. Else prove '..UptoSaid'. A law counts once. -/
mutual
def uptoBulk {H : Type} : DataW H → Nat
  | .lit (.string bytes) => bytes.length + 1
  | .lit _ => 1
  | .nil => 1
  | .ptr d => uptoBulk d + 1
  | .slice elems spare => uptoBulkAll elems + uptoBulkAll spare + 1
  | .agg parts => uptoBulkAll parts + 1
  | .iface _ d => uptoBulk d + 1
  | .map entries => uptoBulkEntries entries + 1
  | .held _ => 1
def uptoBulkAll {H : Type} : List (DataW H) → Nat
  | [] => 0
  | d :: r => uptoBulk d + uptoBulkAll r
def uptoBulkEntries {H : Type} : List (Lit × DataW H) → Nat
  | [] => 0
  | x :: r => uptoBulkEntry x + uptoBulkEntries r
def uptoBulkEntry {H : Type} : Lit × DataW H → Nat
  | (.string bytes, d) => bytes.length + uptoBulk d + 1
  | (_, d) => uptoBulk d + 1
 end
def uptoSmall : (H : Type) → List (DataW H) → Bool := fun _ ds => decide (uptoBulkAll ds ≤ 1048576)
def OpenSpec.upto (s : _root_.Go.ChangeSpec) : _root_.Go.OpenSpec := { _root_.Go.OpenSpec.ofChange s with cond := some uptoSmall }

/-- 'coxswainlaw21.InodeNames', WHERE WHAT IT READS IS OF BULK AT MOST 1048576: true; the input reads as it did. -/
def inodeNamesUptoRow : OpenClaim := { program := "ytapkdaccbojbgaa", sum := "9d5f15db1feacae37c21d9bef85f05723b57afe13933d7ff23c9004f89367a51", func := "coxswain/coxswainlaw21.InodeNames", spec := "inodeNames", inPlace := ["internal/bytealg.IndexByteString", "slices.overlaps[coxswain/api.Entry]"], unfollowed := true, recurses := true, apart := false, narrowed := true }
def InodeNamesUptoSaid : Prop := inodeNamesUptoRow.holds Try.pinned (OpenSpec.upto inodeNamesSpec)

/-- 'coxswainlaw21.InodeScript', WHERE WHAT IT READS IS OF BULK AT MOST 1048576: true; the input reads as it did. -/
def inodeScriptUptoRow : OpenClaim := { program := "ytapkdaccbojbgaa", sum := "9d5f15db1feacae37c21d9bef85f05723b57afe13933d7ff23c9004f89367a51", func := "coxswain/coxswainlaw21.InodeScript", spec := "inodeScript", inPlace := ["internal/bytealg.IndexByteString", "slices.overlaps[coxswain/api.Entry]"], unfollowed := true, recurses := true, apart := false, narrowed := true }
def InodeScriptUptoSaid : Prop := inodeScriptUptoRow.holds Try.pinned (OpenSpec.upto inodeScriptSpec)

/-- 'coxswainlaw21.InodeLinks', WHERE WHAT IT READS IS OF BULK AT MOST 1048576: true; the input reads as it did. -/
def inodeLinksUptoRow : OpenClaim := { program := "ytapkdaccbojbgaa", sum := "9d5f15db1feacae37c21d9bef85f05723b57afe13933d7ff23c9004f89367a51", func := "coxswain/coxswainlaw21.InodeLinks", spec := "inodeLinks", inPlace := ["internal/bytealg.IndexByteString", "slices.overlaps[coxswain/api.Entry]"], unfollowed := true, recurses := true, apart := false, narrowed := true }
def InodeLinksUptoSaid : Prop := inodeLinksUptoRow.holds Try.pinned (OpenSpec.upto inodeLinksSpec)

/-- 'coxswainlaw21.InodeNone', WHERE WHAT IT READS IS OF BULK AT MOST 1048576: true; the input reads as it did. -/
def inodeNoneUptoRow : OpenClaim := { program := "ytapkdaccbojbgaa", sum := "9d5f15db1feacae37c21d9bef85f05723b57afe13933d7ff23c9004f89367a51", func := "coxswain/coxswainlaw21.InodeNone", spec := "inodeNone", inPlace := ["internal/bytealg.IndexByteString", "slices.overlaps[coxswain/api.Entry]"], unfollowed := true, recurses := true, apart := false, narrowed := true }
def InodeNoneUptoSaid : Prop := inodeNoneUptoRow.holds Try.pinned (OpenSpec.upto inodeNoneSpec)

end Rows
end Go.Proofs.Ytapkdaccbojbgaa
