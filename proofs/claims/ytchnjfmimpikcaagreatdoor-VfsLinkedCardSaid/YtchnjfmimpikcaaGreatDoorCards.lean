/-
  DERIVED. GIVEN WITH THE SEED: THE CARDS: each row of YtchnjfmimpikcaaGreatDoorRows.lean that lists a variable, with what it lists TIED to the program's text (the seventh form; the later family's looks); each row that meets fmt, with fmt's text TOLD by the authors' own Lean function (tested against real Go, not proved from fmt's source: count such statements apart). THE CARD IS WHAT COUNTS. Prove the row's statement (the work); the ties are given (YtchnjfmimpikcaaGreatDoorTie.lean); close each card by the builder's one call (the guide's Derived/Test/ToyasCard.lean, 'card_holds'). Laid BY PROGRAM, IN A SANDBOX (cutbox-door.mjs). By AI agents, Wed Nov 11 2026. No macro, syntax, notation, axiom, sorry.
-/
import Derived.Test.YtchnjfmimpikcaaGreatDoorRows
import GoSem.ClaimSeven
namespace Go.Proofs.YtchnjfmimpikcaaGreatDoor
namespace Rows

/-- THE TIED CARD OF 'coxswainlaw22.VfsLinked'. -/
def vfsLinkedCard : Claim7 := { stood := { row := vfsLinkedRow, standIns := [], harness := (true, "010566fdc14d3130077bde4f768874d3e73a77b05600a0491c5b085ffac1a591"), looks := false }, kinds := [], alts := [], laidByText := true, laidKinds := [.data, .pinned], laidTests := true, laidLooks := .later }
def VfsLinkedCardSaid : Prop := Claim7.holds Tryz.pinned (.plain (OpenSpec.ofChange vfsLinkedSpec)) vfsLinkedCard

/-- THE TIED CARD OF 'coxswainlaw22.VfsRenamed'. -/
def vfsRenamedCard : Claim7 := { stood := { row := vfsRenamedRow, standIns := [], harness := (true, "010566fdc14d3130077bde4f768874d3e73a77b05600a0491c5b085ffac1a591"), looks := false }, kinds := [], alts := [], laidByText := true, laidKinds := [.data, .pinned], laidTests := true, laidLooks := .later }
def VfsRenamedCardSaid : Prop := Claim7.holds Tryz.pinned (.plain (OpenSpec.ofChange vfsRenamedSpec)) vfsRenamedCard

/-- THE TIED CARD OF 'coxswainlaw22.VfsScript'. -/
def vfsScriptCard : Claim7 := { stood := { row := vfsScriptRow, standIns := [], harness := (true, "010566fdc14d3130077bde4f768874d3e73a77b05600a0491c5b085ffac1a591"), looks := false }, kinds := [], alts := [], laidByText := true, laidKinds := [.data, .pinned], laidTests := true, laidLooks := .later }
def VfsScriptCardSaid : Prop := Claim7.holds Tryz.pinned (.plain (OpenSpec.ofChange vfsScriptSpec)) vfsScriptCard

/-- THE TIED CARD OF 'coxswainlaw22.VfsErrors'. -/
def vfsErrorsCard : Claim7 := { stood := { row := vfsErrorsRow, standIns := [], harness := (true, "010566fdc14d3130077bde4f768874d3e73a77b05600a0491c5b085ffac1a591"), looks := false }, kinds := [], alts := [], laidByText := true, laidKinds := [.data, .pinned], laidTests := true, laidLooks := .later }
def VfsErrorsCardSaid : Prop := Claim7.holds Tryz.pinned (.plain (OpenSpec.ofChange vfsErrorsSpec)) vfsErrorsCard

/-- THE SECOND FORM's CARD OF 'coxswainlaw22.VfsLinked'. -/
def vfsLinkedUptoCard : Claim7 := { stood := { row := vfsLinkedUptoRow, standIns := [], harness := (true, "010566fdc14d3130077bde4f768874d3e73a77b05600a0491c5b085ffac1a591"), looks := false }, kinds := [], alts := [], laidByText := true, laidKinds := [.data, .pinned], laidTests := true, laidLooks := .later }
def VfsLinkedUptoCardSaid : Prop := Claim7.holds Tryz.pinned (.plain (OpenSpec.upto vfsLinkedSpec)) vfsLinkedUptoCard

/-- THE SECOND FORM's CARD OF 'coxswainlaw22.VfsRenamed'. -/
def vfsRenamedUptoCard : Claim7 := { stood := { row := vfsRenamedUptoRow, standIns := [], harness := (true, "010566fdc14d3130077bde4f768874d3e73a77b05600a0491c5b085ffac1a591"), looks := false }, kinds := [], alts := [], laidByText := true, laidKinds := [.data, .pinned], laidTests := true, laidLooks := .later }
def VfsRenamedUptoCardSaid : Prop := Claim7.holds Tryz.pinned (.plain (OpenSpec.upto vfsRenamedSpec)) vfsRenamedUptoCard

/-- THE SECOND FORM's CARD OF 'coxswainlaw22.VfsScript'. -/
def vfsScriptUptoCard : Claim7 := { stood := { row := vfsScriptUptoRow, standIns := [], harness := (true, "010566fdc14d3130077bde4f768874d3e73a77b05600a0491c5b085ffac1a591"), looks := false }, kinds := [], alts := [], laidByText := true, laidKinds := [.data, .pinned], laidTests := true, laidLooks := .later }
def VfsScriptUptoCardSaid : Prop := Claim7.holds Tryz.pinned (.plain (OpenSpec.upto vfsScriptSpec)) vfsScriptUptoCard

/-- THE SECOND FORM's CARD OF 'coxswainlaw22.VfsErrors'. -/
def vfsErrorsUptoCard : Claim7 := { stood := { row := vfsErrorsUptoRow, standIns := [], harness := (true, "010566fdc14d3130077bde4f768874d3e73a77b05600a0491c5b085ffac1a591"), looks := false }, kinds := [], alts := [], laidByText := true, laidKinds := [.data, .pinned], laidTests := true, laidLooks := .later }
def VfsErrorsUptoCardSaid : Prop := Claim7.holds Tryz.pinned (.plain (OpenSpec.upto vfsErrorsSpec)) vfsErrorsUptoCard
end Rows
end Go.Proofs.YtchnjfmimpikcaaGreatDoor
