/-
  DERIVED. GIVEN WITH THE SEED: THE CARDS: each row of YtjpjafajploiaaaGreatDoorRows.lean that lists a variable, with what it lists TIED to the program's text (the seventh form; the later family's looks); each row that meets fmt, with fmt's text TOLD by the authors' own Lean function (tested against real Go, not proved from fmt's source: count such statements apart). THE CARD IS WHAT COUNTS. Prove the row's statement (the work); the ties are given (YtjpjafajploiaaaGreatDoorTie.lean); close each card by the builder's one call (the guide's Derived/Test/ToyasCard.lean, 'card_holds'). Laid BY PROGRAM, IN A SANDBOX (cutbox-door.mjs). By AI agents, Wed Nov 11 2026. No macro, syntax, notation, axiom, sorry.
-/
import Derived.Test.YtjpjafajploiaaaGreatDoorRows
import GoSem.ClaimSeven
namespace Go.Proofs.YtjpjafajploiaaaGreatDoor
namespace Rows

/-- THE TIED CARD OF 'coxswainlaw27.UnixAlone'. -/
def unixAloneCard : Claim7 := { stood := { row := unixAloneRow, standIns := [], harness := (true, "1ca40bd50a8b2b196e7dbde4a4f5bc5909e5bdd3d31602d1943e3df5b3c40da4"), looks := false }, kinds := [], alts := [], laidByText := true, laidKinds := [.data, .pinned], laidTests := true, laidLooks := .later }
def UnixAloneCardSaid : Prop := Claim7.holds Tryz.pinned (.plain (OpenSpec.ofChange unixAloneSpec)) unixAloneCard

/-- THE TIED CARD OF 'coxswainlaw27.UnixErrors'. -/
def unixErrorsCard : Claim7 := { stood := { row := unixErrorsRow, standIns := [], harness := (true, "1ca40bd50a8b2b196e7dbde4a4f5bc5909e5bdd3d31602d1943e3df5b3c40da4"), looks := false }, kinds := [], alts := [], laidByText := true, laidKinds := [.data, .pinned], laidTests := true, laidLooks := .later }
def UnixErrorsCardSaid : Prop := Claim7.holds Tryz.pinned (.plain (OpenSpec.ofChange unixErrorsSpec)) unixErrorsCard

/-- THE TIED CARD OF 'coxswainlaw27.UnixScript'. -/
def unixScriptCard : Claim7 := { stood := { row := unixScriptRow, standIns := [], harness := (true, "1ca40bd50a8b2b196e7dbde4a4f5bc5909e5bdd3d31602d1943e3df5b3c40da4"), looks := false }, kinds := [], alts := [], laidByText := true, laidKinds := [.data, .pinned], laidTests := true, laidLooks := .later }
def UnixScriptCardSaid : Prop := Claim7.holds Tryz.pinned (.plain (OpenSpec.ofChange unixScriptSpec)) unixScriptCard

/-- THE TIED CARD OF 'coxswainlaw27.UnixGone'. -/
def unixGoneCard : Claim7 := { stood := { row := unixGoneRow, standIns := [], harness := (true, "1ca40bd50a8b2b196e7dbde4a4f5bc5909e5bdd3d31602d1943e3df5b3c40da4"), looks := false }, kinds := [], alts := [], laidByText := true, laidKinds := [.data, .pinned], laidTests := true, laidLooks := .later }
def UnixGoneCardSaid : Prop := Claim7.holds Tryz.pinned (.plain (OpenSpec.ofChange unixGoneSpec)) unixGoneCard

/-- THE TIED CARD OF 'coxswainlaw27.UnixNone'. -/
def unixNoneCard : Claim7 := { stood := { row := unixNoneRow, standIns := [], harness := (true, "1ca40bd50a8b2b196e7dbde4a4f5bc5909e5bdd3d31602d1943e3df5b3c40da4"), looks := false }, kinds := [], alts := [], laidByText := true, laidKinds := [.data, .pinned], laidTests := true, laidLooks := .later }
def UnixNoneCardSaid : Prop := Claim7.holds Tryz.pinned (.plain (OpenSpec.ofChange unixNoneSpec)) unixNoneCard

/-- THE SECOND FORM's CARD OF 'coxswainlaw27.UnixAlone'. -/
def unixAloneUptoCard : Claim7 := { stood := { row := unixAloneUptoRow, standIns := [], harness := (true, "1ca40bd50a8b2b196e7dbde4a4f5bc5909e5bdd3d31602d1943e3df5b3c40da4"), looks := false }, kinds := [], alts := [], laidByText := true, laidKinds := [.data, .pinned], laidTests := true, laidLooks := .later }
def UnixAloneUptoCardSaid : Prop := Claim7.holds Tryz.pinned (.plain (OpenSpec.upto unixAloneSpec)) unixAloneUptoCard

/-- THE SECOND FORM's CARD OF 'coxswainlaw27.UnixErrors'. -/
def unixErrorsUptoCard : Claim7 := { stood := { row := unixErrorsUptoRow, standIns := [], harness := (true, "1ca40bd50a8b2b196e7dbde4a4f5bc5909e5bdd3d31602d1943e3df5b3c40da4"), looks := false }, kinds := [], alts := [], laidByText := true, laidKinds := [.data, .pinned], laidTests := true, laidLooks := .later }
def UnixErrorsUptoCardSaid : Prop := Claim7.holds Tryz.pinned (.plain (OpenSpec.upto unixErrorsSpec)) unixErrorsUptoCard

/-- THE SECOND FORM's CARD OF 'coxswainlaw27.UnixScript'. -/
def unixScriptUptoCard : Claim7 := { stood := { row := unixScriptUptoRow, standIns := [], harness := (true, "1ca40bd50a8b2b196e7dbde4a4f5bc5909e5bdd3d31602d1943e3df5b3c40da4"), looks := false }, kinds := [], alts := [], laidByText := true, laidKinds := [.data, .pinned], laidTests := true, laidLooks := .later }
def UnixScriptUptoCardSaid : Prop := Claim7.holds Tryz.pinned (.plain (OpenSpec.upto unixScriptSpec)) unixScriptUptoCard

/-- THE SECOND FORM's CARD OF 'coxswainlaw27.UnixGone'. -/
def unixGoneUptoCard : Claim7 := { stood := { row := unixGoneUptoRow, standIns := [], harness := (true, "1ca40bd50a8b2b196e7dbde4a4f5bc5909e5bdd3d31602d1943e3df5b3c40da4"), looks := false }, kinds := [], alts := [], laidByText := true, laidKinds := [.data, .pinned], laidTests := true, laidLooks := .later }
def UnixGoneUptoCardSaid : Prop := Claim7.holds Tryz.pinned (.plain (OpenSpec.upto unixGoneSpec)) unixGoneUptoCard

/-- THE SECOND FORM's CARD OF 'coxswainlaw27.UnixNone'. -/
def unixNoneUptoCard : Claim7 := { stood := { row := unixNoneUptoRow, standIns := [], harness := (true, "1ca40bd50a8b2b196e7dbde4a4f5bc5909e5bdd3d31602d1943e3df5b3c40da4"), looks := false }, kinds := [], alts := [], laidByText := true, laidKinds := [.data, .pinned], laidTests := true, laidLooks := .later }
def UnixNoneUptoCardSaid : Prop := Claim7.holds Tryz.pinned (.plain (OpenSpec.upto unixNoneSpec)) unixNoneUptoCard
end Rows
end Go.Proofs.YtjpjafajploiaaaGreatDoor
