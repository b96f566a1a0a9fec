/-
  DERIVED. GIVEN WITH THE SEED: THE CARDS: each row of YtchnjfmimpikcaaDoorRows.lean that lists a variable, with what it lists TIED to the program's text (the seventh form; the later family's looks); each row that meets fmt, with fmt's text TOLD by the authors' own Lean function (tested against real Go, not proved from fmt's source: count such statements apart). THE CARD IS WHAT COUNTS. Prove the row's statement (the work); the ties are given (YtchnjfmimpikcaaDoorTie.lean); close each card by the builder's one call (the guide's Derived/Test/ToyasCard.lean, 'card_holds'). Laid BY PROGRAM, IN A SANDBOX (cutbox-door.mjs). By AI agents, Wed Nov 11 2026. No macro, syntax, notation, axiom, sorry.
-/
import Derived.Test.YtchnjfmimpikcaaDoorRows
import GoSem.ClaimSeven
namespace Go.Proofs.YtchnjfmimpikcaaDoor
namespace Rows

/-- THE TIED CARD OF 'coxswainlaw22.VfsDeep'. -/
def vfsDeepCard : Claim7 := { stood := { row := vfsDeepRow, standIns := [], harness := (true, "ff270c118096b28be3aa61893831a44dcfbee1d521b22643a7431d4ce415b25e"), looks := false }, kinds := [], alts := [], laidByText := true, laidKinds := [.data, .pinned], laidTests := true, laidLooks := .later }
def VfsDeepCardSaid : Prop := Claim7.holds Tryd.pinned (.plain (OpenSpec.ofChange vfsDeepSpec)) vfsDeepCard

/-- THE TIED CARD OF 'coxswainlaw22.VfsNone'. -/
def vfsNoneCard : Claim7 := { stood := { row := vfsNoneRow, standIns := [], harness := (true, "ff270c118096b28be3aa61893831a44dcfbee1d521b22643a7431d4ce415b25e"), looks := false }, kinds := [], alts := [], laidByText := true, laidKinds := [.data, .pinned], laidTests := true, laidLooks := .later }
def VfsNoneCardSaid : Prop := Claim7.holds Tryd.pinned (.plain (OpenSpec.ofChange vfsNoneSpec)) vfsNoneCard

/-- THE TIED CARD OF 'coxswainlaw22.VfsOpen'. -/
def vfsOpenCard : Claim7 := { stood := { row := vfsOpenRow, standIns := [], harness := (true, "ff270c118096b28be3aa61893831a44dcfbee1d521b22643a7431d4ce415b25e"), looks := false }, kinds := [], alts := [], laidByText := true, laidKinds := [.data, .pinned], laidTests := true, laidLooks := .later }
def VfsOpenCardSaid : Prop := Claim7.holds Tryd.pinned (.plain (OpenSpec.ofChange vfsOpenSpec)) vfsOpenCard

/-- THE SECOND FORM's CARD OF 'coxswainlaw22.VfsDeep'. -/
def vfsDeepUptoCard : Claim7 := { stood := { row := vfsDeepUptoRow, standIns := [], harness := (true, "ff270c118096b28be3aa61893831a44dcfbee1d521b22643a7431d4ce415b25e"), looks := false }, kinds := [], alts := [], laidByText := true, laidKinds := [.data, .pinned], laidTests := true, laidLooks := .later }
def VfsDeepUptoCardSaid : Prop := Claim7.holds Tryd.pinned (.plain (OpenSpec.upto vfsDeepSpec)) vfsDeepUptoCard

/-- THE SECOND FORM's CARD OF 'coxswainlaw22.VfsNone'. -/
def vfsNoneUptoCard : Claim7 := { stood := { row := vfsNoneUptoRow, standIns := [], harness := (true, "ff270c118096b28be3aa61893831a44dcfbee1d521b22643a7431d4ce415b25e"), looks := false }, kinds := [], alts := [], laidByText := true, laidKinds := [.data, .pinned], laidTests := true, laidLooks := .later }
def VfsNoneUptoCardSaid : Prop := Claim7.holds Tryd.pinned (.plain (OpenSpec.upto vfsNoneSpec)) vfsNoneUptoCard

/-- THE SECOND FORM's CARD OF 'coxswainlaw22.VfsOpen'. -/
def vfsOpenUptoCard : Claim7 := { stood := { row := vfsOpenUptoRow, standIns := [], harness := (true, "ff270c118096b28be3aa61893831a44dcfbee1d521b22643a7431d4ce415b25e"), looks := false }, kinds := [], alts := [], laidByText := true, laidKinds := [.data, .pinned], laidTests := true, laidLooks := .later }
def VfsOpenUptoCardSaid : Prop := Claim7.holds Tryd.pinned (.plain (OpenSpec.upto vfsOpenSpec)) vfsOpenUptoCard
end Rows
end Go.Proofs.YtchnjfmimpikcaaDoor
