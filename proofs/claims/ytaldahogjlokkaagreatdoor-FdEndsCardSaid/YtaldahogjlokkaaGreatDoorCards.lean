/-
  DERIVED. GIVEN WITH THE SEED: THE CARDS: each row of YtaldahogjlokkaaGreatDoorRows.lean that lists a variable, with what it lists TIED to the program's text (the seventh form; the later family's looks); each row that meets fmt, with fmt's text TOLD by the authors' own Lean function (tested against real Go, not proved from fmt's source: count such statements apart). THE CARD IS WHAT COUNTS. Prove the row's statement (the work); the ties are given (YtaldahogjlokkaaGreatDoorTie.lean); close each card by the builder's one call (the guide's Derived/Test/ToyasCard.lean, 'card_holds'). Laid BY PROGRAM, IN A SANDBOX (cutbox-door.mjs). By AI agents, Wed Nov 11 2026. No macro, syntax, notation, axiom, sorry.
-/
import Derived.Test.YtaldahogjlokkaaGreatDoorRows
import GoSem.ClaimSeven
namespace Go.Proofs.YtaldahogjlokkaaGreatDoor
namespace Rows

/-- THE TIED CARD OF 'coxswainlaw24.FdAppends'. -/
def fdAppendsCard : Claim7 := { stood := { row := fdAppendsRow, standIns := [], harness := (true, "ed4624f5f79a0bfee72120b2cd47ceb1c5b876250441d5625d88baeda27a2494"), looks := false }, kinds := [], alts := [], laidByText := true, laidKinds := [.data, .pinned], laidTests := true, laidLooks := .later }
def FdAppendsCardSaid : Prop := Claim7.holds Tryz.pinned (.plain (OpenSpec.ofChange fdAppendsSpec)) fdAppendsCard

/-- THE TIED CARD OF 'coxswainlaw24.FdPieces'. -/
def fdPiecesCard : Claim7 := { stood := { row := fdPiecesRow, standIns := [], harness := (true, "ed4624f5f79a0bfee72120b2cd47ceb1c5b876250441d5625d88baeda27a2494"), looks := false }, kinds := [], alts := [], laidByText := true, laidKinds := [.data, .pinned], laidTests := true, laidLooks := .later }
def FdPiecesCardSaid : Prop := Claim7.holds Tryz.pinned (.plain (OpenSpec.ofChange fdPiecesSpec)) fdPiecesCard

/-- THE TIED CARD OF 'coxswainlaw24.FdShared'. -/
def fdSharedCard : Claim7 := { stood := { row := fdSharedRow, standIns := [], harness := (true, "ed4624f5f79a0bfee72120b2cd47ceb1c5b876250441d5625d88baeda27a2494"), looks := false }, kinds := [], alts := [], laidByText := true, laidKinds := [.data, .pinned], laidTests := true, laidLooks := .later }
def FdSharedCardSaid : Prop := Claim7.holds Tryz.pinned (.plain (OpenSpec.ofChange fdSharedSpec)) fdSharedCard

/-- THE TIED CARD OF 'coxswainlaw24.FdLeast'. -/
def fdLeastCard : Claim7 := { stood := { row := fdLeastRow, standIns := [], harness := (true, "ed4624f5f79a0bfee72120b2cd47ceb1c5b876250441d5625d88baeda27a2494"), looks := false }, kinds := [], alts := [], laidByText := true, laidKinds := [.data, .pinned], laidTests := true, laidLooks := .later }
def FdLeastCardSaid : Prop := Claim7.holds Tryz.pinned (.plain (OpenSpec.ofChange fdLeastSpec)) fdLeastCard

/-- THE TIED CARD OF 'coxswainlaw24.FdScript'. -/
def fdScriptCard : Claim7 := { stood := { row := fdScriptRow, standIns := [], harness := (true, "ed4624f5f79a0bfee72120b2cd47ceb1c5b876250441d5625d88baeda27a2494"), looks := false }, kinds := [], alts := [], laidByText := true, laidKinds := [.data, .pinned], laidTests := true, laidLooks := .later }
def FdScriptCardSaid : Prop := Claim7.holds Tryz.pinned (.plain (OpenSpec.ofChange fdScriptSpec)) fdScriptCard

/-- THE TIED CARD OF 'coxswainlaw24.FdEnds'. -/
def fdEndsCard : Claim7 := { stood := { row := fdEndsRow, standIns := [], harness := (true, "ed4624f5f79a0bfee72120b2cd47ceb1c5b876250441d5625d88baeda27a2494"), looks := false }, kinds := [], alts := [], laidByText := true, laidKinds := [.data, .pinned], laidTests := true, laidLooks := .later }
def FdEndsCardSaid : Prop := Claim7.holds Tryz.pinned (.plain (OpenSpec.ofChange fdEndsSpec)) fdEndsCard

/-- THE TIED CARD OF 'coxswainlaw24.FdNone'. -/
def fdNoneCard : Claim7 := { stood := { row := fdNoneRow, standIns := [], harness := (true, "ed4624f5f79a0bfee72120b2cd47ceb1c5b876250441d5625d88baeda27a2494"), looks := false }, kinds := [], alts := [], laidByText := true, laidKinds := [.data, .pinned], laidTests := true, laidLooks := .later }
def FdNoneCardSaid : Prop := Claim7.holds Tryz.pinned (.plain (OpenSpec.ofChange fdNoneSpec)) fdNoneCard

/-- THE SECOND FORM's CARD OF 'coxswainlaw24.FdAppends'. -/
def fdAppendsUptoCard : Claim7 := { stood := { row := fdAppendsUptoRow, standIns := [], harness := (true, "ed4624f5f79a0bfee72120b2cd47ceb1c5b876250441d5625d88baeda27a2494"), looks := false }, kinds := [], alts := [], laidByText := true, laidKinds := [.data, .pinned], laidTests := true, laidLooks := .later }
def FdAppendsUptoCardSaid : Prop := Claim7.holds Tryz.pinned (.plain (OpenSpec.upto fdAppendsSpec)) fdAppendsUptoCard

/-- THE SECOND FORM's CARD OF 'coxswainlaw24.FdPieces'. -/
def fdPiecesUptoCard : Claim7 := { stood := { row := fdPiecesUptoRow, standIns := [], harness := (true, "ed4624f5f79a0bfee72120b2cd47ceb1c5b876250441d5625d88baeda27a2494"), looks := false }, kinds := [], alts := [], laidByText := true, laidKinds := [.data, .pinned], laidTests := true, laidLooks := .later }
def FdPiecesUptoCardSaid : Prop := Claim7.holds Tryz.pinned (.plain (OpenSpec.upto fdPiecesSpec)) fdPiecesUptoCard

/-- THE SECOND FORM's CARD OF 'coxswainlaw24.FdShared'. -/
def fdSharedUptoCard : Claim7 := { stood := { row := fdSharedUptoRow, standIns := [], harness := (true, "ed4624f5f79a0bfee72120b2cd47ceb1c5b876250441d5625d88baeda27a2494"), looks := false }, kinds := [], alts := [], laidByText := true, laidKinds := [.data, .pinned], laidTests := true, laidLooks := .later }
def FdSharedUptoCardSaid : Prop := Claim7.holds Tryz.pinned (.plain (OpenSpec.upto fdSharedSpec)) fdSharedUptoCard

/-- THE SECOND FORM's CARD OF 'coxswainlaw24.FdLeast'. -/
def fdLeastUptoCard : Claim7 := { stood := { row := fdLeastUptoRow, standIns := [], harness := (true, "ed4624f5f79a0bfee72120b2cd47ceb1c5b876250441d5625d88baeda27a2494"), looks := false }, kinds := [], alts := [], laidByText := true, laidKinds := [.data, .pinned], laidTests := true, laidLooks := .later }
def FdLeastUptoCardSaid : Prop := Claim7.holds Tryz.pinned (.plain (OpenSpec.upto fdLeastSpec)) fdLeastUptoCard

/-- THE SECOND FORM's CARD OF 'coxswainlaw24.FdScript'. -/
def fdScriptUptoCard : Claim7 := { stood := { row := fdScriptUptoRow, standIns := [], harness := (true, "ed4624f5f79a0bfee72120b2cd47ceb1c5b876250441d5625d88baeda27a2494"), looks := false }, kinds := [], alts := [], laidByText := true, laidKinds := [.data, .pinned], laidTests := true, laidLooks := .later }
def FdScriptUptoCardSaid : Prop := Claim7.holds Tryz.pinned (.plain (OpenSpec.upto fdScriptSpec)) fdScriptUptoCard

/-- THE SECOND FORM's CARD OF 'coxswainlaw24.FdEnds'. -/
def fdEndsUptoCard : Claim7 := { stood := { row := fdEndsUptoRow, standIns := [], harness := (true, "ed4624f5f79a0bfee72120b2cd47ceb1c5b876250441d5625d88baeda27a2494"), looks := false }, kinds := [], alts := [], laidByText := true, laidKinds := [.data, .pinned], laidTests := true, laidLooks := .later }
def FdEndsUptoCardSaid : Prop := Claim7.holds Tryz.pinned (.plain (OpenSpec.upto fdEndsSpec)) fdEndsUptoCard

/-- THE SECOND FORM's CARD OF 'coxswainlaw24.FdNone'. -/
def fdNoneUptoCard : Claim7 := { stood := { row := fdNoneUptoRow, standIns := [], harness := (true, "ed4624f5f79a0bfee72120b2cd47ceb1c5b876250441d5625d88baeda27a2494"), looks := false }, kinds := [], alts := [], laidByText := true, laidKinds := [.data, .pinned], laidTests := true, laidLooks := .later }
def FdNoneUptoCardSaid : Prop := Claim7.holds Tryz.pinned (.plain (OpenSpec.upto fdNoneSpec)) fdNoneUptoCard
end Rows
end Go.Proofs.YtaldahogjlokkaaGreatDoor
