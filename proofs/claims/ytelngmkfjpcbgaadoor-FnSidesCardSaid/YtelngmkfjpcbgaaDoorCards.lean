/-
  DERIVED. GIVEN WITH THE SEED: THE CARDS: each row of YtelngmkfjpcbgaaDoorRows.lean that lists a variable, with what it lists TIED to the program's text (the seventh form; the later family's looks); each row that meets fmt, with fmt's text TOLD by the authors' own Lean function (tested against real Go, not proved from fmt's source: count such statements apart). THE CARD IS WHAT COUNTS. Prove the row's statement (the work); the ties are given (YtelngmkfjpcbgaaDoorTie.lean); close each card by the builder's one call (the guide's Derived/Test/ToyasCard.lean, 'card_holds'). Laid BY PROGRAM, IN A SANDBOX (cutbox-door.mjs). By AI agents, Wed Nov 11 2026. No macro, syntax, notation, axiom, sorry.
-/
import Derived.Test.YtelngmkfjpcbgaaDoorRows
import GoSem.ClaimSeven
namespace Go.Proofs.YtelngmkfjpcbgaaDoor
namespace Rows

/-- THE TIED CARD OF 'laws.FnExactMergeTexts'. -/
def fnExactMergeTextsCard : Claim7 := { stood := { row := fnExactMergeTextsRow, standIns := [], harness := (true, "59a4bb0ad56943b69f92c84e9f1dd035f86da3d89a6ce62ee6acbadd5af9c3d4"), looks := false }, kinds := [], alts := [], laidByText := true, laidKinds := [.data, .pinned], laidTests := true, laidLooks := .later }
def FnExactMergeTextsCardSaid : Prop := Claim7.holds Tryd.pinned (.plain (OpenSpec.ofChange fnExactMergeTextsSpec)) fnExactMergeTextsCard

/-- THE TIED CARD OF 'laws.FnSides'. -/
def fnSidesCard : Claim7 := { stood := { row := fnSidesRow, standIns := [], harness := (true, "59a4bb0ad56943b69f92c84e9f1dd035f86da3d89a6ce62ee6acbadd5af9c3d4"), looks := false }, kinds := [], alts := [], laidByText := true, laidKinds := [.data, .pinned], laidTests := true, laidLooks := .later }
def FnSidesCardSaid : Prop := Claim7.holds Tryd.pinned (.plain (OpenSpec.ofChange fnSidesSpec)) fnSidesCard

/-- THE TIED CARD OF 'laws.FnTrivial'. -/
def fnTrivialCard : Claim7 := { stood := { row := fnTrivialRow, standIns := [], harness := (true, "59a4bb0ad56943b69f92c84e9f1dd035f86da3d89a6ce62ee6acbadd5af9c3d4"), looks := false }, kinds := [], alts := [], laidByText := true, laidKinds := [.data, .pinned], laidTests := true, laidLooks := .later }
def FnTrivialCardSaid : Prop := Claim7.holds Tryd.pinned (.plain (OpenSpec.ofChange fnTrivialSpec)) fnTrivialCard

/-- THE SECOND FORM's CARD OF 'laws.FnExactMergeTexts'. -/
def fnExactMergeTextsUptoCard : Claim7 := { stood := { row := fnExactMergeTextsUptoRow, standIns := [], harness := (true, "59a4bb0ad56943b69f92c84e9f1dd035f86da3d89a6ce62ee6acbadd5af9c3d4"), looks := false }, kinds := [], alts := [], laidByText := true, laidKinds := [.data, .pinned], laidTests := true, laidLooks := .later }
def FnExactMergeTextsUptoCardSaid : Prop := Claim7.holds Tryd.pinned (.plain (OpenSpec.upto fnExactMergeTextsSpec)) fnExactMergeTextsUptoCard

/-- THE SECOND FORM's CARD OF 'laws.FnSides'. -/
def fnSidesUptoCard : Claim7 := { stood := { row := fnSidesUptoRow, standIns := [], harness := (true, "59a4bb0ad56943b69f92c84e9f1dd035f86da3d89a6ce62ee6acbadd5af9c3d4"), looks := false }, kinds := [], alts := [], laidByText := true, laidKinds := [.data, .pinned], laidTests := true, laidLooks := .later }
def FnSidesUptoCardSaid : Prop := Claim7.holds Tryd.pinned (.plain (OpenSpec.upto fnSidesSpec)) fnSidesUptoCard

/-- THE SECOND FORM's CARD OF 'laws.FnTrivial'. -/
def fnTrivialUptoCard : Claim7 := { stood := { row := fnTrivialUptoRow, standIns := [], harness := (true, "59a4bb0ad56943b69f92c84e9f1dd035f86da3d89a6ce62ee6acbadd5af9c3d4"), looks := false }, kinds := [], alts := [], laidByText := true, laidKinds := [.data, .pinned], laidTests := true, laidLooks := .later }
def FnTrivialUptoCardSaid : Prop := Claim7.holds Tryd.pinned (.plain (OpenSpec.upto fnTrivialSpec)) fnTrivialUptoCard
end Rows
end Go.Proofs.YtelngmkfjpcbgaaDoor
