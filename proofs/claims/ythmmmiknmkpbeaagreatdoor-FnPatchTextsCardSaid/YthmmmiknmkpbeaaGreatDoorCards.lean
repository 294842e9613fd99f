/-
  DERIVED. GIVEN WITH THE SEED: THE CARDS: each row of YthmmmiknmkpbeaaGreatDoorRows.lean that lists a variable, with what it lists TIED to the program's text (the seventh form; the later family's looks); each row that meets fmt, with fmt's text TOLD by the authors' own Lean function (tested against real Go, not proved from fmt's source: count such statements apart). THE CARD IS WHAT COUNTS. Prove the row's statement (the work); the ties are given (YthmmmiknmkpbeaaGreatDoorTie.lean); close each card by the builder's one call (the guide's Derived/Test/ToyasCard.lean, 'card_holds'). Laid BY PROGRAM, IN A SANDBOX (cutbox-door.mjs). By AI agents, Wed Nov 11 2026. No macro, syntax, notation, axiom, sorry.
-/
import Derived.Test.YthmmmiknmkpbeaaGreatDoorRows
import GoSem.ClaimSeven
namespace Go.Proofs.YthmmmiknmkpbeaaGreatDoor
namespace Rows

/-- THE TIED CARD OF 'laws.FnPatchTexts'. -/
def fnPatchTextsCard : Claim7 := { stood := { row := fnPatchTextsRow, standIns := [], harness := (true, "b82fcdf77038081274cab80cdc00c3d35d844f8293b6727f7c33ea8326ad79be"), looks := true }, kinds := [], alts := [], laidByText := true, laidKinds := [.data, .data, .data, .data, .sentinel, .sentinel, .pinned], laidTests := true, laidLooks := .later }
def FnPatchTextsCardSaid : Prop := Claim7.holds Tryz.pinned (.plain (OpenSpec.ofChange fnPatchTextsSpec)) fnPatchTextsCard

/-- THE SECOND FORM's CARD OF 'laws.FnPatchTexts'. -/
def fnPatchTextsUptoCard : Claim7 := { stood := { row := fnPatchTextsUptoRow, standIns := [], harness := (true, "b82fcdf77038081274cab80cdc00c3d35d844f8293b6727f7c33ea8326ad79be"), looks := true }, kinds := [], alts := [], laidByText := true, laidKinds := [.data, .data, .data, .data, .sentinel, .sentinel, .pinned], laidTests := true, laidLooks := .later }
def FnPatchTextsUptoCardSaid : Prop := Claim7.holds Tryz.pinned (.plain (OpenSpec.upto fnPatchTextsSpec)) fnPatchTextsUptoCard
end Rows
end Go.Proofs.YthmmmiknmkpbeaaGreatDoor
