/-
  DERIVED. GIVEN WITH THE SEED: THE CARDS: each row of YthmmmiknmkpbeaaDoorRows.lean that lists a variable, with what it lists TIED to the program's text (the seventh form; the later family's looks); each row that meets fmt, with fmt's text TOLD by the authors' own Lean function (tested against real Go, not proved from fmt's source: count such statements apart). THE CARD IS WHAT COUNTS. Prove the row's statement (the work); the ties are given (YthmmmiknmkpbeaaDoorTie.lean); close each card by the builder's one call (the guide's Derived/Test/ToyasCard.lean, 'card_holds'). Laid BY PROGRAM, IN A SANDBOX (cutbox-door.mjs). By AI agents, Wed Nov 11 2026. No macro, syntax, notation, axiom, sorry.
-/
import Derived.Test.YthmmmiknmkpbeaaDoorRows
import GoSem.ClaimSeven
namespace Go.Proofs.YthmmmiknmkpbeaaDoor
namespace Rows

/-- THE TIED CARD OF 'laws.FnExactFormatPatch'. -/
def fnExactFormatPatchCard : Claim7 := { stood := { row := fnExactFormatPatchRow, standIns := [], harness := (true, "31317ebd05df009fd42cbbb086a7c8b24c9d89e1f419c1c9f9ff916c3f79651f"), looks := true }, kinds := [], alts := [], laidByText := true, laidKinds := [.data, .data, .data], laidTests := true, laidLooks := .later }
def FnExactFormatPatchCardSaid : Prop := Claim7.holds Tryd.pinned (.plain (OpenSpec.ofChange fnExactFormatPatchSpec)) fnExactFormatPatchCard

/-- THE TIED CARD OF 'laws.FnExactParsePatch'. -/
def fnExactParsePatchCard : Claim7 := { stood := { row := fnExactParsePatchRow, standIns := [], harness := (true, "31317ebd05df009fd42cbbb086a7c8b24c9d89e1f419c1c9f9ff916c3f79651f"), looks := true }, kinds := [], alts := [], laidByText := true, laidKinds := [.data, .data, .data, .data, .sentinel, .sentinel, .pinned], laidTests := true, laidLooks := .later }
def FnExactParsePatchCardSaid : Prop := Claim7.holds Tryd.pinned (.plain (OpenSpec.ofChange fnExactParsePatchSpec)) fnExactParsePatchCard

/-- THE SECOND FORM's CARD OF 'laws.FnExactFormatPatch'. -/
def fnExactFormatPatchUptoCard : Claim7 := { stood := { row := fnExactFormatPatchUptoRow, standIns := [], harness := (true, "31317ebd05df009fd42cbbb086a7c8b24c9d89e1f419c1c9f9ff916c3f79651f"), looks := true }, kinds := [], alts := [], laidByText := true, laidKinds := [.data, .data, .data], laidTests := true, laidLooks := .later }
def FnExactFormatPatchUptoCardSaid : Prop := Claim7.holds Tryd.pinned (.plain (OpenSpec.upto fnExactFormatPatchSpec)) fnExactFormatPatchUptoCard

/-- THE SECOND FORM's CARD OF 'laws.FnExactParsePatch'. -/
def fnExactParsePatchUptoCard : Claim7 := { stood := { row := fnExactParsePatchUptoRow, standIns := [], harness := (true, "31317ebd05df009fd42cbbb086a7c8b24c9d89e1f419c1c9f9ff916c3f79651f"), looks := true }, kinds := [], alts := [], laidByText := true, laidKinds := [.data, .data, .data, .data, .sentinel, .sentinel, .pinned], laidTests := true, laidLooks := .later }
def FnExactParsePatchUptoCardSaid : Prop := Claim7.holds Tryd.pinned (.plain (OpenSpec.upto fnExactParsePatchSpec)) fnExactParsePatchUptoCard
end Rows
end Go.Proofs.YthmmmiknmkpbeaaDoor
