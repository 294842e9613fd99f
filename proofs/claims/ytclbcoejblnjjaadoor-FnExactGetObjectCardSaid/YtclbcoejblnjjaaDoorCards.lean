/-
  DERIVED. GIVEN WITH THE SEED: THE CARDS: each row of YtclbcoejblnjjaaDoorRows.lean that lists a variable, with what it lists TIED to the program's text (the seventh form; the later family's looks); each row that meets fmt, with fmt's text TOLD by the authors' own Lean function (tested against real Go, not proved from fmt's source: count such statements apart). THE CARD IS WHAT COUNTS. Prove the row's statement (the work); the ties are given (YtclbcoejblnjjaaDoorTie.lean); close each card by the builder's one call (the guide's Derived/Test/ToyasCard.lean, 'card_holds'). Laid BY PROGRAM, IN A SANDBOX (cutbox-door.mjs). By AI agents, Wed Nov 11 2026. No macro, syntax, notation, axiom, sorry.
-/
import Derived.Test.YtclbcoejblnjjaaDoorRows
import GoSem.ClaimSeven
namespace Go.Proofs.YtclbcoejblnjjaaDoor
namespace Rows

/-- THE TIED CARD OF 'laws.FnExactGetObject'. -/
def fnExactGetObjectCard : Claim7 := { stood := { row := fnExactGetObjectRow, standIns := [], harness := (true, "7b2b6aafe30b34e91ad4b9252cbae0932aa078fc65f283f8829ce7957c36f621"), looks := false }, kinds := [], alts := [], laidByText := true, laidKinds := [.data, .data, .data, .data, .pinned], laidTests := true, laidLooks := .later }
def FnExactGetObjectCardSaid : Prop := Claim7.holds Tryd.pinned (.plain (OpenSpec.ofChange fnExactGetObjectSpec)) fnExactGetObjectCard

/-- THE TIED CARD OF 'laws.FnStoreMerges'. -/
def fnStoreMergesCard : Claim7 := { stood := { row := fnStoreMergesRow, standIns := [], harness := (true, "7b2b6aafe30b34e91ad4b9252cbae0932aa078fc65f283f8829ce7957c36f621"), looks := false }, kinds := [], alts := [], laidByText := true, laidKinds := [.data, .data, .data, .data, .pinned], laidTests := true, laidLooks := .later }
def FnStoreMergesCardSaid : Prop := Claim7.holds Tryd.pinned (.plain (OpenSpec.ofChange fnStoreMergesSpec)) fnStoreMergesCard

/-- THE SECOND FORM's CARD OF 'laws.FnExactGetObject'. -/
def fnExactGetObjectUptoCard : Claim7 := { stood := { row := fnExactGetObjectUptoRow, standIns := [], harness := (true, "7b2b6aafe30b34e91ad4b9252cbae0932aa078fc65f283f8829ce7957c36f621"), looks := false }, kinds := [], alts := [], laidByText := true, laidKinds := [.data, .data, .data, .data, .pinned], laidTests := true, laidLooks := .later }
def FnExactGetObjectUptoCardSaid : Prop := Claim7.holds Tryd.pinned (.plain (OpenSpec.upto fnExactGetObjectSpec)) fnExactGetObjectUptoCard

/-- THE SECOND FORM's CARD OF 'laws.FnStoreMerges'. -/
def fnStoreMergesUptoCard : Claim7 := { stood := { row := fnStoreMergesUptoRow, standIns := [], harness := (true, "7b2b6aafe30b34e91ad4b9252cbae0932aa078fc65f283f8829ce7957c36f621"), looks := false }, kinds := [], alts := [], laidByText := true, laidKinds := [.data, .data, .data, .data, .pinned], laidTests := true, laidLooks := .later }
def FnStoreMergesUptoCardSaid : Prop := Claim7.holds Tryd.pinned (.plain (OpenSpec.upto fnStoreMergesSpec)) fnStoreMergesUptoCard
end Rows
end Go.Proofs.YtclbcoejblnjjaaDoor
