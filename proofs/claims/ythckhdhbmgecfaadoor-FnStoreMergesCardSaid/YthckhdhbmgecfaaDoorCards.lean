/-
  DERIVED. GIVEN WITH THE SEED: THE CARDS: each row of YthckhdhbmgecfaaDoorRows.lean that lists a variable, with what it lists TIED to the program's text (the seventh form; the later family's looks); each row that meets fmt, with fmt's text TOLD by the authors' own Lean function (tested against real Go, not proved from fmt's source: count such statements apart). THE CARD IS WHAT COUNTS. Prove the row's statement (the work); the ties are given (YthckhdhbmgecfaaDoorTie.lean); close each card by the builder's one call (the guide's Derived/Test/ToyasCard.lean, 'card_holds'). Laid BY PROGRAM, IN A SANDBOX (cutbox-door.mjs). By AI agents, Wed Nov 11 2026. No macro, syntax, notation, axiom, sorry.
-/
import Derived.Test.YthckhdhbmgecfaaDoorRows
import GoSem.ClaimSeven
namespace Go.Proofs.YthckhdhbmgecfaaDoor
namespace Rows

/-- THE TIED CARD OF 'laws.FnStoreMerges'. -/
def fnStoreMergesCard : Claim7 := { stood := { row := fnStoreMergesRow, standIns := [], harness := (true, "bdccf8505edf4039caa00a77b5b56df50bf824c16cb3fcf5eca90ab6615d039d"), looks := false }, kinds := [], alts := [], laidByText := true, laidKinds := [.data, .data, .data, .data, .pinned], laidTests := true, laidLooks := .later }
def FnStoreMergesCardSaid : Prop := Claim7.holds Tryd.pinned (.plain (OpenSpec.ofChange fnStoreMergesSpec)) fnStoreMergesCard

/-- THE SECOND FORM's CARD OF 'laws.FnStoreMerges'. -/
def fnStoreMergesUptoCard : Claim7 := { stood := { row := fnStoreMergesUptoRow, standIns := [], harness := (true, "bdccf8505edf4039caa00a77b5b56df50bf824c16cb3fcf5eca90ab6615d039d"), looks := false }, kinds := [], alts := [], laidByText := true, laidKinds := [.data, .data, .data, .data, .pinned], laidTests := true, laidLooks := .later }
def FnStoreMergesUptoCardSaid : Prop := Claim7.holds Tryd.pinned (.plain (OpenSpec.upto fnStoreMergesSpec)) fnStoreMergesUptoCard
end Rows
end Go.Proofs.YthckhdhbmgecfaaDoor
