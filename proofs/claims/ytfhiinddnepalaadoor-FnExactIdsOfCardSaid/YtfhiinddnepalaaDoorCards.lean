/-
  DERIVED. GIVEN WITH THE SEED: THE CARDS: each row of YtfhiinddnepalaaDoorRows.lean that lists a variable, with what it lists TIED to the program's text (the seventh form; the later family's looks); each row that meets fmt, with fmt's text TOLD by the authors' own Lean function (tested against real Go, not proved from fmt's source: count such statements apart). THE CARD IS WHAT COUNTS. Prove the row's statement (the work); the ties are given (YtfhiinddnepalaaDoorTie.lean); close each card by the builder's one call (the guide's Derived/Test/ToyasCard.lean, 'card_holds'). Laid BY PROGRAM, IN A SANDBOX (cutbox-door.mjs). By AI agents, Wed Nov 11 2026. No macro, syntax, notation, axiom, sorry.
-/
import Derived.Test.YtfhiinddnepalaaDoorRows
import GoSem.ClaimSeven
namespace Go.Proofs.YtfhiinddnepalaaDoor
namespace Rows

/-- THE TIED CARD OF 'laws.FnExactIsId'. -/
def fnExactIsIdCard : Claim7 := { stood := { row := fnExactIsIdRow, standIns := [], harness := (true, "cd00c8ce11882d72d9512045cfa866d89f967a2f010919cd05d6afccb769e142"), looks := false }, kinds := [], alts := [], laidByText := true, laidKinds := [.data, .pinned], laidTests := true, laidLooks := .later }
def FnExactIsIdCardSaid : Prop := Claim7.holds Tryd.pinned (.plain (OpenSpec.ofChange fnExactIsIdSpec)) fnExactIsIdCard

/-- THE TIED CARD OF 'laws.FnExactIdOf'. -/
def fnExactIdOfCard : Claim7 := { stood := { row := fnExactIdOfRow, standIns := [], harness := (true, "cd00c8ce11882d72d9512045cfa866d89f967a2f010919cd05d6afccb769e142"), looks := false }, kinds := [], alts := [], laidByText := true, laidKinds := [.data, .data, .data, .data, .pinned], laidTests := true, laidLooks := .later }
def FnExactIdOfCardSaid : Prop := Claim7.holds Tryd.pinned (.plain (OpenSpec.ofChange fnExactIdOfSpec)) fnExactIdOfCard

/-- THE TIED CARD OF 'laws.FnExactStoreFault'. -/
def fnExactStoreFaultCard : Claim7 := { stood := { row := fnExactStoreFaultRow, standIns := [], harness := (true, "cd00c8ce11882d72d9512045cfa866d89f967a2f010919cd05d6afccb769e142"), looks := false }, kinds := [], alts := [], laidByText := true, laidKinds := [.data, .data, .data, .data, .pinned], laidTests := true, laidLooks := .later }
def FnExactStoreFaultCardSaid : Prop := Claim7.holds Tryd.pinned (.plain (OpenSpec.ofChange fnExactStoreFaultSpec)) fnExactStoreFaultCard

/-- THE TIED CARD OF 'laws.FnExactIdsOf'. -/
def fnExactIdsOfCard : Claim7 := { stood := { row := fnExactIdsOfRow, standIns := [], harness := (true, "cd00c8ce11882d72d9512045cfa866d89f967a2f010919cd05d6afccb769e142"), looks := false }, kinds := [], alts := [], laidByText := true, laidKinds := [.data, .data, .data, .data, .pinned], laidTests := true, laidLooks := .later }
def FnExactIdsOfCardSaid : Prop := Claim7.holds Tryd.pinned (.plain (OpenSpec.ofChange fnExactIdsOfSpec)) fnExactIdsOfCard

/-- THE SECOND FORM's CARD OF 'laws.FnExactIsId'. -/
def fnExactIsIdUptoCard : Claim7 := { stood := { row := fnExactIsIdUptoRow, standIns := [], harness := (true, "cd00c8ce11882d72d9512045cfa866d89f967a2f010919cd05d6afccb769e142"), looks := false }, kinds := [], alts := [], laidByText := true, laidKinds := [.data, .pinned], laidTests := true, laidLooks := .later }
def FnExactIsIdUptoCardSaid : Prop := Claim7.holds Tryd.pinned (.plain (OpenSpec.upto fnExactIsIdSpec)) fnExactIsIdUptoCard

/-- THE SECOND FORM's CARD OF 'laws.FnExactIdOf'. -/
def fnExactIdOfUptoCard : Claim7 := { stood := { row := fnExactIdOfUptoRow, standIns := [], harness := (true, "cd00c8ce11882d72d9512045cfa866d89f967a2f010919cd05d6afccb769e142"), looks := false }, kinds := [], alts := [], laidByText := true, laidKinds := [.data, .data, .data, .data, .pinned], laidTests := true, laidLooks := .later }
def FnExactIdOfUptoCardSaid : Prop := Claim7.holds Tryd.pinned (.plain (OpenSpec.upto fnExactIdOfSpec)) fnExactIdOfUptoCard

/-- THE SECOND FORM's CARD OF 'laws.FnExactStoreFault'. -/
def fnExactStoreFaultUptoCard : Claim7 := { stood := { row := fnExactStoreFaultUptoRow, standIns := [], harness := (true, "cd00c8ce11882d72d9512045cfa866d89f967a2f010919cd05d6afccb769e142"), looks := false }, kinds := [], alts := [], laidByText := true, laidKinds := [.data, .data, .data, .data, .pinned], laidTests := true, laidLooks := .later }
def FnExactStoreFaultUptoCardSaid : Prop := Claim7.holds Tryd.pinned (.plain (OpenSpec.upto fnExactStoreFaultSpec)) fnExactStoreFaultUptoCard

/-- THE SECOND FORM's CARD OF 'laws.FnExactIdsOf'. -/
def fnExactIdsOfUptoCard : Claim7 := { stood := { row := fnExactIdsOfUptoRow, standIns := [], harness := (true, "cd00c8ce11882d72d9512045cfa866d89f967a2f010919cd05d6afccb769e142"), looks := false }, kinds := [], alts := [], laidByText := true, laidKinds := [.data, .data, .data, .data, .pinned], laidTests := true, laidLooks := .later }
def FnExactIdsOfUptoCardSaid : Prop := Claim7.holds Tryd.pinned (.plain (OpenSpec.upto fnExactIdsOfSpec)) fnExactIdsOfUptoCard
end Rows
end Go.Proofs.YtfhiinddnepalaaDoor
