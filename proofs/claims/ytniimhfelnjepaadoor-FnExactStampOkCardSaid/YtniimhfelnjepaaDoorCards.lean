/-
  DERIVED. GIVEN WITH THE SEED: THE CARDS: each row of YtniimhfelnjepaaDoorRows.lean that lists a variable, with what it lists TIED to the program's text (the seventh form; the later family's looks); each row that meets fmt, with fmt's text TOLD by the authors' own Lean function (tested against real Go, not proved from fmt's source: count such statements apart). THE CARD IS WHAT COUNTS. Prove the row's statement (the work); the ties are given (YtniimhfelnjepaaDoorTie.lean); close each card by the builder's one call (the guide's Derived/Test/ToyasCard.lean, 'card_holds'). Laid BY PROGRAM, IN A SANDBOX (cutbox-door.mjs). By AI agents, Wed Nov 11 2026. No macro, syntax, notation, axiom, sorry.
-/
import Derived.Test.YtniimhfelnjepaaDoorRows
import GoSem.ClaimSeven
namespace Go.Proofs.YtniimhfelnjepaaDoor
namespace Rows

/-- THE TIED CARD OF 'laws.FnExactStampOk'. -/
def fnExactStampOkCard : Claim7 := { stood := { row := fnExactStampOkRow, standIns := [], harness := (true, "d4ec0fd89c9330a021e7c29c31f3676f0a2d947987273e5ee17824d8de3f8644"), looks := false }, kinds := [], alts := [], laidByText := true, laidKinds := [.data, .data], laidTests := true, laidLooks := .later }
def FnExactStampOkCardSaid : Prop := Claim7.holds Tryd.pinned (.plain (OpenSpec.ofChange fnExactStampOkSpec)) fnExactStampOkCard

/-- THE TIED CARD OF 'laws.FnExactSealOk'. -/
def fnExactSealOkCard : Claim7 := { stood := { row := fnExactSealOkRow, standIns := [], harness := (true, "d4ec0fd89c9330a021e7c29c31f3676f0a2d947987273e5ee17824d8de3f8644"), looks := false }, kinds := [], alts := [], laidByText := true, laidKinds := [.data, .data], laidTests := true, laidLooks := .later }
def FnExactSealOkCardSaid : Prop := Claim7.holds Tryd.pinned (.plain (OpenSpec.ofChange fnExactSealOkSpec)) fnExactSealOkCard

/-- THE TIED CARD OF 'laws.FnExactSealHead'. -/
def fnExactSealHeadCard : Claim7 := { stood := { row := fnExactSealHeadRow, standIns := [], harness := (true, "d4ec0fd89c9330a021e7c29c31f3676f0a2d947987273e5ee17824d8de3f8644"), looks := false }, kinds := [], alts := [], laidByText := true, laidKinds := [.data, .data], laidTests := true, laidLooks := .later }
def FnExactSealHeadCardSaid : Prop := Claim7.holds Tryd.pinned (.plain (OpenSpec.ofChange fnExactSealHeadSpec)) fnExactSealHeadCard

/-- THE TIED CARD OF 'laws.FnExactStampHead'. -/
def fnExactStampHeadCard : Claim7 := { stood := { row := fnExactStampHeadRow, standIns := [], harness := (true, "d4ec0fd89c9330a021e7c29c31f3676f0a2d947987273e5ee17824d8de3f8644"), looks := false }, kinds := [], alts := [], laidByText := true, laidKinds := [.data, .data], laidTests := true, laidLooks := .later }
def FnExactStampHeadCardSaid : Prop := Claim7.holds Tryd.pinned (.plain (OpenSpec.ofChange fnExactStampHeadSpec)) fnExactStampHeadCard

/-- THE TIED CARD OF 'laws.FnHeads'. -/
def fnHeadsCard : Claim7 := { stood := { row := fnHeadsRow, standIns := [], harness := (true, "d4ec0fd89c9330a021e7c29c31f3676f0a2d947987273e5ee17824d8de3f8644"), looks := false }, kinds := [], alts := [], laidByText := true, laidKinds := [.data, .data], laidTests := true, laidLooks := .later }
def FnHeadsCardSaid : Prop := Claim7.holds Tryd.pinned (.plain (OpenSpec.ofChange fnHeadsSpec)) fnHeadsCard

/-- THE SECOND FORM's CARD OF 'laws.FnExactStampOk'. -/
def fnExactStampOkUptoCard : Claim7 := { stood := { row := fnExactStampOkUptoRow, standIns := [], harness := (true, "d4ec0fd89c9330a021e7c29c31f3676f0a2d947987273e5ee17824d8de3f8644"), looks := false }, kinds := [], alts := [], laidByText := true, laidKinds := [.data, .data], laidTests := true, laidLooks := .later }
def FnExactStampOkUptoCardSaid : Prop := Claim7.holds Tryd.pinned (.plain (OpenSpec.upto fnExactStampOkSpec)) fnExactStampOkUptoCard

/-- THE SECOND FORM's CARD OF 'laws.FnExactSealOk'. -/
def fnExactSealOkUptoCard : Claim7 := { stood := { row := fnExactSealOkUptoRow, standIns := [], harness := (true, "d4ec0fd89c9330a021e7c29c31f3676f0a2d947987273e5ee17824d8de3f8644"), looks := false }, kinds := [], alts := [], laidByText := true, laidKinds := [.data, .data], laidTests := true, laidLooks := .later }
def FnExactSealOkUptoCardSaid : Prop := Claim7.holds Tryd.pinned (.plain (OpenSpec.upto fnExactSealOkSpec)) fnExactSealOkUptoCard

/-- THE SECOND FORM's CARD OF 'laws.FnExactSealHead'. -/
def fnExactSealHeadUptoCard : Claim7 := { stood := { row := fnExactSealHeadUptoRow, standIns := [], harness := (true, "d4ec0fd89c9330a021e7c29c31f3676f0a2d947987273e5ee17824d8de3f8644"), looks := false }, kinds := [], alts := [], laidByText := true, laidKinds := [.data, .data], laidTests := true, laidLooks := .later }
def FnExactSealHeadUptoCardSaid : Prop := Claim7.holds Tryd.pinned (.plain (OpenSpec.upto fnExactSealHeadSpec)) fnExactSealHeadUptoCard

/-- THE SECOND FORM's CARD OF 'laws.FnExactStampHead'. -/
def fnExactStampHeadUptoCard : Claim7 := { stood := { row := fnExactStampHeadUptoRow, standIns := [], harness := (true, "d4ec0fd89c9330a021e7c29c31f3676f0a2d947987273e5ee17824d8de3f8644"), looks := false }, kinds := [], alts := [], laidByText := true, laidKinds := [.data, .data], laidTests := true, laidLooks := .later }
def FnExactStampHeadUptoCardSaid : Prop := Claim7.holds Tryd.pinned (.plain (OpenSpec.upto fnExactStampHeadSpec)) fnExactStampHeadUptoCard

/-- THE SECOND FORM's CARD OF 'laws.FnHeads'. -/
def fnHeadsUptoCard : Claim7 := { stood := { row := fnHeadsUptoRow, standIns := [], harness := (true, "d4ec0fd89c9330a021e7c29c31f3676f0a2d947987273e5ee17824d8de3f8644"), looks := false }, kinds := [], alts := [], laidByText := true, laidKinds := [.data, .data], laidTests := true, laidLooks := .later }
def FnHeadsUptoCardSaid : Prop := Claim7.holds Tryd.pinned (.plain (OpenSpec.upto fnHeadsSpec)) fnHeadsUptoCard
end Rows
end Go.Proofs.YtniimhfelnjepaaDoor
