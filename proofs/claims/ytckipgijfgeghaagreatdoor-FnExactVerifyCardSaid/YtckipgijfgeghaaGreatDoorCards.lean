/-
  DERIVED. GIVEN WITH THE SEED: THE CARDS: each row of YtckipgijfgeghaaGreatDoorRows.lean that lists a variable, with what it lists TIED to the program's text (the seventh form; the later family's looks); each row that meets fmt, with fmt's text TOLD by the authors' own Lean function (tested against real Go, not proved from fmt's source: count such statements apart). THE CARD IS WHAT COUNTS. Prove the row's statement (the work); the ties are given (YtckipgijfgeghaaGreatDoorTie.lean); close each card by the builder's one call (the guide's Derived/Test/ToyasCard.lean, 'card_holds'). Laid BY PROGRAM, IN A SANDBOX (cutbox-door.mjs). By AI agents, Wed Nov 11 2026. No macro, syntax, notation, axiom, sorry.
-/
import Derived.Test.YtckipgijfgeghaaGreatDoorRows
import GoSem.ClaimSeven
namespace Go.Proofs.YtckipgijfgeghaaGreatDoor
namespace Rows

/-- THE TIED CARD OF 'laws.FnExactVerify'. -/
def fnExactVerifyCard : Claim7 := { stood := { row := fnExactVerifyRow, standIns := [], harness := (true, "df9e3a85667beb5b9a57ff433aa0850f85d3ad91e7becce4c86ef0310fccc4cb"), looks := false }, kinds := [], alts := [], laidByText := true, laidKinds := [.data, .data], laidTests := true, laidLooks := .later }
def FnExactVerifyCardSaid : Prop := Claim7.holds Tryz.pinned (.plain (OpenSpec.ofChange fnExactVerifySpec)) fnExactVerifyCard

/-- THE TIED CARD OF 'laws.FnForgery'. -/
def fnForgeryCard : Claim7 := { stood := { row := fnForgeryRow, standIns := [], harness := (true, "df9e3a85667beb5b9a57ff433aa0850f85d3ad91e7becce4c86ef0310fccc4cb"), looks := false }, kinds := [], alts := [], laidByText := true, laidKinds := [.data, .data], laidTests := true, laidLooks := .later }
def FnForgeryCardSaid : Prop := Claim7.holds Tryz.pinned (.plain (OpenSpec.ofChange fnForgerySpec)) fnForgeryCard

/-- THE SECOND FORM's CARD OF 'laws.FnExactVerify'. -/
def fnExactVerifyUptoCard : Claim7 := { stood := { row := fnExactVerifyUptoRow, standIns := [], harness := (true, "df9e3a85667beb5b9a57ff433aa0850f85d3ad91e7becce4c86ef0310fccc4cb"), looks := false }, kinds := [], alts := [], laidByText := true, laidKinds := [.data, .data], laidTests := true, laidLooks := .later }
def FnExactVerifyUptoCardSaid : Prop := Claim7.holds Tryz.pinned (.plain (OpenSpec.upto fnExactVerifySpec)) fnExactVerifyUptoCard

/-- THE SECOND FORM's CARD OF 'laws.FnForgery'. -/
def fnForgeryUptoCard : Claim7 := { stood := { row := fnForgeryUptoRow, standIns := [], harness := (true, "df9e3a85667beb5b9a57ff433aa0850f85d3ad91e7becce4c86ef0310fccc4cb"), looks := false }, kinds := [], alts := [], laidByText := true, laidKinds := [.data, .data], laidTests := true, laidLooks := .later }
def FnForgeryUptoCardSaid : Prop := Claim7.holds Tryz.pinned (.plain (OpenSpec.upto fnForgerySpec)) fnForgeryUptoCard
end Rows
end Go.Proofs.YtckipgijfgeghaaGreatDoor
