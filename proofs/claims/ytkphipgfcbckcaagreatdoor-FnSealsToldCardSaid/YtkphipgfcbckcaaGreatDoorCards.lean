/-
  DERIVED. GIVEN WITH THE SEED: THE CARDS: each row of YtkphipgfcbckcaaGreatDoorRows.lean that lists a variable, with what it lists TIED to the program's text (the seventh form; the later family's looks); each row that meets fmt, with fmt's text TOLD by the authors' own Lean function (tested against real Go, not proved from fmt's source: count such statements apart). THE CARD IS WHAT COUNTS. Prove the row's statement (the work); the ties are given (YtkphipgfcbckcaaGreatDoorTie.lean); close each card by the builder's one call (the guide's Derived/Test/ToyasCard.lean, 'card_holds'). Laid BY PROGRAM, IN A SANDBOX (cutbox-door.mjs). By AI agents, Wed Nov 11 2026. No macro, syntax, notation, axiom, sorry.
-/
import Derived.Test.YtkphipgfcbckcaaGreatDoorRows
import GoSem.ClaimSeven
namespace Go.Proofs.YtkphipgfcbckcaaGreatDoor
namespace Rows

/-- THE TIED CARD OF 'laws.FnSealsTold'. -/
def fnSealsToldCard : Claim7 := { stood := { row := fnSealsToldRow, standIns := [], harness := (true, "1f8a13946a374fad2b050d127ec721c9fdc24a71b656ccadb18e40582fda2dd4"), looks := false }, kinds := [], alts := [], laidByText := true, laidKinds := [.data, .data], laidTests := true, laidLooks := .later }
def FnSealsToldCardSaid : Prop := Claim7.holds Tryz.pinned (.plain (OpenSpec.ofChange fnSealsToldSpec)) fnSealsToldCard

/-- THE SECOND FORM's CARD OF 'laws.FnSealsTold'. -/
def fnSealsToldUptoCard : Claim7 := { stood := { row := fnSealsToldUptoRow, standIns := [], harness := (true, "1f8a13946a374fad2b050d127ec721c9fdc24a71b656ccadb18e40582fda2dd4"), looks := false }, kinds := [], alts := [], laidByText := true, laidKinds := [.data, .data], laidTests := true, laidLooks := .later }
def FnSealsToldUptoCardSaid : Prop := Claim7.holds Tryz.pinned (.plain (OpenSpec.upto fnSealsToldSpec)) fnSealsToldUptoCard
end Rows
end Go.Proofs.YtkphipgfcbckcaaGreatDoor
