/-
  DERIVED. GIVEN WITH THE SEED: THE CARDS: each row of YtagkcgbggeajkaaDoorRows.lean that lists a variable, with what it lists TIED to the program's text (the seventh form; the later family's looks); each row that meets fmt, with fmt's text TOLD by the authors' own Lean function (tested against real Go, not proved from fmt's source: count such statements apart). THE CARD IS WHAT COUNTS. Prove the row's statement (the work); the ties are given (YtagkcgbggeajkaaDoorTie.lean); close each card by the builder's one call (the guide's Derived/Test/ToyasCard.lean, 'card_holds'). Laid BY PROGRAM, IN A SANDBOX (cutbox-door.mjs). By AI agents, Wed Nov 11 2026. No macro, syntax, notation, axiom, sorry.
-/
import Derived.Test.YtagkcgbggeajkaaDoorRows
import GoSem.ClaimSeven
namespace Go.Proofs.YtagkcgbggeajkaaDoor
namespace Rows

/-- THE TIED CARD OF 'laws.FnExactChainOk'. -/
def fnExactChainOkCard : Claim7 := { stood := { row := fnExactChainOkRow, standIns := [], harness := (true, "f90197177ed385e758db0f0c3aa41618c9450d7a1bc88e5d276575a7e7602ff6"), looks := false }, kinds := [], alts := [], laidByText := true, laidKinds := [.data, .data], laidTests := true, laidLooks := .later }
def FnExactChainOkCardSaid : Prop := Claim7.holds Tryd.pinned (.plain (OpenSpec.ofChange fnExactChainOkSpec)) fnExactChainOkCard

/-- THE TIED CARD OF 'laws.FnExactNextHead'. -/
def fnExactNextHeadCard : Claim7 := { stood := { row := fnExactNextHeadRow, standIns := [], harness := (true, "f90197177ed385e758db0f0c3aa41618c9450d7a1bc88e5d276575a7e7602ff6"), looks := false }, kinds := [], alts := [], laidByText := true, laidKinds := [.data, .data], laidTests := true, laidLooks := .later }
def FnExactNextHeadCardSaid : Prop := Claim7.holds Tryd.pinned (.plain (OpenSpec.ofChange fnExactNextHeadSpec)) fnExactNextHeadCard

/-- THE TIED CARD OF 'laws.FnExactNodeHash'. -/
def fnExactNodeHashCard : Claim7 := { stood := { row := fnExactNodeHashRow, standIns := [], harness := (true, "f90197177ed385e758db0f0c3aa41618c9450d7a1bc88e5d276575a7e7602ff6"), looks := false }, kinds := [], alts := [], laidByText := true, laidKinds := [.data, .data], laidTests := true, laidLooks := .later }
def FnExactNodeHashCardSaid : Prop := Claim7.holds Tryd.pinned (.plain (OpenSpec.ofChange fnExactNodeHashSpec)) fnExactNodeHashCard

/-- THE TIED CARD OF 'laws.FnExactRootOf'. -/
def fnExactRootOfCard : Claim7 := { stood := { row := fnExactRootOfRow, standIns := [], harness := (true, "f90197177ed385e758db0f0c3aa41618c9450d7a1bc88e5d276575a7e7602ff6"), looks := false }, kinds := [], alts := [], laidByText := true, laidKinds := [.data, .data], laidTests := true, laidLooks := .later }
def FnExactRootOfCardSaid : Prop := Claim7.holds Tryd.pinned (.plain (OpenSpec.ofChange fnExactRootOfSpec)) fnExactRootOfCard

/-- THE TIED CARD OF 'laws.FnExactShardRoot'. -/
def fnExactShardRootCard : Claim7 := { stood := { row := fnExactShardRootRow, standIns := [], harness := (true, "f90197177ed385e758db0f0c3aa41618c9450d7a1bc88e5d276575a7e7602ff6"), looks := false }, kinds := [], alts := [], laidByText := true, laidKinds := [.data, .data], laidTests := true, laidLooks := .later }
def FnExactShardRootCardSaid : Prop := Claim7.holds Tryd.pinned (.plain (OpenSpec.ofChange fnExactShardRootSpec)) fnExactShardRootCard

/-- THE TIED CARD OF 'laws.FnExactSidesOf'. -/
def fnExactSidesOfCard : Claim7 := { stood := { row := fnExactSidesOfRow, standIns := [], harness := (true, "f90197177ed385e758db0f0c3aa41618c9450d7a1bc88e5d276575a7e7602ff6"), looks := false }, kinds := [], alts := [], laidByText := true, laidKinds := [.data, .data], laidTests := true, laidLooks := .later }
def FnExactSidesOfCardSaid : Prop := Claim7.holds Tryd.pinned (.plain (OpenSpec.ofChange fnExactSidesOfSpec)) fnExactSidesOfCard

/-- THE TIED CARD OF 'laws.FnExactProveLeaf'. -/
def fnExactProveLeafCard : Claim7 := { stood := { row := fnExactProveLeafRow, standIns := [], harness := (true, "f90197177ed385e758db0f0c3aa41618c9450d7a1bc88e5d276575a7e7602ff6"), looks := false }, kinds := [], alts := [], laidByText := true, laidKinds := [.data, .data], laidTests := true, laidLooks := .later }
def FnExactProveLeafCardSaid : Prop := Claim7.holds Tryd.pinned (.plain (OpenSpec.ofChange fnExactProveLeafSpec)) fnExactProveLeafCard

/-- THE TIED CARD OF 'laws.FnExactProofTexts'. -/
def fnExactProofTextsCard : Claim7 := { stood := { row := fnExactProofTextsRow, standIns := [], harness := (true, "f90197177ed385e758db0f0c3aa41618c9450d7a1bc88e5d276575a7e7602ff6"), looks := false }, kinds := [], alts := [], laidByText := true, laidKinds := [.data, .data], laidTests := true, laidLooks := .later }
def FnExactProofTextsCardSaid : Prop := Claim7.holds Tryd.pinned (.plain (OpenSpec.ofChange fnExactProofTextsSpec)) fnExactProofTextsCard

/-- THE TIED CARD OF 'laws.FnExactProofHash'. -/
def fnExactProofHashCard : Claim7 := { stood := { row := fnExactProofHashRow, standIns := [], harness := (true, "f90197177ed385e758db0f0c3aa41618c9450d7a1bc88e5d276575a7e7602ff6"), looks := false }, kinds := [], alts := [], laidByText := true, laidKinds := [.data, .data], laidTests := true, laidLooks := .later }
def FnExactProofHashCardSaid : Prop := Claim7.holds Tryd.pinned (.plain (OpenSpec.ofChange fnExactProofHashSpec)) fnExactProofHashCard

/-- THE TIED CARD OF 'laws.FnExactExtractTwo'. -/
def fnExactExtractTwoCard : Claim7 := { stood := { row := fnExactExtractTwoRow, standIns := [], harness := (true, "f90197177ed385e758db0f0c3aa41618c9450d7a1bc88e5d276575a7e7602ff6"), looks := false }, kinds := [], alts := [], laidByText := true, laidKinds := [.data, .data], laidTests := true, laidLooks := .later }
def FnExactExtractTwoCardSaid : Prop := Claim7.holds Tryd.pinned (.plain (OpenSpec.ofChange fnExactExtractTwoSpec)) fnExactExtractTwoCard

/-- THE SECOND FORM's CARD OF 'laws.FnExactChainOk'. -/
def fnExactChainOkUptoCard : Claim7 := { stood := { row := fnExactChainOkUptoRow, standIns := [], harness := (true, "f90197177ed385e758db0f0c3aa41618c9450d7a1bc88e5d276575a7e7602ff6"), looks := false }, kinds := [], alts := [], laidByText := true, laidKinds := [.data, .data], laidTests := true, laidLooks := .later }
def FnExactChainOkUptoCardSaid : Prop := Claim7.holds Tryd.pinned (.plain (OpenSpec.upto fnExactChainOkSpec)) fnExactChainOkUptoCard

/-- THE SECOND FORM's CARD OF 'laws.FnExactNextHead'. -/
def fnExactNextHeadUptoCard : Claim7 := { stood := { row := fnExactNextHeadUptoRow, standIns := [], harness := (true, "f90197177ed385e758db0f0c3aa41618c9450d7a1bc88e5d276575a7e7602ff6"), looks := false }, kinds := [], alts := [], laidByText := true, laidKinds := [.data, .data], laidTests := true, laidLooks := .later }
def FnExactNextHeadUptoCardSaid : Prop := Claim7.holds Tryd.pinned (.plain (OpenSpec.upto fnExactNextHeadSpec)) fnExactNextHeadUptoCard

/-- THE SECOND FORM's CARD OF 'laws.FnExactNodeHash'. -/
def fnExactNodeHashUptoCard : Claim7 := { stood := { row := fnExactNodeHashUptoRow, standIns := [], harness := (true, "f90197177ed385e758db0f0c3aa41618c9450d7a1bc88e5d276575a7e7602ff6"), looks := false }, kinds := [], alts := [], laidByText := true, laidKinds := [.data, .data], laidTests := true, laidLooks := .later }
def FnExactNodeHashUptoCardSaid : Prop := Claim7.holds Tryd.pinned (.plain (OpenSpec.upto fnExactNodeHashSpec)) fnExactNodeHashUptoCard

/-- THE SECOND FORM's CARD OF 'laws.FnExactRootOf'. -/
def fnExactRootOfUptoCard : Claim7 := { stood := { row := fnExactRootOfUptoRow, standIns := [], harness := (true, "f90197177ed385e758db0f0c3aa41618c9450d7a1bc88e5d276575a7e7602ff6"), looks := false }, kinds := [], alts := [], laidByText := true, laidKinds := [.data, .data], laidTests := true, laidLooks := .later }
def FnExactRootOfUptoCardSaid : Prop := Claim7.holds Tryd.pinned (.plain (OpenSpec.upto fnExactRootOfSpec)) fnExactRootOfUptoCard

/-- THE SECOND FORM's CARD OF 'laws.FnExactShardRoot'. -/
def fnExactShardRootUptoCard : Claim7 := { stood := { row := fnExactShardRootUptoRow, standIns := [], harness := (true, "f90197177ed385e758db0f0c3aa41618c9450d7a1bc88e5d276575a7e7602ff6"), looks := false }, kinds := [], alts := [], laidByText := true, laidKinds := [.data, .data], laidTests := true, laidLooks := .later }
def FnExactShardRootUptoCardSaid : Prop := Claim7.holds Tryd.pinned (.plain (OpenSpec.upto fnExactShardRootSpec)) fnExactShardRootUptoCard

/-- THE SECOND FORM's CARD OF 'laws.FnExactSidesOf'. -/
def fnExactSidesOfUptoCard : Claim7 := { stood := { row := fnExactSidesOfUptoRow, standIns := [], harness := (true, "f90197177ed385e758db0f0c3aa41618c9450d7a1bc88e5d276575a7e7602ff6"), looks := false }, kinds := [], alts := [], laidByText := true, laidKinds := [.data, .data], laidTests := true, laidLooks := .later }
def FnExactSidesOfUptoCardSaid : Prop := Claim7.holds Tryd.pinned (.plain (OpenSpec.upto fnExactSidesOfSpec)) fnExactSidesOfUptoCard

/-- THE SECOND FORM's CARD OF 'laws.FnExactProveLeaf'. -/
def fnExactProveLeafUptoCard : Claim7 := { stood := { row := fnExactProveLeafUptoRow, standIns := [], harness := (true, "f90197177ed385e758db0f0c3aa41618c9450d7a1bc88e5d276575a7e7602ff6"), looks := false }, kinds := [], alts := [], laidByText := true, laidKinds := [.data, .data], laidTests := true, laidLooks := .later }
def FnExactProveLeafUptoCardSaid : Prop := Claim7.holds Tryd.pinned (.plain (OpenSpec.upto fnExactProveLeafSpec)) fnExactProveLeafUptoCard

/-- THE SECOND FORM's CARD OF 'laws.FnExactProofTexts'. -/
def fnExactProofTextsUptoCard : Claim7 := { stood := { row := fnExactProofTextsUptoRow, standIns := [], harness := (true, "f90197177ed385e758db0f0c3aa41618c9450d7a1bc88e5d276575a7e7602ff6"), looks := false }, kinds := [], alts := [], laidByText := true, laidKinds := [.data, .data], laidTests := true, laidLooks := .later }
def FnExactProofTextsUptoCardSaid : Prop := Claim7.holds Tryd.pinned (.plain (OpenSpec.upto fnExactProofTextsSpec)) fnExactProofTextsUptoCard

/-- THE SECOND FORM's CARD OF 'laws.FnExactProofHash'. -/
def fnExactProofHashUptoCard : Claim7 := { stood := { row := fnExactProofHashUptoRow, standIns := [], harness := (true, "f90197177ed385e758db0f0c3aa41618c9450d7a1bc88e5d276575a7e7602ff6"), looks := false }, kinds := [], alts := [], laidByText := true, laidKinds := [.data, .data], laidTests := true, laidLooks := .later }
def FnExactProofHashUptoCardSaid : Prop := Claim7.holds Tryd.pinned (.plain (OpenSpec.upto fnExactProofHashSpec)) fnExactProofHashUptoCard

/-- THE SECOND FORM's CARD OF 'laws.FnExactExtractTwo'. -/
def fnExactExtractTwoUptoCard : Claim7 := { stood := { row := fnExactExtractTwoUptoRow, standIns := [], harness := (true, "f90197177ed385e758db0f0c3aa41618c9450d7a1bc88e5d276575a7e7602ff6"), looks := false }, kinds := [], alts := [], laidByText := true, laidKinds := [.data, .data], laidTests := true, laidLooks := .later }
def FnExactExtractTwoUptoCardSaid : Prop := Claim7.holds Tryd.pinned (.plain (OpenSpec.upto fnExactExtractTwoSpec)) fnExactExtractTwoUptoCard
end Rows
end Go.Proofs.YtagkcgbggeajkaaDoor
