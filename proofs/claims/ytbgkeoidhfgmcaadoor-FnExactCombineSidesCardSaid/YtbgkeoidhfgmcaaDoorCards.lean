/-
  DERIVED. GIVEN WITH THE SEED: THE CARDS: each row of YtbgkeoidhfgmcaaDoorRows.lean that lists a variable, with what it lists TIED to the program's text (the seventh form; the later family's looks); each row that meets fmt, with fmt's text TOLD by the authors' own Lean function (tested against real Go, not proved from fmt's source: count such statements apart). THE CARD IS WHAT COUNTS. Prove the row's statement (the work); the ties are given (YtbgkeoidhfgmcaaDoorTie.lean); close each card by the builder's one call (the guide's Derived/Test/ToyasCard.lean, 'card_holds'). Laid BY PROGRAM, IN A SANDBOX (cutbox-door.mjs). By AI agents, Wed Nov 11 2026. No macro, syntax, notation, axiom, sorry.
-/
import Derived.Test.YtbgkeoidhfgmcaaDoorRows
import GoSem.ClaimSeven
namespace Go.Proofs.YtbgkeoidhfgmcaaDoor
namespace Rows

/-- THE TIED CARD OF 'laws.FnExactShardOf'. -/
def fnExactShardOfCard : Claim7 := { stood := { row := fnExactShardOfRow, standIns := [], harness := (true, "4b2d3e1f30cf7b53a06100692df22d45abe00f2dc4eb4c9b42c26cca902b7c32"), looks := false }, kinds := [], alts := [], laidByText := true, laidKinds := [.data, .data], laidTests := true, laidLooks := .later }
def FnExactShardOfCardSaid : Prop := Claim7.holds Tryd.pinned (.plain (OpenSpec.ofChange fnExactShardOfSpec)) fnExactShardOfCard

/-- THE TIED CARD OF 'laws.FnExactEmptyHash'. -/
def fnExactEmptyHashCard : Claim7 := { stood := { row := fnExactEmptyHashRow, standIns := [], harness := (true, "4b2d3e1f30cf7b53a06100692df22d45abe00f2dc4eb4c9b42c26cca902b7c32"), looks := false }, kinds := [], alts := [], laidByText := true, laidKinds := [.data, .data], laidTests := true, laidLooks := .later }
def FnExactEmptyHashCardSaid : Prop := Claim7.holds Tryd.pinned (.plain (OpenSpec.ofChange fnExactEmptyHashSpec)) fnExactEmptyHashCard

/-- THE TIED CARD OF 'laws.FnExactBucketOf'. -/
def fnExactBucketOfCard : Claim7 := { stood := { row := fnExactBucketOfRow, standIns := [], harness := (true, "4b2d3e1f30cf7b53a06100692df22d45abe00f2dc4eb4c9b42c26cca902b7c32"), looks := false }, kinds := [], alts := [], laidByText := true, laidKinds := [.data, .data], laidTests := true, laidLooks := .later }
def FnExactBucketOfCardSaid : Prop := Claim7.holds Tryd.pinned (.plain (OpenSpec.ofChange fnExactBucketOfSpec)) fnExactBucketOfCard

/-- THE TIED CARD OF 'laws.FnExactShardLeaves'. -/
def fnExactShardLeavesCard : Claim7 := { stood := { row := fnExactShardLeavesRow, standIns := [], harness := (true, "4b2d3e1f30cf7b53a06100692df22d45abe00f2dc4eb4c9b42c26cca902b7c32"), looks := false }, kinds := [], alts := [], laidByText := true, laidKinds := [.data, .data], laidTests := true, laidLooks := .later }
def FnExactShardLeavesCardSaid : Prop := Claim7.holds Tryd.pinned (.plain (OpenSpec.ofChange fnExactShardLeavesSpec)) fnExactShardLeavesCard

/-- THE TIED CARD OF 'laws.FnExactHeadHash'. -/
def fnExactHeadHashCard : Claim7 := { stood := { row := fnExactHeadHashRow, standIns := [], harness := (true, "4b2d3e1f30cf7b53a06100692df22d45abe00f2dc4eb4c9b42c26cca902b7c32"), looks := false }, kinds := [], alts := [], laidByText := true, laidKinds := [.data, .data], laidTests := true, laidLooks := .later }
def FnExactHeadHashCardSaid : Prop := Claim7.holds Tryd.pinned (.plain (OpenSpec.ofChange fnExactHeadHashSpec)) fnExactHeadHashCard

/-- THE TIED CARD OF 'laws.FnExactFoldUp'. -/
def fnExactFoldUpCard : Claim7 := { stood := { row := fnExactFoldUpRow, standIns := [], harness := (true, "4b2d3e1f30cf7b53a06100692df22d45abe00f2dc4eb4c9b42c26cca902b7c32"), looks := false }, kinds := [], alts := [], laidByText := true, laidKinds := [.data, .data], laidTests := true, laidLooks := .later }
def FnExactFoldUpCardSaid : Prop := Claim7.holds Tryd.pinned (.plain (OpenSpec.ofChange fnExactFoldUpSpec)) fnExactFoldUpCard

/-- THE TIED CARD OF 'laws.FnExactCombineRoots'. -/
def fnExactCombineRootsCard : Claim7 := { stood := { row := fnExactCombineRootsRow, standIns := [], harness := (true, "4b2d3e1f30cf7b53a06100692df22d45abe00f2dc4eb4c9b42c26cca902b7c32"), looks := false }, kinds := [], alts := [], laidByText := true, laidKinds := [.data, .data], laidTests := true, laidLooks := .later }
def FnExactCombineRootsCardSaid : Prop := Claim7.holds Tryd.pinned (.plain (OpenSpec.ofChange fnExactCombineRootsSpec)) fnExactCombineRootsCard

/-- THE TIED CARD OF 'laws.FnExactCombineSides'. -/
def fnExactCombineSidesCard : Claim7 := { stood := { row := fnExactCombineSidesRow, standIns := [], harness := (true, "4b2d3e1f30cf7b53a06100692df22d45abe00f2dc4eb4c9b42c26cca902b7c32"), looks := false }, kinds := [], alts := [], laidByText := true, laidKinds := [.data, .data], laidTests := true, laidLooks := .later }
def FnExactCombineSidesCardSaid : Prop := Claim7.holds Tryd.pinned (.plain (OpenSpec.ofChange fnExactCombineSidesSpec)) fnExactCombineSidesCard

/-- THE TIED CARD OF 'laws.FnExactChainOk'. -/
def fnExactChainOkCard : Claim7 := { stood := { row := fnExactChainOkRow, standIns := [], harness := (true, "4b2d3e1f30cf7b53a06100692df22d45abe00f2dc4eb4c9b42c26cca902b7c32"), looks := false }, kinds := [], alts := [], laidByText := true, laidKinds := [.data, .data], laidTests := true, laidLooks := .later }
def FnExactChainOkCardSaid : Prop := Claim7.holds Tryd.pinned (.plain (OpenSpec.ofChange fnExactChainOkSpec)) fnExactChainOkCard

/-- THE TIED CARD OF 'laws.FnExactBucketHash'. -/
def fnExactBucketHashCard : Claim7 := { stood := { row := fnExactBucketHashRow, standIns := [], harness := (true, "4b2d3e1f30cf7b53a06100692df22d45abe00f2dc4eb4c9b42c26cca902b7c32"), looks := false }, kinds := [], alts := [], laidByText := true, laidKinds := [.data, .data], laidTests := true, laidLooks := .later }
def FnExactBucketHashCardSaid : Prop := Claim7.holds Tryd.pinned (.plain (OpenSpec.ofChange fnExactBucketHashSpec)) fnExactBucketHashCard

/-- THE TIED CARD OF 'laws.FnExactProofOk'. -/
def fnExactProofOkCard : Claim7 := { stood := { row := fnExactProofOkRow, standIns := [], harness := (true, "4b2d3e1f30cf7b53a06100692df22d45abe00f2dc4eb4c9b42c26cca902b7c32"), looks := false }, kinds := [], alts := [], laidByText := true, laidKinds := [.data, .data], laidTests := true, laidLooks := .later }
def FnExactProofOkCardSaid : Prop := Claim7.holds Tryd.pinned (.plain (OpenSpec.ofChange fnExactProofOkSpec)) fnExactProofOkCard

/-- THE SECOND FORM's CARD OF 'laws.FnExactShardOf'. -/
def fnExactShardOfUptoCard : Claim7 := { stood := { row := fnExactShardOfUptoRow, standIns := [], harness := (true, "4b2d3e1f30cf7b53a06100692df22d45abe00f2dc4eb4c9b42c26cca902b7c32"), looks := false }, kinds := [], alts := [], laidByText := true, laidKinds := [.data, .data], laidTests := true, laidLooks := .later }
def FnExactShardOfUptoCardSaid : Prop := Claim7.holds Tryd.pinned (.plain (OpenSpec.upto fnExactShardOfSpec)) fnExactShardOfUptoCard

/-- THE SECOND FORM's CARD OF 'laws.FnExactEmptyHash'. -/
def fnExactEmptyHashUptoCard : Claim7 := { stood := { row := fnExactEmptyHashUptoRow, standIns := [], harness := (true, "4b2d3e1f30cf7b53a06100692df22d45abe00f2dc4eb4c9b42c26cca902b7c32"), looks := false }, kinds := [], alts := [], laidByText := true, laidKinds := [.data, .data], laidTests := true, laidLooks := .later }
def FnExactEmptyHashUptoCardSaid : Prop := Claim7.holds Tryd.pinned (.plain (OpenSpec.upto fnExactEmptyHashSpec)) fnExactEmptyHashUptoCard

/-- THE SECOND FORM's CARD OF 'laws.FnExactBucketOf'. -/
def fnExactBucketOfUptoCard : Claim7 := { stood := { row := fnExactBucketOfUptoRow, standIns := [], harness := (true, "4b2d3e1f30cf7b53a06100692df22d45abe00f2dc4eb4c9b42c26cca902b7c32"), looks := false }, kinds := [], alts := [], laidByText := true, laidKinds := [.data, .data], laidTests := true, laidLooks := .later }
def FnExactBucketOfUptoCardSaid : Prop := Claim7.holds Tryd.pinned (.plain (OpenSpec.upto fnExactBucketOfSpec)) fnExactBucketOfUptoCard

/-- THE SECOND FORM's CARD OF 'laws.FnExactShardLeaves'. -/
def fnExactShardLeavesUptoCard : Claim7 := { stood := { row := fnExactShardLeavesUptoRow, standIns := [], harness := (true, "4b2d3e1f30cf7b53a06100692df22d45abe00f2dc4eb4c9b42c26cca902b7c32"), looks := false }, kinds := [], alts := [], laidByText := true, laidKinds := [.data, .data], laidTests := true, laidLooks := .later }
def FnExactShardLeavesUptoCardSaid : Prop := Claim7.holds Tryd.pinned (.plain (OpenSpec.upto fnExactShardLeavesSpec)) fnExactShardLeavesUptoCard

/-- THE SECOND FORM's CARD OF 'laws.FnExactHeadHash'. -/
def fnExactHeadHashUptoCard : Claim7 := { stood := { row := fnExactHeadHashUptoRow, standIns := [], harness := (true, "4b2d3e1f30cf7b53a06100692df22d45abe00f2dc4eb4c9b42c26cca902b7c32"), looks := false }, kinds := [], alts := [], laidByText := true, laidKinds := [.data, .data], laidTests := true, laidLooks := .later }
def FnExactHeadHashUptoCardSaid : Prop := Claim7.holds Tryd.pinned (.plain (OpenSpec.upto fnExactHeadHashSpec)) fnExactHeadHashUptoCard

/-- THE SECOND FORM's CARD OF 'laws.FnExactFoldUp'. -/
def fnExactFoldUpUptoCard : Claim7 := { stood := { row := fnExactFoldUpUptoRow, standIns := [], harness := (true, "4b2d3e1f30cf7b53a06100692df22d45abe00f2dc4eb4c9b42c26cca902b7c32"), looks := false }, kinds := [], alts := [], laidByText := true, laidKinds := [.data, .data], laidTests := true, laidLooks := .later }
def FnExactFoldUpUptoCardSaid : Prop := Claim7.holds Tryd.pinned (.plain (OpenSpec.upto fnExactFoldUpSpec)) fnExactFoldUpUptoCard

/-- THE SECOND FORM's CARD OF 'laws.FnExactCombineRoots'. -/
def fnExactCombineRootsUptoCard : Claim7 := { stood := { row := fnExactCombineRootsUptoRow, standIns := [], harness := (true, "4b2d3e1f30cf7b53a06100692df22d45abe00f2dc4eb4c9b42c26cca902b7c32"), looks := false }, kinds := [], alts := [], laidByText := true, laidKinds := [.data, .data], laidTests := true, laidLooks := .later }
def FnExactCombineRootsUptoCardSaid : Prop := Claim7.holds Tryd.pinned (.plain (OpenSpec.upto fnExactCombineRootsSpec)) fnExactCombineRootsUptoCard

/-- THE SECOND FORM's CARD OF 'laws.FnExactCombineSides'. -/
def fnExactCombineSidesUptoCard : Claim7 := { stood := { row := fnExactCombineSidesUptoRow, standIns := [], harness := (true, "4b2d3e1f30cf7b53a06100692df22d45abe00f2dc4eb4c9b42c26cca902b7c32"), looks := false }, kinds := [], alts := [], laidByText := true, laidKinds := [.data, .data], laidTests := true, laidLooks := .later }
def FnExactCombineSidesUptoCardSaid : Prop := Claim7.holds Tryd.pinned (.plain (OpenSpec.upto fnExactCombineSidesSpec)) fnExactCombineSidesUptoCard

/-- THE SECOND FORM's CARD OF 'laws.FnExactChainOk'. -/
def fnExactChainOkUptoCard : Claim7 := { stood := { row := fnExactChainOkUptoRow, standIns := [], harness := (true, "4b2d3e1f30cf7b53a06100692df22d45abe00f2dc4eb4c9b42c26cca902b7c32"), looks := false }, kinds := [], alts := [], laidByText := true, laidKinds := [.data, .data], laidTests := true, laidLooks := .later }
def FnExactChainOkUptoCardSaid : Prop := Claim7.holds Tryd.pinned (.plain (OpenSpec.upto fnExactChainOkSpec)) fnExactChainOkUptoCard

/-- THE SECOND FORM's CARD OF 'laws.FnExactBucketHash'. -/
def fnExactBucketHashUptoCard : Claim7 := { stood := { row := fnExactBucketHashUptoRow, standIns := [], harness := (true, "4b2d3e1f30cf7b53a06100692df22d45abe00f2dc4eb4c9b42c26cca902b7c32"), looks := false }, kinds := [], alts := [], laidByText := true, laidKinds := [.data, .data], laidTests := true, laidLooks := .later }
def FnExactBucketHashUptoCardSaid : Prop := Claim7.holds Tryd.pinned (.plain (OpenSpec.upto fnExactBucketHashSpec)) fnExactBucketHashUptoCard

/-- THE SECOND FORM's CARD OF 'laws.FnExactProofOk'. -/
def fnExactProofOkUptoCard : Claim7 := { stood := { row := fnExactProofOkUptoRow, standIns := [], harness := (true, "4b2d3e1f30cf7b53a06100692df22d45abe00f2dc4eb4c9b42c26cca902b7c32"), looks := false }, kinds := [], alts := [], laidByText := true, laidKinds := [.data, .data], laidTests := true, laidLooks := .later }
def FnExactProofOkUptoCardSaid : Prop := Claim7.holds Tryd.pinned (.plain (OpenSpec.upto fnExactProofOkSpec)) fnExactProofOkUptoCard
end Rows
end Go.Proofs.YtbgkeoidhfgmcaaDoor
