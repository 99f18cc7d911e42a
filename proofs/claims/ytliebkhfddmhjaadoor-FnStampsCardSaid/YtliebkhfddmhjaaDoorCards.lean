/-
  DERIVED. GIVEN WITH THE SEED: THE CARDS: each row of YtliebkhfddmhjaaDoorRows.lean that lists a variable, with what it lists TIED to the program's text (the seventh form; the later family's looks); each row that meets fmt, with fmt's text TOLD by the authors' own Lean function (tested against real Go, not proved from fmt's source: count such statements apart). THE CARD IS WHAT COUNTS. Prove the row's statement (the work); the ties are given (YtliebkhfddmhjaaDoorTie.lean); close each card by the builder's one call (the guide's Derived/Test/ToyasCard.lean, 'card_holds'). Laid BY PROGRAM, IN A SANDBOX (cutbox-door.mjs). By AI agents, Wed Nov 11 2026. No macro, syntax, notation, axiom, sorry.
-/
import Derived.Test.YtliebkhfddmhjaaDoorRows
import GoSem.ClaimSeven
namespace Go.Proofs.YtliebkhfddmhjaaDoor
namespace Rows

/-- THE TIED CARD OF 'laws.FnExactStampHead'. -/
def fnExactStampHeadCard : Claim7 := { stood := { row := fnExactStampHeadRow, standIns := [], harness := (true, "d983485bbe2959b79cbcaefcedcb8dd2e93cbd1ed148ca4e019e41ffe34b0447"), looks := false }, kinds := [], alts := [], laidByText := true, laidKinds := [.data, .data], laidTests := true, laidLooks := .later }
def FnExactStampHeadCardSaid : Prop := Claim7.holds Tryd.pinned (.plain (OpenSpec.ofChange fnExactStampHeadSpec)) fnExactStampHeadCard

/-- THE TIED CARD OF 'laws.FnExactSealHead'. -/
def fnExactSealHeadCard : Claim7 := { stood := { row := fnExactSealHeadRow, standIns := [], harness := (true, "d983485bbe2959b79cbcaefcedcb8dd2e93cbd1ed148ca4e019e41ffe34b0447"), looks := false }, kinds := [], alts := [], laidByText := true, laidKinds := [.data, .data], laidTests := true, laidLooks := .later }
def FnExactSealHeadCardSaid : Prop := Claim7.holds Tryd.pinned (.plain (OpenSpec.ofChange fnExactSealHeadSpec)) fnExactSealHeadCard

/-- THE TIED CARD OF 'laws.FnSigns'. -/
def fnSignsCard : Claim7 := { stood := { row := fnSignsRow, standIns := [], harness := (true, "d983485bbe2959b79cbcaefcedcb8dd2e93cbd1ed148ca4e019e41ffe34b0447"), looks := false }, kinds := [], alts := [], laidByText := true, laidKinds := [.data, .data], laidTests := true, laidLooks := .later }
def FnSignsCardSaid : Prop := Claim7.holds Tryd.pinned (.plain (OpenSpec.ofChange fnSignsSpec)) fnSignsCard

/-- THE TIED CARD OF 'laws.FnSignsTurned'. -/
def fnSignsTurnedCard : Claim7 := { stood := { row := fnSignsTurnedRow, standIns := [], harness := (true, "d983485bbe2959b79cbcaefcedcb8dd2e93cbd1ed148ca4e019e41ffe34b0447"), looks := false }, kinds := [], alts := [], laidByText := true, laidKinds := [.data, .data], laidTests := true, laidLooks := .later }
def FnSignsTurnedCardSaid : Prop := Claim7.holds Tryd.pinned (.plain (OpenSpec.ofChange fnSignsTurnedSpec)) fnSignsTurnedCard

/-- THE TIED CARD OF 'laws.FnSeals'. -/
def fnSealsCard : Claim7 := { stood := { row := fnSealsRow, standIns := [], harness := (true, "d983485bbe2959b79cbcaefcedcb8dd2e93cbd1ed148ca4e019e41ffe34b0447"), looks := false }, kinds := [], alts := [], laidByText := true, laidKinds := [.data, .data], laidTests := true, laidLooks := .later }
def FnSealsCardSaid : Prop := Claim7.holds Tryd.pinned (.plain (OpenSpec.ofChange fnSealsSpec)) fnSealsCard

/-- THE TIED CARD OF 'laws.FnStamps'. -/
def fnStampsCard : Claim7 := { stood := { row := fnStampsRow, standIns := [], harness := (true, "d983485bbe2959b79cbcaefcedcb8dd2e93cbd1ed148ca4e019e41ffe34b0447"), looks := false }, kinds := [], alts := [], laidByText := true, laidKinds := [.data, .data], laidTests := true, laidLooks := .later }
def FnStampsCardSaid : Prop := Claim7.holds Tryd.pinned (.plain (OpenSpec.ofChange fnStampsSpec)) fnStampsCard

/-- THE TIED CARD OF 'laws.FnRootsDiffer'. -/
def fnRootsDifferCard : Claim7 := { stood := { row := fnRootsDifferRow, standIns := [], harness := (true, "d983485bbe2959b79cbcaefcedcb8dd2e93cbd1ed148ca4e019e41ffe34b0447"), looks := false }, kinds := [], alts := [], laidByText := true, laidKinds := [.data, .data], laidTests := true, laidLooks := .later }
def FnRootsDifferCardSaid : Prop := Claim7.holds Tryd.pinned (.plain (OpenSpec.ofChange fnRootsDifferSpec)) fnRootsDifferCard

/-- THE TIED CARD OF 'laws.FnPartProofs'. -/
def fnPartProofsCard : Claim7 := { stood := { row := fnPartProofsRow, standIns := [], harness := (true, "d983485bbe2959b79cbcaefcedcb8dd2e93cbd1ed148ca4e019e41ffe34b0447"), looks := false }, kinds := [], alts := [], laidByText := true, laidKinds := [.data, .data], laidTests := true, laidLooks := .later }
def FnPartProofsCardSaid : Prop := Claim7.holds Tryd.pinned (.plain (OpenSpec.ofChange fnPartProofsSpec)) fnPartProofsCard

/-- THE SECOND FORM's CARD OF 'laws.FnExactStampHead'. -/
def fnExactStampHeadUptoCard : Claim7 := { stood := { row := fnExactStampHeadUptoRow, standIns := [], harness := (true, "d983485bbe2959b79cbcaefcedcb8dd2e93cbd1ed148ca4e019e41ffe34b0447"), looks := false }, kinds := [], alts := [], laidByText := true, laidKinds := [.data, .data], laidTests := true, laidLooks := .later }
def FnExactStampHeadUptoCardSaid : Prop := Claim7.holds Tryd.pinned (.plain (OpenSpec.upto fnExactStampHeadSpec)) fnExactStampHeadUptoCard

/-- THE SECOND FORM's CARD OF 'laws.FnExactSealHead'. -/
def fnExactSealHeadUptoCard : Claim7 := { stood := { row := fnExactSealHeadUptoRow, standIns := [], harness := (true, "d983485bbe2959b79cbcaefcedcb8dd2e93cbd1ed148ca4e019e41ffe34b0447"), looks := false }, kinds := [], alts := [], laidByText := true, laidKinds := [.data, .data], laidTests := true, laidLooks := .later }
def FnExactSealHeadUptoCardSaid : Prop := Claim7.holds Tryd.pinned (.plain (OpenSpec.upto fnExactSealHeadSpec)) fnExactSealHeadUptoCard

/-- THE SECOND FORM's CARD OF 'laws.FnSigns'. -/
def fnSignsUptoCard : Claim7 := { stood := { row := fnSignsUptoRow, standIns := [], harness := (true, "d983485bbe2959b79cbcaefcedcb8dd2e93cbd1ed148ca4e019e41ffe34b0447"), looks := false }, kinds := [], alts := [], laidByText := true, laidKinds := [.data, .data], laidTests := true, laidLooks := .later }
def FnSignsUptoCardSaid : Prop := Claim7.holds Tryd.pinned (.plain (OpenSpec.upto fnSignsSpec)) fnSignsUptoCard

/-- THE SECOND FORM's CARD OF 'laws.FnSignsTurned'. -/
def fnSignsTurnedUptoCard : Claim7 := { stood := { row := fnSignsTurnedUptoRow, standIns := [], harness := (true, "d983485bbe2959b79cbcaefcedcb8dd2e93cbd1ed148ca4e019e41ffe34b0447"), looks := false }, kinds := [], alts := [], laidByText := true, laidKinds := [.data, .data], laidTests := true, laidLooks := .later }
def FnSignsTurnedUptoCardSaid : Prop := Claim7.holds Tryd.pinned (.plain (OpenSpec.upto fnSignsTurnedSpec)) fnSignsTurnedUptoCard

/-- THE SECOND FORM's CARD OF 'laws.FnSeals'. -/
def fnSealsUptoCard : Claim7 := { stood := { row := fnSealsUptoRow, standIns := [], harness := (true, "d983485bbe2959b79cbcaefcedcb8dd2e93cbd1ed148ca4e019e41ffe34b0447"), looks := false }, kinds := [], alts := [], laidByText := true, laidKinds := [.data, .data], laidTests := true, laidLooks := .later }
def FnSealsUptoCardSaid : Prop := Claim7.holds Tryd.pinned (.plain (OpenSpec.upto fnSealsSpec)) fnSealsUptoCard

/-- THE SECOND FORM's CARD OF 'laws.FnStamps'. -/
def fnStampsUptoCard : Claim7 := { stood := { row := fnStampsUptoRow, standIns := [], harness := (true, "d983485bbe2959b79cbcaefcedcb8dd2e93cbd1ed148ca4e019e41ffe34b0447"), looks := false }, kinds := [], alts := [], laidByText := true, laidKinds := [.data, .data], laidTests := true, laidLooks := .later }
def FnStampsUptoCardSaid : Prop := Claim7.holds Tryd.pinned (.plain (OpenSpec.upto fnStampsSpec)) fnStampsUptoCard

/-- THE SECOND FORM's CARD OF 'laws.FnRootsDiffer'. -/
def fnRootsDifferUptoCard : Claim7 := { stood := { row := fnRootsDifferUptoRow, standIns := [], harness := (true, "d983485bbe2959b79cbcaefcedcb8dd2e93cbd1ed148ca4e019e41ffe34b0447"), looks := false }, kinds := [], alts := [], laidByText := true, laidKinds := [.data, .data], laidTests := true, laidLooks := .later }
def FnRootsDifferUptoCardSaid : Prop := Claim7.holds Tryd.pinned (.plain (OpenSpec.upto fnRootsDifferSpec)) fnRootsDifferUptoCard

/-- THE SECOND FORM's CARD OF 'laws.FnPartProofs'. -/
def fnPartProofsUptoCard : Claim7 := { stood := { row := fnPartProofsUptoRow, standIns := [], harness := (true, "d983485bbe2959b79cbcaefcedcb8dd2e93cbd1ed148ca4e019e41ffe34b0447"), looks := false }, kinds := [], alts := [], laidByText := true, laidKinds := [.data, .data], laidTests := true, laidLooks := .later }
def FnPartProofsUptoCardSaid : Prop := Claim7.holds Tryd.pinned (.plain (OpenSpec.upto fnPartProofsSpec)) fnPartProofsUptoCard
end Rows
end Go.Proofs.YtliebkhfddmhjaaDoor
