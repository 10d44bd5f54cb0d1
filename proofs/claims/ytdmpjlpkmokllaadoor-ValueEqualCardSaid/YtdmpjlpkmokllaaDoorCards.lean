/-
  DERIVED. GIVEN WITH THE SEED: THE CARDS: each row of YtdmpjlpkmokllaaDoorRows.lean that lists a variable, with what it lists TIED to the program's text (the seventh form; the later family's looks); each row that meets fmt, with fmt's text TOLD by the authors' own Lean function (tested against real Go, not proved from fmt's source: count such statements apart). THE CARD IS WHAT COUNTS. Prove the row's statement (the work); the ties are given (YtdmpjlpkmokllaaDoorTie.lean); close each card by the builder's one call (the guide's Derived/Test/ToyasCard.lean, 'card_holds'). Laid BY PROGRAM, IN A SANDBOX (cutbox-door.mjs). By AI agents, Wed Nov 11 2026. No macro, syntax, notation, axiom, sorry.
-/
import Derived.Test.YtdmpjlpkmokllaaDoorRows
import GoSem.ClaimSeven
namespace Go.Proofs.YtdmpjlpkmokllaaDoor
namespace Rows

/-- THE TIED CARD OF 'tapestrylaw01.ValueOne'. -/
def valueOneCard : Claim7 := { stood := { row := valueOneRow, standIns := [], harness := (true, "0854908d8f63c2e6772d4e7bf16c8dc04cf9f13c5834c2d61d2da4584b425af4"), looks := false }, kinds := [], alts := [], laidByText := true, laidKinds := [.data, .data, .data], laidTests := true, laidLooks := .later }
def ValueOneCardSaid : Prop := Claim7.holds Tryd.pinned (.plain (OpenSpec.ofChange valueOneSpec)) valueOneCard

/-- THE TIED CARD OF 'tapestrylaw01.ValueParts'. -/
def valuePartsCard : Claim7 := { stood := { row := valuePartsRow, standIns := [], harness := (true, "0854908d8f63c2e6772d4e7bf16c8dc04cf9f13c5834c2d61d2da4584b425af4"), looks := false }, kinds := [], alts := [], laidByText := true, laidKinds := [.data, .data, .data], laidTests := true, laidLooks := .later }
def ValuePartsCardSaid : Prop := Claim7.holds Tryd.pinned (.plain (OpenSpec.ofChange valuePartsSpec)) valuePartsCard

/-- THE TIED CARD OF 'tapestrylaw01.ValueLimits'. -/
def valueLimitsCard : Claim7 := { stood := { row := valueLimitsRow, standIns := [], harness := (true, "0854908d8f63c2e6772d4e7bf16c8dc04cf9f13c5834c2d61d2da4584b425af4"), looks := false }, kinds := [], alts := [], laidByText := true, laidKinds := [.data, .data, .data], laidTests := true, laidLooks := .later }
def ValueLimitsCardSaid : Prop := Claim7.holds Tryd.pinned (.plain (OpenSpec.ofChange valueLimitsSpec)) valueLimitsCard

/-- THE TIED CARD OF 'tapestrylaw01.ValueEqual'. -/
def valueEqualCard : Claim7 := { stood := { row := valueEqualRow, standIns := [], harness := (true, "0854908d8f63c2e6772d4e7bf16c8dc04cf9f13c5834c2d61d2da4584b425af4"), looks := false }, kinds := [], alts := [], laidByText := true, laidKinds := [.data, .data, .data], laidTests := true, laidLooks := .later }
def ValueEqualCardSaid : Prop := Claim7.holds Tryd.pinned (.plain (OpenSpec.ofChange valueEqualSpec)) valueEqualCard

/-- THE TIED CARD OF 'tapestrylaw02.OperNumbers'. -/
def operNumbersCard : Claim7 := { stood := { row := operNumbersRow, standIns := [], harness := (true, "0854908d8f63c2e6772d4e7bf16c8dc04cf9f13c5834c2d61d2da4584b425af4"), looks := false }, kinds := [], alts := [], laidByText := true, laidKinds := [.data, .data, .data], laidTests := true, laidLooks := .later }
def OperNumbersCardSaid : Prop := Claim7.holds Tryd.pinned (.plain (OpenSpec.ofChange operNumbersSpec)) operNumbersCard

/-- THE TIED CARD OF 'tapestrylaw02.OperTexts'. -/
def operTextsCard : Claim7 := { stood := { row := operTextsRow, standIns := [], harness := (true, "0854908d8f63c2e6772d4e7bf16c8dc04cf9f13c5834c2d61d2da4584b425af4"), looks := false }, kinds := [], alts := [], laidByText := true, laidKinds := [.data, .data, .data], laidTests := true, laidLooks := .later }
def OperTextsCardSaid : Prop := Claim7.holds Tryd.pinned (.plain (OpenSpec.ofChange operTextsSpec)) operTextsCard

/-- THE TIED CARD OF 'tapestrylaw02.OperLists'. -/
def operListsCard : Claim7 := { stood := { row := operListsRow, standIns := [], harness := (true, "0854908d8f63c2e6772d4e7bf16c8dc04cf9f13c5834c2d61d2da4584b425af4"), looks := false }, kinds := [], alts := [], laidByText := true, laidKinds := [.data, .data, .data], laidTests := true, laidLooks := .later }
def OperListsCardSaid : Prop := Claim7.holds Tryd.pinned (.plain (OpenSpec.ofChange operListsSpec)) operListsCard

/-- THE TIED CARD OF 'tapestrylaw02.OperFields'. -/
def operFieldsCard : Claim7 := { stood := { row := operFieldsRow, standIns := [], harness := (true, "0854908d8f63c2e6772d4e7bf16c8dc04cf9f13c5834c2d61d2da4584b425af4"), looks := false }, kinds := [], alts := [], laidByText := true, laidKinds := [.data, .data, .data], laidTests := true, laidLooks := .later }
def OperFieldsCardSaid : Prop := Claim7.holds Tryd.pinned (.plain (OpenSpec.ofChange operFieldsSpec)) operFieldsCard

/-- THE TIED CARD OF 'tapestrylaw02.OperMay'. -/
def operMayCard : Claim7 := { stood := { row := operMayRow, standIns := [], harness := (true, "0854908d8f63c2e6772d4e7bf16c8dc04cf9f13c5834c2d61d2da4584b425af4"), looks := false }, kinds := [], alts := [], laidByText := true, laidKinds := [.data, .data, .data], laidTests := true, laidLooks := .later }
def OperMayCardSaid : Prop := Claim7.holds Tryd.pinned (.plain (OpenSpec.ofChange operMaySpec)) operMayCard

/-- THE SECOND FORM's CARD OF 'tapestrylaw01.ValueOne'. -/
def valueOneUptoCard : Claim7 := { stood := { row := valueOneUptoRow, standIns := [], harness := (true, "0854908d8f63c2e6772d4e7bf16c8dc04cf9f13c5834c2d61d2da4584b425af4"), looks := false }, kinds := [], alts := [], laidByText := true, laidKinds := [.data, .data, .data], laidTests := true, laidLooks := .later }
def ValueOneUptoCardSaid : Prop := Claim7.holds Tryd.pinned (.plain (OpenSpec.upto valueOneSpec)) valueOneUptoCard

/-- THE SECOND FORM's CARD OF 'tapestrylaw01.ValueParts'. -/
def valuePartsUptoCard : Claim7 := { stood := { row := valuePartsUptoRow, standIns := [], harness := (true, "0854908d8f63c2e6772d4e7bf16c8dc04cf9f13c5834c2d61d2da4584b425af4"), looks := false }, kinds := [], alts := [], laidByText := true, laidKinds := [.data, .data, .data], laidTests := true, laidLooks := .later }
def ValuePartsUptoCardSaid : Prop := Claim7.holds Tryd.pinned (.plain (OpenSpec.upto valuePartsSpec)) valuePartsUptoCard

/-- THE SECOND FORM's CARD OF 'tapestrylaw01.ValueLimits'. -/
def valueLimitsUptoCard : Claim7 := { stood := { row := valueLimitsUptoRow, standIns := [], harness := (true, "0854908d8f63c2e6772d4e7bf16c8dc04cf9f13c5834c2d61d2da4584b425af4"), looks := false }, kinds := [], alts := [], laidByText := true, laidKinds := [.data, .data, .data], laidTests := true, laidLooks := .later }
def ValueLimitsUptoCardSaid : Prop := Claim7.holds Tryd.pinned (.plain (OpenSpec.upto valueLimitsSpec)) valueLimitsUptoCard

/-- THE SECOND FORM's CARD OF 'tapestrylaw01.ValueEqual'. -/
def valueEqualUptoCard : Claim7 := { stood := { row := valueEqualUptoRow, standIns := [], harness := (true, "0854908d8f63c2e6772d4e7bf16c8dc04cf9f13c5834c2d61d2da4584b425af4"), looks := false }, kinds := [], alts := [], laidByText := true, laidKinds := [.data, .data, .data], laidTests := true, laidLooks := .later }
def ValueEqualUptoCardSaid : Prop := Claim7.holds Tryd.pinned (.plain (OpenSpec.upto valueEqualSpec)) valueEqualUptoCard

/-- THE SECOND FORM's CARD OF 'tapestrylaw02.OperNumbers'. -/
def operNumbersUptoCard : Claim7 := { stood := { row := operNumbersUptoRow, standIns := [], harness := (true, "0854908d8f63c2e6772d4e7bf16c8dc04cf9f13c5834c2d61d2da4584b425af4"), looks := false }, kinds := [], alts := [], laidByText := true, laidKinds := [.data, .data, .data], laidTests := true, laidLooks := .later }
def OperNumbersUptoCardSaid : Prop := Claim7.holds Tryd.pinned (.plain (OpenSpec.upto operNumbersSpec)) operNumbersUptoCard

/-- THE SECOND FORM's CARD OF 'tapestrylaw02.OperTexts'. -/
def operTextsUptoCard : Claim7 := { stood := { row := operTextsUptoRow, standIns := [], harness := (true, "0854908d8f63c2e6772d4e7bf16c8dc04cf9f13c5834c2d61d2da4584b425af4"), looks := false }, kinds := [], alts := [], laidByText := true, laidKinds := [.data, .data, .data], laidTests := true, laidLooks := .later }
def OperTextsUptoCardSaid : Prop := Claim7.holds Tryd.pinned (.plain (OpenSpec.upto operTextsSpec)) operTextsUptoCard

/-- THE SECOND FORM's CARD OF 'tapestrylaw02.OperLists'. -/
def operListsUptoCard : Claim7 := { stood := { row := operListsUptoRow, standIns := [], harness := (true, "0854908d8f63c2e6772d4e7bf16c8dc04cf9f13c5834c2d61d2da4584b425af4"), looks := false }, kinds := [], alts := [], laidByText := true, laidKinds := [.data, .data, .data], laidTests := true, laidLooks := .later }
def OperListsUptoCardSaid : Prop := Claim7.holds Tryd.pinned (.plain (OpenSpec.upto operListsSpec)) operListsUptoCard

/-- THE SECOND FORM's CARD OF 'tapestrylaw02.OperFields'. -/
def operFieldsUptoCard : Claim7 := { stood := { row := operFieldsUptoRow, standIns := [], harness := (true, "0854908d8f63c2e6772d4e7bf16c8dc04cf9f13c5834c2d61d2da4584b425af4"), looks := false }, kinds := [], alts := [], laidByText := true, laidKinds := [.data, .data, .data], laidTests := true, laidLooks := .later }
def OperFieldsUptoCardSaid : Prop := Claim7.holds Tryd.pinned (.plain (OpenSpec.upto operFieldsSpec)) operFieldsUptoCard

/-- THE SECOND FORM's CARD OF 'tapestrylaw02.OperMay'. -/
def operMayUptoCard : Claim7 := { stood := { row := operMayUptoRow, standIns := [], harness := (true, "0854908d8f63c2e6772d4e7bf16c8dc04cf9f13c5834c2d61d2da4584b425af4"), looks := false }, kinds := [], alts := [], laidByText := true, laidKinds := [.data, .data, .data], laidTests := true, laidLooks := .later }
def OperMayUptoCardSaid : Prop := Claim7.holds Tryd.pinned (.plain (OpenSpec.upto operMaySpec)) operMayUptoCard
end Rows
end Go.Proofs.YtdmpjlpkmokllaaDoor
