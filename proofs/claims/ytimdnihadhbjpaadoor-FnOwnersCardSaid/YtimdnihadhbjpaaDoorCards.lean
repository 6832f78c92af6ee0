/-
  DERIVED. GIVEN WITH THE SEED: THE CARDS: each row of YtimdnihadhbjpaaDoorRows.lean that lists a variable, with what it lists TIED to the program's text (the seventh form; the later family's looks); each row that meets fmt, with fmt's text TOLD by the authors' own Lean function (tested against real Go, not proved from fmt's source: count such statements apart). THE CARD IS WHAT COUNTS. Prove the row's statement (the work); the ties are given (YtimdnihadhbjpaaDoorTie.lean); close each card by the builder's one call (the guide's Derived/Test/ToyasCard.lean, 'card_holds'). Laid BY PROGRAM, IN A SANDBOX (cutbox-door.mjs). By AI agents, Wed Nov 11 2026. No macro, syntax, notation, axiom, sorry.
-/
import Derived.Test.YtimdnihadhbjpaaDoorRows
import GoSem.ClaimSeven
namespace Go.Proofs.YtimdnihadhbjpaaDoor
namespace Rows

/-- THE TIED CARD OF 'laws.FnExactAreOwners'. -/
def fnExactAreOwnersCard : Claim7 := { stood := { row := fnExactAreOwnersRow, standIns := [], harness := (true, "ce190d10144d919f03a423b3b7bad0dba1f10b14edebd8d098bf8676778bac88"), looks := false }, kinds := [], alts := [], laidByText := true, laidKinds := [.data, .pinned], laidTests := true, laidLooks := .later }
def FnExactAreOwnersCardSaid : Prop := Claim7.holds Tryd.pinned (.plain (OpenSpec.ofChange fnExactAreOwnersSpec)) fnExactAreOwnersCard

/-- THE TIED CARD OF 'laws.FnExactShareOf'. -/
def fnExactShareOfCard : Claim7 := { stood := { row := fnExactShareOfRow, standIns := [], harness := (true, "ce190d10144d919f03a423b3b7bad0dba1f10b14edebd8d098bf8676778bac88"), looks := false }, kinds := [], alts := [], laidByText := true, laidKinds := [.data, .pinned], laidTests := true, laidLooks := .later }
def FnExactShareOfCardSaid : Prop := Claim7.holds Tryd.pinned (.plain (OpenSpec.ofChange fnExactShareOfSpec)) fnExactShareOfCard

/-- THE TIED CARD OF 'laws.FnExactLargestOwner'. -/
def fnExactLargestOwnerCard : Claim7 := { stood := { row := fnExactLargestOwnerRow, standIns := [], harness := (true, "ce190d10144d919f03a423b3b7bad0dba1f10b14edebd8d098bf8676778bac88"), looks := false }, kinds := [], alts := [], laidByText := true, laidKinds := [.data, .pinned], laidTests := true, laidLooks := .later }
def FnExactLargestOwnerCardSaid : Prop := Claim7.holds Tryd.pinned (.plain (OpenSpec.ofChange fnExactLargestOwnerSpec)) fnExactLargestOwnerCard

/-- THE TIED CARD OF 'laws.FnExactExactParts'. -/
def fnExactExactPartsCard : Claim7 := { stood := { row := fnExactExactPartsRow, standIns := [], harness := (true, "ce190d10144d919f03a423b3b7bad0dba1f10b14edebd8d098bf8676778bac88"), looks := false }, kinds := [], alts := [], laidByText := true, laidKinds := [.data, .pinned], laidTests := true, laidLooks := .later }
def FnExactExactPartsCardSaid : Prop := Claim7.holds Tryd.pinned (.plain (OpenSpec.ofChange fnExactExactPartsSpec)) fnExactExactPartsCard

/-- THE TIED CARD OF 'laws.FnExactLeftTons'. -/
def fnExactLeftTonsCard : Claim7 := { stood := { row := fnExactLeftTonsRow, standIns := [], harness := (true, "ce190d10144d919f03a423b3b7bad0dba1f10b14edebd8d098bf8676778bac88"), looks := false }, kinds := [], alts := [], laidByText := true, laidKinds := [.data, .pinned], laidTests := true, laidLooks := .later }
def FnExactLeftTonsCardSaid : Prop := Claim7.holds Tryd.pinned (.plain (OpenSpec.ofChange fnExactLeftTonsSpec)) fnExactLeftTonsCard

/-- THE TIED CARD OF 'laws.FnExactDivideCrop'. -/
def fnExactDivideCropCard : Claim7 := { stood := { row := fnExactDivideCropRow, standIns := [], harness := (true, "ce190d10144d919f03a423b3b7bad0dba1f10b14edebd8d098bf8676778bac88"), looks := false }, kinds := [], alts := [], laidByText := true, laidKinds := [.data, .pinned], laidTests := true, laidLooks := .later }
def FnExactDivideCropCardSaid : Prop := Claim7.holds Tryd.pinned (.plain (OpenSpec.ofChange fnExactDivideCropSpec)) fnExactDivideCropCard

/-- THE TIED CARD OF 'laws.FnExactMajority'. -/
def fnExactMajorityCard : Claim7 := { stood := { row := fnExactMajorityRow, standIns := [], harness := (true, "ce190d10144d919f03a423b3b7bad0dba1f10b14edebd8d098bf8676778bac88"), looks := false }, kinds := [], alts := [], laidByText := true, laidKinds := [.data, .pinned], laidTests := true, laidLooks := .later }
def FnExactMajorityCardSaid : Prop := Claim7.holds Tryd.pinned (.plain (OpenSpec.ofChange fnExactMajoritySpec)) fnExactMajorityCard

/-- THE TIED CARD OF 'laws.FnExactSellShare'. -/
def fnExactSellShareCard : Claim7 := { stood := { row := fnExactSellShareRow, standIns := [], harness := (true, "ce190d10144d919f03a423b3b7bad0dba1f10b14edebd8d098bf8676778bac88"), looks := false }, kinds := [], alts := [], laidByText := true, laidKinds := [.data, .pinned], laidTests := true, laidLooks := .later }
def FnExactSellShareCardSaid : Prop := Claim7.holds Tryd.pinned (.plain (OpenSpec.ofChange fnExactSellShareSpec)) fnExactSellShareCard

/-- THE TIED CARD OF 'laws.FnShares'. -/
def fnSharesCard : Claim7 := { stood := { row := fnSharesRow, standIns := [], harness := (true, "ce190d10144d919f03a423b3b7bad0dba1f10b14edebd8d098bf8676778bac88"), looks := false }, kinds := [], alts := [], laidByText := true, laidKinds := [.data, .pinned], laidTests := true, laidLooks := .later }
def FnSharesCardSaid : Prop := Claim7.holds Tryd.pinned (.plain (OpenSpec.ofChange fnSharesSpec)) fnSharesCard

/-- THE TIED CARD OF 'laws.FnExactHeirsOf'. -/
def fnExactHeirsOfCard : Claim7 := { stood := { row := fnExactHeirsOfRow, standIns := [], harness := (true, "ce190d10144d919f03a423b3b7bad0dba1f10b14edebd8d098bf8676778bac88"), looks := false }, kinds := [], alts := [], laidByText := true, laidKinds := [.data, .pinned], laidTests := true, laidLooks := .later }
def FnExactHeirsOfCardSaid : Prop := Claim7.holds Tryd.pinned (.plain (OpenSpec.ofChange fnExactHeirsOfSpec)) fnExactHeirsOfCard

/-- THE TIED CARD OF 'laws.FnExactSharesText'. -/
def fnExactSharesTextCard : Claim7 := { stood := { row := fnExactSharesTextRow, standIns := [], harness := (true, "ce190d10144d919f03a423b3b7bad0dba1f10b14edebd8d098bf8676778bac88"), looks := false }, kinds := [], alts := [], laidByText := true, laidKinds := [.data, .data, .data, .data, .pinned], laidTests := true, laidLooks := .later }
def FnExactSharesTextCardSaid : Prop := Claim7.holds Tryd.pinned (.plain (OpenSpec.ofChange fnExactSharesTextSpec)) fnExactSharesTextCard

/-- THE TIED CARD OF 'laws.FnOwners'. -/
def fnOwnersCard : Claim7 := { stood := { row := fnOwnersRow, standIns := [], harness := (true, "ce190d10144d919f03a423b3b7bad0dba1f10b14edebd8d098bf8676778bac88"), looks := false }, kinds := [], alts := [], laidByText := true, laidKinds := [.data, .data, .data, .data, .pinned], laidTests := true, laidLooks := .later }
def FnOwnersCardSaid : Prop := Claim7.holds Tryd.pinned (.plain (OpenSpec.ofChange fnOwnersSpec)) fnOwnersCard

/-- THE SECOND FORM's CARD OF 'laws.FnExactAreOwners'. -/
def fnExactAreOwnersUptoCard : Claim7 := { stood := { row := fnExactAreOwnersUptoRow, standIns := [], harness := (true, "ce190d10144d919f03a423b3b7bad0dba1f10b14edebd8d098bf8676778bac88"), looks := false }, kinds := [], alts := [], laidByText := true, laidKinds := [.data, .pinned], laidTests := true, laidLooks := .later }
def FnExactAreOwnersUptoCardSaid : Prop := Claim7.holds Tryd.pinned (.plain (OpenSpec.upto fnExactAreOwnersSpec)) fnExactAreOwnersUptoCard

/-- THE SECOND FORM's CARD OF 'laws.FnExactShareOf'. -/
def fnExactShareOfUptoCard : Claim7 := { stood := { row := fnExactShareOfUptoRow, standIns := [], harness := (true, "ce190d10144d919f03a423b3b7bad0dba1f10b14edebd8d098bf8676778bac88"), looks := false }, kinds := [], alts := [], laidByText := true, laidKinds := [.data, .pinned], laidTests := true, laidLooks := .later }
def FnExactShareOfUptoCardSaid : Prop := Claim7.holds Tryd.pinned (.plain (OpenSpec.upto fnExactShareOfSpec)) fnExactShareOfUptoCard

/-- THE SECOND FORM's CARD OF 'laws.FnExactLargestOwner'. -/
def fnExactLargestOwnerUptoCard : Claim7 := { stood := { row := fnExactLargestOwnerUptoRow, standIns := [], harness := (true, "ce190d10144d919f03a423b3b7bad0dba1f10b14edebd8d098bf8676778bac88"), looks := false }, kinds := [], alts := [], laidByText := true, laidKinds := [.data, .pinned], laidTests := true, laidLooks := .later }
def FnExactLargestOwnerUptoCardSaid : Prop := Claim7.holds Tryd.pinned (.plain (OpenSpec.upto fnExactLargestOwnerSpec)) fnExactLargestOwnerUptoCard

/-- THE SECOND FORM's CARD OF 'laws.FnExactExactParts'. -/
def fnExactExactPartsUptoCard : Claim7 := { stood := { row := fnExactExactPartsUptoRow, standIns := [], harness := (true, "ce190d10144d919f03a423b3b7bad0dba1f10b14edebd8d098bf8676778bac88"), looks := false }, kinds := [], alts := [], laidByText := true, laidKinds := [.data, .pinned], laidTests := true, laidLooks := .later }
def FnExactExactPartsUptoCardSaid : Prop := Claim7.holds Tryd.pinned (.plain (OpenSpec.upto fnExactExactPartsSpec)) fnExactExactPartsUptoCard

/-- THE SECOND FORM's CARD OF 'laws.FnExactLeftTons'. -/
def fnExactLeftTonsUptoCard : Claim7 := { stood := { row := fnExactLeftTonsUptoRow, standIns := [], harness := (true, "ce190d10144d919f03a423b3b7bad0dba1f10b14edebd8d098bf8676778bac88"), looks := false }, kinds := [], alts := [], laidByText := true, laidKinds := [.data, .pinned], laidTests := true, laidLooks := .later }
def FnExactLeftTonsUptoCardSaid : Prop := Claim7.holds Tryd.pinned (.plain (OpenSpec.upto fnExactLeftTonsSpec)) fnExactLeftTonsUptoCard

/-- THE SECOND FORM's CARD OF 'laws.FnExactDivideCrop'. -/
def fnExactDivideCropUptoCard : Claim7 := { stood := { row := fnExactDivideCropUptoRow, standIns := [], harness := (true, "ce190d10144d919f03a423b3b7bad0dba1f10b14edebd8d098bf8676778bac88"), looks := false }, kinds := [], alts := [], laidByText := true, laidKinds := [.data, .pinned], laidTests := true, laidLooks := .later }
def FnExactDivideCropUptoCardSaid : Prop := Claim7.holds Tryd.pinned (.plain (OpenSpec.upto fnExactDivideCropSpec)) fnExactDivideCropUptoCard

/-- THE SECOND FORM's CARD OF 'laws.FnExactMajority'. -/
def fnExactMajorityUptoCard : Claim7 := { stood := { row := fnExactMajorityUptoRow, standIns := [], harness := (true, "ce190d10144d919f03a423b3b7bad0dba1f10b14edebd8d098bf8676778bac88"), looks := false }, kinds := [], alts := [], laidByText := true, laidKinds := [.data, .pinned], laidTests := true, laidLooks := .later }
def FnExactMajorityUptoCardSaid : Prop := Claim7.holds Tryd.pinned (.plain (OpenSpec.upto fnExactMajoritySpec)) fnExactMajorityUptoCard

/-- THE SECOND FORM's CARD OF 'laws.FnExactSellShare'. -/
def fnExactSellShareUptoCard : Claim7 := { stood := { row := fnExactSellShareUptoRow, standIns := [], harness := (true, "ce190d10144d919f03a423b3b7bad0dba1f10b14edebd8d098bf8676778bac88"), looks := false }, kinds := [], alts := [], laidByText := true, laidKinds := [.data, .pinned], laidTests := true, laidLooks := .later }
def FnExactSellShareUptoCardSaid : Prop := Claim7.holds Tryd.pinned (.plain (OpenSpec.upto fnExactSellShareSpec)) fnExactSellShareUptoCard

/-- THE SECOND FORM's CARD OF 'laws.FnShares'. -/
def fnSharesUptoCard : Claim7 := { stood := { row := fnSharesUptoRow, standIns := [], harness := (true, "ce190d10144d919f03a423b3b7bad0dba1f10b14edebd8d098bf8676778bac88"), looks := false }, kinds := [], alts := [], laidByText := true, laidKinds := [.data, .pinned], laidTests := true, laidLooks := .later }
def FnSharesUptoCardSaid : Prop := Claim7.holds Tryd.pinned (.plain (OpenSpec.upto fnSharesSpec)) fnSharesUptoCard

/-- THE SECOND FORM's CARD OF 'laws.FnExactHeirsOf'. -/
def fnExactHeirsOfUptoCard : Claim7 := { stood := { row := fnExactHeirsOfUptoRow, standIns := [], harness := (true, "ce190d10144d919f03a423b3b7bad0dba1f10b14edebd8d098bf8676778bac88"), looks := false }, kinds := [], alts := [], laidByText := true, laidKinds := [.data, .pinned], laidTests := true, laidLooks := .later }
def FnExactHeirsOfUptoCardSaid : Prop := Claim7.holds Tryd.pinned (.plain (OpenSpec.upto fnExactHeirsOfSpec)) fnExactHeirsOfUptoCard

/-- THE SECOND FORM's CARD OF 'laws.FnExactSharesText'. -/
def fnExactSharesTextUptoCard : Claim7 := { stood := { row := fnExactSharesTextUptoRow, standIns := [], harness := (true, "ce190d10144d919f03a423b3b7bad0dba1f10b14edebd8d098bf8676778bac88"), looks := false }, kinds := [], alts := [], laidByText := true, laidKinds := [.data, .data, .data, .data, .pinned], laidTests := true, laidLooks := .later }
def FnExactSharesTextUptoCardSaid : Prop := Claim7.holds Tryd.pinned (.plain (OpenSpec.upto fnExactSharesTextSpec)) fnExactSharesTextUptoCard

/-- THE SECOND FORM's CARD OF 'laws.FnOwners'. -/
def fnOwnersUptoCard : Claim7 := { stood := { row := fnOwnersUptoRow, standIns := [], harness := (true, "ce190d10144d919f03a423b3b7bad0dba1f10b14edebd8d098bf8676778bac88"), looks := false }, kinds := [], alts := [], laidByText := true, laidKinds := [.data, .data, .data, .data, .pinned], laidTests := true, laidLooks := .later }
def FnOwnersUptoCardSaid : Prop := Claim7.holds Tryd.pinned (.plain (OpenSpec.upto fnOwnersSpec)) fnOwnersUptoCard
end Rows
end Go.Proofs.YtimdnihadhbjpaaDoor
