/-
  DERIVED. GIVEN WITH THE SEED: THE CARDS: each row of YtmfahekkcgnndaaDoorRows.lean that lists a variable, with what it lists TIED to the program's text (the seventh form; the later family's looks); each row that meets fmt, with fmt's text TOLD by the authors' own Lean function (tested against real Go, not proved from fmt's source: count such statements apart). THE CARD IS WHAT COUNTS. Prove the row's statement (the work); the ties are given (YtmfahekkcgnndaaDoorTie.lean); close each card by the builder's one call (the guide's Derived/Test/ToyasCard.lean, 'card_holds'). Laid BY PROGRAM, IN A SANDBOX (cutbox-door.mjs). By AI agents, Wed Nov 11 2026. No macro, syntax, notation, axiom, sorry.
-/
import Derived.Test.YtmfahekkcgnndaaDoorRows
import GoSem.ClaimSeven
namespace Go.Proofs.YtmfahekkcgnndaaDoor
namespace Rows

/-- THE TIED CARD OF 'laws.FnExactPoolText'. -/
def fnExactPoolTextCard : Claim7 := { stood := { row := fnExactPoolTextRow, standIns := [], harness := (true, "02ac16ebe41175f6a39267c6d312b126a0443f5c5811482f0332d1bfcbcee21d"), looks := false }, kinds := [], alts := [], laidByText := true, laidKinds := [.data, .data, .data], laidTests := true, laidLooks := .later }
def FnExactPoolTextCardSaid : Prop := Claim7.holds Tryd.pinned (.plain (OpenSpec.ofChange fnExactPoolTextSpec)) fnExactPoolTextCard

/-- THE TIED CARD OF 'laws.FnPoolCrops'. -/
def fnPoolCropsCard : Claim7 := { stood := { row := fnPoolCropsRow, standIns := [], harness := (true, "02ac16ebe41175f6a39267c6d312b126a0443f5c5811482f0332d1bfcbcee21d"), looks := false }, kinds := [], alts := [], laidByText := true, laidKinds := [.data, .data, .data], laidTests := true, laidLooks := .later }
def FnPoolCropsCardSaid : Prop := Claim7.holds Tryd.pinned (.plain (OpenSpec.ofChange fnPoolCropsSpec)) fnPoolCropsCard

/-- THE SECOND FORM's CARD OF 'laws.FnExactPoolText'. -/
def fnExactPoolTextUptoCard : Claim7 := { stood := { row := fnExactPoolTextUptoRow, standIns := [], harness := (true, "02ac16ebe41175f6a39267c6d312b126a0443f5c5811482f0332d1bfcbcee21d"), looks := false }, kinds := [], alts := [], laidByText := true, laidKinds := [.data, .data, .data], laidTests := true, laidLooks := .later }
def FnExactPoolTextUptoCardSaid : Prop := Claim7.holds Tryd.pinned (.plain (OpenSpec.upto fnExactPoolTextSpec)) fnExactPoolTextUptoCard

/-- THE SECOND FORM's CARD OF 'laws.FnPoolCrops'. -/
def fnPoolCropsUptoCard : Claim7 := { stood := { row := fnPoolCropsUptoRow, standIns := [], harness := (true, "02ac16ebe41175f6a39267c6d312b126a0443f5c5811482f0332d1bfcbcee21d"), looks := false }, kinds := [], alts := [], laidByText := true, laidKinds := [.data, .data, .data], laidTests := true, laidLooks := .later }
def FnPoolCropsUptoCardSaid : Prop := Claim7.holds Tryd.pinned (.plain (OpenSpec.upto fnPoolCropsSpec)) fnPoolCropsUptoCard
end Rows
end Go.Proofs.YtmfahekkcgnndaaDoor
