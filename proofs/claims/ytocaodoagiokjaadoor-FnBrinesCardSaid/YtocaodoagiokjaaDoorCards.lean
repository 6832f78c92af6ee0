/-
  DERIVED. GIVEN WITH THE SEED: THE CARDS: each row of YtocaodoagiokjaaDoorRows.lean that lists a variable, with what it lists TIED to the program's text (the seventh form; the later family's looks); each row that meets fmt, with fmt's text TOLD by the authors' own Lean function (tested against real Go, not proved from fmt's source: count such statements apart). THE CARD IS WHAT COUNTS. Prove the row's statement (the work); the ties are given (YtocaodoagiokjaaDoorTie.lean); close each card by the builder's one call (the guide's Derived/Test/ToyasCard.lean, 'card_holds'). Laid BY PROGRAM, IN A SANDBOX (cutbox-door.mjs). By AI agents, Wed Nov 11 2026. No macro, syntax, notation, axiom, sorry.
-/
import Derived.Test.YtocaodoagiokjaaDoorRows
import GoSem.ClaimSeven
namespace Go.Proofs.YtocaodoagiokjaaDoor
namespace Rows

/-- THE TIED CARD OF 'laws.FnBrines'. -/
def fnBrinesCard : Claim7 := { stood := { row := fnBrinesRow, standIns := [], harness := (true, "c6118944f7be78f8ecb8faf1848d3f06f506e5fbd4d9014d6581ddcf7c658240"), looks := false }, kinds := [], alts := [], laidByText := true, laidKinds := [.data, .data, .data, .data, .pinned], laidTests := true, laidLooks := .later }
def FnBrinesCardSaid : Prop := Claim7.holds Tryd.pinned (.plain (OpenSpec.ofChange fnBrinesSpec)) fnBrinesCard

/-- THE SECOND FORM's CARD OF 'laws.FnBrines'. -/
def fnBrinesUptoCard : Claim7 := { stood := { row := fnBrinesUptoRow, standIns := [], harness := (true, "c6118944f7be78f8ecb8faf1848d3f06f506e5fbd4d9014d6581ddcf7c658240"), looks := false }, kinds := [], alts := [], laidByText := true, laidKinds := [.data, .data, .data, .data, .pinned], laidTests := true, laidLooks := .later }
def FnBrinesUptoCardSaid : Prop := Claim7.holds Tryd.pinned (.plain (OpenSpec.upto fnBrinesSpec)) fnBrinesUptoCard
end Rows
end Go.Proofs.YtocaodoagiokjaaDoor
