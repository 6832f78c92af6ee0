/-
  DERIVED. GIVEN WITH THE SEED: THE CARDS: each row of YtakjfkbfibcbcaaDoorRows.lean that lists a variable, with what it lists TIED to the program's text (the seventh form; the later family's looks); each row that meets fmt, with fmt's text TOLD by the authors' own Lean function (tested against real Go, not proved from fmt's source: count such statements apart). THE CARD IS WHAT COUNTS. Prove the row's statement (the work); the ties are given (YtakjfkbfibcbcaaDoorTie.lean); close each card by the builder's one call (the guide's Derived/Test/ToyasCard.lean, 'card_holds'). Laid BY PROGRAM, IN A SANDBOX (cutbox-door.mjs). By AI agents, Wed Nov 11 2026. No macro, syntax, notation, axiom, sorry.
-/
import Derived.Test.YtakjfkbfibcbcaaDoorRows
import GoSem.ClaimSeven
namespace Go.Proofs.YtakjfkbfibcbcaaDoor
namespace Rows

/-- THE TIED CARD OF 'laws.FnExactBreakText'. -/
def fnExactBreakTextCard : Claim7 := { stood := { row := fnExactBreakTextRow, standIns := [], harness := (true, "62921347c7684a7893013511cee4b7a9493ebf3a01327ca68b47c51e9b491935"), looks := false }, kinds := [], alts := [], laidByText := true, laidKinds := [.data, .data, .data], laidTests := true, laidLooks := .later }
def FnExactBreakTextCardSaid : Prop := Claim7.holds Tryd.pinned (.plain (OpenSpec.ofChange fnExactBreakTextSpec)) fnExactBreakTextCard

/-- THE TIED CARD OF 'laws.FnBanks'. -/
def fnBanksCard : Claim7 := { stood := { row := fnBanksRow, standIns := [], harness := (true, "62921347c7684a7893013511cee4b7a9493ebf3a01327ca68b47c51e9b491935"), looks := false }, kinds := [], alts := [], laidByText := true, laidKinds := [.data, .data, .data], laidTests := true, laidLooks := .later }
def FnBanksCardSaid : Prop := Claim7.holds Tryd.pinned (.plain (OpenSpec.ofChange fnBanksSpec)) fnBanksCard

/-- THE SECOND FORM's CARD OF 'laws.FnExactBreakText'. -/
def fnExactBreakTextUptoCard : Claim7 := { stood := { row := fnExactBreakTextUptoRow, standIns := [], harness := (true, "62921347c7684a7893013511cee4b7a9493ebf3a01327ca68b47c51e9b491935"), looks := false }, kinds := [], alts := [], laidByText := true, laidKinds := [.data, .data, .data], laidTests := true, laidLooks := .later }
def FnExactBreakTextUptoCardSaid : Prop := Claim7.holds Tryd.pinned (.plain (OpenSpec.upto fnExactBreakTextSpec)) fnExactBreakTextUptoCard

/-- THE SECOND FORM's CARD OF 'laws.FnBanks'. -/
def fnBanksUptoCard : Claim7 := { stood := { row := fnBanksUptoRow, standIns := [], harness := (true, "62921347c7684a7893013511cee4b7a9493ebf3a01327ca68b47c51e9b491935"), looks := false }, kinds := [], alts := [], laidByText := true, laidKinds := [.data, .data, .data], laidTests := true, laidLooks := .later }
def FnBanksUptoCardSaid : Prop := Claim7.holds Tryd.pinned (.plain (OpenSpec.upto fnBanksSpec)) fnBanksUptoCard
end Rows
end Go.Proofs.YtakjfkbfibcbcaaDoor
