/-
  No cell of these rows narrows 'for every input' (looked for: loops, veiled, ifaces, maps, wideKeys, modest, calm, conditions, laid).
  DERIVED. THE GIVEN ROWS OF THIS SEAT. 6 by the template 'for every input the law returns true; each argument reads behind the call as it read before'; 0 by the template 'total and deterministic' (their statements: YtocaodoagiokjaaTotals.lean).
  GIVEN WITH THE SEED: the statements are not yours to turn. If you find one false, say at which input.
  Laid BY PROGRAM, IN A SANDBOX (cutbox-rows.mjs): the forced cells as the released guide's own fill.sh prints them over the translation 61e8408ee3c56f30… (all of the seat's roots in one cut). By AI agents, Wed Nov 11 2026. No macro, syntax, notation, axiom, sorry.
-/
import Derived.Test.YtocaodoagiokjaaChecked
import GoSem.Claim
import GoSem.ClaimJoined
import GoSem.ClaimMapViews
import Derived.JoinedTies
import Derived.KernelRfl
namespace Go.Proofs.Ytocaodoagiokjaa
/- THE CELL 'sum', in the pinned program and in every row, IS THE sha256 OF THE DUMP (.gsa) THAT YtocaodoagiokjaaProg.lean LOADS. Nothing in Lean hashes anything: it is a label: what it is worth is what the hold of that sum in a sandbox is worth. -/
noncomputable def Try.pinned : Pinned := { name := "ytocaodoagiokjaa", sum := "61e8408ee3c56f30bb38551d7b52528fa5a9707e01cdc038e3d5b5ae6a5bf92b", checked := Try.checked }
namespace Rows
def none {H : Type} : Left H := { results := [], args := [] }

/-- 'laws.FnExactSeriesSum': WHATEVER THE INPUT: true; the input reads as it did. -/
def fnExactSeriesSumSpec : ChangeSpec := { name := "fnExactSeriesSum", fn := fun _ => fun
  | [d] => { results := [.lit (.bool true)], args := [d] }
  | _ => none }
def fnExactSeriesSumRow : OpenClaim := { program := "ytocaodoagiokjaa", sum := "61e8408ee3c56f30bb38551d7b52528fa5a9707e01cdc038e3d5b5ae6a5bf92b", func := "loop.example/g01019/laws.FnExactSeriesSum", spec := "fnExactSeriesSum", unfollowed := true, recurses := true, apart := false }
def FnExactSeriesSumSaid : Prop := fnExactSeriesSumRow.holds Try.pinned (OpenSpec.ofChange fnExactSeriesSumSpec)

/-- ITS FALSE NEIGHBOUR: 'it returns false'. Refute it at one input. -/
def fnExactSeriesSumWrong : ChangeSpec := { name := "fnExactSeriesSum", fn := fun _ => fun
  | [d] => { results := [.lit (.bool false)], args := [d] }
  | _ => none }
def FnExactSeriesSumWrongFalsely : Prop := fnExactSeriesSumRow.holds Try.pinned (OpenSpec.ofChange fnExactSeriesSumWrong)

/-- 'laws.FnExactFillFirst': WHATEVER THE INPUT: true; the input reads as it did. -/
def fnExactFillFirstSpec : ChangeSpec := { name := "fnExactFillFirst", fn := fun _ => fun
  | [d1, d2] => { results := [.lit (.bool true)], args := [d1, d2] }
  | _ => none }
def fnExactFillFirstRow : OpenClaim := { program := "ytocaodoagiokjaa", sum := "61e8408ee3c56f30bb38551d7b52528fa5a9707e01cdc038e3d5b5ae6a5bf92b", func := "loop.example/g01019/laws.FnExactFillFirst", spec := "fnExactFillFirst", unfollowed := true, recurses := true, apart := false }
def FnExactFillFirstSaid : Prop := fnExactFillFirstRow.holds Try.pinned (OpenSpec.ofChange fnExactFillFirstSpec)

/-- ITS FALSE NEIGHBOUR: 'it returns false'. Refute it at one input. -/
def fnExactFillFirstWrong : ChangeSpec := { name := "fnExactFillFirst", fn := fun _ => fun
  | [d1, d2] => { results := [.lit (.bool false)], args := [d1, d2] }
  | _ => none }
def FnExactFillFirstWrongFalsely : Prop := fnExactFillFirstRow.holds Try.pinned (OpenSpec.ofChange fnExactFillFirstWrong)

/-- 'laws.FnExactPassesToEmpty': WHATEVER THE INPUT: true; the input reads as it did. -/
def fnExactPassesToEmptySpec : ChangeSpec := { name := "fnExactPassesToEmpty", fn := fun _ => fun
  | [d1, d2] => { results := [.lit (.bool true)], args := [d1, d2] }
  | _ => none }
def fnExactPassesToEmptyRow : OpenClaim := { program := "ytocaodoagiokjaa", sum := "61e8408ee3c56f30bb38551d7b52528fa5a9707e01cdc038e3d5b5ae6a5bf92b", func := "loop.example/g01019/laws.FnExactPassesToEmpty", spec := "fnExactPassesToEmpty", unfollowed := true, recurses := true, apart := false }
def FnExactPassesToEmptySaid : Prop := fnExactPassesToEmptyRow.holds Try.pinned (OpenSpec.ofChange fnExactPassesToEmptySpec)

/-- ITS FALSE NEIGHBOUR: 'it returns false'. Refute it at one input. -/
def fnExactPassesToEmptyWrong : ChangeSpec := { name := "fnExactPassesToEmpty", fn := fun _ => fun
  | [d1, d2] => { results := [.lit (.bool false)], args := [d1, d2] }
  | _ => none }
def FnExactPassesToEmptyWrongFalsely : Prop := fnExactPassesToEmptyRow.holds Try.pinned (OpenSpec.ofChange fnExactPassesToEmptyWrong)

/-- 'laws.FnExactAfterPass': WHATEVER THE INPUT: true; the input reads as it did. -/
def fnExactAfterPassSpec : ChangeSpec := { name := "fnExactAfterPass", fn := fun _ => fun
  | [d1, d2, d3] => { results := [.lit (.bool true)], args := [d1, d2, d3] }
  | _ => none }
def fnExactAfterPassRow : OpenClaim := { program := "ytocaodoagiokjaa", sum := "61e8408ee3c56f30bb38551d7b52528fa5a9707e01cdc038e3d5b5ae6a5bf92b", func := "loop.example/g01019/laws.FnExactAfterPass", spec := "fnExactAfterPass", unfollowed := true, recurses := true, apart := false }
def FnExactAfterPassSaid : Prop := fnExactAfterPassRow.holds Try.pinned (OpenSpec.ofChange fnExactAfterPassSpec)

/-- ITS FALSE NEIGHBOUR: 'it returns false'. Refute it at one input. -/
def fnExactAfterPassWrong : ChangeSpec := { name := "fnExactAfterPass", fn := fun _ => fun
  | [d1, d2, d3] => { results := [.lit (.bool false)], args := [d1, d2, d3] }
  | _ => none }
def FnExactAfterPassWrongFalsely : Prop := fnExactAfterPassRow.holds Try.pinned (OpenSpec.ofChange fnExactAfterPassWrong)

/-- 'laws.FnExactAfterPasses': WHATEVER THE INPUT: true; the input reads as it did. -/
def fnExactAfterPassesSpec : ChangeSpec := { name := "fnExactAfterPasses", fn := fun _ => fun
  | [d1, d2, d3, d4] => { results := [.lit (.bool true)], args := [d1, d2, d3, d4] }
  | _ => none }
def fnExactAfterPassesRow : OpenClaim := { program := "ytocaodoagiokjaa", sum := "61e8408ee3c56f30bb38551d7b52528fa5a9707e01cdc038e3d5b5ae6a5bf92b", func := "loop.example/g01019/laws.FnExactAfterPasses", spec := "fnExactAfterPasses", unfollowed := true, recurses := true, apart := false }
def FnExactAfterPassesSaid : Prop := fnExactAfterPassesRow.holds Try.pinned (OpenSpec.ofChange fnExactAfterPassesSpec)

/-- ITS FALSE NEIGHBOUR: 'it returns false'. Refute it at one input. -/
def fnExactAfterPassesWrong : ChangeSpec := { name := "fnExactAfterPasses", fn := fun _ => fun
  | [d1, d2, d3, d4] => { results := [.lit (.bool false)], args := [d1, d2, d3, d4] }
  | _ => none }
def FnExactAfterPassesWrongFalsely : Prop := fnExactAfterPassesRow.holds Try.pinned (OpenSpec.ofChange fnExactAfterPassesWrong)

/-- 'laws.FnSeries': WHATEVER THE INPUT: true; the input reads as it did. -/
def fnSeriesSpec : ChangeSpec := { name := "fnSeries", fn := fun _ => fun
  | [d] => { results := [.lit (.bool true)], args := [d] }
  | _ => none }
def fnSeriesRow : OpenClaim := { program := "ytocaodoagiokjaa", sum := "61e8408ee3c56f30bb38551d7b52528fa5a9707e01cdc038e3d5b5ae6a5bf92b", func := "loop.example/g01019/laws.FnSeries", spec := "fnSeries", unfollowed := true, recurses := true, apart := false }
def FnSeriesSaid : Prop := fnSeriesRow.holds Try.pinned (OpenSpec.ofChange fnSeriesSpec)

/-- ITS FALSE NEIGHBOUR: 'it returns false'. Refute it at one input. -/
def fnSeriesWrong : ChangeSpec := { name := "fnSeries", fn := fun _ => fun
  | [d] => { results := [.lit (.bool false)], args := [d] }
  | _ => none }
def FnSeriesWrongFalsely : Prop := fnSeriesRow.holds Try.pinned (OpenSpec.ofChange fnSeriesWrong)

/- THE SECOND FORM. 'bulk': how many values and letters a reading holds, each counted each time it is reached (what is shared counts as often as it is met; a slice's spare places count too). A statement '..UptoSaid' is the law's where the arguments, and the package variables that the reading takes, are together of bulk at most 1048576: NARROWER than '..Said'. Prove '..Said' where nothing that the law and all that it calls make is longer than what came in: it says more and counts as full. Else prove '..UptoSaid'. A law counts once. -/
mutual
def uptoBulk {H : Type} : DataW H → Nat
  | .lit (.string bytes) => bytes.length + 1
  | .lit _ => 1
  | .nil => 1
  | .ptr d => uptoBulk d + 1
  | .slice elems spare => uptoBulkAll elems + uptoBulkAll spare + 1
  | .agg parts => uptoBulkAll parts + 1
  | .iface _ d => uptoBulk d + 1
  | .map entries => uptoBulkEntries entries + 1
  | .held _ => 1
def uptoBulkAll {H : Type} : List (DataW H) → Nat
  | [] => 0
  | d :: r => uptoBulk d + uptoBulkAll r
def uptoBulkEntries {H : Type} : List (Lit × DataW H) → Nat
  | [] => 0
  | x :: r => uptoBulkEntry x + uptoBulkEntries r
def uptoBulkEntry {H : Type} : Lit × DataW H → Nat
  | (.string bytes, d) => bytes.length + uptoBulk d + 1
  | (_, d) => uptoBulk d + 1
 end
def uptoSmall : (H : Type) → List (DataW H) → Bool := fun _ ds => decide (uptoBulkAll ds ≤ 1048576)
def OpenSpec.upto (s : _root_.Go.ChangeSpec) : _root_.Go.OpenSpec := { _root_.Go.OpenSpec.ofChange s with cond := some uptoSmall }

/-- 'laws.FnExactSeriesSum', WHERE WHAT IT READS IS OF BULK AT MOST 1048576: true; the input reads as it did. -/
def fnExactSeriesSumUptoRow : OpenClaim := { program := "ytocaodoagiokjaa", sum := "61e8408ee3c56f30bb38551d7b52528fa5a9707e01cdc038e3d5b5ae6a5bf92b", func := "loop.example/g01019/laws.FnExactSeriesSum", spec := "fnExactSeriesSum", unfollowed := true, recurses := true, apart := false, narrowed := true }
def FnExactSeriesSumUptoSaid : Prop := fnExactSeriesSumUptoRow.holds Try.pinned (OpenSpec.upto fnExactSeriesSumSpec)

/-- 'laws.FnExactFillFirst', WHERE WHAT IT READS IS OF BULK AT MOST 1048576: true; the input reads as it did. -/
def fnExactFillFirstUptoRow : OpenClaim := { program := "ytocaodoagiokjaa", sum := "61e8408ee3c56f30bb38551d7b52528fa5a9707e01cdc038e3d5b5ae6a5bf92b", func := "loop.example/g01019/laws.FnExactFillFirst", spec := "fnExactFillFirst", unfollowed := true, recurses := true, apart := false, narrowed := true }
def FnExactFillFirstUptoSaid : Prop := fnExactFillFirstUptoRow.holds Try.pinned (OpenSpec.upto fnExactFillFirstSpec)

/-- 'laws.FnExactPassesToEmpty', WHERE WHAT IT READS IS OF BULK AT MOST 1048576: true; the input reads as it did. -/
def fnExactPassesToEmptyUptoRow : OpenClaim := { program := "ytocaodoagiokjaa", sum := "61e8408ee3c56f30bb38551d7b52528fa5a9707e01cdc038e3d5b5ae6a5bf92b", func := "loop.example/g01019/laws.FnExactPassesToEmpty", spec := "fnExactPassesToEmpty", unfollowed := true, recurses := true, apart := false, narrowed := true }
def FnExactPassesToEmptyUptoSaid : Prop := fnExactPassesToEmptyUptoRow.holds Try.pinned (OpenSpec.upto fnExactPassesToEmptySpec)

/-- 'laws.FnExactAfterPass', WHERE WHAT IT READS IS OF BULK AT MOST 1048576: true; the input reads as it did. -/
def fnExactAfterPassUptoRow : OpenClaim := { program := "ytocaodoagiokjaa", sum := "61e8408ee3c56f30bb38551d7b52528fa5a9707e01cdc038e3d5b5ae6a5bf92b", func := "loop.example/g01019/laws.FnExactAfterPass", spec := "fnExactAfterPass", unfollowed := true, recurses := true, apart := false, narrowed := true }
def FnExactAfterPassUptoSaid : Prop := fnExactAfterPassUptoRow.holds Try.pinned (OpenSpec.upto fnExactAfterPassSpec)

/-- 'laws.FnExactAfterPasses', WHERE WHAT IT READS IS OF BULK AT MOST 1048576: true; the input reads as it did. -/
def fnExactAfterPassesUptoRow : OpenClaim := { program := "ytocaodoagiokjaa", sum := "61e8408ee3c56f30bb38551d7b52528fa5a9707e01cdc038e3d5b5ae6a5bf92b", func := "loop.example/g01019/laws.FnExactAfterPasses", spec := "fnExactAfterPasses", unfollowed := true, recurses := true, apart := false, narrowed := true }
def FnExactAfterPassesUptoSaid : Prop := fnExactAfterPassesUptoRow.holds Try.pinned (OpenSpec.upto fnExactAfterPassesSpec)

/-- 'laws.FnSeries', WHERE WHAT IT READS IS OF BULK AT MOST 1048576: true; the input reads as it did. -/
def fnSeriesUptoRow : OpenClaim := { program := "ytocaodoagiokjaa", sum := "61e8408ee3c56f30bb38551d7b52528fa5a9707e01cdc038e3d5b5ae6a5bf92b", func := "loop.example/g01019/laws.FnSeries", spec := "fnSeries", unfollowed := true, recurses := true, apart := false, narrowed := true }
def FnSeriesUptoSaid : Prop := fnSeriesUptoRow.holds Try.pinned (OpenSpec.upto fnSeriesSpec)

end Rows
end Go.Proofs.Ytocaodoagiokjaa
