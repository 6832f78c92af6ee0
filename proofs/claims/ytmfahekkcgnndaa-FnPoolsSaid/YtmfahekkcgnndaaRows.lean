/-
  No cell of these rows narrows 'for every input' (looked for: loops, veiled, ifaces, maps, wideKeys, modest, calm, conditions, laid).
  DERIVED. THE GIVEN ROWS OF THIS SEAT. 9 by the template 'for every input the law returns true; each argument reads behind the call as it read before'; 0 by the template 'total and deterministic' (their statements: YtmfahekkcgnndaaTotals.lean).
  GIVEN WITH THE SEED: the statements are not yours to turn. If you find one false, say at which input.
  Laid BY PROGRAM, IN A SANDBOX (cutbox-rows.mjs): the forced cells as the released guide's own fill.sh prints them over the translation a2f1cbbe8a2bb6f8… (all of the seat's roots in one cut). By AI agents, Wed Nov 11 2026. No macro, syntax, notation, axiom, sorry.
-/
import Derived.Test.YtmfahekkcgnndaaChecked
import GoSem.Claim
import GoSem.ClaimJoined
import GoSem.ClaimMapViews
import Derived.JoinedTies
import Derived.KernelRfl
namespace Go.Proofs.Ytmfahekkcgnndaa
/- THE CELL 'sum', in the pinned program and in every row, IS THE sha256 OF THE DUMP (.gsa) THAT YtmfahekkcgnndaaProg.lean LOADS. Nothing in Lean hashes anything: it is a label: what it is worth is what the hold of that sum in a sandbox is worth. -/
noncomputable def Try.pinned : Pinned := { name := "ytmfahekkcgnndaa", sum := "a2f1cbbe8a2bb6f8299d508b08f6c8c6617b01c4ccac5d879f08d4f57021a6ae", checked := Try.checked }
namespace Rows
def none {H : Type} : Left H := { results := [], args := [] }

/-- 'laws.FnExactIsPool': WHATEVER THE INPUT: true; the input reads as it did. -/
def fnExactIsPoolSpec : ChangeSpec := { name := "fnExactIsPool", fn := fun _ => fun
  | [d] => { results := [.lit (.bool true)], args := [d] }
  | _ => none }
def fnExactIsPoolRow : OpenClaim := { program := "ytmfahekkcgnndaa", sum := "a2f1cbbe8a2bb6f8299d508b08f6c8c6617b01c4ccac5d879f08d4f57021a6ae", func := "loop.example/g01019/laws.FnExactIsPool", spec := "fnExactIsPool", apart := false }
def FnExactIsPoolSaid : Prop := fnExactIsPoolRow.holds Try.pinned (OpenSpec.ofChange fnExactIsPoolSpec)

/-- ITS FALSE NEIGHBOUR: 'it returns false'. Refute it at one input. -/
def fnExactIsPoolWrong : ChangeSpec := { name := "fnExactIsPool", fn := fun _ => fun
  | [d] => { results := [.lit (.bool false)], args := [d] }
  | _ => none }
def FnExactIsPoolWrongFalsely : Prop := fnExactIsPoolRow.holds Try.pinned (OpenSpec.ofChange fnExactIsPoolWrong)

/-- 'laws.FnExactSaltIn': WHATEVER THE INPUT: true; the input reads as it did. -/
def fnExactSaltInSpec : ChangeSpec := { name := "fnExactSaltIn", fn := fun _ => fun
  | [d] => { results := [.lit (.bool true)], args := [d] }
  | _ => none }
def fnExactSaltInRow : OpenClaim := { program := "ytmfahekkcgnndaa", sum := "a2f1cbbe8a2bb6f8299d508b08f6c8c6617b01c4ccac5d879f08d4f57021a6ae", func := "loop.example/g01019/laws.FnExactSaltIn", spec := "fnExactSaltIn", apart := false }
def FnExactSaltInSaid : Prop := fnExactSaltInRow.holds Try.pinned (OpenSpec.ofChange fnExactSaltInSpec)

/-- ITS FALSE NEIGHBOUR: 'it returns false'. Refute it at one input. -/
def fnExactSaltInWrong : ChangeSpec := { name := "fnExactSaltIn", fn := fun _ => fun
  | [d] => { results := [.lit (.bool false)], args := [d] }
  | _ => none }
def FnExactSaltInWrongFalsely : Prop := fnExactSaltInRow.holds Try.pinned (OpenSpec.ofChange fnExactSaltInWrong)

/-- 'laws.FnExactSettledBrine': WHATEVER THE INPUT: true; the input reads as it did. -/
def fnExactSettledBrineSpec : ChangeSpec := { name := "fnExactSettledBrine", fn := fun _ => fun
  | [d1, d2] => { results := [.lit (.bool true)], args := [d1, d2] }
  | _ => none }
def fnExactSettledBrineRow : OpenClaim := { program := "ytmfahekkcgnndaa", sum := "a2f1cbbe8a2bb6f8299d508b08f6c8c6617b01c4ccac5d879f08d4f57021a6ae", func := "loop.example/g01019/laws.FnExactSettledBrine", spec := "fnExactSettledBrine", apart := false }
def FnExactSettledBrineSaid : Prop := fnExactSettledBrineRow.holds Try.pinned (OpenSpec.ofChange fnExactSettledBrineSpec)

/-- ITS FALSE NEIGHBOUR: 'it returns false'. Refute it at one input. -/
def fnExactSettledBrineWrong : ChangeSpec := { name := "fnExactSettledBrine", fn := fun _ => fun
  | [d1, d2] => { results := [.lit (.bool false)], args := [d1, d2] }
  | _ => none }
def FnExactSettledBrineWrongFalsely : Prop := fnExactSettledBrineRow.holds Try.pinned (OpenSpec.ofChange fnExactSettledBrineWrong)

/-- 'laws.FnExactRainToMelt': WHATEVER THE INPUT: true; the input reads as it did. -/
def fnExactRainToMeltSpec : ChangeSpec := { name := "fnExactRainToMelt", fn := fun _ => fun
  | [d] => { results := [.lit (.bool true)], args := [d] }
  | _ => none }
def fnExactRainToMeltRow : OpenClaim := { program := "ytmfahekkcgnndaa", sum := "a2f1cbbe8a2bb6f8299d508b08f6c8c6617b01c4ccac5d879f08d4f57021a6ae", func := "loop.example/g01019/laws.FnExactRainToMelt", spec := "fnExactRainToMelt", apart := false }
def FnExactRainToMeltSaid : Prop := fnExactRainToMeltRow.holds Try.pinned (OpenSpec.ofChange fnExactRainToMeltSpec)

/-- ITS FALSE NEIGHBOUR: 'it returns false'. Refute it at one input. -/
def fnExactRainToMeltWrong : ChangeSpec := { name := "fnExactRainToMelt", fn := fun _ => fun
  | [d] => { results := [.lit (.bool false)], args := [d] }
  | _ => none }
def FnExactRainToMeltWrongFalsely : Prop := fnExactRainToMeltRow.holds Try.pinned (OpenSpec.ofChange fnExactRainToMeltWrong)

/-- 'laws.FnExactSunToCrop': WHATEVER THE INPUT: true; the input reads as it did. -/
def fnExactSunToCropSpec : ChangeSpec := { name := "fnExactSunToCrop", fn := fun _ => fun
  | [d] => { results := [.lit (.bool true)], args := [d] }
  | _ => none }
def fnExactSunToCropRow : OpenClaim := { program := "ytmfahekkcgnndaa", sum := "a2f1cbbe8a2bb6f8299d508b08f6c8c6617b01c4ccac5d879f08d4f57021a6ae", func := "loop.example/g01019/laws.FnExactSunToCrop", spec := "fnExactSunToCrop", apart := false }
def FnExactSunToCropSaid : Prop := fnExactSunToCropRow.holds Try.pinned (OpenSpec.ofChange fnExactSunToCropSpec)

/-- ITS FALSE NEIGHBOUR: 'it returns false'. Refute it at one input. -/
def fnExactSunToCropWrong : ChangeSpec := { name := "fnExactSunToCrop", fn := fun _ => fun
  | [d] => { results := [.lit (.bool false)], args := [d] }
  | _ => none }
def FnExactSunToCropWrongFalsely : Prop := fnExactSunToCropRow.holds Try.pinned (OpenSpec.ofChange fnExactSunToCropWrong)

/-- 'laws.FnExactMixBrines': WHATEVER THE INPUT: true; the input reads as it did. -/
def fnExactMixBrinesSpec : ChangeSpec := { name := "fnExactMixBrines", fn := fun _ => fun
  | [d] => { results := [.lit (.bool true)], args := [d] }
  | _ => none }
def fnExactMixBrinesRow : OpenClaim := { program := "ytmfahekkcgnndaa", sum := "a2f1cbbe8a2bb6f8299d508b08f6c8c6617b01c4ccac5d879f08d4f57021a6ae", func := "loop.example/g01019/laws.FnExactMixBrines", spec := "fnExactMixBrines", apart := false }
def FnExactMixBrinesSaid : Prop := fnExactMixBrinesRow.holds Try.pinned (OpenSpec.ofChange fnExactMixBrinesSpec)

/-- ITS FALSE NEIGHBOUR: 'it returns false'. Refute it at one input. -/
def fnExactMixBrinesWrong : ChangeSpec := { name := "fnExactMixBrines", fn := fun _ => fun
  | [d] => { results := [.lit (.bool false)], args := [d] }
  | _ => none }
def FnExactMixBrinesWrongFalsely : Prop := fnExactMixBrinesRow.holds Try.pinned (OpenSpec.ofChange fnExactMixBrinesWrong)

/-- 'laws.FnExactStepPool': WHATEVER THE INPUT: true; the input reads as it did. -/
def fnExactStepPoolSpec : ChangeSpec := { name := "fnExactStepPool", fn := fun _ => fun
  | [d1, d2] => { results := [.lit (.bool true)], args := [d1, d2] }
  | _ => none }
def fnExactStepPoolRow : OpenClaim := { program := "ytmfahekkcgnndaa", sum := "a2f1cbbe8a2bb6f8299d508b08f6c8c6617b01c4ccac5d879f08d4f57021a6ae", func := "loop.example/g01019/laws.FnExactStepPool", spec := "fnExactStepPool", apart := false }
def FnExactStepPoolSaid : Prop := fnExactStepPoolRow.holds Try.pinned (OpenSpec.ofChange fnExactStepPoolSpec)

/-- ITS FALSE NEIGHBOUR: 'it returns false'. Refute it at one input. -/
def fnExactStepPoolWrong : ChangeSpec := { name := "fnExactStepPool", fn := fun _ => fun
  | [d1, d2] => { results := [.lit (.bool false)], args := [d1, d2] }
  | _ => none }
def FnExactStepPoolWrongFalsely : Prop := fnExactStepPoolRow.holds Try.pinned (OpenSpec.ofChange fnExactStepPoolWrong)

/-- 'laws.FnExactRunPool': WHATEVER THE INPUT: true; the input reads as it did. -/
def fnExactRunPoolSpec : ChangeSpec := { name := "fnExactRunPool", fn := fun _ => fun
  | [d1, d2] => { results := [.lit (.bool true)], args := [d1, d2] }
  | _ => none }
def fnExactRunPoolRow : OpenClaim := { program := "ytmfahekkcgnndaa", sum := "a2f1cbbe8a2bb6f8299d508b08f6c8c6617b01c4ccac5d879f08d4f57021a6ae", func := "loop.example/g01019/laws.FnExactRunPool", spec := "fnExactRunPool", apart := false }
def FnExactRunPoolSaid : Prop := fnExactRunPoolRow.holds Try.pinned (OpenSpec.ofChange fnExactRunPoolSpec)

/-- ITS FALSE NEIGHBOUR: 'it returns false'. Refute it at one input. -/
def fnExactRunPoolWrong : ChangeSpec := { name := "fnExactRunPool", fn := fun _ => fun
  | [d1, d2] => { results := [.lit (.bool false)], args := [d1, d2] }
  | _ => none }
def FnExactRunPoolWrongFalsely : Prop := fnExactRunPoolRow.holds Try.pinned (OpenSpec.ofChange fnExactRunPoolWrong)

/-- 'laws.FnPools': WHATEVER THE INPUT: true; the input reads as it did. -/
def fnPoolsSpec : ChangeSpec := { name := "fnPools", fn := fun _ => fun
  | [d] => { results := [.lit (.bool true)], args := [d] }
  | _ => none }
def fnPoolsRow : OpenClaim := { program := "ytmfahekkcgnndaa", sum := "a2f1cbbe8a2bb6f8299d508b08f6c8c6617b01c4ccac5d879f08d4f57021a6ae", func := "loop.example/g01019/laws.FnPools", spec := "fnPools", apart := false }
def FnPoolsSaid : Prop := fnPoolsRow.holds Try.pinned (OpenSpec.ofChange fnPoolsSpec)

/-- ITS FALSE NEIGHBOUR: 'it returns false'. Refute it at one input. -/
def fnPoolsWrong : ChangeSpec := { name := "fnPools", fn := fun _ => fun
  | [d] => { results := [.lit (.bool false)], args := [d] }
  | _ => none }
def FnPoolsWrongFalsely : Prop := fnPoolsRow.holds Try.pinned (OpenSpec.ofChange fnPoolsWrong)

/- THE SECOND FORM. 'bulk': how many values and letters a reading holds, each counted each time it is reached (what is shared counts as often as it is met; a slice's spare places count too). A statement '..UptoSaid' is the law's where the arguments, and the package variables that the reading takes, are together of bulk at most 1048576: NARROWER than '..Said'. Prove '..Said' where nothing that the law and all that it calls make is longer than what came in: it says more and counts as full. Else prove '..UptoSaid'. A law counts once. -/
mutual
def uptoBulk {H : Type} : DataW H → Nat
  | .lit (.string bytes) => bytes.length + 1
  | .lit _ => 1
  | .nil => 1
  | .ptr d => uptoBulk d + 1
  | .slice elems spare => uptoBulkAll elems + uptoBulkAll spare + 1
  | .agg parts => uptoBulkAll parts + 1
  | .iface _ d => uptoBulk d + 1
  | .map entries => uptoBulkEntries entries + 1
  | .held _ => 1
def uptoBulkAll {H : Type} : List (DataW H) → Nat
  | [] => 0
  | d :: r => uptoBulk d + uptoBulkAll r
def uptoBulkEntries {H : Type} : List (Lit × DataW H) → Nat
  | [] => 0
  | x :: r => uptoBulkEntry x + uptoBulkEntries r
def uptoBulkEntry {H : Type} : Lit × DataW H → Nat
  | (.string bytes, d) => bytes.length + uptoBulk d + 1
  | (_, d) => uptoBulk d + 1
 end
def uptoSmall : (H : Type) → List (DataW H) → Bool := fun _ ds => decide (uptoBulkAll ds ≤ 1048576)
def OpenSpec.upto (s : _root_.Go.ChangeSpec) : _root_.Go.OpenSpec := { _root_.Go.OpenSpec.ofChange s with cond := some uptoSmall }

/-- 'laws.FnExactIsPool', WHERE WHAT IT READS IS OF BULK AT MOST 1048576: true; the input reads as it did. -/
def fnExactIsPoolUptoRow : OpenClaim := { program := "ytmfahekkcgnndaa", sum := "a2f1cbbe8a2bb6f8299d508b08f6c8c6617b01c4ccac5d879f08d4f57021a6ae", func := "loop.example/g01019/laws.FnExactIsPool", spec := "fnExactIsPool", apart := false, narrowed := true }
def FnExactIsPoolUptoSaid : Prop := fnExactIsPoolUptoRow.holds Try.pinned (OpenSpec.upto fnExactIsPoolSpec)

/-- 'laws.FnExactSaltIn', WHERE WHAT IT READS IS OF BULK AT MOST 1048576: true; the input reads as it did. -/
def fnExactSaltInUptoRow : OpenClaim := { program := "ytmfahekkcgnndaa", sum := "a2f1cbbe8a2bb6f8299d508b08f6c8c6617b01c4ccac5d879f08d4f57021a6ae", func := "loop.example/g01019/laws.FnExactSaltIn", spec := "fnExactSaltIn", apart := false, narrowed := true }
def FnExactSaltInUptoSaid : Prop := fnExactSaltInUptoRow.holds Try.pinned (OpenSpec.upto fnExactSaltInSpec)

/-- 'laws.FnExactSettledBrine', WHERE WHAT IT READS IS OF BULK AT MOST 1048576: true; the input reads as it did. -/
def fnExactSettledBrineUptoRow : OpenClaim := { program := "ytmfahekkcgnndaa", sum := "a2f1cbbe8a2bb6f8299d508b08f6c8c6617b01c4ccac5d879f08d4f57021a6ae", func := "loop.example/g01019/laws.FnExactSettledBrine", spec := "fnExactSettledBrine", apart := false, narrowed := true }
def FnExactSettledBrineUptoSaid : Prop := fnExactSettledBrineUptoRow.holds Try.pinned (OpenSpec.upto fnExactSettledBrineSpec)

/-- 'laws.FnExactRainToMelt', WHERE WHAT IT READS IS OF BULK AT MOST 1048576: true; the input reads as it did. -/
def fnExactRainToMeltUptoRow : OpenClaim := { program := "ytmfahekkcgnndaa", sum := "a2f1cbbe8a2bb6f8299d508b08f6c8c6617b01c4ccac5d879f08d4f57021a6ae", func := "loop.example/g01019/laws.FnExactRainToMelt", spec := "fnExactRainToMelt", apart := false, narrowed := true }
def FnExactRainToMeltUptoSaid : Prop := fnExactRainToMeltUptoRow.holds Try.pinned (OpenSpec.upto fnExactRainToMeltSpec)

/-- 'laws.FnExactSunToCrop', WHERE WHAT IT READS IS OF BULK AT MOST 1048576: true; the input reads as it did. -/
def fnExactSunToCropUptoRow : OpenClaim := { program := "ytmfahekkcgnndaa", sum := "a2f1cbbe8a2bb6f8299d508b08f6c8c6617b01c4ccac5d879f08d4f57021a6ae", func := "loop.example/g01019/laws.FnExactSunToCrop", spec := "fnExactSunToCrop", apart := false, narrowed := true }
def FnExactSunToCropUptoSaid : Prop := fnExactSunToCropUptoRow.holds Try.pinned (OpenSpec.upto fnExactSunToCropSpec)

/-- 'laws.FnExactMixBrines', WHERE WHAT IT READS IS OF BULK AT MOST 1048576: true; the input reads as it did. -/
def fnExactMixBrinesUptoRow : OpenClaim := { program := "ytmfahekkcgnndaa", sum := "a2f1cbbe8a2bb6f8299d508b08f6c8c6617b01c4ccac5d879f08d4f57021a6ae", func := "loop.example/g01019/laws.FnExactMixBrines", spec := "fnExactMixBrines", apart := false, narrowed := true }
def FnExactMixBrinesUptoSaid : Prop := fnExactMixBrinesUptoRow.holds Try.pinned (OpenSpec.upto fnExactMixBrinesSpec)

/-- 'laws.FnExactStepPool', WHERE WHAT IT READS IS OF BULK AT MOST 1048576: true; the input reads as it did. -/
def fnExactStepPoolUptoRow : OpenClaim := { program := "ytmfahekkcgnndaa", sum := "a2f1cbbe8a2bb6f8299d508b08f6c8c6617b01c4ccac5d879f08d4f57021a6ae", func := "loop.example/g01019/laws.FnExactStepPool", spec := "fnExactStepPool", apart := false, narrowed := true }
def FnExactStepPoolUptoSaid : Prop := fnExactStepPoolUptoRow.holds Try.pinned (OpenSpec.upto fnExactStepPoolSpec)

/-- 'laws.FnExactRunPool', WHERE WHAT IT READS IS OF BULK AT MOST 1048576: true; the input reads as it did. -/
def fnExactRunPoolUptoRow : OpenClaim := { program := "ytmfahekkcgnndaa", sum := "a2f1cbbe8a2bb6f8299d508b08f6c8c6617b01c4ccac5d879f08d4f57021a6ae", func := "loop.example/g01019/laws.FnExactRunPool", spec := "fnExactRunPool", apart := false, narrowed := true }
def FnExactRunPoolUptoSaid : Prop := fnExactRunPoolUptoRow.holds Try.pinned (OpenSpec.upto fnExactRunPoolSpec)

/-- 'laws.FnPools', WHERE WHAT IT READS IS OF BULK AT MOST 1048576: true; the input reads as it did. -/
def fnPoolsUptoRow : OpenClaim := { program := "ytmfahekkcgnndaa", sum := "a2f1cbbe8a2bb6f8299d508b08f6c8c6617b01c4ccac5d879f08d4f57021a6ae", func := "loop.example/g01019/laws.FnPools", spec := "fnPools", apart := false, narrowed := true }
def FnPoolsUptoSaid : Prop := fnPoolsUptoRow.holds Try.pinned (OpenSpec.upto fnPoolsSpec)

end Rows
end Go.Proofs.Ytmfahekkcgnndaa
