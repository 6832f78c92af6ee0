/-
  No cell of these rows narrows 'for every input' (looked for: loops, veiled, ifaces, maps, wideKeys, modest, calm, conditions, laid).
  DERIVED. THE GIVEN ROWS OF THIS SEAT. 10 by the template 'for every input the law returns true; each argument reads behind the call as it read before'; 0 by the template 'total and deterministic' (their statements: YtkhldmicejdggaaTotals.lean).
  GIVEN WITH THE SEED: the statements are not yours to turn. If you find one false, say at which input.
  Laid BY PROGRAM, IN A SANDBOX (cutbox-rows.mjs): the forced cells as the released guide's own fill.sh prints them over the translation f4d2439cce2883ba… (all of the seat's roots in one cut). By AI agents, Wed Nov 11 2026. No macro, syntax, notation, axiom, sorry.
-/
import Derived.Test.YtkhldmicejdggaaChecked
import GoSem.Claim
import GoSem.ClaimJoined
import GoSem.ClaimMapViews
import Derived.JoinedTies
import Derived.KernelRfl
namespace Go.Proofs.Ytkhldmicejdggaa
/- THE CELL 'sum', in the pinned program and in every row, IS THE sha256 OF THE DUMP (.gsa) THAT YtkhldmicejdggaaProg.lean LOADS. Nothing in Lean hashes anything: it is a label: what it is worth is what the hold of that sum in a sandbox is worth. -/
noncomputable def Try.pinned : Pinned := { name := "ytkhldmicejdggaa", sum := "f4d2439cce2883bae2e5f9baf65c600626b575a3d2a7fc37d30a9a946fe7e144", checked := Try.checked }
namespace Rows
def none {H : Type} : Left H := { results := [], args := [] }

/-- 'laws.FnExactStockOn': WHATEVER THE INPUT: true; the input reads as it did. -/
def fnExactStockOnSpec : ChangeSpec := { name := "fnExactStockOn", fn := fun _ => fun
  | [d1, d2, d3] => { results := [.lit (.bool true)], args := [d1, d2, d3] }
  | _ => none }
def fnExactStockOnRow : OpenClaim := { program := "ytkhldmicejdggaa", sum := "f4d2439cce2883bae2e5f9baf65c600626b575a3d2a7fc37d30a9a946fe7e144", func := "loop.example/g01019/laws.FnExactStockOn", spec := "fnExactStockOn", apart := false }
def FnExactStockOnSaid : Prop := fnExactStockOnRow.holds Try.pinned (OpenSpec.ofChange fnExactStockOnSpec)

/-- ITS FALSE NEIGHBOUR: 'it returns false'. Refute it at one input. -/
def fnExactStockOnWrong : ChangeSpec := { name := "fnExactStockOn", fn := fun _ => fun
  | [d1, d2, d3] => { results := [.lit (.bool false)], args := [d1, d2, d3] }
  | _ => none }
def FnExactStockOnWrongFalsely : Prop := fnExactStockOnRow.holds Try.pinned (OpenSpec.ofChange fnExactStockOnWrong)

/-- 'laws.FnExactUnexplained': WHATEVER THE INPUT: true; the input reads as it did. -/
def fnExactUnexplainedSpec : ChangeSpec := { name := "fnExactUnexplained", fn := fun _ => fun
  | [d1, d2, d3, d4] => { results := [.lit (.bool true)], args := [d1, d2, d3, d4] }
  | _ => none }
def fnExactUnexplainedRow : OpenClaim := { program := "ytkhldmicejdggaa", sum := "f4d2439cce2883bae2e5f9baf65c600626b575a3d2a7fc37d30a9a946fe7e144", func := "loop.example/g01019/laws.FnExactUnexplained", spec := "fnExactUnexplained", apart := false }
def FnExactUnexplainedSaid : Prop := fnExactUnexplainedRow.holds Try.pinned (OpenSpec.ofChange fnExactUnexplainedSpec)

/-- ITS FALSE NEIGHBOUR: 'it returns false'. Refute it at one input. -/
def fnExactUnexplainedWrong : ChangeSpec := { name := "fnExactUnexplained", fn := fun _ => fun
  | [d1, d2, d3, d4] => { results := [.lit (.bool false)], args := [d1, d2, d3, d4] }
  | _ => none }
def FnExactUnexplainedWrongFalsely : Prop := fnExactUnexplainedRow.holds Try.pinned (OpenSpec.ofChange fnExactUnexplainedWrong)

/-- 'laws.FnExactLowestStock': WHATEVER THE INPUT: true; the input reads as it did. -/
def fnExactLowestStockSpec : ChangeSpec := { name := "fnExactLowestStock", fn := fun _ => fun
  | [d1, d2] => { results := [.lit (.bool true)], args := [d1, d2] }
  | _ => none }
def fnExactLowestStockRow : OpenClaim := { program := "ytkhldmicejdggaa", sum := "f4d2439cce2883bae2e5f9baf65c600626b575a3d2a7fc37d30a9a946fe7e144", func := "loop.example/g01019/laws.FnExactLowestStock", spec := "fnExactLowestStock", apart := false }
def FnExactLowestStockSaid : Prop := fnExactLowestStockRow.holds Try.pinned (OpenSpec.ofChange fnExactLowestStockSpec)

/-- ITS FALSE NEIGHBOUR: 'it returns false'. Refute it at one input. -/
def fnExactLowestStockWrong : ChangeSpec := { name := "fnExactLowestStock", fn := fun _ => fun
  | [d1, d2] => { results := [.lit (.bool false)], args := [d1, d2] }
  | _ => none }
def FnExactLowestStockWrongFalsely : Prop := fnExactLowestStockRow.holds Try.pinned (OpenSpec.ofChange fnExactLowestStockWrong)

/-- 'laws.FnExactFirstShort': WHATEVER THE INPUT: true; the input reads as it did. -/
def fnExactFirstShortSpec : ChangeSpec := { name := "fnExactFirstShort", fn := fun _ => fun
  | [d1, d2] => { results := [.lit (.bool true)], args := [d1, d2] }
  | _ => none }
def fnExactFirstShortRow : OpenClaim := { program := "ytkhldmicejdggaa", sum := "f4d2439cce2883bae2e5f9baf65c600626b575a3d2a7fc37d30a9a946fe7e144", func := "loop.example/g01019/laws.FnExactFirstShort", spec := "fnExactFirstShort", apart := false }
def FnExactFirstShortSaid : Prop := fnExactFirstShortRow.holds Try.pinned (OpenSpec.ofChange fnExactFirstShortSpec)

/-- ITS FALSE NEIGHBOUR: 'it returns false'. Refute it at one input. -/
def fnExactFirstShortWrong : ChangeSpec := { name := "fnExactFirstShort", fn := fun _ => fun
  | [d1, d2] => { results := [.lit (.bool false)], args := [d1, d2] }
  | _ => none }
def FnExactFirstShortWrongFalsely : Prop := fnExactFirstShortRow.holds Try.pinned (OpenSpec.ofChange fnExactFirstShortWrong)

/-- 'laws.FnExactStartNeeded': WHATEVER THE INPUT: true; the input reads as it did. -/
def fnExactStartNeededSpec : ChangeSpec := { name := "fnExactStartNeeded", fn := fun _ => fun
  | [d] => { results := [.lit (.bool true)], args := [d] }
  | _ => none }
def fnExactStartNeededRow : OpenClaim := { program := "ytkhldmicejdggaa", sum := "f4d2439cce2883bae2e5f9baf65c600626b575a3d2a7fc37d30a9a946fe7e144", func := "loop.example/g01019/laws.FnExactStartNeeded", spec := "fnExactStartNeeded", apart := false }
def FnExactStartNeededSaid : Prop := fnExactStartNeededRow.holds Try.pinned (OpenSpec.ofChange fnExactStartNeededSpec)

/-- ITS FALSE NEIGHBOUR: 'it returns false'. Refute it at one input. -/
def fnExactStartNeededWrong : ChangeSpec := { name := "fnExactStartNeeded", fn := fun _ => fun
  | [d] => { results := [.lit (.bool false)], args := [d] }
  | _ => none }
def FnExactStartNeededWrongFalsely : Prop := fnExactStartNeededRow.holds Try.pinned (OpenSpec.ofChange fnExactStartNeededWrong)

/-- 'laws.FnExactAreSound': WHATEVER THE INPUT: true; the input reads as it did. -/
def fnExactAreSoundSpec : ChangeSpec := { name := "fnExactAreSound", fn := fun _ => fun
  | [d1, d2] => { results := [.lit (.bool true)], args := [d1, d2] }
  | _ => none }
def fnExactAreSoundRow : OpenClaim := { program := "ytkhldmicejdggaa", sum := "f4d2439cce2883bae2e5f9baf65c600626b575a3d2a7fc37d30a9a946fe7e144", func := "loop.example/g01019/laws.FnExactAreSound", spec := "fnExactAreSound", apart := false }
def FnExactAreSoundSaid : Prop := fnExactAreSoundRow.holds Try.pinned (OpenSpec.ofChange fnExactAreSoundSpec)

/-- ITS FALSE NEIGHBOUR: 'it returns false'. Refute it at one input. -/
def fnExactAreSoundWrong : ChangeSpec := { name := "fnExactAreSound", fn := fun _ => fun
  | [d1, d2] => { results := [.lit (.bool false)], args := [d1, d2] }
  | _ => none }
def FnExactAreSoundWrongFalsely : Prop := fnExactAreSoundRow.holds Try.pinned (OpenSpec.ofChange fnExactAreSoundWrong)

/-- 'laws.FnExactDropBooking': WHATEVER THE INPUT: true; the input reads as it did. -/
def fnExactDropBookingSpec : ChangeSpec := { name := "fnExactDropBooking", fn := fun _ => fun
  | [d1, d2] => { results := [.lit (.bool true)], args := [d1, d2] }
  | _ => none }
def fnExactDropBookingRow : OpenClaim := { program := "ytkhldmicejdggaa", sum := "f4d2439cce2883bae2e5f9baf65c600626b575a3d2a7fc37d30a9a946fe7e144", func := "loop.example/g01019/laws.FnExactDropBooking", spec := "fnExactDropBooking", apart := false }
def FnExactDropBookingSaid : Prop := fnExactDropBookingRow.holds Try.pinned (OpenSpec.ofChange fnExactDropBookingSpec)

/-- ITS FALSE NEIGHBOUR: 'it returns false'. Refute it at one input. -/
def fnExactDropBookingWrong : ChangeSpec := { name := "fnExactDropBooking", fn := fun _ => fun
  | [d1, d2] => { results := [.lit (.bool false)], args := [d1, d2] }
  | _ => none }
def FnExactDropBookingWrongFalsely : Prop := fnExactDropBookingRow.holds Try.pinned (OpenSpec.ofChange fnExactDropBookingWrong)

/-- 'laws.FnExactPutBooking': WHATEVER THE INPUT: true; the input reads as it did. -/
def fnExactPutBookingSpec : ChangeSpec := { name := "fnExactPutBooking", fn := fun _ => fun
  | [d1, d2] => { results := [.lit (.bool true)], args := [d1, d2] }
  | _ => none }
def fnExactPutBookingRow : OpenClaim := { program := "ytkhldmicejdggaa", sum := "f4d2439cce2883bae2e5f9baf65c600626b575a3d2a7fc37d30a9a946fe7e144", func := "loop.example/g01019/laws.FnExactPutBooking", spec := "fnExactPutBooking", inPlace := ["slices.overlaps[loop.example/g01019/impl.Booking]"], apart := false }
def FnExactPutBookingSaid : Prop := fnExactPutBookingRow.holds Try.pinned (OpenSpec.ofChange fnExactPutBookingSpec)

/-- ITS FALSE NEIGHBOUR: 'it returns false'. Refute it at one input. -/
def fnExactPutBookingWrong : ChangeSpec := { name := "fnExactPutBooking", fn := fun _ => fun
  | [d1, d2] => { results := [.lit (.bool false)], args := [d1, d2] }
  | _ => none }
def FnExactPutBookingWrongFalsely : Prop := fnExactPutBookingRow.holds Try.pinned (OpenSpec.ofChange fnExactPutBookingWrong)

/-- 'laws.FnBalances': WHATEVER THE INPUT: true; the input reads as it did. -/
def fnBalancesSpec : ChangeSpec := { name := "fnBalances", fn := fun _ => fun
  | [d] => { results := [.lit (.bool true)], args := [d] }
  | _ => none }
def fnBalancesRow : OpenClaim := { program := "ytkhldmicejdggaa", sum := "f4d2439cce2883bae2e5f9baf65c600626b575a3d2a7fc37d30a9a946fe7e144", func := "loop.example/g01019/laws.FnBalances", spec := "fnBalances", apart := false }
def FnBalancesSaid : Prop := fnBalancesRow.holds Try.pinned (OpenSpec.ofChange fnBalancesSpec)

/-- ITS FALSE NEIGHBOUR: 'it returns false'. Refute it at one input. -/
def fnBalancesWrong : ChangeSpec := { name := "fnBalances", fn := fun _ => fun
  | [d] => { results := [.lit (.bool false)], args := [d] }
  | _ => none }
def FnBalancesWrongFalsely : Prop := fnBalancesRow.holds Try.pinned (OpenSpec.ofChange fnBalancesWrong)

/-- 'laws.FnBookings': WHATEVER THE INPUT: true; the input reads as it did. -/
def fnBookingsSpec : ChangeSpec := { name := "fnBookings", fn := fun _ => fun
  | [d] => { results := [.lit (.bool true)], args := [d] }
  | _ => none }
def fnBookingsRow : OpenClaim := { program := "ytkhldmicejdggaa", sum := "f4d2439cce2883bae2e5f9baf65c600626b575a3d2a7fc37d30a9a946fe7e144", func := "loop.example/g01019/laws.FnBookings", spec := "fnBookings", inPlace := ["slices.overlaps[loop.example/g01019/impl.Booking]"], apart := false }
def FnBookingsSaid : Prop := fnBookingsRow.holds Try.pinned (OpenSpec.ofChange fnBookingsSpec)

/-- ITS FALSE NEIGHBOUR: 'it returns false'. Refute it at one input. -/
def fnBookingsWrong : ChangeSpec := { name := "fnBookings", fn := fun _ => fun
  | [d] => { results := [.lit (.bool false)], args := [d] }
  | _ => none }
def FnBookingsWrongFalsely : Prop := fnBookingsRow.holds Try.pinned (OpenSpec.ofChange fnBookingsWrong)

/- THE SECOND FORM. 'bulk': how many values and letters a reading holds, each counted each time it is reached (what is shared counts as often as it is met; a slice's spare places count too). A statement '..UptoSaid' is the law's where the arguments, and the package variables that the reading takes, are together of bulk at most 1048576: NARROWER than '..Said'. Prove '..Said' where nothing that the law and all that it calls make is longer than what came in: it says more and counts as full. Else prove '..UptoSaid'. A law counts once. -/
mutual
def uptoBulk {H : Type} : DataW H → Nat
  | .lit (.string bytes) => bytes.length + 1
  | .lit _ => 1
  | .nil => 1
  | .ptr d => uptoBulk d + 1
  | .slice elems spare => uptoBulkAll elems + uptoBulkAll spare + 1
  | .agg parts => uptoBulkAll parts + 1
  | .iface _ d => uptoBulk d + 1
  | .map entries => uptoBulkEntries entries + 1
  | .held _ => 1
def uptoBulkAll {H : Type} : List (DataW H) → Nat
  | [] => 0
  | d :: r => uptoBulk d + uptoBulkAll r
def uptoBulkEntries {H : Type} : List (Lit × DataW H) → Nat
  | [] => 0
  | x :: r => uptoBulkEntry x + uptoBulkEntries r
def uptoBulkEntry {H : Type} : Lit × DataW H → Nat
  | (.string bytes, d) => bytes.length + uptoBulk d + 1
  | (_, d) => uptoBulk d + 1
 end
def uptoSmall : (H : Type) → List (DataW H) → Bool := fun _ ds => decide (uptoBulkAll ds ≤ 1048576)
def OpenSpec.upto (s : _root_.Go.ChangeSpec) : _root_.Go.OpenSpec := { _root_.Go.OpenSpec.ofChange s with cond := some uptoSmall }

/-- 'laws.FnExactStockOn', WHERE WHAT IT READS IS OF BULK AT MOST 1048576: true; the input reads as it did. -/
def fnExactStockOnUptoRow : OpenClaim := { program := "ytkhldmicejdggaa", sum := "f4d2439cce2883bae2e5f9baf65c600626b575a3d2a7fc37d30a9a946fe7e144", func := "loop.example/g01019/laws.FnExactStockOn", spec := "fnExactStockOn", apart := false, narrowed := true }
def FnExactStockOnUptoSaid : Prop := fnExactStockOnUptoRow.holds Try.pinned (OpenSpec.upto fnExactStockOnSpec)

/-- 'laws.FnExactUnexplained', WHERE WHAT IT READS IS OF BULK AT MOST 1048576: true; the input reads as it did. -/
def fnExactUnexplainedUptoRow : OpenClaim := { program := "ytkhldmicejdggaa", sum := "f4d2439cce2883bae2e5f9baf65c600626b575a3d2a7fc37d30a9a946fe7e144", func := "loop.example/g01019/laws.FnExactUnexplained", spec := "fnExactUnexplained", apart := false, narrowed := true }
def FnExactUnexplainedUptoSaid : Prop := fnExactUnexplainedUptoRow.holds Try.pinned (OpenSpec.upto fnExactUnexplainedSpec)

/-- 'laws.FnExactLowestStock', WHERE WHAT IT READS IS OF BULK AT MOST 1048576: true; the input reads as it did. -/
def fnExactLowestStockUptoRow : OpenClaim := { program := "ytkhldmicejdggaa", sum := "f4d2439cce2883bae2e5f9baf65c600626b575a3d2a7fc37d30a9a946fe7e144", func := "loop.example/g01019/laws.FnExactLowestStock", spec := "fnExactLowestStock", apart := false, narrowed := true }
def FnExactLowestStockUptoSaid : Prop := fnExactLowestStockUptoRow.holds Try.pinned (OpenSpec.upto fnExactLowestStockSpec)

/-- 'laws.FnExactFirstShort', WHERE WHAT IT READS IS OF BULK AT MOST 1048576: true; the input reads as it did. -/
def fnExactFirstShortUptoRow : OpenClaim := { program := "ytkhldmicejdggaa", sum := "f4d2439cce2883bae2e5f9baf65c600626b575a3d2a7fc37d30a9a946fe7e144", func := "loop.example/g01019/laws.FnExactFirstShort", spec := "fnExactFirstShort", apart := false, narrowed := true }
def FnExactFirstShortUptoSaid : Prop := fnExactFirstShortUptoRow.holds Try.pinned (OpenSpec.upto fnExactFirstShortSpec)

/-- 'laws.FnExactStartNeeded', WHERE WHAT IT READS IS OF BULK AT MOST 1048576: true; the input reads as it did. -/
def fnExactStartNeededUptoRow : OpenClaim := { program := "ytkhldmicejdggaa", sum := "f4d2439cce2883bae2e5f9baf65c600626b575a3d2a7fc37d30a9a946fe7e144", func := "loop.example/g01019/laws.FnExactStartNeeded", spec := "fnExactStartNeeded", apart := false, narrowed := true }
def FnExactStartNeededUptoSaid : Prop := fnExactStartNeededUptoRow.holds Try.pinned (OpenSpec.upto fnExactStartNeededSpec)

/-- 'laws.FnExactAreSound', WHERE WHAT IT READS IS OF BULK AT MOST 1048576: true; the input reads as it did. -/
def fnExactAreSoundUptoRow : OpenClaim := { program := "ytkhldmicejdggaa", sum := "f4d2439cce2883bae2e5f9baf65c600626b575a3d2a7fc37d30a9a946fe7e144", func := "loop.example/g01019/laws.FnExactAreSound", spec := "fnExactAreSound", apart := false, narrowed := true }
def FnExactAreSoundUptoSaid : Prop := fnExactAreSoundUptoRow.holds Try.pinned (OpenSpec.upto fnExactAreSoundSpec)

/-- 'laws.FnExactDropBooking', WHERE WHAT IT READS IS OF BULK AT MOST 1048576: true; the input reads as it did. -/
def fnExactDropBookingUptoRow : OpenClaim := { program := "ytkhldmicejdggaa", sum := "f4d2439cce2883bae2e5f9baf65c600626b575a3d2a7fc37d30a9a946fe7e144", func := "loop.example/g01019/laws.FnExactDropBooking", spec := "fnExactDropBooking", apart := false, narrowed := true }
def FnExactDropBookingUptoSaid : Prop := fnExactDropBookingUptoRow.holds Try.pinned (OpenSpec.upto fnExactDropBookingSpec)

/-- 'laws.FnExactPutBooking', WHERE WHAT IT READS IS OF BULK AT MOST 1048576: true; the input reads as it did. -/
def fnExactPutBookingUptoRow : OpenClaim := { program := "ytkhldmicejdggaa", sum := "f4d2439cce2883bae2e5f9baf65c600626b575a3d2a7fc37d30a9a946fe7e144", func := "loop.example/g01019/laws.FnExactPutBooking", spec := "fnExactPutBooking", inPlace := ["slices.overlaps[loop.example/g01019/impl.Booking]"], apart := false, narrowed := true }
def FnExactPutBookingUptoSaid : Prop := fnExactPutBookingUptoRow.holds Try.pinned (OpenSpec.upto fnExactPutBookingSpec)

/-- 'laws.FnBalances', WHERE WHAT IT READS IS OF BULK AT MOST 1048576: true; the input reads as it did. -/
def fnBalancesUptoRow : OpenClaim := { program := "ytkhldmicejdggaa", sum := "f4d2439cce2883bae2e5f9baf65c600626b575a3d2a7fc37d30a9a946fe7e144", func := "loop.example/g01019/laws.FnBalances", spec := "fnBalances", apart := false, narrowed := true }
def FnBalancesUptoSaid : Prop := fnBalancesUptoRow.holds Try.pinned (OpenSpec.upto fnBalancesSpec)

/-- 'laws.FnBookings', WHERE WHAT IT READS IS OF BULK AT MOST 1048576: true; the input reads as it did. -/
def fnBookingsUptoRow : OpenClaim := { program := "ytkhldmicejdggaa", sum := "f4d2439cce2883bae2e5f9baf65c600626b575a3d2a7fc37d30a9a946fe7e144", func := "loop.example/g01019/laws.FnBookings", spec := "fnBookings", inPlace := ["slices.overlaps[loop.example/g01019/impl.Booking]"], apart := false, narrowed := true }
def FnBookingsUptoSaid : Prop := fnBookingsUptoRow.holds Try.pinned (OpenSpec.upto fnBookingsSpec)

end Rows
end Go.Proofs.Ytkhldmicejdggaa
