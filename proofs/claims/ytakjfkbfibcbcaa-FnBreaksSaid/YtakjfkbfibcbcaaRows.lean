/-
  No cell of these rows narrows 'for every input' (looked for: loops, veiled, ifaces, maps, wideKeys, modest, calm, conditions, laid).
  DERIVED. THE GIVEN ROWS OF THIS SEAT. 13 by the template 'for every input the law returns true; each argument reads behind the call as it read before'; 0 by the template 'total and deterministic' (their statements: YtakjfkbfibcbcaaTotals.lean).
  GIVEN WITH THE SEED: the statements are not yours to turn. If you find one false, say at which input.
  Laid BY PROGRAM, IN A SANDBOX (cutbox-rows.mjs): the forced cells as the released guide's own fill.sh prints them over the translation 55bbc7edb3ed603d… (all of the seat's roots in one cut). By AI agents, Wed Nov 11 2026. No macro, syntax, notation, axiom, sorry.
-/
import Derived.Test.YtakjfkbfibcbcaaChecked
import GoSem.Claim
import GoSem.ClaimJoined
import GoSem.ClaimMapViews
import Derived.JoinedTies
import Derived.KernelRfl
namespace Go.Proofs.Ytakjfkbfibcbcaa
/- THE CELL 'sum', in the pinned program and in every row, IS THE sha256 OF THE DUMP (.gsa) THAT YtakjfkbfibcbcaaProg.lean LOADS. Nothing in Lean hashes anything: it is a label: what it is worth is what the hold of that sum in a sandbox is worth. -/
noncomputable def Try.pinned : Pinned := { name := "ytakjfkbfibcbcaa", sum := "55bbc7edb3ed603de9994a00dc8da9e6a3f5eed0d4bce9510fabd7261db925f8", checked := Try.checked }
namespace Rows
def none {H : Type} : Left H := { results := [], args := [] }

/-- 'laws.FnExactIsBreak': WHATEVER THE INPUT: true; the input reads as it did. -/
def fnExactIsBreakSpec : ChangeSpec := { name := "fnExactIsBreak", fn := fun _ => fun
  | [d] => { results := [.lit (.bool true)], args := [d] }
  | _ => none }
def fnExactIsBreakRow : OpenClaim := { program := "ytakjfkbfibcbcaa", sum := "55bbc7edb3ed603de9994a00dc8da9e6a3f5eed0d4bce9510fabd7261db925f8", func := "loop.example/g01019/laws.FnExactIsBreak", spec := "fnExactIsBreak", apart := false }
def FnExactIsBreakSaid : Prop := fnExactIsBreakRow.holds Try.pinned (OpenSpec.ofChange fnExactIsBreakSpec)

/-- ITS FALSE NEIGHBOUR: 'it returns false'. Refute it at one input. -/
def fnExactIsBreakWrong : ChangeSpec := { name := "fnExactIsBreak", fn := fun _ => fun
  | [d] => { results := [.lit (.bool false)], args := [d] }
  | _ => none }
def FnExactIsBreakWrongFalsely : Prop := fnExactIsBreakRow.holds Try.pinned (OpenSpec.ofChange fnExactIsBreakWrong)

/-- 'laws.FnExactIsNest': WHATEVER THE INPUT: true; the input reads as it did. -/
def fnExactIsNestSpec : ChangeSpec := { name := "fnExactIsNest", fn := fun _ => fun
  | [d] => { results := [.lit (.bool true)], args := [d] }
  | _ => none }
def fnExactIsNestRow : OpenClaim := { program := "ytakjfkbfibcbcaa", sum := "55bbc7edb3ed603de9994a00dc8da9e6a3f5eed0d4bce9510fabd7261db925f8", func := "loop.example/g01019/laws.FnExactIsNest", spec := "fnExactIsNest", apart := false }
def FnExactIsNestSaid : Prop := fnExactIsNestRow.holds Try.pinned (OpenSpec.ofChange fnExactIsNestSpec)

/-- ITS FALSE NEIGHBOUR: 'it returns false'. Refute it at one input. -/
def fnExactIsNestWrong : ChangeSpec := { name := "fnExactIsNest", fn := fun _ => fun
  | [d] => { results := [.lit (.bool false)], args := [d] }
  | _ => none }
def FnExactIsNestWrongFalsely : Prop := fnExactIsNestRow.holds Try.pinned (OpenSpec.ofChange fnExactIsNestWrong)

/-- 'laws.FnExactAreBreaks': WHATEVER THE INPUT: true; the input reads as it did. -/
def fnExactAreBreaksSpec : ChangeSpec := { name := "fnExactAreBreaks", fn := fun _ => fun
  | [d] => { results := [.lit (.bool true)], args := [d] }
  | _ => none }
def fnExactAreBreaksRow : OpenClaim := { program := "ytakjfkbfibcbcaa", sum := "55bbc7edb3ed603de9994a00dc8da9e6a3f5eed0d4bce9510fabd7261db925f8", func := "loop.example/g01019/laws.FnExactAreBreaks", spec := "fnExactAreBreaks", apart := false }
def FnExactAreBreaksSaid : Prop := fnExactAreBreaksRow.holds Try.pinned (OpenSpec.ofChange fnExactAreBreaksSpec)

/-- ITS FALSE NEIGHBOUR: 'it returns false'. Refute it at one input. -/
def fnExactAreBreaksWrong : ChangeSpec := { name := "fnExactAreBreaks", fn := fun _ => fun
  | [d] => { results := [.lit (.bool false)], args := [d] }
  | _ => none }
def FnExactAreBreaksWrongFalsely : Prop := fnExactAreBreaksRow.holds Try.pinned (OpenSpec.ofChange fnExactAreBreaksWrong)

/-- 'laws.FnExactAreNests': WHATEVER THE INPUT: true; the input reads as it did. -/
def fnExactAreNestsSpec : ChangeSpec := { name := "fnExactAreNests", fn := fun _ => fun
  | [d] => { results := [.lit (.bool true)], args := [d] }
  | _ => none }
def fnExactAreNestsRow : OpenClaim := { program := "ytakjfkbfibcbcaa", sum := "55bbc7edb3ed603de9994a00dc8da9e6a3f5eed0d4bce9510fabd7261db925f8", func := "loop.example/g01019/laws.FnExactAreNests", spec := "fnExactAreNests", apart := false }
def FnExactAreNestsSaid : Prop := fnExactAreNestsRow.holds Try.pinned (OpenSpec.ofChange fnExactAreNestsSpec)

/-- ITS FALSE NEIGHBOUR: 'it returns false'. Refute it at one input. -/
def fnExactAreNestsWrong : ChangeSpec := { name := "fnExactAreNests", fn := fun _ => fun
  | [d] => { results := [.lit (.bool false)], args := [d] }
  | _ => none }
def FnExactAreNestsWrongFalsely : Prop := fnExactAreNestsRow.holds Try.pinned (OpenSpec.ofChange fnExactAreNestsWrong)

/-- 'laws.FnExactMetersLeft': WHATEVER THE INPUT: true; the input reads as it did. -/
def fnExactMetersLeftSpec : ChangeSpec := { name := "fnExactMetersLeft", fn := fun _ => fun
  | [d1, d2] => { results := [.lit (.bool true)], args := [d1, d2] }
  | _ => none }
def fnExactMetersLeftRow : OpenClaim := { program := "ytakjfkbfibcbcaa", sum := "55bbc7edb3ed603de9994a00dc8da9e6a3f5eed0d4bce9510fabd7261db925f8", func := "loop.example/g01019/laws.FnExactMetersLeft", spec := "fnExactMetersLeft", apart := false }
def FnExactMetersLeftSaid : Prop := fnExactMetersLeftRow.holds Try.pinned (OpenSpec.ofChange fnExactMetersLeftSpec)

/-- ITS FALSE NEIGHBOUR: 'it returns false'. Refute it at one input. -/
def fnExactMetersLeftWrong : ChangeSpec := { name := "fnExactMetersLeft", fn := fun _ => fun
  | [d1, d2] => { results := [.lit (.bool false)], args := [d1, d2] }
  | _ => none }
def FnExactMetersLeftWrongFalsely : Prop := fnExactMetersLeftRow.holds Try.pinned (OpenSpec.ofChange fnExactMetersLeftWrong)

/-- 'laws.FnExactClearDone': WHATEVER THE INPUT: true; the input reads as it did. -/
def fnExactClearDoneSpec : ChangeSpec := { name := "fnExactClearDone", fn := fun _ => fun
  | [d] => { results := [.lit (.bool true)], args := [d] }
  | _ => none }
def fnExactClearDoneRow : OpenClaim := { program := "ytakjfkbfibcbcaa", sum := "55bbc7edb3ed603de9994a00dc8da9e6a3f5eed0d4bce9510fabd7261db925f8", func := "loop.example/g01019/laws.FnExactClearDone", spec := "fnExactClearDone", apart := false }
def FnExactClearDoneSaid : Prop := fnExactClearDoneRow.holds Try.pinned (OpenSpec.ofChange fnExactClearDoneSpec)

/-- ITS FALSE NEIGHBOUR: 'it returns false'. Refute it at one input. -/
def fnExactClearDoneWrong : ChangeSpec := { name := "fnExactClearDone", fn := fun _ => fun
  | [d] => { results := [.lit (.bool false)], args := [d] }
  | _ => none }
def FnExactClearDoneWrongFalsely : Prop := fnExactClearDoneRow.holds Try.pinned (OpenSpec.ofChange fnExactClearDoneWrong)

/-- 'laws.FnExactTellBreak': WHATEVER THE INPUT: true; the input reads as it did. -/
def fnExactTellBreakSpec : ChangeSpec := { name := "fnExactTellBreak", fn := fun _ => fun
  | [d1, d2, d3, d4, d5] => { results := [.lit (.bool true)], args := [d1, d2, d3, d4, d5] }
  | _ => none }
def fnExactTellBreakRow : OpenClaim := { program := "ytakjfkbfibcbcaa", sum := "55bbc7edb3ed603de9994a00dc8da9e6a3f5eed0d4bce9510fabd7261db925f8", func := "loop.example/g01019/laws.FnExactTellBreak", spec := "fnExactTellBreak", unfollowed := true, recurses := true, apart := false }
def FnExactTellBreakSaid : Prop := fnExactTellBreakRow.holds Try.pinned (OpenSpec.ofChange fnExactTellBreakSpec)

/-- ITS FALSE NEIGHBOUR: 'it returns false'. Refute it at one input. -/
def fnExactTellBreakWrong : ChangeSpec := { name := "fnExactTellBreak", fn := fun _ => fun
  | [d1, d2, d3, d4, d5] => { results := [.lit (.bool false)], args := [d1, d2, d3, d4, d5] }
  | _ => none }
def FnExactTellBreakWrongFalsely : Prop := fnExactTellBreakRow.holds Try.pinned (OpenSpec.ofChange fnExactTellBreakWrong)

/-- 'laws.FnExactNeedOrder': WHATEVER THE INPUT: true; the input reads as it did. -/
def fnExactNeedOrderSpec : ChangeSpec := { name := "fnExactNeedOrder", fn := fun _ => fun
  | [d] => { results := [.lit (.bool true)], args := [d] }
  | _ => none }
def fnExactNeedOrderRow : OpenClaim := { program := "ytakjfkbfibcbcaa", sum := "55bbc7edb3ed603de9994a00dc8da9e6a3f5eed0d4bce9510fabd7261db925f8", func := "loop.example/g01019/laws.FnExactNeedOrder", spec := "fnExactNeedOrder", unfollowed := true, recurses := true, apart := false }
def FnExactNeedOrderSaid : Prop := fnExactNeedOrderRow.holds Try.pinned (OpenSpec.ofChange fnExactNeedOrderSpec)

/-- ITS FALSE NEIGHBOUR: 'it returns false'. Refute it at one input. -/
def fnExactNeedOrderWrong : ChangeSpec := { name := "fnExactNeedOrder", fn := fun _ => fun
  | [d] => { results := [.lit (.bool false)], args := [d] }
  | _ => none }
def FnExactNeedOrderWrongFalsely : Prop := fnExactNeedOrderRow.holds Try.pinned (OpenSpec.ofChange fnExactNeedOrderWrong)

/-- 'laws.FnExactDaysToMend': WHATEVER THE INPUT: true; the input reads as it did. -/
def fnExactDaysToMendSpec : ChangeSpec := { name := "fnExactDaysToMend", fn := fun _ => fun
  | [d1, d2] => { results := [.lit (.bool true)], args := [d1, d2] }
  | _ => none }
def fnExactDaysToMendRow : OpenClaim := { program := "ytakjfkbfibcbcaa", sum := "55bbc7edb3ed603de9994a00dc8da9e6a3f5eed0d4bce9510fabd7261db925f8", func := "loop.example/g01019/laws.FnExactDaysToMend", spec := "fnExactDaysToMend", unfollowed := true, recurses := true, apart := false }
def FnExactDaysToMendSaid : Prop := fnExactDaysToMendRow.holds Try.pinned (OpenSpec.ofChange fnExactDaysToMendSpec)

/-- ITS FALSE NEIGHBOUR: 'it returns false'. Refute it at one input. -/
def fnExactDaysToMendWrong : ChangeSpec := { name := "fnExactDaysToMend", fn := fun _ => fun
  | [d1, d2] => { results := [.lit (.bool false)], args := [d1, d2] }
  | _ => none }
def FnExactDaysToMendWrongFalsely : Prop := fnExactDaysToMendRow.holds Try.pinned (OpenSpec.ofChange fnExactDaysToMendWrong)

/-- 'laws.FnExactFewestWorkers': WHATEVER THE INPUT: true; the input reads as it did. -/
def fnExactFewestWorkersSpec : ChangeSpec := { name := "fnExactFewestWorkers", fn := fun _ => fun
  | [d1, d2] => { results := [.lit (.bool true)], args := [d1, d2] }
  | _ => none }
def fnExactFewestWorkersRow : OpenClaim := { program := "ytakjfkbfibcbcaa", sum := "55bbc7edb3ed603de9994a00dc8da9e6a3f5eed0d4bce9510fabd7261db925f8", func := "loop.example/g01019/laws.FnExactFewestWorkers", spec := "fnExactFewestWorkers", unfollowed := true, recurses := true, apart := false }
def FnExactFewestWorkersSaid : Prop := fnExactFewestWorkersRow.holds Try.pinned (OpenSpec.ofChange fnExactFewestWorkersSpec)

/-- ITS FALSE NEIGHBOUR: 'it returns false'. Refute it at one input. -/
def fnExactFewestWorkersWrong : ChangeSpec := { name := "fnExactFewestWorkers", fn := fun _ => fun
  | [d1, d2] => { results := [.lit (.bool false)], args := [d1, d2] }
  | _ => none }
def FnExactFewestWorkersWrongFalsely : Prop := fnExactFewestWorkersRow.holds Try.pinned (OpenSpec.ofChange fnExactFewestWorkersWrong)

/-- 'laws.FnExactNextDay': WHATEVER THE INPUT: true; the input reads as it did. -/
def fnExactNextDaySpec : ChangeSpec := { name := "fnExactNextDay", fn := fun _ => fun
  | [d1, d2] => { results := [.lit (.bool true)], args := [d1, d2] }
  | _ => none }
def fnExactNextDayRow : OpenClaim := { program := "ytakjfkbfibcbcaa", sum := "55bbc7edb3ed603de9994a00dc8da9e6a3f5eed0d4bce9510fabd7261db925f8", func := "loop.example/g01019/laws.FnExactNextDay", spec := "fnExactNextDay", unfollowed := true, recurses := true, apart := false }
def FnExactNextDaySaid : Prop := fnExactNextDayRow.holds Try.pinned (OpenSpec.ofChange fnExactNextDaySpec)

/-- ITS FALSE NEIGHBOUR: 'it returns false'. Refute it at one input. -/
def fnExactNextDayWrong : ChangeSpec := { name := "fnExactNextDay", fn := fun _ => fun
  | [d1, d2] => { results := [.lit (.bool false)], args := [d1, d2] }
  | _ => none }
def FnExactNextDayWrongFalsely : Prop := fnExactNextDayRow.holds Try.pinned (OpenSpec.ofChange fnExactNextDayWrong)

/-- 'laws.FnExactWorkersOn': WHATEVER THE INPUT: true; the input reads as it did. -/
def fnExactWorkersOnSpec : ChangeSpec := { name := "fnExactWorkersOn", fn := fun _ => fun
  | [d1, d2] => { results := [.lit (.bool true)], args := [d1, d2] }
  | _ => none }
def fnExactWorkersOnRow : OpenClaim := { program := "ytakjfkbfibcbcaa", sum := "55bbc7edb3ed603de9994a00dc8da9e6a3f5eed0d4bce9510fabd7261db925f8", func := "loop.example/g01019/laws.FnExactWorkersOn", spec := "fnExactWorkersOn", unfollowed := true, recurses := true, apart := false }
def FnExactWorkersOnSaid : Prop := fnExactWorkersOnRow.holds Try.pinned (OpenSpec.ofChange fnExactWorkersOnSpec)

/-- ITS FALSE NEIGHBOUR: 'it returns false'. Refute it at one input. -/
def fnExactWorkersOnWrong : ChangeSpec := { name := "fnExactWorkersOn", fn := fun _ => fun
  | [d1, d2] => { results := [.lit (.bool false)], args := [d1, d2] }
  | _ => none }
def FnExactWorkersOnWrongFalsely : Prop := fnExactWorkersOnRow.holds Try.pinned (OpenSpec.ofChange fnExactWorkersOnWrong)

/-- 'laws.FnBreaks': WHATEVER THE INPUT: true; the input reads as it did. -/
def fnBreaksSpec : ChangeSpec := { name := "fnBreaks", fn := fun _ => fun
  | [d] => { results := [.lit (.bool true)], args := [d] }
  | _ => none }
def fnBreaksRow : OpenClaim := { program := "ytakjfkbfibcbcaa", sum := "55bbc7edb3ed603de9994a00dc8da9e6a3f5eed0d4bce9510fabd7261db925f8", func := "loop.example/g01019/laws.FnBreaks", spec := "fnBreaks", unfollowed := true, recurses := true, apart := false }
def FnBreaksSaid : Prop := fnBreaksRow.holds Try.pinned (OpenSpec.ofChange fnBreaksSpec)

/-- ITS FALSE NEIGHBOUR: 'it returns false'. Refute it at one input. -/
def fnBreaksWrong : ChangeSpec := { name := "fnBreaks", fn := fun _ => fun
  | [d] => { results := [.lit (.bool false)], args := [d] }
  | _ => none }
def FnBreaksWrongFalsely : Prop := fnBreaksRow.holds Try.pinned (OpenSpec.ofChange fnBreaksWrong)

/- THE SECOND FORM. 'bulk': how many values and letters a reading holds, each counted each time it is reached (what is shared counts as often as it is met; a slice's spare places count too). A statement '..UptoSaid' is the law's where the arguments, and the package variables that the reading takes, are together of bulk at most 1048576: NARROWER than '..Said'. Prove '..Said' where nothing that the law and all that it calls make is longer than what came in: it says more and counts as full. Else prove '..UptoSaid'. A law counts once. -/
mutual
def uptoBulk {H : Type} : DataW H → Nat
  | .lit (.string bytes) => bytes.length + 1
  | .lit _ => 1
  | .nil => 1
  | .ptr d => uptoBulk d + 1
  | .slice elems spare => uptoBulkAll elems + uptoBulkAll spare + 1
  | .agg parts => uptoBulkAll parts + 1
  | .iface _ d => uptoBulk d + 1
  | .map entries => uptoBulkEntries entries + 1
  | .held _ => 1
def uptoBulkAll {H : Type} : List (DataW H) → Nat
  | [] => 0
  | d :: r => uptoBulk d + uptoBulkAll r
def uptoBulkEntries {H : Type} : List (Lit × DataW H) → Nat
  | [] => 0
  | x :: r => uptoBulkEntry x + uptoBulkEntries r
def uptoBulkEntry {H : Type} : Lit × DataW H → Nat
  | (.string bytes, d) => bytes.length + uptoBulk d + 1
  | (_, d) => uptoBulk d + 1
 end
def uptoSmall : (H : Type) → List (DataW H) → Bool := fun _ ds => decide (uptoBulkAll ds ≤ 1048576)
def OpenSpec.upto (s : _root_.Go.ChangeSpec) : _root_.Go.OpenSpec := { _root_.Go.OpenSpec.ofChange s with cond := some uptoSmall }

/-- 'laws.FnExactIsBreak', WHERE WHAT IT READS IS OF BULK AT MOST 1048576: true; the input reads as it did. -/
def fnExactIsBreakUptoRow : OpenClaim := { program := "ytakjfkbfibcbcaa", sum := "55bbc7edb3ed603de9994a00dc8da9e6a3f5eed0d4bce9510fabd7261db925f8", func := "loop.example/g01019/laws.FnExactIsBreak", spec := "fnExactIsBreak", apart := false, narrowed := true }
def FnExactIsBreakUptoSaid : Prop := fnExactIsBreakUptoRow.holds Try.pinned (OpenSpec.upto fnExactIsBreakSpec)

/-- 'laws.FnExactIsNest', WHERE WHAT IT READS IS OF BULK AT MOST 1048576: true; the input reads as it did. -/
def fnExactIsNestUptoRow : OpenClaim := { program := "ytakjfkbfibcbcaa", sum := "55bbc7edb3ed603de9994a00dc8da9e6a3f5eed0d4bce9510fabd7261db925f8", func := "loop.example/g01019/laws.FnExactIsNest", spec := "fnExactIsNest", apart := false, narrowed := true }
def FnExactIsNestUptoSaid : Prop := fnExactIsNestUptoRow.holds Try.pinned (OpenSpec.upto fnExactIsNestSpec)

/-- 'laws.FnExactAreBreaks', WHERE WHAT IT READS IS OF BULK AT MOST 1048576: true; the input reads as it did. -/
def fnExactAreBreaksUptoRow : OpenClaim := { program := "ytakjfkbfibcbcaa", sum := "55bbc7edb3ed603de9994a00dc8da9e6a3f5eed0d4bce9510fabd7261db925f8", func := "loop.example/g01019/laws.FnExactAreBreaks", spec := "fnExactAreBreaks", apart := false, narrowed := true }
def FnExactAreBreaksUptoSaid : Prop := fnExactAreBreaksUptoRow.holds Try.pinned (OpenSpec.upto fnExactAreBreaksSpec)

/-- 'laws.FnExactAreNests', WHERE WHAT IT READS IS OF BULK AT MOST 1048576: true; the input reads as it did. -/
def fnExactAreNestsUptoRow : OpenClaim := { program := "ytakjfkbfibcbcaa", sum := "55bbc7edb3ed603de9994a00dc8da9e6a3f5eed0d4bce9510fabd7261db925f8", func := "loop.example/g01019/laws.FnExactAreNests", spec := "fnExactAreNests", apart := false, narrowed := true }
def FnExactAreNestsUptoSaid : Prop := fnExactAreNestsUptoRow.holds Try.pinned (OpenSpec.upto fnExactAreNestsSpec)

/-- 'laws.FnExactMetersLeft', WHERE WHAT IT READS IS OF BULK AT MOST 1048576: true; the input reads as it did. -/
def fnExactMetersLeftUptoRow : OpenClaim := { program := "ytakjfkbfibcbcaa", sum := "55bbc7edb3ed603de9994a00dc8da9e6a3f5eed0d4bce9510fabd7261db925f8", func := "loop.example/g01019/laws.FnExactMetersLeft", spec := "fnExactMetersLeft", apart := false, narrowed := true }
def FnExactMetersLeftUptoSaid : Prop := fnExactMetersLeftUptoRow.holds Try.pinned (OpenSpec.upto fnExactMetersLeftSpec)

/-- 'laws.FnExactClearDone', WHERE WHAT IT READS IS OF BULK AT MOST 1048576: true; the input reads as it did. -/
def fnExactClearDoneUptoRow : OpenClaim := { program := "ytakjfkbfibcbcaa", sum := "55bbc7edb3ed603de9994a00dc8da9e6a3f5eed0d4bce9510fabd7261db925f8", func := "loop.example/g01019/laws.FnExactClearDone", spec := "fnExactClearDone", apart := false, narrowed := true }
def FnExactClearDoneUptoSaid : Prop := fnExactClearDoneUptoRow.holds Try.pinned (OpenSpec.upto fnExactClearDoneSpec)

/-- 'laws.FnExactTellBreak', WHERE WHAT IT READS IS OF BULK AT MOST 1048576: true; the input reads as it did. -/
def fnExactTellBreakUptoRow : OpenClaim := { program := "ytakjfkbfibcbcaa", sum := "55bbc7edb3ed603de9994a00dc8da9e6a3f5eed0d4bce9510fabd7261db925f8", func := "loop.example/g01019/laws.FnExactTellBreak", spec := "fnExactTellBreak", unfollowed := true, recurses := true, apart := false, narrowed := true }
def FnExactTellBreakUptoSaid : Prop := fnExactTellBreakUptoRow.holds Try.pinned (OpenSpec.upto fnExactTellBreakSpec)

/-- 'laws.FnExactNeedOrder', WHERE WHAT IT READS IS OF BULK AT MOST 1048576: true; the input reads as it did. -/
def fnExactNeedOrderUptoRow : OpenClaim := { program := "ytakjfkbfibcbcaa", sum := "55bbc7edb3ed603de9994a00dc8da9e6a3f5eed0d4bce9510fabd7261db925f8", func := "loop.example/g01019/laws.FnExactNeedOrder", spec := "fnExactNeedOrder", unfollowed := true, recurses := true, apart := false, narrowed := true }
def FnExactNeedOrderUptoSaid : Prop := fnExactNeedOrderUptoRow.holds Try.pinned (OpenSpec.upto fnExactNeedOrderSpec)

/-- 'laws.FnExactDaysToMend', WHERE WHAT IT READS IS OF BULK AT MOST 1048576: true; the input reads as it did. -/
def fnExactDaysToMendUptoRow : OpenClaim := { program := "ytakjfkbfibcbcaa", sum := "55bbc7edb3ed603de9994a00dc8da9e6a3f5eed0d4bce9510fabd7261db925f8", func := "loop.example/g01019/laws.FnExactDaysToMend", spec := "fnExactDaysToMend", unfollowed := true, recurses := true, apart := false, narrowed := true }
def FnExactDaysToMendUptoSaid : Prop := fnExactDaysToMendUptoRow.holds Try.pinned (OpenSpec.upto fnExactDaysToMendSpec)

/-- 'laws.FnExactFewestWorkers', WHERE WHAT IT READS IS OF BULK AT MOST 1048576: true; the input reads as it did. -/
def fnExactFewestWorkersUptoRow : OpenClaim := { program := "ytakjfkbfibcbcaa", sum := "55bbc7edb3ed603de9994a00dc8da9e6a3f5eed0d4bce9510fabd7261db925f8", func := "loop.example/g01019/laws.FnExactFewestWorkers", spec := "fnExactFewestWorkers", unfollowed := true, recurses := true, apart := false, narrowed := true }
def FnExactFewestWorkersUptoSaid : Prop := fnExactFewestWorkersUptoRow.holds Try.pinned (OpenSpec.upto fnExactFewestWorkersSpec)

/-- 'laws.FnExactNextDay', WHERE WHAT IT READS IS OF BULK AT MOST 1048576: true; the input reads as it did. -/
def fnExactNextDayUptoRow : OpenClaim := { program := "ytakjfkbfibcbcaa", sum := "55bbc7edb3ed603de9994a00dc8da9e6a3f5eed0d4bce9510fabd7261db925f8", func := "loop.example/g01019/laws.FnExactNextDay", spec := "fnExactNextDay", unfollowed := true, recurses := true, apart := false, narrowed := true }
def FnExactNextDayUptoSaid : Prop := fnExactNextDayUptoRow.holds Try.pinned (OpenSpec.upto fnExactNextDaySpec)

/-- 'laws.FnExactWorkersOn', WHERE WHAT IT READS IS OF BULK AT MOST 1048576: true; the input reads as it did. -/
def fnExactWorkersOnUptoRow : OpenClaim := { program := "ytakjfkbfibcbcaa", sum := "55bbc7edb3ed603de9994a00dc8da9e6a3f5eed0d4bce9510fabd7261db925f8", func := "loop.example/g01019/laws.FnExactWorkersOn", spec := "fnExactWorkersOn", unfollowed := true, recurses := true, apart := false, narrowed := true }
def FnExactWorkersOnUptoSaid : Prop := fnExactWorkersOnUptoRow.holds Try.pinned (OpenSpec.upto fnExactWorkersOnSpec)

/-- 'laws.FnBreaks', WHERE WHAT IT READS IS OF BULK AT MOST 1048576: true; the input reads as it did. -/
def fnBreaksUptoRow : OpenClaim := { program := "ytakjfkbfibcbcaa", sum := "55bbc7edb3ed603de9994a00dc8da9e6a3f5eed0d4bce9510fabd7261db925f8", func := "loop.example/g01019/laws.FnBreaks", spec := "fnBreaks", unfollowed := true, recurses := true, apart := false, narrowed := true }
def FnBreaksUptoSaid : Prop := fnBreaksUptoRow.holds Try.pinned (OpenSpec.upto fnBreaksSpec)

end Rows
end Go.Proofs.Ytakjfkbfibcbcaa
