/-
  NARROWER THAN 'FOR EVERY INPUT', by the rows' own cells (each row's printed sentence says how): FnExactAreOwners: laid · FnExactShareOf: laid · FnExactLargestOwner: laid · FnExactExactParts: laid · FnExactLeftTons: laid · FnExactDivideCrop: laid · FnExactMajority: laid · FnExactSellShare: laid · FnShares: laid · FnExactHeirsOf: laid · FnExactSharesText: laid · FnOwners: laid.
  DERIVED. THE GIVEN ROWS OF THIS SEAT. 12 by the template 'for every input the law returns true; each argument reads behind the call as it read before'; 0 by the template 'total and deterministic' (their statements: YtimdnihadhbjpaaDoorTotals.lean).
  GIVEN WITH THE SEED: the statements are not yours to turn. If you find one false, say at which input.
  Laid BY PROGRAM, IN A SANDBOX (cutbox-rows.mjs): the forced cells as the released guide's own fill.sh prints them over the translation bfcb2c7256d9641f… (all of the seat's roots in one cut). By AI agents, Wed Nov 11 2026. No macro, syntax, notation, axiom, sorry.
-/
import Derived.Test.YtimdnihadhbjpaaDoorChecked
import GoSem.PinnedTables
import GoSem.Claim
import GoSem.ClaimJoined
import GoSem.ClaimMapViews
import Derived.JoinedTies
import Derived.KernelRfl
namespace Go.Proofs.YtimdnihadhbjpaaDoor
/- THE CELL 'sum', in the pinned program and in every row, IS THE sha256 OF THE DUMP (.gsa) THAT YtimdnihadhbjpaaDoorProg.lean LOADS. Nothing in Lean hashes anything: it is a label: what it is worth is what the hold of that sum in a sandbox is worth. -/
noncomputable def Tryd.pinned : Pinned := { name := "ytimdnihadhbjpaadoor", sum := "bfcb2c7256d9641f968b661c47d8c8b3cdf176b35e6a6f6c45b64d8c5ef73a71", checked := Tryd.checked }
namespace Rows
def none {H : Type} : Left H := { results := [], args := [] }

/- WHAT THE LISTED PACKAGE-LEVEL VARIABLES READ AS WHEN THE CALL BEGINS. Each datum BY PROGRAM (the guide's laid-datum.mjs) off the statement by which the dump's own 'gosem.cut.vars' lays the variable. In a bare row this is a premise. The card (YtimdnihadhbjpaaDoorCards.lean) ties it to the program's text. -/
def laid_unicode_utf8_acceptRanges {H : Type} : DataW H := .agg [.agg [.lit (.int .u8 128), .lit (.int .u8 191)], .agg [.lit (.int .u8 160), .lit (.int .u8 191)], .agg [.lit (.int .u8 128), .lit (.int .u8 159)], .agg [.lit (.int .u8 144), .lit (.int .u8 191)], .agg [.lit (.int .u8 128), .lit (.int .u8 143)], .agg [.lit (.int .u8 0), .lit (.int .u8 0)], .agg [.lit (.int .u8 0), .lit (.int .u8 0)], .agg [.lit (.int .u8 0), .lit (.int .u8 0)], .agg [.lit (.int .u8 0), .lit (.int .u8 0)], .agg [.lit (.int .u8 0), .lit (.int .u8 0)], .agg [.lit (.int .u8 0), .lit (.int .u8 0)], .agg [.lit (.int .u8 0), .lit (.int .u8 0)], .agg [.lit (.int .u8 0), .lit (.int .u8 0)], .agg [.lit (.int .u8 0), .lit (.int .u8 0)], .agg [.lit (.int .u8 0), .lit (.int .u8 0)], .agg [.lit (.int .u8 0), .lit (.int .u8 0)]]
/-- One of Go's own tables, pinned by name: the form's constant. -/
def laid_unicode_utf8_first : DataW Unit := Go.Pinned.utf8First
def laid_math_bits_deBruijn32tab {H : Type} : DataW H := .agg [.lit (.int .u8 0), .lit (.int .u8 1), .lit (.int .u8 28), .lit (.int .u8 2), .lit (.int .u8 29), .lit (.int .u8 14), .lit (.int .u8 24), .lit (.int .u8 3), .lit (.int .u8 30), .lit (.int .u8 22), .lit (.int .u8 20), .lit (.int .u8 15), .lit (.int .u8 25), .lit (.int .u8 17), .lit (.int .u8 4), .lit (.int .u8 8), .lit (.int .u8 31), .lit (.int .u8 27), .lit (.int .u8 13), .lit (.int .u8 23), .lit (.int .u8 21), .lit (.int .u8 19), .lit (.int .u8 16), .lit (.int .u8 7), .lit (.int .u8 26), .lit (.int .u8 12), .lit (.int .u8 18), .lit (.int .u8 6), .lit (.int .u8 11), .lit (.int .u8 5), .lit (.int .u8 10), .lit (.int .u8 9)]
def laid_math_bits_deBruijn64tab {H : Type} : DataW H := .agg [.lit (.int .u8 0), .lit (.int .u8 1), .lit (.int .u8 56), .lit (.int .u8 2), .lit (.int .u8 57), .lit (.int .u8 49), .lit (.int .u8 28), .lit (.int .u8 3), .lit (.int .u8 61), .lit (.int .u8 58), .lit (.int .u8 42), .lit (.int .u8 50), .lit (.int .u8 38), .lit (.int .u8 29), .lit (.int .u8 17), .lit (.int .u8 4), .lit (.int .u8 62), .lit (.int .u8 47), .lit (.int .u8 59), .lit (.int .u8 36), .lit (.int .u8 45), .lit (.int .u8 43), .lit (.int .u8 51), .lit (.int .u8 22), .lit (.int .u8 53), .lit (.int .u8 39), .lit (.int .u8 33), .lit (.int .u8 30), .lit (.int .u8 24), .lit (.int .u8 18), .lit (.int .u8 12), .lit (.int .u8 5), .lit (.int .u8 63), .lit (.int .u8 55), .lit (.int .u8 48), .lit (.int .u8 27), .lit (.int .u8 60), .lit (.int .u8 41), .lit (.int .u8 37), .lit (.int .u8 16), .lit (.int .u8 46), .lit (.int .u8 35), .lit (.int .u8 44), .lit (.int .u8 21), .lit (.int .u8 52), .lit (.int .u8 32), .lit (.int .u8 23), .lit (.int .u8 11), .lit (.int .u8 54), .lit (.int .u8 26), .lit (.int .u8 40), .lit (.int .u8 15), .lit (.int .u8 34), .lit (.int .u8 20), .lit (.int .u8 31), .lit (.int .u8 10), .lit (.int .u8 25), .lit (.int .u8 14), .lit (.int .u8 19), .lit (.int .u8 9), .lit (.int .u8 13), .lit (.int .u8 8), .lit (.int .u8 7), .lit (.int .u8 6)]
def laid_internal_strconv_uint64pow10 {H : Type} : DataW H := .agg [.lit (.int .u64 1), .lit (.int .u64 10), .lit (.int .u64 100), .lit (.int .u64 1000), .lit (.int .u64 10000), .lit (.int .u64 100000), .lit (.int .u64 1000000), .lit (.int .u64 10000000), .lit (.int .u64 100000000), .lit (.int .u64 1000000000), .lit (.int .u64 10000000000), .lit (.int .u64 100000000000), .lit (.int .u64 1000000000000), .lit (.int .u64 10000000000000), .lit (.int .u64 100000000000000), .lit (.int .u64 1000000000000000), .lit (.int .u64 10000000000000000), .lit (.int .u64 100000000000000000), .lit (.int .u64 1000000000000000000), .lit (.int .u64 10000000000000000000)]

/-- 'laws.FnExactAreOwners': WHATEVER THE INPUT: true; the input reads as it did. -/
def fnExactAreOwnersSpec : ChangeSpec := { name := "fnExactAreOwners", fn := fun _ => fun
  | [d] => { results := [.lit (.bool true)], args := [d] }
  | _ => none }
def fnExactAreOwnersRow : OpenClaim := { program := "ytimdnihadhbjpaadoor", sum := "bfcb2c7256d9641f968b661c47d8c8b3cdf176b35e6a6f6c45b64d8c5ef73a71", func := "loop.example/g01019/laws.FnExactAreOwners", spec := "fnExactAreOwners", inPlace := ["internal/bytealg.IndexByteString", "internal/bytealg.IndexString"], unfollowed := true, recurses := true, named := ["unicode/utf8.first", "unicode/utf8.acceptRanges", "internal/bytealg.MaxLen"], apart := false, laid := [("unicode/utf8.acceptRanges", laid_unicode_utf8_acceptRanges), ("unicode/utf8.first", laid_unicode_utf8_first)] }
def FnExactAreOwnersSaid : Prop := fnExactAreOwnersRow.holds Tryd.pinned (OpenSpec.ofChange fnExactAreOwnersSpec)

/-- ITS FALSE NEIGHBOUR: 'it returns false'. Refute it at one input. -/
def fnExactAreOwnersWrong : ChangeSpec := { name := "fnExactAreOwners", fn := fun _ => fun
  | [d] => { results := [.lit (.bool false)], args := [d] }
  | _ => none }
def FnExactAreOwnersWrongFalsely : Prop := fnExactAreOwnersRow.holds Tryd.pinned (OpenSpec.ofChange fnExactAreOwnersWrong)

/-- 'laws.FnExactShareOf': WHATEVER THE INPUT: true; the input reads as it did. -/
def fnExactShareOfSpec : ChangeSpec := { name := "fnExactShareOf", fn := fun _ => fun
  | [d1, d2] => { results := [.lit (.bool true)], args := [d1, d2] }
  | _ => none }
def fnExactShareOfRow : OpenClaim := { program := "ytimdnihadhbjpaadoor", sum := "bfcb2c7256d9641f968b661c47d8c8b3cdf176b35e6a6f6c45b64d8c5ef73a71", func := "loop.example/g01019/laws.FnExactShareOf", spec := "fnExactShareOf", inPlace := ["internal/bytealg.IndexByteString", "internal/bytealg.IndexString"], unfollowed := true, recurses := true, named := ["unicode/utf8.first", "unicode/utf8.acceptRanges", "internal/bytealg.MaxLen"], apart := false, laid := [("unicode/utf8.acceptRanges", laid_unicode_utf8_acceptRanges), ("unicode/utf8.first", laid_unicode_utf8_first)] }
def FnExactShareOfSaid : Prop := fnExactShareOfRow.holds Tryd.pinned (OpenSpec.ofChange fnExactShareOfSpec)

/-- ITS FALSE NEIGHBOUR: 'it returns false'. Refute it at one input. -/
def fnExactShareOfWrong : ChangeSpec := { name := "fnExactShareOf", fn := fun _ => fun
  | [d1, d2] => { results := [.lit (.bool false)], args := [d1, d2] }
  | _ => none }
def FnExactShareOfWrongFalsely : Prop := fnExactShareOfRow.holds Tryd.pinned (OpenSpec.ofChange fnExactShareOfWrong)

/-- 'laws.FnExactLargestOwner': WHATEVER THE INPUT: true; the input reads as it did. -/
def fnExactLargestOwnerSpec : ChangeSpec := { name := "fnExactLargestOwner", fn := fun _ => fun
  | [d] => { results := [.lit (.bool true)], args := [d] }
  | _ => none }
def fnExactLargestOwnerRow : OpenClaim := { program := "ytimdnihadhbjpaadoor", sum := "bfcb2c7256d9641f968b661c47d8c8b3cdf176b35e6a6f6c45b64d8c5ef73a71", func := "loop.example/g01019/laws.FnExactLargestOwner", spec := "fnExactLargestOwner", inPlace := ["internal/bytealg.IndexByteString", "internal/bytealg.IndexString"], unfollowed := true, recurses := true, named := ["unicode/utf8.first", "unicode/utf8.acceptRanges", "internal/bytealg.MaxLen"], apart := false, laid := [("unicode/utf8.acceptRanges", laid_unicode_utf8_acceptRanges), ("unicode/utf8.first", laid_unicode_utf8_first)] }
def FnExactLargestOwnerSaid : Prop := fnExactLargestOwnerRow.holds Tryd.pinned (OpenSpec.ofChange fnExactLargestOwnerSpec)

/-- ITS FALSE NEIGHBOUR: 'it returns false'. Refute it at one input. -/
def fnExactLargestOwnerWrong : ChangeSpec := { name := "fnExactLargestOwner", fn := fun _ => fun
  | [d] => { results := [.lit (.bool false)], args := [d] }
  | _ => none }
def FnExactLargestOwnerWrongFalsely : Prop := fnExactLargestOwnerRow.holds Tryd.pinned (OpenSpec.ofChange fnExactLargestOwnerWrong)

/-- 'laws.FnExactExactParts': WHATEVER THE INPUT: true; the input reads as it did. -/
def fnExactExactPartsSpec : ChangeSpec := { name := "fnExactExactParts", fn := fun _ => fun
  | [d] => { results := [.lit (.bool true)], args := [d] }
  | _ => none }
def fnExactExactPartsRow : OpenClaim := { program := "ytimdnihadhbjpaadoor", sum := "bfcb2c7256d9641f968b661c47d8c8b3cdf176b35e6a6f6c45b64d8c5ef73a71", func := "loop.example/g01019/laws.FnExactExactParts", spec := "fnExactExactParts", inPlace := ["internal/bytealg.IndexByteString", "internal/bytealg.IndexString"], unfollowed := true, recurses := true, named := ["unicode/utf8.first", "unicode/utf8.acceptRanges", "internal/bytealg.MaxLen"], apart := false, laid := [("unicode/utf8.acceptRanges", laid_unicode_utf8_acceptRanges), ("unicode/utf8.first", laid_unicode_utf8_first)] }
def FnExactExactPartsSaid : Prop := fnExactExactPartsRow.holds Tryd.pinned (OpenSpec.ofChange fnExactExactPartsSpec)

/-- ITS FALSE NEIGHBOUR: 'it returns false'. Refute it at one input. -/
def fnExactExactPartsWrong : ChangeSpec := { name := "fnExactExactParts", fn := fun _ => fun
  | [d] => { results := [.lit (.bool false)], args := [d] }
  | _ => none }
def FnExactExactPartsWrongFalsely : Prop := fnExactExactPartsRow.holds Tryd.pinned (OpenSpec.ofChange fnExactExactPartsWrong)

/-- 'laws.FnExactLeftTons': WHATEVER THE INPUT: true; the input reads as it did. -/
def fnExactLeftTonsSpec : ChangeSpec := { name := "fnExactLeftTons", fn := fun _ => fun
  | [d1, d2] => { results := [.lit (.bool true)], args := [d1, d2] }
  | _ => none }
def fnExactLeftTonsRow : OpenClaim := { program := "ytimdnihadhbjpaadoor", sum := "bfcb2c7256d9641f968b661c47d8c8b3cdf176b35e6a6f6c45b64d8c5ef73a71", func := "loop.example/g01019/laws.FnExactLeftTons", spec := "fnExactLeftTons", inPlace := ["internal/bytealg.IndexByteString", "internal/bytealg.IndexString"], unfollowed := true, recurses := true, named := ["unicode/utf8.first", "unicode/utf8.acceptRanges", "internal/bytealg.MaxLen"], apart := false, laid := [("unicode/utf8.acceptRanges", laid_unicode_utf8_acceptRanges), ("unicode/utf8.first", laid_unicode_utf8_first)] }
def FnExactLeftTonsSaid : Prop := fnExactLeftTonsRow.holds Tryd.pinned (OpenSpec.ofChange fnExactLeftTonsSpec)

/-- ITS FALSE NEIGHBOUR: 'it returns false'. Refute it at one input. -/
def fnExactLeftTonsWrong : ChangeSpec := { name := "fnExactLeftTons", fn := fun _ => fun
  | [d1, d2] => { results := [.lit (.bool false)], args := [d1, d2] }
  | _ => none }
def FnExactLeftTonsWrongFalsely : Prop := fnExactLeftTonsRow.holds Tryd.pinned (OpenSpec.ofChange fnExactLeftTonsWrong)

/-- 'laws.FnExactDivideCrop': WHATEVER THE INPUT: true; the input reads as it did. -/
def fnExactDivideCropSpec : ChangeSpec := { name := "fnExactDivideCrop", fn := fun _ => fun
  | [d1, d2] => { results := [.lit (.bool true)], args := [d1, d2] }
  | _ => none }
def fnExactDivideCropRow : OpenClaim := { program := "ytimdnihadhbjpaadoor", sum := "bfcb2c7256d9641f968b661c47d8c8b3cdf176b35e6a6f6c45b64d8c5ef73a71", func := "loop.example/g01019/laws.FnExactDivideCrop", spec := "fnExactDivideCrop", inPlace := ["internal/bytealg.IndexByteString", "internal/bytealg.IndexString"], unfollowed := true, recurses := true, named := ["unicode/utf8.first", "unicode/utf8.acceptRanges", "internal/bytealg.MaxLen"], apart := false, laid := [("unicode/utf8.acceptRanges", laid_unicode_utf8_acceptRanges), ("unicode/utf8.first", laid_unicode_utf8_first)] }
def FnExactDivideCropSaid : Prop := fnExactDivideCropRow.holds Tryd.pinned (OpenSpec.ofChange fnExactDivideCropSpec)

/-- ITS FALSE NEIGHBOUR: 'it returns false'. Refute it at one input. -/
def fnExactDivideCropWrong : ChangeSpec := { name := "fnExactDivideCrop", fn := fun _ => fun
  | [d1, d2] => { results := [.lit (.bool false)], args := [d1, d2] }
  | _ => none }
def FnExactDivideCropWrongFalsely : Prop := fnExactDivideCropRow.holds Tryd.pinned (OpenSpec.ofChange fnExactDivideCropWrong)

/-- 'laws.FnExactMajority': WHATEVER THE INPUT: true; the input reads as it did. -/
def fnExactMajoritySpec : ChangeSpec := { name := "fnExactMajority", fn := fun _ => fun
  | [d] => { results := [.lit (.bool true)], args := [d] }
  | _ => none }
def fnExactMajorityRow : OpenClaim := { program := "ytimdnihadhbjpaadoor", sum := "bfcb2c7256d9641f968b661c47d8c8b3cdf176b35e6a6f6c45b64d8c5ef73a71", func := "loop.example/g01019/laws.FnExactMajority", spec := "fnExactMajority", inPlace := ["internal/bytealg.IndexByteString", "internal/bytealg.IndexString"], unfollowed := true, recurses := true, named := ["unicode/utf8.first", "unicode/utf8.acceptRanges", "internal/bytealg.MaxLen"], apart := false, laid := [("unicode/utf8.acceptRanges", laid_unicode_utf8_acceptRanges), ("unicode/utf8.first", laid_unicode_utf8_first)] }
def FnExactMajoritySaid : Prop := fnExactMajorityRow.holds Tryd.pinned (OpenSpec.ofChange fnExactMajoritySpec)

/-- ITS FALSE NEIGHBOUR: 'it returns false'. Refute it at one input. -/
def fnExactMajorityWrong : ChangeSpec := { name := "fnExactMajority", fn := fun _ => fun
  | [d] => { results := [.lit (.bool false)], args := [d] }
  | _ => none }
def FnExactMajorityWrongFalsely : Prop := fnExactMajorityRow.holds Tryd.pinned (OpenSpec.ofChange fnExactMajorityWrong)

/-- 'laws.FnExactSellShare': WHATEVER THE INPUT: true; the input reads as it did. -/
def fnExactSellShareSpec : ChangeSpec := { name := "fnExactSellShare", fn := fun _ => fun
  | [d1, d2, d3, d4, d5] => { results := [.lit (.bool true)], args := [d1, d2, d3, d4, d5] }
  | _ => none }
def fnExactSellShareRow : OpenClaim := { program := "ytimdnihadhbjpaadoor", sum := "bfcb2c7256d9641f968b661c47d8c8b3cdf176b35e6a6f6c45b64d8c5ef73a71", func := "loop.example/g01019/laws.FnExactSellShare", spec := "fnExactSellShare", inPlace := ["internal/bytealg.IndexByteString", "internal/bytealg.IndexString"], unfollowed := true, recurses := true, named := ["unicode/utf8.first", "unicode/utf8.acceptRanges", "internal/bytealg.MaxLen"], apart := false, laid := [("unicode/utf8.acceptRanges", laid_unicode_utf8_acceptRanges), ("unicode/utf8.first", laid_unicode_utf8_first)] }
def FnExactSellShareSaid : Prop := fnExactSellShareRow.holds Tryd.pinned (OpenSpec.ofChange fnExactSellShareSpec)

/-- ITS FALSE NEIGHBOUR: 'it returns false'. Refute it at one input. -/
def fnExactSellShareWrong : ChangeSpec := { name := "fnExactSellShare", fn := fun _ => fun
  | [d1, d2, d3, d4, d5] => { results := [.lit (.bool false)], args := [d1, d2, d3, d4, d5] }
  | _ => none }
def FnExactSellShareWrongFalsely : Prop := fnExactSellShareRow.holds Tryd.pinned (OpenSpec.ofChange fnExactSellShareWrong)

/-- 'laws.FnShares': WHATEVER THE INPUT: true; the input reads as it did. -/
def fnSharesSpec : ChangeSpec := { name := "fnShares", fn := fun _ => fun
  | [d] => { results := [.lit (.bool true)], args := [d] }
  | _ => none }
def fnSharesRow : OpenClaim := { program := "ytimdnihadhbjpaadoor", sum := "bfcb2c7256d9641f968b661c47d8c8b3cdf176b35e6a6f6c45b64d8c5ef73a71", func := "loop.example/g01019/laws.FnShares", spec := "fnShares", inPlace := ["internal/bytealg.IndexByteString", "internal/bytealg.IndexString"], unfollowed := true, recurses := true, named := ["unicode/utf8.first", "unicode/utf8.acceptRanges", "internal/bytealg.MaxLen"], apart := false, laid := [("unicode/utf8.acceptRanges", laid_unicode_utf8_acceptRanges), ("unicode/utf8.first", laid_unicode_utf8_first)] }
def FnSharesSaid : Prop := fnSharesRow.holds Tryd.pinned (OpenSpec.ofChange fnSharesSpec)

/-- ITS FALSE NEIGHBOUR: 'it returns false'. Refute it at one input. -/
def fnSharesWrong : ChangeSpec := { name := "fnShares", fn := fun _ => fun
  | [d] => { results := [.lit (.bool false)], args := [d] }
  | _ => none }
def FnSharesWrongFalsely : Prop := fnSharesRow.holds Tryd.pinned (OpenSpec.ofChange fnSharesWrong)

/-- 'laws.FnExactHeirsOf': WHATEVER THE INPUT: true; the input reads as it did. -/
def fnExactHeirsOfSpec : ChangeSpec := { name := "fnExactHeirsOf", fn := fun _ => fun
  | [d1, d2, d3] => { results := [.lit (.bool true)], args := [d1, d2, d3] }
  | _ => none }
def fnExactHeirsOfRow : OpenClaim := { program := "ytimdnihadhbjpaadoor", sum := "bfcb2c7256d9641f968b661c47d8c8b3cdf176b35e6a6f6c45b64d8c5ef73a71", func := "loop.example/g01019/laws.FnExactHeirsOf", spec := "fnExactHeirsOf", inPlace := ["internal/bytealg.IndexByteString", "internal/bytealg.IndexString"], unfollowed := true, recurses := true, named := ["unicode/utf8.first", "unicode/utf8.acceptRanges", "internal/bytealg.MaxLen"], apart := false, laid := [("unicode/utf8.acceptRanges", laid_unicode_utf8_acceptRanges), ("unicode/utf8.first", laid_unicode_utf8_first)] }
def FnExactHeirsOfSaid : Prop := fnExactHeirsOfRow.holds Tryd.pinned (OpenSpec.ofChange fnExactHeirsOfSpec)

/-- ITS FALSE NEIGHBOUR: 'it returns false'. Refute it at one input. -/
def fnExactHeirsOfWrong : ChangeSpec := { name := "fnExactHeirsOf", fn := fun _ => fun
  | [d1, d2, d3] => { results := [.lit (.bool false)], args := [d1, d2, d3] }
  | _ => none }
def FnExactHeirsOfWrongFalsely : Prop := fnExactHeirsOfRow.holds Tryd.pinned (OpenSpec.ofChange fnExactHeirsOfWrong)

/-- 'laws.FnExactSharesText': WHATEVER THE INPUT: true; the input reads as it did. -/
def fnExactSharesTextSpec : ChangeSpec := { name := "fnExactSharesText", fn := fun _ => fun
  | [d] => { results := [.lit (.bool true)], args := [d] }
  | _ => none }
def fnExactSharesTextRow : OpenClaim := { program := "ytimdnihadhbjpaadoor", sum := "bfcb2c7256d9641f968b661c47d8c8b3cdf176b35e6a6f6c45b64d8c5ef73a71", func := "loop.example/g01019/laws.FnExactSharesText", spec := "fnExactSharesText", inPlace := ["internal/bytealg.IndexByteString", "internal/bytealg.IndexString"], unfollowed := true, recurses := true, named := ["unicode/utf8.first", "unicode/utf8.acceptRanges", "internal/strconv.uint64pow10", "math/bits.deBruijn32tab", "math/bits.deBruijn64tab", "internal/bytealg.MaxLen"], apart := false, laid := [("math/bits.deBruijn32tab", laid_math_bits_deBruijn32tab), ("math/bits.deBruijn64tab", laid_math_bits_deBruijn64tab), ("internal/strconv.uint64pow10", laid_internal_strconv_uint64pow10), ("unicode/utf8.acceptRanges", laid_unicode_utf8_acceptRanges), ("unicode/utf8.first", laid_unicode_utf8_first)] }
def FnExactSharesTextSaid : Prop := fnExactSharesTextRow.holds Tryd.pinned (OpenSpec.ofChange fnExactSharesTextSpec)

/-- ITS FALSE NEIGHBOUR: 'it returns false'. Refute it at one input. -/
def fnExactSharesTextWrong : ChangeSpec := { name := "fnExactSharesText", fn := fun _ => fun
  | [d] => { results := [.lit (.bool false)], args := [d] }
  | _ => none }
def FnExactSharesTextWrongFalsely : Prop := fnExactSharesTextRow.holds Tryd.pinned (OpenSpec.ofChange fnExactSharesTextWrong)

/-- 'laws.FnOwners': WHATEVER THE INPUT: true; the input reads as it did. -/
def fnOwnersSpec : ChangeSpec := { name := "fnOwners", fn := fun _ => fun
  | [d] => { results := [.lit (.bool true)], args := [d] }
  | _ => none }
def fnOwnersRow : OpenClaim := { program := "ytimdnihadhbjpaadoor", sum := "bfcb2c7256d9641f968b661c47d8c8b3cdf176b35e6a6f6c45b64d8c5ef73a71", func := "loop.example/g01019/laws.FnOwners", spec := "fnOwners", inPlace := ["internal/bytealg.IndexByteString", "internal/bytealg.IndexString"], unfollowed := true, recurses := true, named := ["unicode/utf8.first", "unicode/utf8.acceptRanges", "internal/strconv.uint64pow10", "math/bits.deBruijn32tab", "math/bits.deBruijn64tab", "internal/bytealg.MaxLen"], apart := false, laid := [("math/bits.deBruijn32tab", laid_math_bits_deBruijn32tab), ("math/bits.deBruijn64tab", laid_math_bits_deBruijn64tab), ("internal/strconv.uint64pow10", laid_internal_strconv_uint64pow10), ("unicode/utf8.acceptRanges", laid_unicode_utf8_acceptRanges), ("unicode/utf8.first", laid_unicode_utf8_first)] }
def FnOwnersSaid : Prop := fnOwnersRow.holds Tryd.pinned (OpenSpec.ofChange fnOwnersSpec)

/-- ITS FALSE NEIGHBOUR: 'it returns false'. Refute it at one input. -/
def fnOwnersWrong : ChangeSpec := { name := "fnOwners", fn := fun _ => fun
  | [d] => { results := [.lit (.bool false)], args := [d] }
  | _ => none }
def FnOwnersWrongFalsely : Prop := fnOwnersRow.holds Tryd.pinned (OpenSpec.ofChange fnOwnersWrong)

/- THE SECOND FORM. 'bulk': how many values and letters a reading holds, each counted each time it is reached (what is shared counts as often as it is met; a slice's spare places count too). A statement '..UptoSaid' is the law's where the arguments, and the package variables that the reading takes, are together of bulk at most 1048576: NARROWER than '..Said'. Prove '..Said' where nothing that the law and all that it calls make is longer than what came in: it says more and counts as full. Else prove '..UptoSaid'. A law counts once. -/
mutual
def uptoBulk {H : Type} : DataW H → Nat
  | .lit (.string bytes) => bytes.length + 1
  | .lit _ => 1
  | .nil => 1
  | .ptr d => uptoBulk d + 1
  | .slice elems spare => uptoBulkAll elems + uptoBulkAll spare + 1
  | .agg parts => uptoBulkAll parts + 1
  | .iface _ d => uptoBulk d + 1
  | .map entries => uptoBulkEntries entries + 1
  | .held _ => 1
def uptoBulkAll {H : Type} : List (DataW H) → Nat
  | [] => 0
  | d :: r => uptoBulk d + uptoBulkAll r
def uptoBulkEntries {H : Type} : List (Lit × DataW H) → Nat
  | [] => 0
  | x :: r => uptoBulkEntry x + uptoBulkEntries r
def uptoBulkEntry {H : Type} : Lit × DataW H → Nat
  | (.string bytes, d) => bytes.length + uptoBulk d + 1
  | (_, d) => uptoBulk d + 1
 end
def uptoSmall : (H : Type) → List (DataW H) → Bool := fun _ ds => decide (uptoBulkAll ds ≤ 1048576)
def OpenSpec.upto (s : _root_.Go.ChangeSpec) : _root_.Go.OpenSpec := { _root_.Go.OpenSpec.ofChange s with cond := some uptoSmall }

/-- 'laws.FnExactAreOwners', WHERE WHAT IT READS IS OF BULK AT MOST 1048576: true; the input reads as it did. -/
def fnExactAreOwnersUptoRow : OpenClaim := { program := "ytimdnihadhbjpaadoor", sum := "bfcb2c7256d9641f968b661c47d8c8b3cdf176b35e6a6f6c45b64d8c5ef73a71", func := "loop.example/g01019/laws.FnExactAreOwners", spec := "fnExactAreOwners", inPlace := ["internal/bytealg.IndexByteString", "internal/bytealg.IndexString"], unfollowed := true, recurses := true, named := ["unicode/utf8.first", "unicode/utf8.acceptRanges", "internal/bytealg.MaxLen"], apart := false, laid := [("unicode/utf8.acceptRanges", laid_unicode_utf8_acceptRanges), ("unicode/utf8.first", laid_unicode_utf8_first)], narrowed := true }
def FnExactAreOwnersUptoSaid : Prop := fnExactAreOwnersUptoRow.holds Tryd.pinned (OpenSpec.upto fnExactAreOwnersSpec)

/-- 'laws.FnExactShareOf', WHERE WHAT IT READS IS OF BULK AT MOST 1048576: true; the input reads as it did. -/
def fnExactShareOfUptoRow : OpenClaim := { program := "ytimdnihadhbjpaadoor", sum := "bfcb2c7256d9641f968b661c47d8c8b3cdf176b35e6a6f6c45b64d8c5ef73a71", func := "loop.example/g01019/laws.FnExactShareOf", spec := "fnExactShareOf", inPlace := ["internal/bytealg.IndexByteString", "internal/bytealg.IndexString"], unfollowed := true, recurses := true, named := ["unicode/utf8.first", "unicode/utf8.acceptRanges", "internal/bytealg.MaxLen"], apart := false, laid := [("unicode/utf8.acceptRanges", laid_unicode_utf8_acceptRanges), ("unicode/utf8.first", laid_unicode_utf8_first)], narrowed := true }
def FnExactShareOfUptoSaid : Prop := fnExactShareOfUptoRow.holds Tryd.pinned (OpenSpec.upto fnExactShareOfSpec)

/-- 'laws.FnExactLargestOwner', WHERE WHAT IT READS IS OF BULK AT MOST 1048576: true; the input reads as it did. -/
def fnExactLargestOwnerUptoRow : OpenClaim := { program := "ytimdnihadhbjpaadoor", sum := "bfcb2c7256d9641f968b661c47d8c8b3cdf176b35e6a6f6c45b64d8c5ef73a71", func := "loop.example/g01019/laws.FnExactLargestOwner", spec := "fnExactLargestOwner", inPlace := ["internal/bytealg.IndexByteString", "internal/bytealg.IndexString"], unfollowed := true, recurses := true, named := ["unicode/utf8.first", "unicode/utf8.acceptRanges", "internal/bytealg.MaxLen"], apart := false, laid := [("unicode/utf8.acceptRanges", laid_unicode_utf8_acceptRanges), ("unicode/utf8.first", laid_unicode_utf8_first)], narrowed := true }
def FnExactLargestOwnerUptoSaid : Prop := fnExactLargestOwnerUptoRow.holds Tryd.pinned (OpenSpec.upto fnExactLargestOwnerSpec)

/-- 'laws.FnExactExactParts', WHERE WHAT IT READS IS OF BULK AT MOST 1048576: true; the input reads as it did. -/
def fnExactExactPartsUptoRow : OpenClaim := { program := "ytimdnihadhbjpaadoor", sum := "bfcb2c7256d9641f968b661c47d8c8b3cdf176b35e6a6f6c45b64d8c5ef73a71", func := "loop.example/g01019/laws.FnExactExactParts", spec := "fnExactExactParts", inPlace := ["internal/bytealg.IndexByteString", "internal/bytealg.IndexString"], unfollowed := true, recurses := true, named := ["unicode/utf8.first", "unicode/utf8.acceptRanges", "internal/bytealg.MaxLen"], apart := false, laid := [("unicode/utf8.acceptRanges", laid_unicode_utf8_acceptRanges), ("unicode/utf8.first", laid_unicode_utf8_first)], narrowed := true }
def FnExactExactPartsUptoSaid : Prop := fnExactExactPartsUptoRow.holds Tryd.pinned (OpenSpec.upto fnExactExactPartsSpec)

/-- 'laws.FnExactLeftTons', WHERE WHAT IT READS IS OF BULK AT MOST 1048576: true; the input reads as it did. -/
def fnExactLeftTonsUptoRow : OpenClaim := { program := "ytimdnihadhbjpaadoor", sum := "bfcb2c7256d9641f968b661c47d8c8b3cdf176b35e6a6f6c45b64d8c5ef73a71", func := "loop.example/g01019/laws.FnExactLeftTons", spec := "fnExactLeftTons", inPlace := ["internal/bytealg.IndexByteString", "internal/bytealg.IndexString"], unfollowed := true, recurses := true, named := ["unicode/utf8.first", "unicode/utf8.acceptRanges", "internal/bytealg.MaxLen"], apart := false, laid := [("unicode/utf8.acceptRanges", laid_unicode_utf8_acceptRanges), ("unicode/utf8.first", laid_unicode_utf8_first)], narrowed := true }
def FnExactLeftTonsUptoSaid : Prop := fnExactLeftTonsUptoRow.holds Tryd.pinned (OpenSpec.upto fnExactLeftTonsSpec)

/-- 'laws.FnExactDivideCrop', WHERE WHAT IT READS IS OF BULK AT MOST 1048576: true; the input reads as it did. -/
def fnExactDivideCropUptoRow : OpenClaim := { program := "ytimdnihadhbjpaadoor", sum := "bfcb2c7256d9641f968b661c47d8c8b3cdf176b35e6a6f6c45b64d8c5ef73a71", func := "loop.example/g01019/laws.FnExactDivideCrop", spec := "fnExactDivideCrop", inPlace := ["internal/bytealg.IndexByteString", "internal/bytealg.IndexString"], unfollowed := true, recurses := true, named := ["unicode/utf8.first", "unicode/utf8.acceptRanges", "internal/bytealg.MaxLen"], apart := false, laid := [("unicode/utf8.acceptRanges", laid_unicode_utf8_acceptRanges), ("unicode/utf8.first", laid_unicode_utf8_first)], narrowed := true }
def FnExactDivideCropUptoSaid : Prop := fnExactDivideCropUptoRow.holds Tryd.pinned (OpenSpec.upto fnExactDivideCropSpec)

/-- 'laws.FnExactMajority', WHERE WHAT IT READS IS OF BULK AT MOST 1048576: true; the input reads as it did. -/
def fnExactMajorityUptoRow : OpenClaim := { program := "ytimdnihadhbjpaadoor", sum := "bfcb2c7256d9641f968b661c47d8c8b3cdf176b35e6a6f6c45b64d8c5ef73a71", func := "loop.example/g01019/laws.FnExactMajority", spec := "fnExactMajority", inPlace := ["internal/bytealg.IndexByteString", "internal/bytealg.IndexString"], unfollowed := true, recurses := true, named := ["unicode/utf8.first", "unicode/utf8.acceptRanges", "internal/bytealg.MaxLen"], apart := false, laid := [("unicode/utf8.acceptRanges", laid_unicode_utf8_acceptRanges), ("unicode/utf8.first", laid_unicode_utf8_first)], narrowed := true }
def FnExactMajorityUptoSaid : Prop := fnExactMajorityUptoRow.holds Tryd.pinned (OpenSpec.upto fnExactMajoritySpec)

/-- 'laws.FnExactSellShare', WHERE WHAT IT READS IS OF BULK AT MOST 1048576: true; the input reads as it did. -/
def fnExactSellShareUptoRow : OpenClaim := { program := "ytimdnihadhbjpaadoor", sum := "bfcb2c7256d9641f968b661c47d8c8b3cdf176b35e6a6f6c45b64d8c5ef73a71", func := "loop.example/g01019/laws.FnExactSellShare", spec := "fnExactSellShare", inPlace := ["internal/bytealg.IndexByteString", "internal/bytealg.IndexString"], unfollowed := true, recurses := true, named := ["unicode/utf8.first", "unicode/utf8.acceptRanges", "internal/bytealg.MaxLen"], apart := false, laid := [("unicode/utf8.acceptRanges", laid_unicode_utf8_acceptRanges), ("unicode/utf8.first", laid_unicode_utf8_first)], narrowed := true }
def FnExactSellShareUptoSaid : Prop := fnExactSellShareUptoRow.holds Tryd.pinned (OpenSpec.upto fnExactSellShareSpec)

/-- 'laws.FnShares', WHERE WHAT IT READS IS OF BULK AT MOST 1048576: true; the input reads as it did. -/
def fnSharesUptoRow : OpenClaim := { program := "ytimdnihadhbjpaadoor", sum := "bfcb2c7256d9641f968b661c47d8c8b3cdf176b35e6a6f6c45b64d8c5ef73a71", func := "loop.example/g01019/laws.FnShares", spec := "fnShares", inPlace := ["internal/bytealg.IndexByteString", "internal/bytealg.IndexString"], unfollowed := true, recurses := true, named := ["unicode/utf8.first", "unicode/utf8.acceptRanges", "internal/bytealg.MaxLen"], apart := false, laid := [("unicode/utf8.acceptRanges", laid_unicode_utf8_acceptRanges), ("unicode/utf8.first", laid_unicode_utf8_first)], narrowed := true }
def FnSharesUptoSaid : Prop := fnSharesUptoRow.holds Tryd.pinned (OpenSpec.upto fnSharesSpec)

/-- 'laws.FnExactHeirsOf', WHERE WHAT IT READS IS OF BULK AT MOST 1048576: true; the input reads as it did. -/
def fnExactHeirsOfUptoRow : OpenClaim := { program := "ytimdnihadhbjpaadoor", sum := "bfcb2c7256d9641f968b661c47d8c8b3cdf176b35e6a6f6c45b64d8c5ef73a71", func := "loop.example/g01019/laws.FnExactHeirsOf", spec := "fnExactHeirsOf", inPlace := ["internal/bytealg.IndexByteString", "internal/bytealg.IndexString"], unfollowed := true, recurses := true, named := ["unicode/utf8.first", "unicode/utf8.acceptRanges", "internal/bytealg.MaxLen"], apart := false, laid := [("unicode/utf8.acceptRanges", laid_unicode_utf8_acceptRanges), ("unicode/utf8.first", laid_unicode_utf8_first)], narrowed := true }
def FnExactHeirsOfUptoSaid : Prop := fnExactHeirsOfUptoRow.holds Tryd.pinned (OpenSpec.upto fnExactHeirsOfSpec)

/-- 'laws.FnExactSharesText', WHERE WHAT IT READS IS OF BULK AT MOST 1048576: true; the input reads as it did. -/
def fnExactSharesTextUptoRow : OpenClaim := { program := "ytimdnihadhbjpaadoor", sum := "bfcb2c7256d9641f968b661c47d8c8b3cdf176b35e6a6f6c45b64d8c5ef73a71", func := "loop.example/g01019/laws.FnExactSharesText", spec := "fnExactSharesText", inPlace := ["internal/bytealg.IndexByteString", "internal/bytealg.IndexString"], unfollowed := true, recurses := true, named := ["unicode/utf8.first", "unicode/utf8.acceptRanges", "internal/strconv.uint64pow10", "math/bits.deBruijn32tab", "math/bits.deBruijn64tab", "internal/bytealg.MaxLen"], apart := false, laid := [("math/bits.deBruijn32tab", laid_math_bits_deBruijn32tab), ("math/bits.deBruijn64tab", laid_math_bits_deBruijn64tab), ("internal/strconv.uint64pow10", laid_internal_strconv_uint64pow10), ("unicode/utf8.acceptRanges", laid_unicode_utf8_acceptRanges), ("unicode/utf8.first", laid_unicode_utf8_first)], narrowed := true }
def FnExactSharesTextUptoSaid : Prop := fnExactSharesTextUptoRow.holds Tryd.pinned (OpenSpec.upto fnExactSharesTextSpec)

/-- 'laws.FnOwners', WHERE WHAT IT READS IS OF BULK AT MOST 1048576: true; the input reads as it did. -/
def fnOwnersUptoRow : OpenClaim := { program := "ytimdnihadhbjpaadoor", sum := "bfcb2c7256d9641f968b661c47d8c8b3cdf176b35e6a6f6c45b64d8c5ef73a71", func := "loop.example/g01019/laws.FnOwners", spec := "fnOwners", inPlace := ["internal/bytealg.IndexByteString", "internal/bytealg.IndexString"], unfollowed := true, recurses := true, named := ["unicode/utf8.first", "unicode/utf8.acceptRanges", "internal/strconv.uint64pow10", "math/bits.deBruijn32tab", "math/bits.deBruijn64tab", "internal/bytealg.MaxLen"], apart := false, laid := [("math/bits.deBruijn32tab", laid_math_bits_deBruijn32tab), ("math/bits.deBruijn64tab", laid_math_bits_deBruijn64tab), ("internal/strconv.uint64pow10", laid_internal_strconv_uint64pow10), ("unicode/utf8.acceptRanges", laid_unicode_utf8_acceptRanges), ("unicode/utf8.first", laid_unicode_utf8_first)], narrowed := true }
def FnOwnersUptoSaid : Prop := fnOwnersUptoRow.holds Tryd.pinned (OpenSpec.upto fnOwnersSpec)

end Rows
end Go.Proofs.YtimdnihadhbjpaaDoor
