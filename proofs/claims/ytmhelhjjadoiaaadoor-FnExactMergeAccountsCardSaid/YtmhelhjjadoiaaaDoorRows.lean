/-
  NARROWER THAN 'FOR EVERY INPUT', by the rows' own cells (each row's printed sentence says how): FnExactIsLook: laid · FnExactIsAccount: laid · FnExactLastChange: laid · FnExactReadsSince: laid · FnExactLongestBurst: laid · FnExactCrossedLooks: laid · FnExactUnexplained: laid · FnExactLookText: laid · FnExactMergeAccounts: laid · FnExactWhoSaw: laid · FnExactSameReason: laid.
  DERIVED. THE GIVEN ROWS OF THIS SEAT. 11 by the template 'for every input the law returns true; each argument reads behind the call as it read before'; 0 by the template 'total and deterministic' (their statements: YtmhelhjjadoiaaaDoorTotals.lean).
  GIVEN WITH THE SEED: the statements are not yours to turn. If you find one false, say at which input.
  Laid BY PROGRAM, IN A SANDBOX (cutbox-rows.mjs): the forced cells as the released guide's own fill.sh prints them over the translation 91024b8e28d4a449… (all of the seat's roots in one cut). By AI agents, Wed Nov 11 2026. No macro, syntax, notation, axiom, sorry.
-/
import Derived.Test.YtmhelhjjadoiaaaDoorChecked
import GoSem.PinnedTables
import GoSem.Claim
import GoSem.ClaimJoined
import GoSem.ClaimMapViews
import Derived.JoinedTies
import Derived.KernelRfl
namespace Go.Proofs.YtmhelhjjadoiaaaDoor
/- THE CELL 'sum', in the pinned program and in every row, IS THE sha256 OF THE DUMP (.gsa) THAT YtmhelhjjadoiaaaDoorProg.lean LOADS. Nothing in Lean hashes anything: it is a label: what it is worth is what the hold of that sum in a sandbox is worth. -/
noncomputable def Tryd.pinned : Pinned := { name := "ytmhelhjjadoiaaadoor", sum := "91024b8e28d4a449da150a7d9ae5ec2970456e5b5089583a63298f8d00ea73c4", checked := Tryd.checked }
namespace Rows
def none {H : Type} : Left H := { results := [], args := [] }

/- WHAT THE LISTED PACKAGE-LEVEL VARIABLES READ AS WHEN THE CALL BEGINS. Each datum BY PROGRAM (the guide's laid-datum.mjs) off the statement by which the dump's own 'gosem.cut.vars' lays the variable. In a bare row this is a premise. The card (YtmhelhjjadoiaaaDoorCards.lean) ties it to the program's text. -/
def laid_unicode_utf8_acceptRanges {H : Type} : DataW H := .agg [.agg [.lit (.int .u8 128), .lit (.int .u8 191)], .agg [.lit (.int .u8 160), .lit (.int .u8 191)], .agg [.lit (.int .u8 128), .lit (.int .u8 159)], .agg [.lit (.int .u8 144), .lit (.int .u8 191)], .agg [.lit (.int .u8 128), .lit (.int .u8 143)], .agg [.lit (.int .u8 0), .lit (.int .u8 0)], .agg [.lit (.int .u8 0), .lit (.int .u8 0)], .agg [.lit (.int .u8 0), .lit (.int .u8 0)], .agg [.lit (.int .u8 0), .lit (.int .u8 0)], .agg [.lit (.int .u8 0), .lit (.int .u8 0)], .agg [.lit (.int .u8 0), .lit (.int .u8 0)], .agg [.lit (.int .u8 0), .lit (.int .u8 0)], .agg [.lit (.int .u8 0), .lit (.int .u8 0)], .agg [.lit (.int .u8 0), .lit (.int .u8 0)], .agg [.lit (.int .u8 0), .lit (.int .u8 0)], .agg [.lit (.int .u8 0), .lit (.int .u8 0)]]
/-- One of Go's own tables, pinned by name: the form's constant. -/
def laid_unicode_utf8_first : DataW Unit := Go.Pinned.utf8First
def laid_math_bits_deBruijn32tab {H : Type} : DataW H := .agg [.lit (.int .u8 0), .lit (.int .u8 1), .lit (.int .u8 28), .lit (.int .u8 2), .lit (.int .u8 29), .lit (.int .u8 14), .lit (.int .u8 24), .lit (.int .u8 3), .lit (.int .u8 30), .lit (.int .u8 22), .lit (.int .u8 20), .lit (.int .u8 15), .lit (.int .u8 25), .lit (.int .u8 17), .lit (.int .u8 4), .lit (.int .u8 8), .lit (.int .u8 31), .lit (.int .u8 27), .lit (.int .u8 13), .lit (.int .u8 23), .lit (.int .u8 21), .lit (.int .u8 19), .lit (.int .u8 16), .lit (.int .u8 7), .lit (.int .u8 26), .lit (.int .u8 12), .lit (.int .u8 18), .lit (.int .u8 6), .lit (.int .u8 11), .lit (.int .u8 5), .lit (.int .u8 10), .lit (.int .u8 9)]
def laid_math_bits_deBruijn64tab {H : Type} : DataW H := .agg [.lit (.int .u8 0), .lit (.int .u8 1), .lit (.int .u8 56), .lit (.int .u8 2), .lit (.int .u8 57), .lit (.int .u8 49), .lit (.int .u8 28), .lit (.int .u8 3), .lit (.int .u8 61), .lit (.int .u8 58), .lit (.int .u8 42), .lit (.int .u8 50), .lit (.int .u8 38), .lit (.int .u8 29), .lit (.int .u8 17), .lit (.int .u8 4), .lit (.int .u8 62), .lit (.int .u8 47), .lit (.int .u8 59), .lit (.int .u8 36), .lit (.int .u8 45), .lit (.int .u8 43), .lit (.int .u8 51), .lit (.int .u8 22), .lit (.int .u8 53), .lit (.int .u8 39), .lit (.int .u8 33), .lit (.int .u8 30), .lit (.int .u8 24), .lit (.int .u8 18), .lit (.int .u8 12), .lit (.int .u8 5), .lit (.int .u8 63), .lit (.int .u8 55), .lit (.int .u8 48), .lit (.int .u8 27), .lit (.int .u8 60), .lit (.int .u8 41), .lit (.int .u8 37), .lit (.int .u8 16), .lit (.int .u8 46), .lit (.int .u8 35), .lit (.int .u8 44), .lit (.int .u8 21), .lit (.int .u8 52), .lit (.int .u8 32), .lit (.int .u8 23), .lit (.int .u8 11), .lit (.int .u8 54), .lit (.int .u8 26), .lit (.int .u8 40), .lit (.int .u8 15), .lit (.int .u8 34), .lit (.int .u8 20), .lit (.int .u8 31), .lit (.int .u8 10), .lit (.int .u8 25), .lit (.int .u8 14), .lit (.int .u8 19), .lit (.int .u8 9), .lit (.int .u8 13), .lit (.int .u8 8), .lit (.int .u8 7), .lit (.int .u8 6)]
def laid_internal_strconv_uint64pow10 {H : Type} : DataW H := .agg [.lit (.int .u64 1), .lit (.int .u64 10), .lit (.int .u64 100), .lit (.int .u64 1000), .lit (.int .u64 10000), .lit (.int .u64 100000), .lit (.int .u64 1000000), .lit (.int .u64 10000000), .lit (.int .u64 100000000), .lit (.int .u64 1000000000), .lit (.int .u64 10000000000), .lit (.int .u64 100000000000), .lit (.int .u64 1000000000000), .lit (.int .u64 10000000000000), .lit (.int .u64 100000000000000), .lit (.int .u64 1000000000000000), .lit (.int .u64 10000000000000000), .lit (.int .u64 100000000000000000), .lit (.int .u64 1000000000000000000), .lit (.int .u64 10000000000000000000)]

/-- 'laws.FnExactIsLook': WHATEVER THE INPUT: true; the input reads as it did. -/
def fnExactIsLookSpec : ChangeSpec := { name := "fnExactIsLook", fn := fun _ => fun
  | [d] => { results := [.lit (.bool true)], args := [d] }
  | _ => none }
def fnExactIsLookRow : OpenClaim := { program := "ytmhelhjjadoiaaadoor", sum := "91024b8e28d4a449da150a7d9ae5ec2970456e5b5089583a63298f8d00ea73c4", func := "loop.example/g01035/laws.FnExactIsLook", spec := "fnExactIsLook", inPlace := ["internal/bytealg.IndexByteString", "internal/bytealg.IndexString"], named := ["unicode/utf8.first", "unicode/utf8.acceptRanges", "internal/bytealg.MaxLen"], apart := false, laid := [("unicode/utf8.acceptRanges", laid_unicode_utf8_acceptRanges), ("unicode/utf8.first", laid_unicode_utf8_first)] }
def FnExactIsLookSaid : Prop := fnExactIsLookRow.holds Tryd.pinned (OpenSpec.ofChange fnExactIsLookSpec)

/-- ITS FALSE NEIGHBOUR: 'it returns false'. Refute it at one input. -/
def fnExactIsLookWrong : ChangeSpec := { name := "fnExactIsLook", fn := fun _ => fun
  | [d] => { results := [.lit (.bool false)], args := [d] }
  | _ => none }
def FnExactIsLookWrongFalsely : Prop := fnExactIsLookRow.holds Tryd.pinned (OpenSpec.ofChange fnExactIsLookWrong)

/-- 'laws.FnExactIsAccount': WHATEVER THE INPUT: true; the input reads as it did. -/
def fnExactIsAccountSpec : ChangeSpec := { name := "fnExactIsAccount", fn := fun _ => fun
  | [d] => { results := [.lit (.bool true)], args := [d] }
  | _ => none }
def fnExactIsAccountRow : OpenClaim := { program := "ytmhelhjjadoiaaadoor", sum := "91024b8e28d4a449da150a7d9ae5ec2970456e5b5089583a63298f8d00ea73c4", func := "loop.example/g01035/laws.FnExactIsAccount", spec := "fnExactIsAccount", inPlace := ["internal/bytealg.IndexByteString", "internal/bytealg.IndexString"], named := ["unicode/utf8.first", "unicode/utf8.acceptRanges", "internal/bytealg.MaxLen"], apart := false, laid := [("unicode/utf8.acceptRanges", laid_unicode_utf8_acceptRanges), ("unicode/utf8.first", laid_unicode_utf8_first)] }
def FnExactIsAccountSaid : Prop := fnExactIsAccountRow.holds Tryd.pinned (OpenSpec.ofChange fnExactIsAccountSpec)

/-- ITS FALSE NEIGHBOUR: 'it returns false'. Refute it at one input. -/
def fnExactIsAccountWrong : ChangeSpec := { name := "fnExactIsAccount", fn := fun _ => fun
  | [d] => { results := [.lit (.bool false)], args := [d] }
  | _ => none }
def FnExactIsAccountWrongFalsely : Prop := fnExactIsAccountRow.holds Tryd.pinned (OpenSpec.ofChange fnExactIsAccountWrong)

/-- 'laws.FnExactLastChange': WHATEVER THE INPUT: true; the input reads as it did. -/
def fnExactLastChangeSpec : ChangeSpec := { name := "fnExactLastChange", fn := fun _ => fun
  | [d1, d2] => { results := [.lit (.bool true)], args := [d1, d2] }
  | _ => none }
def fnExactLastChangeRow : OpenClaim := { program := "ytmhelhjjadoiaaadoor", sum := "91024b8e28d4a449da150a7d9ae5ec2970456e5b5089583a63298f8d00ea73c4", func := "loop.example/g01035/laws.FnExactLastChange", spec := "fnExactLastChange", inPlace := ["internal/bytealg.IndexByteString", "internal/bytealg.IndexString"], named := ["unicode/utf8.first", "unicode/utf8.acceptRanges", "internal/bytealg.MaxLen"], apart := false, laid := [("unicode/utf8.acceptRanges", laid_unicode_utf8_acceptRanges), ("unicode/utf8.first", laid_unicode_utf8_first)] }
def FnExactLastChangeSaid : Prop := fnExactLastChangeRow.holds Tryd.pinned (OpenSpec.ofChange fnExactLastChangeSpec)

/-- ITS FALSE NEIGHBOUR: 'it returns false'. Refute it at one input. -/
def fnExactLastChangeWrong : ChangeSpec := { name := "fnExactLastChange", fn := fun _ => fun
  | [d1, d2] => { results := [.lit (.bool false)], args := [d1, d2] }
  | _ => none }
def FnExactLastChangeWrongFalsely : Prop := fnExactLastChangeRow.holds Tryd.pinned (OpenSpec.ofChange fnExactLastChangeWrong)

/-- 'laws.FnExactReadsSince': WHATEVER THE INPUT: true; the input reads as it did. -/
def fnExactReadsSinceSpec : ChangeSpec := { name := "fnExactReadsSince", fn := fun _ => fun
  | [d1, d2] => { results := [.lit (.bool true)], args := [d1, d2] }
  | _ => none }
def fnExactReadsSinceRow : OpenClaim := { program := "ytmhelhjjadoiaaadoor", sum := "91024b8e28d4a449da150a7d9ae5ec2970456e5b5089583a63298f8d00ea73c4", func := "loop.example/g01035/laws.FnExactReadsSince", spec := "fnExactReadsSince", inPlace := ["internal/bytealg.IndexByteString", "internal/bytealg.IndexString"], named := ["unicode/utf8.first", "unicode/utf8.acceptRanges", "internal/bytealg.MaxLen"], apart := false, laid := [("unicode/utf8.acceptRanges", laid_unicode_utf8_acceptRanges), ("unicode/utf8.first", laid_unicode_utf8_first)] }
def FnExactReadsSinceSaid : Prop := fnExactReadsSinceRow.holds Tryd.pinned (OpenSpec.ofChange fnExactReadsSinceSpec)

/-- ITS FALSE NEIGHBOUR: 'it returns false'. Refute it at one input. -/
def fnExactReadsSinceWrong : ChangeSpec := { name := "fnExactReadsSince", fn := fun _ => fun
  | [d1, d2] => { results := [.lit (.bool false)], args := [d1, d2] }
  | _ => none }
def FnExactReadsSinceWrongFalsely : Prop := fnExactReadsSinceRow.holds Tryd.pinned (OpenSpec.ofChange fnExactReadsSinceWrong)

/-- 'laws.FnExactLongestBurst': WHATEVER THE INPUT: true; the input reads as it did. -/
def fnExactLongestBurstSpec : ChangeSpec := { name := "fnExactLongestBurst", fn := fun _ => fun
  | [d1, d2, d3] => { results := [.lit (.bool true)], args := [d1, d2, d3] }
  | _ => none }
def fnExactLongestBurstRow : OpenClaim := { program := "ytmhelhjjadoiaaadoor", sum := "91024b8e28d4a449da150a7d9ae5ec2970456e5b5089583a63298f8d00ea73c4", func := "loop.example/g01035/laws.FnExactLongestBurst", spec := "fnExactLongestBurst", inPlace := ["internal/bytealg.IndexByteString", "internal/bytealg.IndexString"], named := ["unicode/utf8.first", "unicode/utf8.acceptRanges", "internal/bytealg.MaxLen"], apart := false, laid := [("unicode/utf8.acceptRanges", laid_unicode_utf8_acceptRanges), ("unicode/utf8.first", laid_unicode_utf8_first)] }
def FnExactLongestBurstSaid : Prop := fnExactLongestBurstRow.holds Tryd.pinned (OpenSpec.ofChange fnExactLongestBurstSpec)

/-- ITS FALSE NEIGHBOUR: 'it returns false'. Refute it at one input. -/
def fnExactLongestBurstWrong : ChangeSpec := { name := "fnExactLongestBurst", fn := fun _ => fun
  | [d1, d2, d3] => { results := [.lit (.bool false)], args := [d1, d2, d3] }
  | _ => none }
def FnExactLongestBurstWrongFalsely : Prop := fnExactLongestBurstRow.holds Tryd.pinned (OpenSpec.ofChange fnExactLongestBurstWrong)

/-- 'laws.FnExactCrossedLooks': WHATEVER THE INPUT: true; the input reads as it did. -/
def fnExactCrossedLooksSpec : ChangeSpec := { name := "fnExactCrossedLooks", fn := fun _ => fun
  | [d1, d2] => { results := [.lit (.bool true)], args := [d1, d2] }
  | _ => none }
def fnExactCrossedLooksRow : OpenClaim := { program := "ytmhelhjjadoiaaadoor", sum := "91024b8e28d4a449da150a7d9ae5ec2970456e5b5089583a63298f8d00ea73c4", func := "loop.example/g01035/laws.FnExactCrossedLooks", spec := "fnExactCrossedLooks", inPlace := ["internal/bytealg.IndexByteString", "internal/bytealg.IndexString"], named := ["unicode/utf8.first", "unicode/utf8.acceptRanges", "internal/bytealg.MaxLen"], apart := false, laid := [("unicode/utf8.acceptRanges", laid_unicode_utf8_acceptRanges), ("unicode/utf8.first", laid_unicode_utf8_first)] }
def FnExactCrossedLooksSaid : Prop := fnExactCrossedLooksRow.holds Tryd.pinned (OpenSpec.ofChange fnExactCrossedLooksSpec)

/-- ITS FALSE NEIGHBOUR: 'it returns false'. Refute it at one input. -/
def fnExactCrossedLooksWrong : ChangeSpec := { name := "fnExactCrossedLooks", fn := fun _ => fun
  | [d1, d2] => { results := [.lit (.bool false)], args := [d1, d2] }
  | _ => none }
def FnExactCrossedLooksWrongFalsely : Prop := fnExactCrossedLooksRow.holds Tryd.pinned (OpenSpec.ofChange fnExactCrossedLooksWrong)

/-- 'laws.FnExactUnexplained': WHATEVER THE INPUT: true; the input reads as it did. -/
def fnExactUnexplainedSpec : ChangeSpec := { name := "fnExactUnexplained", fn := fun _ => fun
  | [d1, d2] => { results := [.lit (.bool true)], args := [d1, d2] }
  | _ => none }
def fnExactUnexplainedRow : OpenClaim := { program := "ytmhelhjjadoiaaadoor", sum := "91024b8e28d4a449da150a7d9ae5ec2970456e5b5089583a63298f8d00ea73c4", func := "loop.example/g01035/laws.FnExactUnexplained", spec := "fnExactUnexplained", inPlace := ["internal/bytealg.IndexByteString", "internal/bytealg.IndexString"], unfollowed := true, recurses := true, named := ["unicode/utf8.first", "unicode/utf8.acceptRanges", "internal/bytealg.MaxLen"], apart := false, laid := [("unicode/utf8.acceptRanges", laid_unicode_utf8_acceptRanges), ("unicode/utf8.first", laid_unicode_utf8_first)] }
def FnExactUnexplainedSaid : Prop := fnExactUnexplainedRow.holds Tryd.pinned (OpenSpec.ofChange fnExactUnexplainedSpec)

/-- ITS FALSE NEIGHBOUR: 'it returns false'. Refute it at one input. -/
def fnExactUnexplainedWrong : ChangeSpec := { name := "fnExactUnexplained", fn := fun _ => fun
  | [d1, d2] => { results := [.lit (.bool false)], args := [d1, d2] }
  | _ => none }
def FnExactUnexplainedWrongFalsely : Prop := fnExactUnexplainedRow.holds Tryd.pinned (OpenSpec.ofChange fnExactUnexplainedWrong)

/-- 'laws.FnExactLookText': WHATEVER THE INPUT: true; the input reads as it did. -/
def fnExactLookTextSpec : ChangeSpec := { name := "fnExactLookText", fn := fun _ => fun
  | [d] => { results := [.lit (.bool true)], args := [d] }
  | _ => none }
def fnExactLookTextRow : OpenClaim := { program := "ytmhelhjjadoiaaadoor", sum := "91024b8e28d4a449da150a7d9ae5ec2970456e5b5089583a63298f8d00ea73c4", func := "loop.example/g01035/laws.FnExactLookText", spec := "fnExactLookText", inPlace := ["internal/bytealg.IndexByteString", "internal/bytealg.IndexString"], recurses := true, named := ["unicode/utf8.first", "unicode/utf8.acceptRanges", "internal/strconv.uint64pow10", "math/bits.deBruijn32tab", "math/bits.deBruijn64tab", "internal/bytealg.MaxLen"], apart := false, laid := [("math/bits.deBruijn32tab", laid_math_bits_deBruijn32tab), ("math/bits.deBruijn64tab", laid_math_bits_deBruijn64tab), ("internal/strconv.uint64pow10", laid_internal_strconv_uint64pow10), ("unicode/utf8.acceptRanges", laid_unicode_utf8_acceptRanges), ("unicode/utf8.first", laid_unicode_utf8_first)] }
def FnExactLookTextSaid : Prop := fnExactLookTextRow.holds Tryd.pinned (OpenSpec.ofChange fnExactLookTextSpec)

/-- ITS FALSE NEIGHBOUR: 'it returns false'. Refute it at one input. -/
def fnExactLookTextWrong : ChangeSpec := { name := "fnExactLookText", fn := fun _ => fun
  | [d] => { results := [.lit (.bool false)], args := [d] }
  | _ => none }
def FnExactLookTextWrongFalsely : Prop := fnExactLookTextRow.holds Tryd.pinned (OpenSpec.ofChange fnExactLookTextWrong)

/-- 'laws.FnExactMergeAccounts': WHATEVER THE INPUT: true; the input reads as it did. -/
def fnExactMergeAccountsSpec : ChangeSpec := { name := "fnExactMergeAccounts", fn := fun _ => fun
  | [d1, d2] => { results := [.lit (.bool true)], args := [d1, d2] }
  | _ => none }
def fnExactMergeAccountsRow : OpenClaim := { program := "ytmhelhjjadoiaaadoor", sum := "91024b8e28d4a449da150a7d9ae5ec2970456e5b5089583a63298f8d00ea73c4", func := "loop.example/g01035/laws.FnExactMergeAccounts", spec := "fnExactMergeAccounts", inPlace := ["internal/bytealg.IndexByteString", "internal/bytealg.IndexString"], unfollowed := true, recurses := true, named := ["unicode/utf8.first", "unicode/utf8.acceptRanges", "internal/bytealg.MaxLen"], apart := false, laid := [("unicode/utf8.acceptRanges", laid_unicode_utf8_acceptRanges), ("unicode/utf8.first", laid_unicode_utf8_first)] }
def FnExactMergeAccountsSaid : Prop := fnExactMergeAccountsRow.holds Tryd.pinned (OpenSpec.ofChange fnExactMergeAccountsSpec)

/-- ITS FALSE NEIGHBOUR: 'it returns false'. Refute it at one input. -/
def fnExactMergeAccountsWrong : ChangeSpec := { name := "fnExactMergeAccounts", fn := fun _ => fun
  | [d1, d2] => { results := [.lit (.bool false)], args := [d1, d2] }
  | _ => none }
def FnExactMergeAccountsWrongFalsely : Prop := fnExactMergeAccountsRow.holds Tryd.pinned (OpenSpec.ofChange fnExactMergeAccountsWrong)

/-- 'laws.FnExactWhoSaw': WHATEVER THE INPUT: true; the input reads as it did. -/
def fnExactWhoSawSpec : ChangeSpec := { name := "fnExactWhoSaw", fn := fun _ => fun
  | [d1, d2] => { results := [.lit (.bool true)], args := [d1, d2] }
  | _ => none }
def fnExactWhoSawRow : OpenClaim := { program := "ytmhelhjjadoiaaadoor", sum := "91024b8e28d4a449da150a7d9ae5ec2970456e5b5089583a63298f8d00ea73c4", func := "loop.example/g01035/laws.FnExactWhoSaw", spec := "fnExactWhoSaw", inPlace := ["internal/bytealg.IndexByteString", "internal/bytealg.IndexString"], recurses := true, named := ["unicode/utf8.first", "unicode/utf8.acceptRanges", "internal/bytealg.MaxLen"], apart := false, laid := [("unicode/utf8.acceptRanges", laid_unicode_utf8_acceptRanges), ("unicode/utf8.first", laid_unicode_utf8_first)] }
def FnExactWhoSawSaid : Prop := fnExactWhoSawRow.holds Tryd.pinned (OpenSpec.ofChange fnExactWhoSawSpec)

/-- ITS FALSE NEIGHBOUR: 'it returns false'. Refute it at one input. -/
def fnExactWhoSawWrong : ChangeSpec := { name := "fnExactWhoSaw", fn := fun _ => fun
  | [d1, d2] => { results := [.lit (.bool false)], args := [d1, d2] }
  | _ => none }
def FnExactWhoSawWrongFalsely : Prop := fnExactWhoSawRow.holds Tryd.pinned (OpenSpec.ofChange fnExactWhoSawWrong)

/-- 'laws.FnExactSameReason': WHATEVER THE INPUT: true; the input reads as it did. -/
def fnExactSameReasonSpec : ChangeSpec := { name := "fnExactSameReason", fn := fun _ => fun
  | [d] => { results := [.lit (.bool true)], args := [d] }
  | _ => none }
def fnExactSameReasonRow : OpenClaim := { program := "ytmhelhjjadoiaaadoor", sum := "91024b8e28d4a449da150a7d9ae5ec2970456e5b5089583a63298f8d00ea73c4", func := "loop.example/g01035/laws.FnExactSameReason", spec := "fnExactSameReason", inPlace := ["internal/bytealg.IndexByteString", "internal/bytealg.IndexString"], unfollowed := true, recurses := true, named := ["unicode/utf8.first", "unicode/utf8.acceptRanges", "internal/bytealg.MaxLen"], apart := false, laid := [("unicode/utf8.acceptRanges", laid_unicode_utf8_acceptRanges), ("unicode/utf8.first", laid_unicode_utf8_first)] }
def FnExactSameReasonSaid : Prop := fnExactSameReasonRow.holds Tryd.pinned (OpenSpec.ofChange fnExactSameReasonSpec)

/-- ITS FALSE NEIGHBOUR: 'it returns false'. Refute it at one input. -/
def fnExactSameReasonWrong : ChangeSpec := { name := "fnExactSameReason", fn := fun _ => fun
  | [d] => { results := [.lit (.bool false)], args := [d] }
  | _ => none }
def FnExactSameReasonWrongFalsely : Prop := fnExactSameReasonRow.holds Tryd.pinned (OpenSpec.ofChange fnExactSameReasonWrong)

/- THE SECOND FORM. 'bulk': how many values and letters a reading holds, each counted each time it is reached (what is shared counts as often as it is met; a slice's spare places count too). A statement '..UptoSaid' is the law's where the arguments, and the package variables that the reading takes, are together of bulk at most 1048576: NARROWER than '..Said'. Prove '..Said' where nothing that the law and all that it calls make is longer than what came in: it says more and counts as full. Else prove '..UptoSaid'. A law counts once. -/
mutual
def uptoBulk {H : Type} : DataW H → Nat
  | .lit (.string bytes) => bytes.length + 1
  | .lit _ => 1
  | .nil => 1
  | .ptr d => uptoBulk d + 1
  | .slice elems spare => uptoBulkAll elems + uptoBulkAll spare + 1
  | .agg parts => uptoBulkAll parts + 1
  | .iface _ d => uptoBulk d + 1
  | .map entries => uptoBulkEntries entries + 1
  | .held _ => 1
def uptoBulkAll {H : Type} : List (DataW H) → Nat
  | [] => 0
  | d :: r => uptoBulk d + uptoBulkAll r
def uptoBulkEntries {H : Type} : List (Lit × DataW H) → Nat
  | [] => 0
  | x :: r => uptoBulkEntry x + uptoBulkEntries r
def uptoBulkEntry {H : Type} : Lit × DataW H → Nat
  | (.string bytes, d) => bytes.length + uptoBulk d + 1
  | (_, d) => uptoBulk d + 1
 end
def uptoSmall : (H : Type) → List (DataW H) → Bool := fun _ ds => decide (uptoBulkAll ds ≤ 1048576)
def OpenSpec.upto (s : _root_.Go.ChangeSpec) : _root_.Go.OpenSpec := { _root_.Go.OpenSpec.ofChange s with cond := some uptoSmall }

/-- 'laws.FnExactIsLook', WHERE WHAT IT READS IS OF BULK AT MOST 1048576: true; the input reads as it did. -/
def fnExactIsLookUptoRow : OpenClaim := { program := "ytmhelhjjadoiaaadoor", sum := "91024b8e28d4a449da150a7d9ae5ec2970456e5b5089583a63298f8d00ea73c4", func := "loop.example/g01035/laws.FnExactIsLook", spec := "fnExactIsLook", inPlace := ["internal/bytealg.IndexByteString", "internal/bytealg.IndexString"], named := ["unicode/utf8.first", "unicode/utf8.acceptRanges", "internal/bytealg.MaxLen"], apart := false, laid := [("unicode/utf8.acceptRanges", laid_unicode_utf8_acceptRanges), ("unicode/utf8.first", laid_unicode_utf8_first)], narrowed := true }
def FnExactIsLookUptoSaid : Prop := fnExactIsLookUptoRow.holds Tryd.pinned (OpenSpec.upto fnExactIsLookSpec)

/-- 'laws.FnExactIsAccount', WHERE WHAT IT READS IS OF BULK AT MOST 1048576: true; the input reads as it did. -/
def fnExactIsAccountUptoRow : OpenClaim := { program := "ytmhelhjjadoiaaadoor", sum := "91024b8e28d4a449da150a7d9ae5ec2970456e5b5089583a63298f8d00ea73c4", func := "loop.example/g01035/laws.FnExactIsAccount", spec := "fnExactIsAccount", inPlace := ["internal/bytealg.IndexByteString", "internal/bytealg.IndexString"], named := ["unicode/utf8.first", "unicode/utf8.acceptRanges", "internal/bytealg.MaxLen"], apart := false, laid := [("unicode/utf8.acceptRanges", laid_unicode_utf8_acceptRanges), ("unicode/utf8.first", laid_unicode_utf8_first)], narrowed := true }
def FnExactIsAccountUptoSaid : Prop := fnExactIsAccountUptoRow.holds Tryd.pinned (OpenSpec.upto fnExactIsAccountSpec)

/-- 'laws.FnExactLastChange', WHERE WHAT IT READS IS OF BULK AT MOST 1048576: true; the input reads as it did. -/
def fnExactLastChangeUptoRow : OpenClaim := { program := "ytmhelhjjadoiaaadoor", sum := "91024b8e28d4a449da150a7d9ae5ec2970456e5b5089583a63298f8d00ea73c4", func := "loop.example/g01035/laws.FnExactLastChange", spec := "fnExactLastChange", inPlace := ["internal/bytealg.IndexByteString", "internal/bytealg.IndexString"], named := ["unicode/utf8.first", "unicode/utf8.acceptRanges", "internal/bytealg.MaxLen"], apart := false, laid := [("unicode/utf8.acceptRanges", laid_unicode_utf8_acceptRanges), ("unicode/utf8.first", laid_unicode_utf8_first)], narrowed := true }
def FnExactLastChangeUptoSaid : Prop := fnExactLastChangeUptoRow.holds Tryd.pinned (OpenSpec.upto fnExactLastChangeSpec)

/-- 'laws.FnExactReadsSince', WHERE WHAT IT READS IS OF BULK AT MOST 1048576: true; the input reads as it did. -/
def fnExactReadsSinceUptoRow : OpenClaim := { program := "ytmhelhjjadoiaaadoor", sum := "91024b8e28d4a449da150a7d9ae5ec2970456e5b5089583a63298f8d00ea73c4", func := "loop.example/g01035/laws.FnExactReadsSince", spec := "fnExactReadsSince", inPlace := ["internal/bytealg.IndexByteString", "internal/bytealg.IndexString"], named := ["unicode/utf8.first", "unicode/utf8.acceptRanges", "internal/bytealg.MaxLen"], apart := false, laid := [("unicode/utf8.acceptRanges", laid_unicode_utf8_acceptRanges), ("unicode/utf8.first", laid_unicode_utf8_first)], narrowed := true }
def FnExactReadsSinceUptoSaid : Prop := fnExactReadsSinceUptoRow.holds Tryd.pinned (OpenSpec.upto fnExactReadsSinceSpec)

/-- 'laws.FnExactLongestBurst', WHERE WHAT IT READS IS OF BULK AT MOST 1048576: true; the input reads as it did. -/
def fnExactLongestBurstUptoRow : OpenClaim := { program := "ytmhelhjjadoiaaadoor", sum := "91024b8e28d4a449da150a7d9ae5ec2970456e5b5089583a63298f8d00ea73c4", func := "loop.example/g01035/laws.FnExactLongestBurst", spec := "fnExactLongestBurst", inPlace := ["internal/bytealg.IndexByteString", "internal/bytealg.IndexString"], named := ["unicode/utf8.first", "unicode/utf8.acceptRanges", "internal/bytealg.MaxLen"], apart := false, laid := [("unicode/utf8.acceptRanges", laid_unicode_utf8_acceptRanges), ("unicode/utf8.first", laid_unicode_utf8_first)], narrowed := true }
def FnExactLongestBurstUptoSaid : Prop := fnExactLongestBurstUptoRow.holds Tryd.pinned (OpenSpec.upto fnExactLongestBurstSpec)

/-- 'laws.FnExactCrossedLooks', WHERE WHAT IT READS IS OF BULK AT MOST 1048576: true; the input reads as it did. -/
def fnExactCrossedLooksUptoRow : OpenClaim := { program := "ytmhelhjjadoiaaadoor", sum := "91024b8e28d4a449da150a7d9ae5ec2970456e5b5089583a63298f8d00ea73c4", func := "loop.example/g01035/laws.FnExactCrossedLooks", spec := "fnExactCrossedLooks", inPlace := ["internal/bytealg.IndexByteString", "internal/bytealg.IndexString"], named := ["unicode/utf8.first", "unicode/utf8.acceptRanges", "internal/bytealg.MaxLen"], apart := false, laid := [("unicode/utf8.acceptRanges", laid_unicode_utf8_acceptRanges), ("unicode/utf8.first", laid_unicode_utf8_first)], narrowed := true }
def FnExactCrossedLooksUptoSaid : Prop := fnExactCrossedLooksUptoRow.holds Tryd.pinned (OpenSpec.upto fnExactCrossedLooksSpec)

/-- 'laws.FnExactUnexplained', WHERE WHAT IT READS IS OF BULK AT MOST 1048576: true; the input reads as it did. -/
def fnExactUnexplainedUptoRow : OpenClaim := { program := "ytmhelhjjadoiaaadoor", sum := "91024b8e28d4a449da150a7d9ae5ec2970456e5b5089583a63298f8d00ea73c4", func := "loop.example/g01035/laws.FnExactUnexplained", spec := "fnExactUnexplained", inPlace := ["internal/bytealg.IndexByteString", "internal/bytealg.IndexString"], unfollowed := true, recurses := true, named := ["unicode/utf8.first", "unicode/utf8.acceptRanges", "internal/bytealg.MaxLen"], apart := false, laid := [("unicode/utf8.acceptRanges", laid_unicode_utf8_acceptRanges), ("unicode/utf8.first", laid_unicode_utf8_first)], narrowed := true }
def FnExactUnexplainedUptoSaid : Prop := fnExactUnexplainedUptoRow.holds Tryd.pinned (OpenSpec.upto fnExactUnexplainedSpec)

/-- 'laws.FnExactLookText', WHERE WHAT IT READS IS OF BULK AT MOST 1048576: true; the input reads as it did. -/
def fnExactLookTextUptoRow : OpenClaim := { program := "ytmhelhjjadoiaaadoor", sum := "91024b8e28d4a449da150a7d9ae5ec2970456e5b5089583a63298f8d00ea73c4", func := "loop.example/g01035/laws.FnExactLookText", spec := "fnExactLookText", inPlace := ["internal/bytealg.IndexByteString", "internal/bytealg.IndexString"], recurses := true, named := ["unicode/utf8.first", "unicode/utf8.acceptRanges", "internal/strconv.uint64pow10", "math/bits.deBruijn32tab", "math/bits.deBruijn64tab", "internal/bytealg.MaxLen"], apart := false, laid := [("math/bits.deBruijn32tab", laid_math_bits_deBruijn32tab), ("math/bits.deBruijn64tab", laid_math_bits_deBruijn64tab), ("internal/strconv.uint64pow10", laid_internal_strconv_uint64pow10), ("unicode/utf8.acceptRanges", laid_unicode_utf8_acceptRanges), ("unicode/utf8.first", laid_unicode_utf8_first)], narrowed := true }
def FnExactLookTextUptoSaid : Prop := fnExactLookTextUptoRow.holds Tryd.pinned (OpenSpec.upto fnExactLookTextSpec)

/-- 'laws.FnExactMergeAccounts', WHERE WHAT IT READS IS OF BULK AT MOST 1048576: true; the input reads as it did. -/
def fnExactMergeAccountsUptoRow : OpenClaim := { program := "ytmhelhjjadoiaaadoor", sum := "91024b8e28d4a449da150a7d9ae5ec2970456e5b5089583a63298f8d00ea73c4", func := "loop.example/g01035/laws.FnExactMergeAccounts", spec := "fnExactMergeAccounts", inPlace := ["internal/bytealg.IndexByteString", "internal/bytealg.IndexString"], unfollowed := true, recurses := true, named := ["unicode/utf8.first", "unicode/utf8.acceptRanges", "internal/bytealg.MaxLen"], apart := false, laid := [("unicode/utf8.acceptRanges", laid_unicode_utf8_acceptRanges), ("unicode/utf8.first", laid_unicode_utf8_first)], narrowed := true }
def FnExactMergeAccountsUptoSaid : Prop := fnExactMergeAccountsUptoRow.holds Tryd.pinned (OpenSpec.upto fnExactMergeAccountsSpec)

/-- 'laws.FnExactWhoSaw', WHERE WHAT IT READS IS OF BULK AT MOST 1048576: true; the input reads as it did. -/
def fnExactWhoSawUptoRow : OpenClaim := { program := "ytmhelhjjadoiaaadoor", sum := "91024b8e28d4a449da150a7d9ae5ec2970456e5b5089583a63298f8d00ea73c4", func := "loop.example/g01035/laws.FnExactWhoSaw", spec := "fnExactWhoSaw", inPlace := ["internal/bytealg.IndexByteString", "internal/bytealg.IndexString"], recurses := true, named := ["unicode/utf8.first", "unicode/utf8.acceptRanges", "internal/bytealg.MaxLen"], apart := false, laid := [("unicode/utf8.acceptRanges", laid_unicode_utf8_acceptRanges), ("unicode/utf8.first", laid_unicode_utf8_first)], narrowed := true }
def FnExactWhoSawUptoSaid : Prop := fnExactWhoSawUptoRow.holds Tryd.pinned (OpenSpec.upto fnExactWhoSawSpec)

/-- 'laws.FnExactSameReason', WHERE WHAT IT READS IS OF BULK AT MOST 1048576: true; the input reads as it did. -/
def fnExactSameReasonUptoRow : OpenClaim := { program := "ytmhelhjjadoiaaadoor", sum := "91024b8e28d4a449da150a7d9ae5ec2970456e5b5089583a63298f8d00ea73c4", func := "loop.example/g01035/laws.FnExactSameReason", spec := "fnExactSameReason", inPlace := ["internal/bytealg.IndexByteString", "internal/bytealg.IndexString"], unfollowed := true, recurses := true, named := ["unicode/utf8.first", "unicode/utf8.acceptRanges", "internal/bytealg.MaxLen"], apart := false, laid := [("unicode/utf8.acceptRanges", laid_unicode_utf8_acceptRanges), ("unicode/utf8.first", laid_unicode_utf8_first)], narrowed := true }
def FnExactSameReasonUptoSaid : Prop := fnExactSameReasonUptoRow.holds Tryd.pinned (OpenSpec.upto fnExactSameReasonSpec)

end Rows
end Go.Proofs.YtmhelhjjadoiaaaDoor
