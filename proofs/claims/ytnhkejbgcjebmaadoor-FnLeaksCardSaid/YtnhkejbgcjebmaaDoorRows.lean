/-
  NARROWER THAN 'FOR EVERY INPUT', by the rows' own cells (each row's printed sentence says how): FnExactPaddedLength: laid · FnExactIsClue: laid · FnExactLengthClue: laid · FnExactIsDictionary: laid · FnExactIndexClue: laid · FnExactStepFor: laid · FnExactIsSafeClue: laid · FnExactLeastSafe: laid · FnExactCandidates: laid · FnExactWhatLeaks: laid · FnClues: laid · FnLeaks: laid.
  DERIVED. THE GIVEN ROWS OF THIS SEAT. 12 by the template 'for every input the law returns true; each argument reads behind the call as it read before'; 0 by the template 'total and deterministic' (their statements: YtnhkejbgcjebmaaDoorTotals.lean).
  GIVEN WITH THE SEED: the statements are not yours to turn. If you find one false, say at which input.
  Laid BY PROGRAM, IN A SANDBOX (cutbox-rows.mjs): the forced cells as the released guide's own fill.sh prints them over the translation 46e3d201bf7cff61… (all of the seat's roots in one cut). By AI agents, Wed Nov 11 2026. No macro, syntax, notation, axiom, sorry.
-/
import Derived.Test.YtnhkejbgcjebmaaDoorChecked
import GoSem.PinnedTables
import GoSem.Claim
import GoSem.ClaimJoined
import GoSem.ClaimMapViews
import Derived.JoinedTies
import Derived.KernelRfl
namespace Go.Proofs.YtnhkejbgcjebmaaDoor
/- THE CELL 'sum', in the pinned program and in every row, IS THE sha256 OF THE DUMP (.gsa) THAT YtnhkejbgcjebmaaDoorProg.lean LOADS. Nothing in Lean hashes anything: it is a label: what it is worth is what the hold of that sum in a sandbox is worth. -/
noncomputable def Tryd.pinned : Pinned := { name := "ytnhkejbgcjebmaadoor", sum := "46e3d201bf7cff615c5f4771b96e98926c6b34b0caee46db0285acd7228401eb", checked := Tryd.checked }
namespace Rows
def none {H : Type} : Left H := { results := [], args := [] }

/- WHAT THE LISTED PACKAGE-LEVEL VARIABLES READ AS WHEN THE CALL BEGINS. Each datum BY PROGRAM (the guide's laid-datum.mjs) off the statement by which the dump's own 'gosem.cut.vars' lays the variable. In a bare row this is a premise. The card (YtnhkejbgcjebmaaDoorCards.lean) ties it to the program's text. -/
def laid_unicode_utf8_acceptRanges {H : Type} : DataW H := .agg [.agg [.lit (.int .u8 128), .lit (.int .u8 191)], .agg [.lit (.int .u8 160), .lit (.int .u8 191)], .agg [.lit (.int .u8 128), .lit (.int .u8 159)], .agg [.lit (.int .u8 144), .lit (.int .u8 191)], .agg [.lit (.int .u8 128), .lit (.int .u8 143)], .agg [.lit (.int .u8 0), .lit (.int .u8 0)], .agg [.lit (.int .u8 0), .lit (.int .u8 0)], .agg [.lit (.int .u8 0), .lit (.int .u8 0)], .agg [.lit (.int .u8 0), .lit (.int .u8 0)], .agg [.lit (.int .u8 0), .lit (.int .u8 0)], .agg [.lit (.int .u8 0), .lit (.int .u8 0)], .agg [.lit (.int .u8 0), .lit (.int .u8 0)], .agg [.lit (.int .u8 0), .lit (.int .u8 0)], .agg [.lit (.int .u8 0), .lit (.int .u8 0)], .agg [.lit (.int .u8 0), .lit (.int .u8 0)], .agg [.lit (.int .u8 0), .lit (.int .u8 0)]]
/-- One of Go's own tables, pinned by name: the form's constant. -/
def laid_unicode_utf8_first : DataW Unit := Go.Pinned.utf8First

/-- 'laws.FnExactPaddedLength': WHATEVER THE INPUT: true; the input reads as it did. -/
def fnExactPaddedLengthSpec : ChangeSpec := { name := "fnExactPaddedLength", fn := fun _ => fun
  | [d1, d2] => { results := [.lit (.bool true)], args := [d1, d2] }
  | _ => none }
def fnExactPaddedLengthRow : OpenClaim := { program := "ytnhkejbgcjebmaadoor", sum := "46e3d201bf7cff615c5f4771b96e98926c6b34b0caee46db0285acd7228401eb", func := "loop.example/g01035/laws.FnExactPaddedLength", spec := "fnExactPaddedLength", inPlace := ["internal/bytealg.IndexByteString", "internal/bytealg.IndexString"], named := ["unicode/utf8.first", "unicode/utf8.acceptRanges", "internal/bytealg.MaxLen"], apart := false, laid := [("unicode/utf8.acceptRanges", laid_unicode_utf8_acceptRanges), ("unicode/utf8.first", laid_unicode_utf8_first)] }
def FnExactPaddedLengthSaid : Prop := fnExactPaddedLengthRow.holds Tryd.pinned (OpenSpec.ofChange fnExactPaddedLengthSpec)

/-- ITS FALSE NEIGHBOUR: 'it returns false'. Refute it at one input. -/
def fnExactPaddedLengthWrong : ChangeSpec := { name := "fnExactPaddedLength", fn := fun _ => fun
  | [d1, d2] => { results := [.lit (.bool false)], args := [d1, d2] }
  | _ => none }
def FnExactPaddedLengthWrongFalsely : Prop := fnExactPaddedLengthRow.holds Tryd.pinned (OpenSpec.ofChange fnExactPaddedLengthWrong)

/-- 'laws.FnExactIsClue': WHATEVER THE INPUT: true; the input reads as it did. -/
def fnExactIsClueSpec : ChangeSpec := { name := "fnExactIsClue", fn := fun _ => fun
  | [d] => { results := [.lit (.bool true)], args := [d] }
  | _ => none }
def fnExactIsClueRow : OpenClaim := { program := "ytnhkejbgcjebmaadoor", sum := "46e3d201bf7cff615c5f4771b96e98926c6b34b0caee46db0285acd7228401eb", func := "loop.example/g01035/laws.FnExactIsClue", spec := "fnExactIsClue", inPlace := ["internal/bytealg.IndexByteString", "internal/bytealg.IndexString"], named := ["unicode/utf8.first", "unicode/utf8.acceptRanges", "internal/bytealg.MaxLen"], apart := false, laid := [("unicode/utf8.acceptRanges", laid_unicode_utf8_acceptRanges), ("unicode/utf8.first", laid_unicode_utf8_first)] }
def FnExactIsClueSaid : Prop := fnExactIsClueRow.holds Tryd.pinned (OpenSpec.ofChange fnExactIsClueSpec)

/-- ITS FALSE NEIGHBOUR: 'it returns false'. Refute it at one input. -/
def fnExactIsClueWrong : ChangeSpec := { name := "fnExactIsClue", fn := fun _ => fun
  | [d] => { results := [.lit (.bool false)], args := [d] }
  | _ => none }
def FnExactIsClueWrongFalsely : Prop := fnExactIsClueRow.holds Tryd.pinned (OpenSpec.ofChange fnExactIsClueWrong)

/-- 'laws.FnExactLengthClue': WHATEVER THE INPUT: true; the input reads as it did. -/
def fnExactLengthClueSpec : ChangeSpec := { name := "fnExactLengthClue", fn := fun _ => fun
  | [d] => { results := [.lit (.bool true)], args := [d] }
  | _ => none }
def fnExactLengthClueRow : OpenClaim := { program := "ytnhkejbgcjebmaadoor", sum := "46e3d201bf7cff615c5f4771b96e98926c6b34b0caee46db0285acd7228401eb", func := "loop.example/g01035/laws.FnExactLengthClue", spec := "fnExactLengthClue", inPlace := ["internal/bytealg.IndexByteString", "internal/bytealg.IndexString"], named := ["unicode/utf8.first", "unicode/utf8.acceptRanges", "internal/bytealg.MaxLen"], apart := false, laid := [("unicode/utf8.acceptRanges", laid_unicode_utf8_acceptRanges), ("unicode/utf8.first", laid_unicode_utf8_first)] }
def FnExactLengthClueSaid : Prop := fnExactLengthClueRow.holds Tryd.pinned (OpenSpec.ofChange fnExactLengthClueSpec)

/-- ITS FALSE NEIGHBOUR: 'it returns false'. Refute it at one input. -/
def fnExactLengthClueWrong : ChangeSpec := { name := "fnExactLengthClue", fn := fun _ => fun
  | [d] => { results := [.lit (.bool false)], args := [d] }
  | _ => none }
def FnExactLengthClueWrongFalsely : Prop := fnExactLengthClueRow.holds Tryd.pinned (OpenSpec.ofChange fnExactLengthClueWrong)

/-- 'laws.FnExactIsDictionary': WHATEVER THE INPUT: true; the input reads as it did. -/
def fnExactIsDictionarySpec : ChangeSpec := { name := "fnExactIsDictionary", fn := fun _ => fun
  | [d] => { results := [.lit (.bool true)], args := [d] }
  | _ => none }
def fnExactIsDictionaryRow : OpenClaim := { program := "ytnhkejbgcjebmaadoor", sum := "46e3d201bf7cff615c5f4771b96e98926c6b34b0caee46db0285acd7228401eb", func := "loop.example/g01035/laws.FnExactIsDictionary", spec := "fnExactIsDictionary", inPlace := ["internal/bytealg.IndexByteString", "internal/bytealg.IndexString"], named := ["unicode/utf8.first", "unicode/utf8.acceptRanges", "internal/bytealg.MaxLen"], apart := false, laid := [("unicode/utf8.acceptRanges", laid_unicode_utf8_acceptRanges), ("unicode/utf8.first", laid_unicode_utf8_first)] }
def FnExactIsDictionarySaid : Prop := fnExactIsDictionaryRow.holds Tryd.pinned (OpenSpec.ofChange fnExactIsDictionarySpec)

/-- ITS FALSE NEIGHBOUR: 'it returns false'. Refute it at one input. -/
def fnExactIsDictionaryWrong : ChangeSpec := { name := "fnExactIsDictionary", fn := fun _ => fun
  | [d] => { results := [.lit (.bool false)], args := [d] }
  | _ => none }
def FnExactIsDictionaryWrongFalsely : Prop := fnExactIsDictionaryRow.holds Tryd.pinned (OpenSpec.ofChange fnExactIsDictionaryWrong)

/-- 'laws.FnExactIndexClue': WHATEVER THE INPUT: true; the input reads as it did. -/
def fnExactIndexClueSpec : ChangeSpec := { name := "fnExactIndexClue", fn := fun _ => fun
  | [d1, d2] => { results := [.lit (.bool true)], args := [d1, d2] }
  | _ => none }
def fnExactIndexClueRow : OpenClaim := { program := "ytnhkejbgcjebmaadoor", sum := "46e3d201bf7cff615c5f4771b96e98926c6b34b0caee46db0285acd7228401eb", func := "loop.example/g01035/laws.FnExactIndexClue", spec := "fnExactIndexClue", inPlace := ["internal/bytealg.IndexByteString", "internal/bytealg.IndexString"], named := ["unicode/utf8.first", "unicode/utf8.acceptRanges", "internal/bytealg.MaxLen"], apart := false, laid := [("unicode/utf8.acceptRanges", laid_unicode_utf8_acceptRanges), ("unicode/utf8.first", laid_unicode_utf8_first)] }
def FnExactIndexClueSaid : Prop := fnExactIndexClueRow.holds Tryd.pinned (OpenSpec.ofChange fnExactIndexClueSpec)

/-- ITS FALSE NEIGHBOUR: 'it returns false'. Refute it at one input. -/
def fnExactIndexClueWrong : ChangeSpec := { name := "fnExactIndexClue", fn := fun _ => fun
  | [d1, d2] => { results := [.lit (.bool false)], args := [d1, d2] }
  | _ => none }
def FnExactIndexClueWrongFalsely : Prop := fnExactIndexClueRow.holds Tryd.pinned (OpenSpec.ofChange fnExactIndexClueWrong)

/-- 'laws.FnExactStepFor': WHATEVER THE INPUT: true; the input reads as it did. -/
def fnExactStepForSpec : ChangeSpec := { name := "fnExactStepFor", fn := fun _ => fun
  | [d1, d2] => { results := [.lit (.bool true)], args := [d1, d2] }
  | _ => none }
def fnExactStepForRow : OpenClaim := { program := "ytnhkejbgcjebmaadoor", sum := "46e3d201bf7cff615c5f4771b96e98926c6b34b0caee46db0285acd7228401eb", func := "loop.example/g01035/laws.FnExactStepFor", spec := "fnExactStepFor", inPlace := ["internal/bytealg.IndexByteString", "internal/bytealg.IndexString"], unfollowed := true, recurses := true, named := ["unicode/utf8.first", "unicode/utf8.acceptRanges", "internal/bytealg.MaxLen"], apart := false, laid := [("unicode/utf8.acceptRanges", laid_unicode_utf8_acceptRanges), ("unicode/utf8.first", laid_unicode_utf8_first)] }
def FnExactStepForSaid : Prop := fnExactStepForRow.holds Tryd.pinned (OpenSpec.ofChange fnExactStepForSpec)

/-- ITS FALSE NEIGHBOUR: 'it returns false'. Refute it at one input. -/
def fnExactStepForWrong : ChangeSpec := { name := "fnExactStepFor", fn := fun _ => fun
  | [d1, d2] => { results := [.lit (.bool false)], args := [d1, d2] }
  | _ => none }
def FnExactStepForWrongFalsely : Prop := fnExactStepForRow.holds Tryd.pinned (OpenSpec.ofChange fnExactStepForWrong)

/-- 'laws.FnExactIsSafeClue': WHATEVER THE INPUT: true; the input reads as it did. -/
def fnExactIsSafeClueSpec : ChangeSpec := { name := "fnExactIsSafeClue", fn := fun _ => fun
  | [d1, d2, d3] => { results := [.lit (.bool true)], args := [d1, d2, d3] }
  | _ => none }
def fnExactIsSafeClueRow : OpenClaim := { program := "ytnhkejbgcjebmaadoor", sum := "46e3d201bf7cff615c5f4771b96e98926c6b34b0caee46db0285acd7228401eb", func := "loop.example/g01035/laws.FnExactIsSafeClue", spec := "fnExactIsSafeClue", inPlace := ["internal/bytealg.IndexByteString", "internal/bytealg.IndexString"], unfollowed := true, recurses := true, named := ["unicode/utf8.first", "unicode/utf8.acceptRanges", "internal/bytealg.MaxLen"], apart := false, laid := [("unicode/utf8.acceptRanges", laid_unicode_utf8_acceptRanges), ("unicode/utf8.first", laid_unicode_utf8_first)] }
def FnExactIsSafeClueSaid : Prop := fnExactIsSafeClueRow.holds Tryd.pinned (OpenSpec.ofChange fnExactIsSafeClueSpec)

/-- ITS FALSE NEIGHBOUR: 'it returns false'. Refute it at one input. -/
def fnExactIsSafeClueWrong : ChangeSpec := { name := "fnExactIsSafeClue", fn := fun _ => fun
  | [d1, d2, d3] => { results := [.lit (.bool false)], args := [d1, d2, d3] }
  | _ => none }
def FnExactIsSafeClueWrongFalsely : Prop := fnExactIsSafeClueRow.holds Tryd.pinned (OpenSpec.ofChange fnExactIsSafeClueWrong)

/-- 'laws.FnExactLeastSafe': WHATEVER THE INPUT: true; the input reads as it did. -/
def fnExactLeastSafeSpec : ChangeSpec := { name := "fnExactLeastSafe", fn := fun _ => fun
  | [d1, d2, d3] => { results := [.lit (.bool true)], args := [d1, d2, d3] }
  | _ => none }
def fnExactLeastSafeRow : OpenClaim := { program := "ytnhkejbgcjebmaadoor", sum := "46e3d201bf7cff615c5f4771b96e98926c6b34b0caee46db0285acd7228401eb", func := "loop.example/g01035/laws.FnExactLeastSafe", spec := "fnExactLeastSafe", inPlace := ["internal/bytealg.IndexByteString", "internal/bytealg.IndexString"], unfollowed := true, recurses := true, named := ["unicode/utf8.first", "unicode/utf8.acceptRanges", "internal/bytealg.MaxLen"], apart := false, laid := [("unicode/utf8.acceptRanges", laid_unicode_utf8_acceptRanges), ("unicode/utf8.first", laid_unicode_utf8_first)] }
def FnExactLeastSafeSaid : Prop := fnExactLeastSafeRow.holds Tryd.pinned (OpenSpec.ofChange fnExactLeastSafeSpec)

/-- ITS FALSE NEIGHBOUR: 'it returns false'. Refute it at one input. -/
def fnExactLeastSafeWrong : ChangeSpec := { name := "fnExactLeastSafe", fn := fun _ => fun
  | [d1, d2, d3] => { results := [.lit (.bool false)], args := [d1, d2, d3] }
  | _ => none }
def FnExactLeastSafeWrongFalsely : Prop := fnExactLeastSafeRow.holds Tryd.pinned (OpenSpec.ofChange fnExactLeastSafeWrong)

/-- 'laws.FnExactCandidates': WHATEVER THE INPUT: true; the input reads as it did. -/
def fnExactCandidatesSpec : ChangeSpec := { name := "fnExactCandidates", fn := fun _ => fun
  | [d1, d2] => { results := [.lit (.bool true)], args := [d1, d2] }
  | _ => none }
def fnExactCandidatesRow : OpenClaim := { program := "ytnhkejbgcjebmaadoor", sum := "46e3d201bf7cff615c5f4771b96e98926c6b34b0caee46db0285acd7228401eb", func := "loop.example/g01035/laws.FnExactCandidates", spec := "fnExactCandidates", inPlace := ["internal/bytealg.IndexByteString", "internal/bytealg.IndexString"], unfollowed := true, recurses := true, named := ["unicode/utf8.first", "unicode/utf8.acceptRanges", "internal/bytealg.MaxLen"], apart := false, laid := [("unicode/utf8.acceptRanges", laid_unicode_utf8_acceptRanges), ("unicode/utf8.first", laid_unicode_utf8_first)] }
def FnExactCandidatesSaid : Prop := fnExactCandidatesRow.holds Tryd.pinned (OpenSpec.ofChange fnExactCandidatesSpec)

/-- ITS FALSE NEIGHBOUR: 'it returns false'. Refute it at one input. -/
def fnExactCandidatesWrong : ChangeSpec := { name := "fnExactCandidates", fn := fun _ => fun
  | [d1, d2] => { results := [.lit (.bool false)], args := [d1, d2] }
  | _ => none }
def FnExactCandidatesWrongFalsely : Prop := fnExactCandidatesRow.holds Tryd.pinned (OpenSpec.ofChange fnExactCandidatesWrong)

/-- 'laws.FnExactWhatLeaks': WHATEVER THE INPUT: true; the input reads as it did. -/
def fnExactWhatLeaksSpec : ChangeSpec := { name := "fnExactWhatLeaks", fn := fun _ => fun
  | [d1, d2, d3] => { results := [.lit (.bool true)], args := [d1, d2, d3] }
  | _ => none }
def fnExactWhatLeaksRow : OpenClaim := { program := "ytnhkejbgcjebmaadoor", sum := "46e3d201bf7cff615c5f4771b96e98926c6b34b0caee46db0285acd7228401eb", func := "loop.example/g01035/laws.FnExactWhatLeaks", spec := "fnExactWhatLeaks", inPlace := ["internal/bytealg.IndexByteString", "internal/bytealg.IndexString"], unfollowed := true, recurses := true, named := ["unicode/utf8.first", "unicode/utf8.acceptRanges", "internal/bytealg.MaxLen"], apart := false, laid := [("unicode/utf8.acceptRanges", laid_unicode_utf8_acceptRanges), ("unicode/utf8.first", laid_unicode_utf8_first)] }
def FnExactWhatLeaksSaid : Prop := fnExactWhatLeaksRow.holds Tryd.pinned (OpenSpec.ofChange fnExactWhatLeaksSpec)

/-- ITS FALSE NEIGHBOUR: 'it returns false'. Refute it at one input. -/
def fnExactWhatLeaksWrong : ChangeSpec := { name := "fnExactWhatLeaks", fn := fun _ => fun
  | [d1, d2, d3] => { results := [.lit (.bool false)], args := [d1, d2, d3] }
  | _ => none }
def FnExactWhatLeaksWrongFalsely : Prop := fnExactWhatLeaksRow.holds Tryd.pinned (OpenSpec.ofChange fnExactWhatLeaksWrong)

/-- 'laws.FnClues': WHATEVER THE INPUT: true; the input reads as it did. -/
def fnCluesSpec : ChangeSpec := { name := "fnClues", fn := fun _ => fun
  | [d] => { results := [.lit (.bool true)], args := [d] }
  | _ => none }
def fnCluesRow : OpenClaim := { program := "ytnhkejbgcjebmaadoor", sum := "46e3d201bf7cff615c5f4771b96e98926c6b34b0caee46db0285acd7228401eb", func := "loop.example/g01035/laws.FnClues", spec := "fnClues", inPlace := ["internal/bytealg.IndexByteString", "internal/bytealg.IndexString"], unfollowed := true, recurses := true, named := ["unicode/utf8.first", "unicode/utf8.acceptRanges", "internal/bytealg.MaxLen"], apart := false, laid := [("unicode/utf8.acceptRanges", laid_unicode_utf8_acceptRanges), ("unicode/utf8.first", laid_unicode_utf8_first)] }
def FnCluesSaid : Prop := fnCluesRow.holds Tryd.pinned (OpenSpec.ofChange fnCluesSpec)

/-- ITS FALSE NEIGHBOUR: 'it returns false'. Refute it at one input. -/
def fnCluesWrong : ChangeSpec := { name := "fnClues", fn := fun _ => fun
  | [d] => { results := [.lit (.bool false)], args := [d] }
  | _ => none }
def FnCluesWrongFalsely : Prop := fnCluesRow.holds Tryd.pinned (OpenSpec.ofChange fnCluesWrong)

/-- 'laws.FnLeaks': WHATEVER THE INPUT: true; the input reads as it did. -/
def fnLeaksSpec : ChangeSpec := { name := "fnLeaks", fn := fun _ => fun
  | [d] => { results := [.lit (.bool true)], args := [d] }
  | _ => none }
def fnLeaksRow : OpenClaim := { program := "ytnhkejbgcjebmaadoor", sum := "46e3d201bf7cff615c5f4771b96e98926c6b34b0caee46db0285acd7228401eb", func := "loop.example/g01035/laws.FnLeaks", spec := "fnLeaks", inPlace := ["internal/bytealg.IndexByteString", "internal/bytealg.IndexString"], unfollowed := true, recurses := true, named := ["unicode/utf8.first", "unicode/utf8.acceptRanges", "internal/bytealg.MaxLen"], apart := false, laid := [("unicode/utf8.acceptRanges", laid_unicode_utf8_acceptRanges), ("unicode/utf8.first", laid_unicode_utf8_first)] }
def FnLeaksSaid : Prop := fnLeaksRow.holds Tryd.pinned (OpenSpec.ofChange fnLeaksSpec)

/-- ITS FALSE NEIGHBOUR: 'it returns false'. Refute it at one input. -/
def fnLeaksWrong : ChangeSpec := { name := "fnLeaks", fn := fun _ => fun
  | [d] => { results := [.lit (.bool false)], args := [d] }
  | _ => none }
def FnLeaksWrongFalsely : Prop := fnLeaksRow.holds Tryd.pinned (OpenSpec.ofChange fnLeaksWrong)

/- THE SECOND FORM. 'bulk': how many values and letters a reading holds, each counted each time it is reached (what is shared counts as often as it is met; a slice's spare places count too). A statement '..UptoSaid' is the law's where the arguments, and the package variables that the reading takes, are together of bulk at most 1048576: NARROWER than '..Said'. Prove '..Said' where nothing that the law and all that it calls make is longer than what came in: it says more and counts as full. Else prove '..UptoSaid'. A law counts once. -/
mutual
def uptoBulk {H : Type} : DataW H → Nat
  | .lit (.string bytes) => bytes.length + 1
  | .lit _ => 1
  | .nil => 1
  | .ptr d => uptoBulk d + 1
  | .slice elems spare => uptoBulkAll elems + uptoBulkAll spare + 1
  | .agg parts => uptoBulkAll parts + 1
  | .iface _ d => uptoBulk d + 1
  | .map entries => uptoBulkEntries entries + 1
  | .held _ => 1
def uptoBulkAll {H : Type} : List (DataW H) → Nat
  | [] => 0
  | d :: r => uptoBulk d + uptoBulkAll r
def uptoBulkEntries {H : Type} : List (Lit × DataW H) → Nat
  | [] => 0
  | x :: r => uptoBulkEntry x + uptoBulkEntries r
def uptoBulkEntry {H : Type} : Lit × DataW H → Nat
  | (.string bytes, d) => bytes.length + uptoBulk d + 1
  | (_, d) => uptoBulk d + 1
 end
def uptoSmall : (H : Type) → List (DataW H) → Bool := fun _ ds => decide (uptoBulkAll ds ≤ 1048576)
def OpenSpec.upto (s : _root_.Go.ChangeSpec) : _root_.Go.OpenSpec := { _root_.Go.OpenSpec.ofChange s with cond := some uptoSmall }

/-- 'laws.FnExactPaddedLength', WHERE WHAT IT READS IS OF BULK AT MOST 1048576: true; the input reads as it did. -/
def fnExactPaddedLengthUptoRow : OpenClaim := { program := "ytnhkejbgcjebmaadoor", sum := "46e3d201bf7cff615c5f4771b96e98926c6b34b0caee46db0285acd7228401eb", func := "loop.example/g01035/laws.FnExactPaddedLength", spec := "fnExactPaddedLength", inPlace := ["internal/bytealg.IndexByteString", "internal/bytealg.IndexString"], named := ["unicode/utf8.first", "unicode/utf8.acceptRanges", "internal/bytealg.MaxLen"], apart := false, laid := [("unicode/utf8.acceptRanges", laid_unicode_utf8_acceptRanges), ("unicode/utf8.first", laid_unicode_utf8_first)], narrowed := true }
def FnExactPaddedLengthUptoSaid : Prop := fnExactPaddedLengthUptoRow.holds Tryd.pinned (OpenSpec.upto fnExactPaddedLengthSpec)

/-- 'laws.FnExactIsClue', WHERE WHAT IT READS IS OF BULK AT MOST 1048576: true; the input reads as it did. -/
def fnExactIsClueUptoRow : OpenClaim := { program := "ytnhkejbgcjebmaadoor", sum := "46e3d201bf7cff615c5f4771b96e98926c6b34b0caee46db0285acd7228401eb", func := "loop.example/g01035/laws.FnExactIsClue", spec := "fnExactIsClue", inPlace := ["internal/bytealg.IndexByteString", "internal/bytealg.IndexString"], named := ["unicode/utf8.first", "unicode/utf8.acceptRanges", "internal/bytealg.MaxLen"], apart := false, laid := [("unicode/utf8.acceptRanges", laid_unicode_utf8_acceptRanges), ("unicode/utf8.first", laid_unicode_utf8_first)], narrowed := true }
def FnExactIsClueUptoSaid : Prop := fnExactIsClueUptoRow.holds Tryd.pinned (OpenSpec.upto fnExactIsClueSpec)

/-- 'laws.FnExactLengthClue', WHERE WHAT IT READS IS OF BULK AT MOST 1048576: true; the input reads as it did. -/
def fnExactLengthClueUptoRow : OpenClaim := { program := "ytnhkejbgcjebmaadoor", sum := "46e3d201bf7cff615c5f4771b96e98926c6b34b0caee46db0285acd7228401eb", func := "loop.example/g01035/laws.FnExactLengthClue", spec := "fnExactLengthClue", inPlace := ["internal/bytealg.IndexByteString", "internal/bytealg.IndexString"], named := ["unicode/utf8.first", "unicode/utf8.acceptRanges", "internal/bytealg.MaxLen"], apart := false, laid := [("unicode/utf8.acceptRanges", laid_unicode_utf8_acceptRanges), ("unicode/utf8.first", laid_unicode_utf8_first)], narrowed := true }
def FnExactLengthClueUptoSaid : Prop := fnExactLengthClueUptoRow.holds Tryd.pinned (OpenSpec.upto fnExactLengthClueSpec)

/-- 'laws.FnExactIsDictionary', WHERE WHAT IT READS IS OF BULK AT MOST 1048576: true; the input reads as it did. -/
def fnExactIsDictionaryUptoRow : OpenClaim := { program := "ytnhkejbgcjebmaadoor", sum := "46e3d201bf7cff615c5f4771b96e98926c6b34b0caee46db0285acd7228401eb", func := "loop.example/g01035/laws.FnExactIsDictionary", spec := "fnExactIsDictionary", inPlace := ["internal/bytealg.IndexByteString", "internal/bytealg.IndexString"], named := ["unicode/utf8.first", "unicode/utf8.acceptRanges", "internal/bytealg.MaxLen"], apart := false, laid := [("unicode/utf8.acceptRanges", laid_unicode_utf8_acceptRanges), ("unicode/utf8.first", laid_unicode_utf8_first)], narrowed := true }
def FnExactIsDictionaryUptoSaid : Prop := fnExactIsDictionaryUptoRow.holds Tryd.pinned (OpenSpec.upto fnExactIsDictionarySpec)

/-- 'laws.FnExactIndexClue', WHERE WHAT IT READS IS OF BULK AT MOST 1048576: true; the input reads as it did. -/
def fnExactIndexClueUptoRow : OpenClaim := { program := "ytnhkejbgcjebmaadoor", sum := "46e3d201bf7cff615c5f4771b96e98926c6b34b0caee46db0285acd7228401eb", func := "loop.example/g01035/laws.FnExactIndexClue", spec := "fnExactIndexClue", inPlace := ["internal/bytealg.IndexByteString", "internal/bytealg.IndexString"], named := ["unicode/utf8.first", "unicode/utf8.acceptRanges", "internal/bytealg.MaxLen"], apart := false, laid := [("unicode/utf8.acceptRanges", laid_unicode_utf8_acceptRanges), ("unicode/utf8.first", laid_unicode_utf8_first)], narrowed := true }
def FnExactIndexClueUptoSaid : Prop := fnExactIndexClueUptoRow.holds Tryd.pinned (OpenSpec.upto fnExactIndexClueSpec)

/-- 'laws.FnExactStepFor', WHERE WHAT IT READS IS OF BULK AT MOST 1048576: true; the input reads as it did. -/
def fnExactStepForUptoRow : OpenClaim := { program := "ytnhkejbgcjebmaadoor", sum := "46e3d201bf7cff615c5f4771b96e98926c6b34b0caee46db0285acd7228401eb", func := "loop.example/g01035/laws.FnExactStepFor", spec := "fnExactStepFor", inPlace := ["internal/bytealg.IndexByteString", "internal/bytealg.IndexString"], unfollowed := true, recurses := true, named := ["unicode/utf8.first", "unicode/utf8.acceptRanges", "internal/bytealg.MaxLen"], apart := false, laid := [("unicode/utf8.acceptRanges", laid_unicode_utf8_acceptRanges), ("unicode/utf8.first", laid_unicode_utf8_first)], narrowed := true }
def FnExactStepForUptoSaid : Prop := fnExactStepForUptoRow.holds Tryd.pinned (OpenSpec.upto fnExactStepForSpec)

/-- 'laws.FnExactIsSafeClue', WHERE WHAT IT READS IS OF BULK AT MOST 1048576: true; the input reads as it did. -/
def fnExactIsSafeClueUptoRow : OpenClaim := { program := "ytnhkejbgcjebmaadoor", sum := "46e3d201bf7cff615c5f4771b96e98926c6b34b0caee46db0285acd7228401eb", func := "loop.example/g01035/laws.FnExactIsSafeClue", spec := "fnExactIsSafeClue", inPlace := ["internal/bytealg.IndexByteString", "internal/bytealg.IndexString"], unfollowed := true, recurses := true, named := ["unicode/utf8.first", "unicode/utf8.acceptRanges", "internal/bytealg.MaxLen"], apart := false, laid := [("unicode/utf8.acceptRanges", laid_unicode_utf8_acceptRanges), ("unicode/utf8.first", laid_unicode_utf8_first)], narrowed := true }
def FnExactIsSafeClueUptoSaid : Prop := fnExactIsSafeClueUptoRow.holds Tryd.pinned (OpenSpec.upto fnExactIsSafeClueSpec)

/-- 'laws.FnExactLeastSafe', WHERE WHAT IT READS IS OF BULK AT MOST 1048576: true; the input reads as it did. -/
def fnExactLeastSafeUptoRow : OpenClaim := { program := "ytnhkejbgcjebmaadoor", sum := "46e3d201bf7cff615c5f4771b96e98926c6b34b0caee46db0285acd7228401eb", func := "loop.example/g01035/laws.FnExactLeastSafe", spec := "fnExactLeastSafe", inPlace := ["internal/bytealg.IndexByteString", "internal/bytealg.IndexString"], unfollowed := true, recurses := true, named := ["unicode/utf8.first", "unicode/utf8.acceptRanges", "internal/bytealg.MaxLen"], apart := false, laid := [("unicode/utf8.acceptRanges", laid_unicode_utf8_acceptRanges), ("unicode/utf8.first", laid_unicode_utf8_first)], narrowed := true }
def FnExactLeastSafeUptoSaid : Prop := fnExactLeastSafeUptoRow.holds Tryd.pinned (OpenSpec.upto fnExactLeastSafeSpec)

/-- 'laws.FnExactCandidates', WHERE WHAT IT READS IS OF BULK AT MOST 1048576: true; the input reads as it did. -/
def fnExactCandidatesUptoRow : OpenClaim := { program := "ytnhkejbgcjebmaadoor", sum := "46e3d201bf7cff615c5f4771b96e98926c6b34b0caee46db0285acd7228401eb", func := "loop.example/g01035/laws.FnExactCandidates", spec := "fnExactCandidates", inPlace := ["internal/bytealg.IndexByteString", "internal/bytealg.IndexString"], unfollowed := true, recurses := true, named := ["unicode/utf8.first", "unicode/utf8.acceptRanges", "internal/bytealg.MaxLen"], apart := false, laid := [("unicode/utf8.acceptRanges", laid_unicode_utf8_acceptRanges), ("unicode/utf8.first", laid_unicode_utf8_first)], narrowed := true }
def FnExactCandidatesUptoSaid : Prop := fnExactCandidatesUptoRow.holds Tryd.pinned (OpenSpec.upto fnExactCandidatesSpec)

/-- 'laws.FnExactWhatLeaks', WHERE WHAT IT READS IS OF BULK AT MOST 1048576: true; the input reads as it did. -/
def fnExactWhatLeaksUptoRow : OpenClaim := { program := "ytnhkejbgcjebmaadoor", sum := "46e3d201bf7cff615c5f4771b96e98926c6b34b0caee46db0285acd7228401eb", func := "loop.example/g01035/laws.FnExactWhatLeaks", spec := "fnExactWhatLeaks", inPlace := ["internal/bytealg.IndexByteString", "internal/bytealg.IndexString"], unfollowed := true, recurses := true, named := ["unicode/utf8.first", "unicode/utf8.acceptRanges", "internal/bytealg.MaxLen"], apart := false, laid := [("unicode/utf8.acceptRanges", laid_unicode_utf8_acceptRanges), ("unicode/utf8.first", laid_unicode_utf8_first)], narrowed := true }
def FnExactWhatLeaksUptoSaid : Prop := fnExactWhatLeaksUptoRow.holds Tryd.pinned (OpenSpec.upto fnExactWhatLeaksSpec)

/-- 'laws.FnClues', WHERE WHAT IT READS IS OF BULK AT MOST 1048576: true; the input reads as it did. -/
def fnCluesUptoRow : OpenClaim := { program := "ytnhkejbgcjebmaadoor", sum := "46e3d201bf7cff615c5f4771b96e98926c6b34b0caee46db0285acd7228401eb", func := "loop.example/g01035/laws.FnClues", spec := "fnClues", inPlace := ["internal/bytealg.IndexByteString", "internal/bytealg.IndexString"], unfollowed := true, recurses := true, named := ["unicode/utf8.first", "unicode/utf8.acceptRanges", "internal/bytealg.MaxLen"], apart := false, laid := [("unicode/utf8.acceptRanges", laid_unicode_utf8_acceptRanges), ("unicode/utf8.first", laid_unicode_utf8_first)], narrowed := true }
def FnCluesUptoSaid : Prop := fnCluesUptoRow.holds Tryd.pinned (OpenSpec.upto fnCluesSpec)

/-- 'laws.FnLeaks', WHERE WHAT IT READS IS OF BULK AT MOST 1048576: true; the input reads as it did. -/
def fnLeaksUptoRow : OpenClaim := { program := "ytnhkejbgcjebmaadoor", sum := "46e3d201bf7cff615c5f4771b96e98926c6b34b0caee46db0285acd7228401eb", func := "loop.example/g01035/laws.FnLeaks", spec := "fnLeaks", inPlace := ["internal/bytealg.IndexByteString", "internal/bytealg.IndexString"], unfollowed := true, recurses := true, named := ["unicode/utf8.first", "unicode/utf8.acceptRanges", "internal/bytealg.MaxLen"], apart := false, laid := [("unicode/utf8.acceptRanges", laid_unicode_utf8_acceptRanges), ("unicode/utf8.first", laid_unicode_utf8_first)], narrowed := true }
def FnLeaksUptoSaid : Prop := fnLeaksUptoRow.holds Tryd.pinned (OpenSpec.upto fnLeaksSpec)

end Rows
end Go.Proofs.YtnhkejbgcjebmaaDoor
