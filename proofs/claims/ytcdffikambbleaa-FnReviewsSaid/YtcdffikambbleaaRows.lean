/-
  No cell of these rows narrows 'for every input' (looked for: loops, veiled, ifaces, maps, wideKeys, modest, calm, conditions, laid).
  DERIVED. THE GIVEN ROWS OF THIS SEAT. 13 by the template 'for every input the law returns true; each argument reads behind the call as it read before'; 0 by the template 'total and deterministic' (their statements: YtcdffikambbleaaTotals.lean).
  GIVEN WITH THE SEED: the statements are not yours to turn. If you find one false, say at which input.
  Laid BY PROGRAM, IN A SANDBOX (cutbox-rows.mjs): the forced cells as the released guide's own fill.sh prints them over the translation 60903d7f8648d851… (all of the seat's roots in one cut). By AI agents, Wed Nov 11 2026. No macro, syntax, notation, axiom, sorry.
-/
import Derived.Test.YtcdffikambbleaaChecked
import GoSem.Claim
import GoSem.ClaimJoined
import GoSem.ClaimMapViews
import Derived.JoinedTies
import Derived.KernelRfl
namespace Go.Proofs.Ytcdffikambbleaa
/- THE CELL 'sum', in the pinned program and in every row, IS THE sha256 OF THE DUMP (.gsa) THAT YtcdffikambbleaaProg.lean LOADS. Nothing in Lean hashes anything: it is a label: what it is worth is what the hold of that sum in a sandbox is worth. -/
noncomputable def Try.pinned : Pinned := { name := "ytcdffikambbleaa", sum := "60903d7f8648d851f8b6914265ffafacd66b4b6ed4442672dd7d2381aa2639a4", checked := Try.checked }
namespace Rows
def none {H : Type} : Left H := { results := [], args := [] }

/-- 'laws.FnExactIsReview': WHATEVER THE INPUT: true; the input reads as it did. -/
def fnExactIsReviewSpec : ChangeSpec := { name := "fnExactIsReview", fn := fun _ => fun
  | [d] => { results := [.lit (.bool true)], args := [d] }
  | _ => none }
def fnExactIsReviewRow : OpenClaim := { program := "ytcdffikambbleaa", sum := "60903d7f8648d851f8b6914265ffafacd66b4b6ed4442672dd7d2381aa2639a4", func := "loop.example/g01035/laws.FnExactIsReview", spec := "fnExactIsReview", unfollowed := true, recurses := true, apart := false }
def FnExactIsReviewSaid : Prop := fnExactIsReviewRow.holds Try.pinned (OpenSpec.ofChange fnExactIsReviewSpec)

/-- ITS FALSE NEIGHBOUR: 'it returns false'. Refute it at one input. -/
def fnExactIsReviewWrong : ChangeSpec := { name := "fnExactIsReview", fn := fun _ => fun
  | [d] => { results := [.lit (.bool false)], args := [d] }
  | _ => none }
def FnExactIsReviewWrongFalsely : Prop := fnExactIsReviewRow.holds Try.pinned (OpenSpec.ofChange fnExactIsReviewWrong)

/-- 'laws.FnExactAreReviews': WHATEVER THE INPUT: true; the input reads as it did. -/
def fnExactAreReviewsSpec : ChangeSpec := { name := "fnExactAreReviews", fn := fun _ => fun
  | [d] => { results := [.lit (.bool true)], args := [d] }
  | _ => none }
def fnExactAreReviewsRow : OpenClaim := { program := "ytcdffikambbleaa", sum := "60903d7f8648d851f8b6914265ffafacd66b4b6ed4442672dd7d2381aa2639a4", func := "loop.example/g01035/laws.FnExactAreReviews", spec := "fnExactAreReviews", unfollowed := true, recurses := true, apart := false }
def FnExactAreReviewsSaid : Prop := fnExactAreReviewsRow.holds Try.pinned (OpenSpec.ofChange fnExactAreReviewsSpec)

/-- ITS FALSE NEIGHBOUR: 'it returns false'. Refute it at one input. -/
def fnExactAreReviewsWrong : ChangeSpec := { name := "fnExactAreReviews", fn := fun _ => fun
  | [d] => { results := [.lit (.bool false)], args := [d] }
  | _ => none }
def FnExactAreReviewsWrongFalsely : Prop := fnExactAreReviewsRow.holds Try.pinned (OpenSpec.ofChange fnExactAreReviewsWrong)

/-- 'laws.FnExactVerdictOf': WHATEVER THE INPUT: true; the input reads as it did. -/
def fnExactVerdictOfSpec : ChangeSpec := { name := "fnExactVerdictOf", fn := fun _ => fun
  | [d] => { results := [.lit (.bool true)], args := [d] }
  | _ => none }
def fnExactVerdictOfRow : OpenClaim := { program := "ytcdffikambbleaa", sum := "60903d7f8648d851f8b6914265ffafacd66b4b6ed4442672dd7d2381aa2639a4", func := "loop.example/g01035/laws.FnExactVerdictOf", spec := "fnExactVerdictOf", unfollowed := true, recurses := true, apart := false }
def FnExactVerdictOfSaid : Prop := fnExactVerdictOfRow.holds Try.pinned (OpenSpec.ofChange fnExactVerdictOfSpec)

/-- ITS FALSE NEIGHBOUR: 'it returns false'. Refute it at one input. -/
def fnExactVerdictOfWrong : ChangeSpec := { name := "fnExactVerdictOf", fn := fun _ => fun
  | [d] => { results := [.lit (.bool false)], args := [d] }
  | _ => none }
def FnExactVerdictOfWrongFalsely : Prop := fnExactVerdictOfRow.holds Try.pinned (OpenSpec.ofChange fnExactVerdictOfWrong)

/-- 'laws.FnExactIsAppeal': WHATEVER THE INPUT: true; the input reads as it did. -/
def fnExactIsAppealSpec : ChangeSpec := { name := "fnExactIsAppeal", fn := fun _ => fun
  | [d] => { results := [.lit (.bool true)], args := [d] }
  | _ => none }
def fnExactIsAppealRow : OpenClaim := { program := "ytcdffikambbleaa", sum := "60903d7f8648d851f8b6914265ffafacd66b4b6ed4442672dd7d2381aa2639a4", func := "loop.example/g01035/laws.FnExactIsAppeal", spec := "fnExactIsAppeal", unfollowed := true, recurses := true, apart := false }
def FnExactIsAppealSaid : Prop := fnExactIsAppealRow.holds Try.pinned (OpenSpec.ofChange fnExactIsAppealSpec)

/-- ITS FALSE NEIGHBOUR: 'it returns false'. Refute it at one input. -/
def fnExactIsAppealWrong : ChangeSpec := { name := "fnExactIsAppeal", fn := fun _ => fun
  | [d] => { results := [.lit (.bool false)], args := [d] }
  | _ => none }
def FnExactIsAppealWrongFalsely : Prop := fnExactIsAppealRow.holds Try.pinned (OpenSpec.ofChange fnExactIsAppealWrong)

/-- 'laws.FnExactVotesMissing': WHATEVER THE INPUT: true; the input reads as it did. -/
def fnExactVotesMissingSpec : ChangeSpec := { name := "fnExactVotesMissing", fn := fun _ => fun
  | [d] => { results := [.lit (.bool true)], args := [d] }
  | _ => none }
def fnExactVotesMissingRow : OpenClaim := { program := "ytcdffikambbleaa", sum := "60903d7f8648d851f8b6914265ffafacd66b4b6ed4442672dd7d2381aa2639a4", func := "loop.example/g01035/laws.FnExactVotesMissing", spec := "fnExactVotesMissing", unfollowed := true, recurses := true, apart := false }
def FnExactVotesMissingSaid : Prop := fnExactVotesMissingRow.holds Try.pinned (OpenSpec.ofChange fnExactVotesMissingSpec)

/-- ITS FALSE NEIGHBOUR: 'it returns false'. Refute it at one input. -/
def fnExactVotesMissingWrong : ChangeSpec := { name := "fnExactVotesMissing", fn := fun _ => fun
  | [d] => { results := [.lit (.bool false)], args := [d] }
  | _ => none }
def FnExactVotesMissingWrongFalsely : Prop := fnExactVotesMissingRow.holds Try.pinned (OpenSpec.ofChange fnExactVotesMissingWrong)

/-- 'laws.FnExactDecided': WHATEVER THE INPUT: true; the input reads as it did. -/
def fnExactDecidedSpec : ChangeSpec := { name := "fnExactDecided", fn := fun _ => fun
  | [d1, d2] => { results := [.lit (.bool true)], args := [d1, d2] }
  | _ => none }
def fnExactDecidedRow : OpenClaim := { program := "ytcdffikambbleaa", sum := "60903d7f8648d851f8b6914265ffafacd66b4b6ed4442672dd7d2381aa2639a4", func := "loop.example/g01035/laws.FnExactDecided", spec := "fnExactDecided", unfollowed := true, recurses := true, apart := false }
def FnExactDecidedSaid : Prop := fnExactDecidedRow.holds Try.pinned (OpenSpec.ofChange fnExactDecidedSpec)

/-- ITS FALSE NEIGHBOUR: 'it returns false'. Refute it at one input. -/
def fnExactDecidedWrong : ChangeSpec := { name := "fnExactDecided", fn := fun _ => fun
  | [d1, d2] => { results := [.lit (.bool false)], args := [d1, d2] }
  | _ => none }
def FnExactDecidedWrongFalsely : Prop := fnExactDecidedRow.holds Try.pinned (OpenSpec.ofChange fnExactDecidedWrong)

/-- 'laws.FnExactCastVote': WHATEVER THE INPUT: true; the input reads as it did. -/
def fnExactCastVoteSpec : ChangeSpec := { name := "fnExactCastVote", fn := fun _ => fun
  | [d1, d2, d3] => { results := [.lit (.bool true)], args := [d1, d2, d3] }
  | _ => none }
def fnExactCastVoteRow : OpenClaim := { program := "ytcdffikambbleaa", sum := "60903d7f8648d851f8b6914265ffafacd66b4b6ed4442672dd7d2381aa2639a4", func := "loop.example/g01035/laws.FnExactCastVote", spec := "fnExactCastVote", unfollowed := true, recurses := true, apart := false }
def FnExactCastVoteSaid : Prop := fnExactCastVoteRow.holds Try.pinned (OpenSpec.ofChange fnExactCastVoteSpec)

/-- ITS FALSE NEIGHBOUR: 'it returns false'. Refute it at one input. -/
def fnExactCastVoteWrong : ChangeSpec := { name := "fnExactCastVote", fn := fun _ => fun
  | [d1, d2, d3] => { results := [.lit (.bool false)], args := [d1, d2, d3] }
  | _ => none }
def FnExactCastVoteWrongFalsely : Prop := fnExactCastVoteRow.holds Try.pinned (OpenSpec.ofChange fnExactCastVoteWrong)

/-- 'laws.FnExactPutOff': WHATEVER THE INPUT: true; the input reads as it did. -/
def fnExactPutOffSpec : ChangeSpec := { name := "fnExactPutOff", fn := fun _ => fun
  | [d1, d2] => { results := [.lit (.bool true)], args := [d1, d2] }
  | _ => none }
def fnExactPutOffRow : OpenClaim := { program := "ytcdffikambbleaa", sum := "60903d7f8648d851f8b6914265ffafacd66b4b6ed4442672dd7d2381aa2639a4", func := "loop.example/g01035/laws.FnExactPutOff", spec := "fnExactPutOff", unfollowed := true, recurses := true, apart := false }
def FnExactPutOffSaid : Prop := fnExactPutOffRow.holds Try.pinned (OpenSpec.ofChange fnExactPutOffSpec)

/-- ITS FALSE NEIGHBOUR: 'it returns false'. Refute it at one input. -/
def fnExactPutOffWrong : ChangeSpec := { name := "fnExactPutOff", fn := fun _ => fun
  | [d1, d2] => { results := [.lit (.bool false)], args := [d1, d2] }
  | _ => none }
def FnExactPutOffWrongFalsely : Prop := fnExactPutOffRow.holds Try.pinned (OpenSpec.ofChange fnExactPutOffWrong)

/-- 'laws.FnExactDeciders': WHATEVER THE INPUT: true; the input reads as it did. -/
def fnExactDecidersSpec : ChangeSpec := { name := "fnExactDeciders", fn := fun _ => fun
  | [d] => { results := [.lit (.bool true)], args := [d] }
  | _ => none }
def fnExactDecidersRow : OpenClaim := { program := "ytcdffikambbleaa", sum := "60903d7f8648d851f8b6914265ffafacd66b4b6ed4442672dd7d2381aa2639a4", func := "loop.example/g01035/laws.FnExactDeciders", spec := "fnExactDeciders", unfollowed := true, recurses := true, apart := false }
def FnExactDecidersSaid : Prop := fnExactDecidersRow.holds Try.pinned (OpenSpec.ofChange fnExactDecidersSpec)

/-- ITS FALSE NEIGHBOUR: 'it returns false'. Refute it at one input. -/
def fnExactDecidersWrong : ChangeSpec := { name := "fnExactDeciders", fn := fun _ => fun
  | [d] => { results := [.lit (.bool false)], args := [d] }
  | _ => none }
def FnExactDecidersWrongFalsely : Prop := fnExactDecidersRow.holds Try.pinned (OpenSpec.ofChange fnExactDecidersWrong)

/-- 'laws.FnVerdicts': WHATEVER THE INPUT: true; the input reads as it did. -/
def fnVerdictsSpec : ChangeSpec := { name := "fnVerdicts", fn := fun _ => fun
  | [d] => { results := [.lit (.bool true)], args := [d] }
  | _ => none }
def fnVerdictsRow : OpenClaim := { program := "ytcdffikambbleaa", sum := "60903d7f8648d851f8b6914265ffafacd66b4b6ed4442672dd7d2381aa2639a4", func := "loop.example/g01035/laws.FnVerdicts", spec := "fnVerdicts", unfollowed := true, recurses := true, apart := false }
def FnVerdictsSaid : Prop := fnVerdictsRow.holds Try.pinned (OpenSpec.ofChange fnVerdictsSpec)

/-- ITS FALSE NEIGHBOUR: 'it returns false'. Refute it at one input. -/
def fnVerdictsWrong : ChangeSpec := { name := "fnVerdicts", fn := fun _ => fun
  | [d] => { results := [.lit (.bool false)], args := [d] }
  | _ => none }
def FnVerdictsWrongFalsely : Prop := fnVerdictsRow.holds Try.pinned (OpenSpec.ofChange fnVerdictsWrong)

/-- 'laws.FnExactLateReviews': WHATEVER THE INPUT: true; the input reads as it did. -/
def fnExactLateReviewsSpec : ChangeSpec := { name := "fnExactLateReviews", fn := fun _ => fun
  | [d1, d2] => { results := [.lit (.bool true)], args := [d1, d2] }
  | _ => none }
def fnExactLateReviewsRow : OpenClaim := { program := "ytcdffikambbleaa", sum := "60903d7f8648d851f8b6914265ffafacd66b4b6ed4442672dd7d2381aa2639a4", func := "loop.example/g01035/laws.FnExactLateReviews", spec := "fnExactLateReviews", unfollowed := true, recurses := true, apart := false }
def FnExactLateReviewsSaid : Prop := fnExactLateReviewsRow.holds Try.pinned (OpenSpec.ofChange fnExactLateReviewsSpec)

/-- ITS FALSE NEIGHBOUR: 'it returns false'. Refute it at one input. -/
def fnExactLateReviewsWrong : ChangeSpec := { name := "fnExactLateReviews", fn := fun _ => fun
  | [d1, d2] => { results := [.lit (.bool false)], args := [d1, d2] }
  | _ => none }
def FnExactLateReviewsWrongFalsely : Prop := fnExactLateReviewsRow.holds Try.pinned (OpenSpec.ofChange fnExactLateReviewsWrong)

/-- 'laws.FnExactCouldBecome': WHATEVER THE INPUT: true; the input reads as it did. -/
def fnExactCouldBecomeSpec : ChangeSpec := { name := "fnExactCouldBecome", fn := fun _ => fun
  | [d1, d2] => { results := [.lit (.bool true)], args := [d1, d2] }
  | _ => none }
def fnExactCouldBecomeRow : OpenClaim := { program := "ytcdffikambbleaa", sum := "60903d7f8648d851f8b6914265ffafacd66b4b6ed4442672dd7d2381aa2639a4", func := "loop.example/g01035/laws.FnExactCouldBecome", spec := "fnExactCouldBecome", unfollowed := true, recurses := true, apart := false }
def FnExactCouldBecomeSaid : Prop := fnExactCouldBecomeRow.holds Try.pinned (OpenSpec.ofChange fnExactCouldBecomeSpec)

/-- ITS FALSE NEIGHBOUR: 'it returns false'. Refute it at one input. -/
def fnExactCouldBecomeWrong : ChangeSpec := { name := "fnExactCouldBecome", fn := fun _ => fun
  | [d1, d2] => { results := [.lit (.bool false)], args := [d1, d2] }
  | _ => none }
def FnExactCouldBecomeWrongFalsely : Prop := fnExactCouldBecomeRow.holds Try.pinned (OpenSpec.ofChange fnExactCouldBecomeWrong)

/-- 'laws.FnReviews': WHATEVER THE INPUT: true; the input reads as it did. -/
def fnReviewsSpec : ChangeSpec := { name := "fnReviews", fn := fun _ => fun
  | [d] => { results := [.lit (.bool true)], args := [d] }
  | _ => none }
def fnReviewsRow : OpenClaim := { program := "ytcdffikambbleaa", sum := "60903d7f8648d851f8b6914265ffafacd66b4b6ed4442672dd7d2381aa2639a4", func := "loop.example/g01035/laws.FnReviews", spec := "fnReviews", unfollowed := true, recurses := true, apart := false }
def FnReviewsSaid : Prop := fnReviewsRow.holds Try.pinned (OpenSpec.ofChange fnReviewsSpec)

/-- ITS FALSE NEIGHBOUR: 'it returns false'. Refute it at one input. -/
def fnReviewsWrong : ChangeSpec := { name := "fnReviews", fn := fun _ => fun
  | [d] => { results := [.lit (.bool false)], args := [d] }
  | _ => none }
def FnReviewsWrongFalsely : Prop := fnReviewsRow.holds Try.pinned (OpenSpec.ofChange fnReviewsWrong)

/- THE SECOND FORM. 'bulk': how many values and letters a reading holds, each counted each time it is reached (what is shared counts as often as it is met; a slice's spare places count too). A statement '..UptoSaid' is the law's where the arguments, and the package variables that the reading takes, are together of bulk at most 1048576: NARROWER than '..Said'. Prove '..Said' where nothing that the law and all that it calls make is longer than what came in: it says more and counts as full. Else prove '..UptoSaid'. A law counts once. -/
mutual
def uptoBulk {H : Type} : DataW H → Nat
  | .lit (.string bytes) => bytes.length + 1
  | .lit _ => 1
  | .nil => 1
  | .ptr d => uptoBulk d + 1
  | .slice elems spare => uptoBulkAll elems + uptoBulkAll spare + 1
  | .agg parts => uptoBulkAll parts + 1
  | .iface _ d => uptoBulk d + 1
  | .map entries => uptoBulkEntries entries + 1
  | .held _ => 1
def uptoBulkAll {H : Type} : List (DataW H) → Nat
  | [] => 0
  | d :: r => uptoBulk d + uptoBulkAll r
def uptoBulkEntries {H : Type} : List (Lit × DataW H) → Nat
  | [] => 0
  | x :: r => uptoBulkEntry x + uptoBulkEntries r
def uptoBulkEntry {H : Type} : Lit × DataW H → Nat
  | (.string bytes, d) => bytes.length + uptoBulk d + 1
  | (_, d) => uptoBulk d + 1
 end
def uptoSmall : (H : Type) → List (DataW H) → Bool := fun _ ds => decide (uptoBulkAll ds ≤ 1048576)
def OpenSpec.upto (s : _root_.Go.ChangeSpec) : _root_.Go.OpenSpec := { _root_.Go.OpenSpec.ofChange s with cond := some uptoSmall }

/-- 'laws.FnExactIsReview', WHERE WHAT IT READS IS OF BULK AT MOST 1048576: true; the input reads as it did. -/
def fnExactIsReviewUptoRow : OpenClaim := { program := "ytcdffikambbleaa", sum := "60903d7f8648d851f8b6914265ffafacd66b4b6ed4442672dd7d2381aa2639a4", func := "loop.example/g01035/laws.FnExactIsReview", spec := "fnExactIsReview", unfollowed := true, recurses := true, apart := false, narrowed := true }
def FnExactIsReviewUptoSaid : Prop := fnExactIsReviewUptoRow.holds Try.pinned (OpenSpec.upto fnExactIsReviewSpec)

/-- 'laws.FnExactAreReviews', WHERE WHAT IT READS IS OF BULK AT MOST 1048576: true; the input reads as it did. -/
def fnExactAreReviewsUptoRow : OpenClaim := { program := "ytcdffikambbleaa", sum := "60903d7f8648d851f8b6914265ffafacd66b4b6ed4442672dd7d2381aa2639a4", func := "loop.example/g01035/laws.FnExactAreReviews", spec := "fnExactAreReviews", unfollowed := true, recurses := true, apart := false, narrowed := true }
def FnExactAreReviewsUptoSaid : Prop := fnExactAreReviewsUptoRow.holds Try.pinned (OpenSpec.upto fnExactAreReviewsSpec)

/-- 'laws.FnExactVerdictOf', WHERE WHAT IT READS IS OF BULK AT MOST 1048576: true; the input reads as it did. -/
def fnExactVerdictOfUptoRow : OpenClaim := { program := "ytcdffikambbleaa", sum := "60903d7f8648d851f8b6914265ffafacd66b4b6ed4442672dd7d2381aa2639a4", func := "loop.example/g01035/laws.FnExactVerdictOf", spec := "fnExactVerdictOf", unfollowed := true, recurses := true, apart := false, narrowed := true }
def FnExactVerdictOfUptoSaid : Prop := fnExactVerdictOfUptoRow.holds Try.pinned (OpenSpec.upto fnExactVerdictOfSpec)

/-- 'laws.FnExactIsAppeal', WHERE WHAT IT READS IS OF BULK AT MOST 1048576: true; the input reads as it did. -/
def fnExactIsAppealUptoRow : OpenClaim := { program := "ytcdffikambbleaa", sum := "60903d7f8648d851f8b6914265ffafacd66b4b6ed4442672dd7d2381aa2639a4", func := "loop.example/g01035/laws.FnExactIsAppeal", spec := "fnExactIsAppeal", unfollowed := true, recurses := true, apart := false, narrowed := true }
def FnExactIsAppealUptoSaid : Prop := fnExactIsAppealUptoRow.holds Try.pinned (OpenSpec.upto fnExactIsAppealSpec)

/-- 'laws.FnExactVotesMissing', WHERE WHAT IT READS IS OF BULK AT MOST 1048576: true; the input reads as it did. -/
def fnExactVotesMissingUptoRow : OpenClaim := { program := "ytcdffikambbleaa", sum := "60903d7f8648d851f8b6914265ffafacd66b4b6ed4442672dd7d2381aa2639a4", func := "loop.example/g01035/laws.FnExactVotesMissing", spec := "fnExactVotesMissing", unfollowed := true, recurses := true, apart := false, narrowed := true }
def FnExactVotesMissingUptoSaid : Prop := fnExactVotesMissingUptoRow.holds Try.pinned (OpenSpec.upto fnExactVotesMissingSpec)

/-- 'laws.FnExactDecided', WHERE WHAT IT READS IS OF BULK AT MOST 1048576: true; the input reads as it did. -/
def fnExactDecidedUptoRow : OpenClaim := { program := "ytcdffikambbleaa", sum := "60903d7f8648d851f8b6914265ffafacd66b4b6ed4442672dd7d2381aa2639a4", func := "loop.example/g01035/laws.FnExactDecided", spec := "fnExactDecided", unfollowed := true, recurses := true, apart := false, narrowed := true }
def FnExactDecidedUptoSaid : Prop := fnExactDecidedUptoRow.holds Try.pinned (OpenSpec.upto fnExactDecidedSpec)

/-- 'laws.FnExactCastVote', WHERE WHAT IT READS IS OF BULK AT MOST 1048576: true; the input reads as it did. -/
def fnExactCastVoteUptoRow : OpenClaim := { program := "ytcdffikambbleaa", sum := "60903d7f8648d851f8b6914265ffafacd66b4b6ed4442672dd7d2381aa2639a4", func := "loop.example/g01035/laws.FnExactCastVote", spec := "fnExactCastVote", unfollowed := true, recurses := true, apart := false, narrowed := true }
def FnExactCastVoteUptoSaid : Prop := fnExactCastVoteUptoRow.holds Try.pinned (OpenSpec.upto fnExactCastVoteSpec)

/-- 'laws.FnExactPutOff', WHERE WHAT IT READS IS OF BULK AT MOST 1048576: true; the input reads as it did. -/
def fnExactPutOffUptoRow : OpenClaim := { program := "ytcdffikambbleaa", sum := "60903d7f8648d851f8b6914265ffafacd66b4b6ed4442672dd7d2381aa2639a4", func := "loop.example/g01035/laws.FnExactPutOff", spec := "fnExactPutOff", unfollowed := true, recurses := true, apart := false, narrowed := true }
def FnExactPutOffUptoSaid : Prop := fnExactPutOffUptoRow.holds Try.pinned (OpenSpec.upto fnExactPutOffSpec)

/-- 'laws.FnExactDeciders', WHERE WHAT IT READS IS OF BULK AT MOST 1048576: true; the input reads as it did. -/
def fnExactDecidersUptoRow : OpenClaim := { program := "ytcdffikambbleaa", sum := "60903d7f8648d851f8b6914265ffafacd66b4b6ed4442672dd7d2381aa2639a4", func := "loop.example/g01035/laws.FnExactDeciders", spec := "fnExactDeciders", unfollowed := true, recurses := true, apart := false, narrowed := true }
def FnExactDecidersUptoSaid : Prop := fnExactDecidersUptoRow.holds Try.pinned (OpenSpec.upto fnExactDecidersSpec)

/-- 'laws.FnVerdicts', WHERE WHAT IT READS IS OF BULK AT MOST 1048576: true; the input reads as it did. -/
def fnVerdictsUptoRow : OpenClaim := { program := "ytcdffikambbleaa", sum := "60903d7f8648d851f8b6914265ffafacd66b4b6ed4442672dd7d2381aa2639a4", func := "loop.example/g01035/laws.FnVerdicts", spec := "fnVerdicts", unfollowed := true, recurses := true, apart := false, narrowed := true }
def FnVerdictsUptoSaid : Prop := fnVerdictsUptoRow.holds Try.pinned (OpenSpec.upto fnVerdictsSpec)

/-- 'laws.FnExactLateReviews', WHERE WHAT IT READS IS OF BULK AT MOST 1048576: true; the input reads as it did. -/
def fnExactLateReviewsUptoRow : OpenClaim := { program := "ytcdffikambbleaa", sum := "60903d7f8648d851f8b6914265ffafacd66b4b6ed4442672dd7d2381aa2639a4", func := "loop.example/g01035/laws.FnExactLateReviews", spec := "fnExactLateReviews", unfollowed := true, recurses := true, apart := false, narrowed := true }
def FnExactLateReviewsUptoSaid : Prop := fnExactLateReviewsUptoRow.holds Try.pinned (OpenSpec.upto fnExactLateReviewsSpec)

/-- 'laws.FnExactCouldBecome', WHERE WHAT IT READS IS OF BULK AT MOST 1048576: true; the input reads as it did. -/
def fnExactCouldBecomeUptoRow : OpenClaim := { program := "ytcdffikambbleaa", sum := "60903d7f8648d851f8b6914265ffafacd66b4b6ed4442672dd7d2381aa2639a4", func := "loop.example/g01035/laws.FnExactCouldBecome", spec := "fnExactCouldBecome", unfollowed := true, recurses := true, apart := false, narrowed := true }
def FnExactCouldBecomeUptoSaid : Prop := fnExactCouldBecomeUptoRow.holds Try.pinned (OpenSpec.upto fnExactCouldBecomeSpec)

/-- 'laws.FnReviews', WHERE WHAT IT READS IS OF BULK AT MOST 1048576: true; the input reads as it did. -/
def fnReviewsUptoRow : OpenClaim := { program := "ytcdffikambbleaa", sum := "60903d7f8648d851f8b6914265ffafacd66b4b6ed4442672dd7d2381aa2639a4", func := "loop.example/g01035/laws.FnReviews", spec := "fnReviews", unfollowed := true, recurses := true, apart := false, narrowed := true }
def FnReviewsUptoSaid : Prop := fnReviewsUptoRow.holds Try.pinned (OpenSpec.upto fnReviewsSpec)

end Rows
end Go.Proofs.Ytcdffikambbleaa
