/-
  No cell of these rows narrows 'for every input' (looked for: loops, veiled, ifaces, maps, wideKeys, modest, calm, conditions, laid).
  DERIVED. THE GIVEN ROWS OF THIS SEAT. 8 by the template 'for every input the law returns true; each argument reads behind the call as it read before'; 0 by the template 'total and deterministic' (their statements: YtpkgfpgccfnkpaaTotals.lean).
  GIVEN WITH THE SEED: the statements are not yours to turn. If you find one false, say at which input.
  Laid BY PROGRAM, IN A SANDBOX (cutbox-rows.mjs): the forced cells as the released guide's own fill.sh prints them over the translation fcc176755e15e3e0… (all of the seat's roots in one cut). By AI agents, Wed Nov 11 2026. No macro, syntax, notation, axiom, sorry.
-/
import Derived.Test.YtpkgfpgccfnkpaaChecked
import GoSem.Claim
import GoSem.ClaimJoined
import GoSem.ClaimMapViews
import Derived.JoinedTies
import Derived.KernelRfl
namespace Go.Proofs.Ytpkgfpgccfnkpaa
/- THE CELL 'sum', in the pinned program and in every row, IS THE sha256 OF THE DUMP (.gsa) THAT YtpkgfpgccfnkpaaProg.lean LOADS. Nothing in Lean hashes anything: it is a label: what it is worth is what the hold of that sum in a sandbox is worth. -/
noncomputable def Try.pinned : Pinned := { name := "ytpkgfpgccfnkpaa", sum := "fcc176755e15e3e07625e7c50986503bc60983a09fc60e8f717c48e01ea3b876", checked := Try.checked }
namespace Rows
def none {H : Type} : Left H := { results := [], args := [] }

/-- 'laws.FnExactIsLife': WHATEVER THE INPUT: true; the input reads as it did. -/
def fnExactIsLifeSpec : ChangeSpec := { name := "fnExactIsLife", fn := fun _ => fun
  | [d] => { results := [.lit (.bool true)], args := [d] }
  | _ => none }
def fnExactIsLifeRow : OpenClaim := { program := "ytpkgfpgccfnkpaa", sum := "fcc176755e15e3e07625e7c50986503bc60983a09fc60e8f717c48e01ea3b876", func := "loop.example/g01035/laws.FnExactIsLife", spec := "fnExactIsLife", apart := false }
def FnExactIsLifeSaid : Prop := fnExactIsLifeRow.holds Try.pinned (OpenSpec.ofChange fnExactIsLifeSpec)

/-- ITS FALSE NEIGHBOUR: 'it returns false'. Refute it at one input. -/
def fnExactIsLifeWrong : ChangeSpec := { name := "fnExactIsLife", fn := fun _ => fun
  | [d] => { results := [.lit (.bool false)], args := [d] }
  | _ => none }
def FnExactIsLifeWrongFalsely : Prop := fnExactIsLifeRow.holds Try.pinned (OpenSpec.ofChange fnExactIsLifeWrong)

/-- 'laws.FnExactDaysToEnd': WHATEVER THE INPUT: true; the input reads as it did. -/
def fnExactDaysToEndSpec : ChangeSpec := { name := "fnExactDaysToEnd", fn := fun _ => fun
  | [d] => { results := [.lit (.bool true)], args := [d] }
  | _ => none }
def fnExactDaysToEndRow : OpenClaim := { program := "ytpkgfpgccfnkpaa", sum := "fcc176755e15e3e07625e7c50986503bc60983a09fc60e8f717c48e01ea3b876", func := "loop.example/g01035/laws.FnExactDaysToEnd", spec := "fnExactDaysToEnd", apart := false }
def FnExactDaysToEndSaid : Prop := fnExactDaysToEndRow.holds Try.pinned (OpenSpec.ofChange fnExactDaysToEndSpec)

/-- ITS FALSE NEIGHBOUR: 'it returns false'. Refute it at one input. -/
def fnExactDaysToEndWrong : ChangeSpec := { name := "fnExactDaysToEnd", fn := fun _ => fun
  | [d] => { results := [.lit (.bool false)], args := [d] }
  | _ => none }
def FnExactDaysToEndWrongFalsely : Prop := fnExactDaysToEndRow.holds Try.pinned (OpenSpec.ofChange fnExactDaysToEndWrong)

/-- 'laws.FnExactNewLife': WHATEVER THE INPUT: true; the input reads as it did. -/
def fnExactNewLifeSpec : ChangeSpec := { name := "fnExactNewLife", fn := fun _ => fun
  | [d1, d2] => { results := [.lit (.bool true)], args := [d1, d2] }
  | _ => none }
def fnExactNewLifeRow : OpenClaim := { program := "ytpkgfpgccfnkpaa", sum := "fcc176755e15e3e07625e7c50986503bc60983a09fc60e8f717c48e01ea3b876", func := "loop.example/g01035/laws.FnExactNewLife", spec := "fnExactNewLife", apart := false }
def FnExactNewLifeSaid : Prop := fnExactNewLifeRow.holds Try.pinned (OpenSpec.ofChange fnExactNewLifeSpec)

/-- ITS FALSE NEIGHBOUR: 'it returns false'. Refute it at one input. -/
def fnExactNewLifeWrong : ChangeSpec := { name := "fnExactNewLife", fn := fun _ => fun
  | [d1, d2] => { results := [.lit (.bool false)], args := [d1, d2] }
  | _ => none }
def FnExactNewLifeWrongFalsely : Prop := fnExactNewLifeRow.holds Try.pinned (OpenSpec.ofChange fnExactNewLifeWrong)

/-- 'laws.FnExactWhyNotEnd': WHATEVER THE INPUT: true; the input reads as it did. -/
def fnExactWhyNotEndSpec : ChangeSpec := { name := "fnExactWhyNotEnd", fn := fun _ => fun
  | [d] => { results := [.lit (.bool true)], args := [d] }
  | _ => none }
def fnExactWhyNotEndRow : OpenClaim := { program := "ytpkgfpgccfnkpaa", sum := "fcc176755e15e3e07625e7c50986503bc60983a09fc60e8f717c48e01ea3b876", func := "loop.example/g01035/laws.FnExactWhyNotEnd", spec := "fnExactWhyNotEnd", apart := false }
def FnExactWhyNotEndSaid : Prop := fnExactWhyNotEndRow.holds Try.pinned (OpenSpec.ofChange fnExactWhyNotEndSpec)

/-- ITS FALSE NEIGHBOUR: 'it returns false'. Refute it at one input. -/
def fnExactWhyNotEndWrong : ChangeSpec := { name := "fnExactWhyNotEnd", fn := fun _ => fun
  | [d] => { results := [.lit (.bool false)], args := [d] }
  | _ => none }
def FnExactWhyNotEndWrongFalsely : Prop := fnExactWhyNotEndRow.holds Try.pinned (OpenSpec.ofChange fnExactWhyNotEndWrong)

/-- 'laws.FnExactCanEnd': WHATEVER THE INPUT: true; the input reads as it did. -/
def fnExactCanEndSpec : ChangeSpec := { name := "fnExactCanEnd", fn := fun _ => fun
  | [d] => { results := [.lit (.bool true)], args := [d] }
  | _ => none }
def fnExactCanEndRow : OpenClaim := { program := "ytpkgfpgccfnkpaa", sum := "fcc176755e15e3e07625e7c50986503bc60983a09fc60e8f717c48e01ea3b876", func := "loop.example/g01035/laws.FnExactCanEnd", spec := "fnExactCanEnd", apart := false }
def FnExactCanEndSaid : Prop := fnExactCanEndRow.holds Try.pinned (OpenSpec.ofChange fnExactCanEndSpec)

/-- ITS FALSE NEIGHBOUR: 'it returns false'. Refute it at one input. -/
def fnExactCanEndWrong : ChangeSpec := { name := "fnExactCanEnd", fn := fun _ => fun
  | [d] => { results := [.lit (.bool false)], args := [d] }
  | _ => none }
def FnExactCanEndWrongFalsely : Prop := fnExactCanEndRow.holds Try.pinned (OpenSpec.ofChange fnExactCanEndWrong)

/-- 'laws.FnExactStepLife': WHATEVER THE INPUT: true; the input reads as it did. -/
def fnExactStepLifeSpec : ChangeSpec := { name := "fnExactStepLife", fn := fun _ => fun
  | [d1, d2] => { results := [.lit (.bool true)], args := [d1, d2] }
  | _ => none }
def fnExactStepLifeRow : OpenClaim := { program := "ytpkgfpgccfnkpaa", sum := "fcc176755e15e3e07625e7c50986503bc60983a09fc60e8f717c48e01ea3b876", func := "loop.example/g01035/laws.FnExactStepLife", spec := "fnExactStepLife", apart := false }
def FnExactStepLifeSaid : Prop := fnExactStepLifeRow.holds Try.pinned (OpenSpec.ofChange fnExactStepLifeSpec)

/-- ITS FALSE NEIGHBOUR: 'it returns false'. Refute it at one input. -/
def fnExactStepLifeWrong : ChangeSpec := { name := "fnExactStepLife", fn := fun _ => fun
  | [d1, d2] => { results := [.lit (.bool false)], args := [d1, d2] }
  | _ => none }
def FnExactStepLifeWrongFalsely : Prop := fnExactStepLifeRow.holds Try.pinned (OpenSpec.ofChange fnExactStepLifeWrong)

/-- 'laws.FnExactRunLife': WHATEVER THE INPUT: true; the input reads as it did. -/
def fnExactRunLifeSpec : ChangeSpec := { name := "fnExactRunLife", fn := fun _ => fun
  | [d1, d2] => { results := [.lit (.bool true)], args := [d1, d2] }
  | _ => none }
def fnExactRunLifeRow : OpenClaim := { program := "ytpkgfpgccfnkpaa", sum := "fcc176755e15e3e07625e7c50986503bc60983a09fc60e8f717c48e01ea3b876", func := "loop.example/g01035/laws.FnExactRunLife", spec := "fnExactRunLife", apart := false }
def FnExactRunLifeSaid : Prop := fnExactRunLifeRow.holds Try.pinned (OpenSpec.ofChange fnExactRunLifeSpec)

/-- ITS FALSE NEIGHBOUR: 'it returns false'. Refute it at one input. -/
def fnExactRunLifeWrong : ChangeSpec := { name := "fnExactRunLife", fn := fun _ => fun
  | [d1, d2] => { results := [.lit (.bool false)], args := [d1, d2] }
  | _ => none }
def FnExactRunLifeWrongFalsely : Prop := fnExactRunLifeRow.holds Try.pinned (OpenSpec.ofChange fnExactRunLifeWrong)

/-- 'laws.FnLives': WHATEVER THE INPUT: true; the input reads as it did. -/
def fnLivesSpec : ChangeSpec := { name := "fnLives", fn := fun _ => fun
  | [d] => { results := [.lit (.bool true)], args := [d] }
  | _ => none }
def fnLivesRow : OpenClaim := { program := "ytpkgfpgccfnkpaa", sum := "fcc176755e15e3e07625e7c50986503bc60983a09fc60e8f717c48e01ea3b876", func := "loop.example/g01035/laws.FnLives", spec := "fnLives", apart := false }
def FnLivesSaid : Prop := fnLivesRow.holds Try.pinned (OpenSpec.ofChange fnLivesSpec)

/-- ITS FALSE NEIGHBOUR: 'it returns false'. Refute it at one input. -/
def fnLivesWrong : ChangeSpec := { name := "fnLives", fn := fun _ => fun
  | [d] => { results := [.lit (.bool false)], args := [d] }
  | _ => none }
def FnLivesWrongFalsely : Prop := fnLivesRow.holds Try.pinned (OpenSpec.ofChange fnLivesWrong)

/- THE SECOND FORM. 'bulk': how many values and letters a reading holds, each counted each time it is reached (what is shared counts as often as it is met; a slice's spare places count too). A statement '..UptoSaid' is the law's where the arguments, and the package variables that the reading takes, are together of bulk at most 1048576: NARROWER than '..Said'. Prove '..Said' where nothing that the law and all that it calls make is longer than what came in: it says more and counts as full. Else prove '..UptoSaid'. A law counts once. -/
mutual
def uptoBulk {H : Type} : DataW H → Nat
  | .lit (.string bytes) => bytes.length + 1
  | .lit _ => 1
  | .nil => 1
  | .ptr d => uptoBulk d + 1
  | .slice elems spare => uptoBulkAll elems + uptoBulkAll spare + 1
  | .agg parts => uptoBulkAll parts + 1
  | .iface _ d => uptoBulk d + 1
  | .map entries => uptoBulkEntries entries + 1
  | .held _ => 1
def uptoBulkAll {H : Type} : List (DataW H) → Nat
  | [] => 0
  | d :: r => uptoBulk d + uptoBulkAll r
def uptoBulkEntries {H : Type} : List (Lit × DataW H) → Nat
  | [] => 0
  | x :: r => uptoBulkEntry x + uptoBulkEntries r
def uptoBulkEntry {H : Type} : Lit × DataW H → Nat
  | (.string bytes, d) => bytes.length + uptoBulk d + 1
  | (_, d) => uptoBulk d + 1
 end
def uptoSmall : (H : Type) → List (DataW H) → Bool := fun _ ds => decide (uptoBulkAll ds ≤ 1048576)
def OpenSpec.upto (s : _root_.Go.ChangeSpec) : _root_.Go.OpenSpec := { _root_.Go.OpenSpec.ofChange s with cond := some uptoSmall }

/-- 'laws.FnExactIsLife', WHERE WHAT IT READS IS OF BULK AT MOST 1048576: true; the input reads as it did. -/
def fnExactIsLifeUptoRow : OpenClaim := { program := "ytpkgfpgccfnkpaa", sum := "fcc176755e15e3e07625e7c50986503bc60983a09fc60e8f717c48e01ea3b876", func := "loop.example/g01035/laws.FnExactIsLife", spec := "fnExactIsLife", apart := false, narrowed := true }
def FnExactIsLifeUptoSaid : Prop := fnExactIsLifeUptoRow.holds Try.pinned (OpenSpec.upto fnExactIsLifeSpec)

/-- 'laws.FnExactDaysToEnd', WHERE WHAT IT READS IS OF BULK AT MOST 1048576: true; the input reads as it did. -/
def fnExactDaysToEndUptoRow : OpenClaim := { program := "ytpkgfpgccfnkpaa", sum := "fcc176755e15e3e07625e7c50986503bc60983a09fc60e8f717c48e01ea3b876", func := "loop.example/g01035/laws.FnExactDaysToEnd", spec := "fnExactDaysToEnd", apart := false, narrowed := true }
def FnExactDaysToEndUptoSaid : Prop := fnExactDaysToEndUptoRow.holds Try.pinned (OpenSpec.upto fnExactDaysToEndSpec)

/-- 'laws.FnExactNewLife', WHERE WHAT IT READS IS OF BULK AT MOST 1048576: true; the input reads as it did. -/
def fnExactNewLifeUptoRow : OpenClaim := { program := "ytpkgfpgccfnkpaa", sum := "fcc176755e15e3e07625e7c50986503bc60983a09fc60e8f717c48e01ea3b876", func := "loop.example/g01035/laws.FnExactNewLife", spec := "fnExactNewLife", apart := false, narrowed := true }
def FnExactNewLifeUptoSaid : Prop := fnExactNewLifeUptoRow.holds Try.pinned (OpenSpec.upto fnExactNewLifeSpec)

/-- 'laws.FnExactWhyNotEnd', WHERE WHAT IT READS IS OF BULK AT MOST 1048576: true; the input reads as it did. -/
def fnExactWhyNotEndUptoRow : OpenClaim := { program := "ytpkgfpgccfnkpaa", sum := "fcc176755e15e3e07625e7c50986503bc60983a09fc60e8f717c48e01ea3b876", func := "loop.example/g01035/laws.FnExactWhyNotEnd", spec := "fnExactWhyNotEnd", apart := false, narrowed := true }
def FnExactWhyNotEndUptoSaid : Prop := fnExactWhyNotEndUptoRow.holds Try.pinned (OpenSpec.upto fnExactWhyNotEndSpec)

/-- 'laws.FnExactCanEnd', WHERE WHAT IT READS IS OF BULK AT MOST 1048576: true; the input reads as it did. -/
def fnExactCanEndUptoRow : OpenClaim := { program := "ytpkgfpgccfnkpaa", sum := "fcc176755e15e3e07625e7c50986503bc60983a09fc60e8f717c48e01ea3b876", func := "loop.example/g01035/laws.FnExactCanEnd", spec := "fnExactCanEnd", apart := false, narrowed := true }
def FnExactCanEndUptoSaid : Prop := fnExactCanEndUptoRow.holds Try.pinned (OpenSpec.upto fnExactCanEndSpec)

/-- 'laws.FnExactStepLife', WHERE WHAT IT READS IS OF BULK AT MOST 1048576: true; the input reads as it did. -/
def fnExactStepLifeUptoRow : OpenClaim := { program := "ytpkgfpgccfnkpaa", sum := "fcc176755e15e3e07625e7c50986503bc60983a09fc60e8f717c48e01ea3b876", func := "loop.example/g01035/laws.FnExactStepLife", spec := "fnExactStepLife", apart := false, narrowed := true }
def FnExactStepLifeUptoSaid : Prop := fnExactStepLifeUptoRow.holds Try.pinned (OpenSpec.upto fnExactStepLifeSpec)

/-- 'laws.FnExactRunLife', WHERE WHAT IT READS IS OF BULK AT MOST 1048576: true; the input reads as it did. -/
def fnExactRunLifeUptoRow : OpenClaim := { program := "ytpkgfpgccfnkpaa", sum := "fcc176755e15e3e07625e7c50986503bc60983a09fc60e8f717c48e01ea3b876", func := "loop.example/g01035/laws.FnExactRunLife", spec := "fnExactRunLife", apart := false, narrowed := true }
def FnExactRunLifeUptoSaid : Prop := fnExactRunLifeUptoRow.holds Try.pinned (OpenSpec.upto fnExactRunLifeSpec)

/-- 'laws.FnLives', WHERE WHAT IT READS IS OF BULK AT MOST 1048576: true; the input reads as it did. -/
def fnLivesUptoRow : OpenClaim := { program := "ytpkgfpgccfnkpaa", sum := "fcc176755e15e3e07625e7c50986503bc60983a09fc60e8f717c48e01ea3b876", func := "loop.example/g01035/laws.FnLives", spec := "fnLives", apart := false, narrowed := true }
def FnLivesUptoSaid : Prop := fnLivesUptoRow.holds Try.pinned (OpenSpec.upto fnLivesSpec)

end Rows
end Go.Proofs.Ytpkgfpgccfnkpaa
