/-
  No cell of these rows narrows 'for every input' (looked for: loops, veiled, ifaces, maps, wideKeys, modest, calm, conditions, laid).
  DERIVED. THE GIVEN ROWS OF THIS SEAT. 11 by the template 'for every input the law returns true; each argument reads behind the call as it read before'; 0 by the template 'total and deterministic' (their statements: YtgjnaocffdhnbaaGreatTotals.lean).
  GIVEN WITH THE SEED: the statements are not yours to turn. If you find one false, say at which input.
  Laid BY PROGRAM, IN A SANDBOX (cutbox-rows.mjs): the forced cells as the released guide's own fill.sh prints them over the translation 873c92d324b370e2… (all of the seat's roots in one cut). By AI agents, Wed Nov 11 2026. No macro, syntax, notation, axiom, sorry.
-/
import Derived.Test.YtgjnaocffdhnbaaGreatChecked
import GoSem.Claim
import GoSem.ClaimJoined
import GoSem.ClaimMapViews
import Derived.JoinedTies
import Derived.KernelRfl
namespace Go.Proofs.YtgjnaocffdhnbaaGreat
/- THE CELL 'sum', in the pinned program and in every row, IS THE sha256 OF THE DUMP (.gsa) THAT YtgjnaocffdhnbaaGreatProg.lean LOADS. Nothing in Lean hashes anything: it is a label: what it is worth is what the hold of that sum in a sandbox is worth. -/
noncomputable def Tryz.pinned : Pinned := { name := "ytgjnaocffdhnbaagreat", sum := "873c92d324b370e2b5ef482828d9ebea2ed0d8b9b8dbdc231fb79beba47af621", checked := Tryz.checked }
namespace Rows
def none {H : Type} : Left H := { results := [], args := [] }

/-- 'laws.FnExactMaximalChoices': WHATEVER THE INPUT: true; the input reads as it did. -/
def fnExactMaximalChoicesSpec : ChangeSpec := { name := "fnExactMaximalChoices", fn := fun _ => fun
  | [d1, d2] => { results := [.lit (.bool true)], args := [d1, d2] }
  | _ => none }
def fnExactMaximalChoicesRow : OpenClaim := { program := "ytgjnaocffdhnbaagreat", sum := "873c92d324b370e2b5ef482828d9ebea2ed0d8b9b8dbdc231fb79beba47af621", func := "loop.example/g01116/laws.FnExactMaximalChoices", spec := "fnExactMaximalChoices", unfollowed := true, recurses := true, apart := false }
def FnExactMaximalChoicesSaid : Prop := fnExactMaximalChoicesRow.holds Tryz.pinned (OpenSpec.ofChange fnExactMaximalChoicesSpec)

/-- ITS FALSE NEIGHBOUR: 'it returns false'. Refute it at one input. -/
def fnExactMaximalChoicesWrong : ChangeSpec := { name := "fnExactMaximalChoices", fn := fun _ => fun
  | [d1, d2] => { results := [.lit (.bool false)], args := [d1, d2] }
  | _ => none }
def FnExactMaximalChoicesWrongFalsely : Prop := fnExactMaximalChoicesRow.holds Tryz.pinned (OpenSpec.ofChange fnExactMaximalChoicesWrong)

/-- 'laws.FnExactNextStates': WHATEVER THE INPUT: true; the input reads as it did. -/
def fnExactNextStatesSpec : ChangeSpec := { name := "fnExactNextStates", fn := fun _ => fun
  | [d1, d2] => { results := [.lit (.bool true)], args := [d1, d2] }
  | _ => none }
def fnExactNextStatesRow : OpenClaim := { program := "ytgjnaocffdhnbaagreat", sum := "873c92d324b370e2b5ef482828d9ebea2ed0d8b9b8dbdc231fb79beba47af621", func := "loop.example/g01116/laws.FnExactNextStates", spec := "fnExactNextStates", unfollowed := true, recurses := true, apart := false }
def FnExactNextStatesSaid : Prop := fnExactNextStatesRow.holds Tryz.pinned (OpenSpec.ofChange fnExactNextStatesSpec)

/-- ITS FALSE NEIGHBOUR: 'it returns false'. Refute it at one input. -/
def fnExactNextStatesWrong : ChangeSpec := { name := "fnExactNextStates", fn := fun _ => fun
  | [d1, d2] => { results := [.lit (.bool false)], args := [d1, d2] }
  | _ => none }
def FnExactNextStatesWrongFalsely : Prop := fnExactNextStatesRow.holds Tryz.pinned (OpenSpec.ofChange fnExactNextStatesWrong)

/-- 'laws.FnExactStatesAfter': WHATEVER THE INPUT: true; the input reads as it did. -/
def fnExactStatesAfterSpec : ChangeSpec := { name := "fnExactStatesAfter", fn := fun _ => fun
  | [d1, d2, d3] => { results := [.lit (.bool true)], args := [d1, d2, d3] }
  | _ => none }
def fnExactStatesAfterRow : OpenClaim := { program := "ytgjnaocffdhnbaagreat", sum := "873c92d324b370e2b5ef482828d9ebea2ed0d8b9b8dbdc231fb79beba47af621", func := "loop.example/g01116/laws.FnExactStatesAfter", spec := "fnExactStatesAfter", unfollowed := true, recurses := true, apart := false }
def FnExactStatesAfterSaid : Prop := fnExactStatesAfterRow.holds Tryz.pinned (OpenSpec.ofChange fnExactStatesAfterSpec)

/-- ITS FALSE NEIGHBOUR: 'it returns false'. Refute it at one input. -/
def fnExactStatesAfterWrong : ChangeSpec := { name := "fnExactStatesAfter", fn := fun _ => fun
  | [d1, d2, d3] => { results := [.lit (.bool false)], args := [d1, d2, d3] }
  | _ => none }
def FnExactStatesAfterWrongFalsely : Prop := fnExactStatesAfterRow.holds Tryz.pinned (OpenSpec.ofChange fnExactStatesAfterWrong)

/-- 'laws.FnExactAlwaysHalts': WHATEVER THE INPUT: true; the input reads as it did. -/
def fnExactAlwaysHaltsSpec : ChangeSpec := { name := "fnExactAlwaysHalts", fn := fun _ => fun
  | [d1, d2] => { results := [.lit (.bool true)], args := [d1, d2] }
  | _ => none }
def fnExactAlwaysHaltsRow : OpenClaim := { program := "ytgjnaocffdhnbaagreat", sum := "873c92d324b370e2b5ef482828d9ebea2ed0d8b9b8dbdc231fb79beba47af621", func := "loop.example/g01116/laws.FnExactAlwaysHalts", spec := "fnExactAlwaysHalts", unfollowed := true, recurses := true, apart := false }
def FnExactAlwaysHaltsSaid : Prop := fnExactAlwaysHaltsRow.holds Tryz.pinned (OpenSpec.ofChange fnExactAlwaysHaltsSpec)

/-- ITS FALSE NEIGHBOUR: 'it returns false'. Refute it at one input. -/
def fnExactAlwaysHaltsWrong : ChangeSpec := { name := "fnExactAlwaysHalts", fn := fun _ => fun
  | [d1, d2] => { results := [.lit (.bool false)], args := [d1, d2] }
  | _ => none }
def FnExactAlwaysHaltsWrongFalsely : Prop := fnExactAlwaysHaltsRow.holds Tryz.pinned (OpenSpec.ofChange fnExactAlwaysHaltsWrong)

/-- 'laws.FnExactLongestRun': WHATEVER THE INPUT: true; the input reads as it did. -/
def fnExactLongestRunSpec : ChangeSpec := { name := "fnExactLongestRun", fn := fun _ => fun
  | [d1, d2] => { results := [.lit (.bool true)], args := [d1, d2] }
  | _ => none }
def fnExactLongestRunRow : OpenClaim := { program := "ytgjnaocffdhnbaagreat", sum := "873c92d324b370e2b5ef482828d9ebea2ed0d8b9b8dbdc231fb79beba47af621", func := "loop.example/g01116/laws.FnExactLongestRun", spec := "fnExactLongestRun", unfollowed := true, recurses := true, apart := false }
def FnExactLongestRunSaid : Prop := fnExactLongestRunRow.holds Tryz.pinned (OpenSpec.ofChange fnExactLongestRunSpec)

/-- ITS FALSE NEIGHBOUR: 'it returns false'. Refute it at one input. -/
def fnExactLongestRunWrong : ChangeSpec := { name := "fnExactLongestRun", fn := fun _ => fun
  | [d1, d2] => { results := [.lit (.bool false)], args := [d1, d2] }
  | _ => none }
def FnExactLongestRunWrongFalsely : Prop := fnExactLongestRunRow.holds Tryz.pinned (OpenSpec.ofChange fnExactLongestRunWrong)

/-- 'laws.FnExactIsConfluent': WHATEVER THE INPUT: true; the input reads as it did. -/
def fnExactIsConfluentSpec : ChangeSpec := { name := "fnExactIsConfluent", fn := fun _ => fun
  | [d1, d2] => { results := [.lit (.bool true)], args := [d1, d2] }
  | _ => none }
def fnExactIsConfluentRow : OpenClaim := { program := "ytgjnaocffdhnbaagreat", sum := "873c92d324b370e2b5ef482828d9ebea2ed0d8b9b8dbdc231fb79beba47af621", func := "loop.example/g01116/laws.FnExactIsConfluent", spec := "fnExactIsConfluent", unfollowed := true, recurses := true, apart := false }
def FnExactIsConfluentSaid : Prop := fnExactIsConfluentRow.holds Tryz.pinned (OpenSpec.ofChange fnExactIsConfluentSpec)

/-- ITS FALSE NEIGHBOUR: 'it returns false'. Refute it at one input. -/
def fnExactIsConfluentWrong : ChangeSpec := { name := "fnExactIsConfluent", fn := fun _ => fun
  | [d1, d2] => { results := [.lit (.bool false)], args := [d1, d2] }
  | _ => none }
def FnExactIsConfluentWrongFalsely : Prop := fnExactIsConfluentRow.holds Tryz.pinned (OpenSpec.ofChange fnExactIsConfluentWrong)

/-- 'laws.FnExactExplore': WHATEVER THE INPUT: true; the input reads as it did. -/
def fnExactExploreSpec : ChangeSpec := { name := "fnExactExplore", fn := fun _ => fun
  | [d1, d2] => { results := [.lit (.bool true)], args := [d1, d2] }
  | _ => none }
def fnExactExploreRow : OpenClaim := { program := "ytgjnaocffdhnbaagreat", sum := "873c92d324b370e2b5ef482828d9ebea2ed0d8b9b8dbdc231fb79beba47af621", func := "loop.example/g01116/laws.FnExactExplore", spec := "fnExactExplore", unfollowed := true, recurses := true, apart := false }
def FnExactExploreSaid : Prop := fnExactExploreRow.holds Tryz.pinned (OpenSpec.ofChange fnExactExploreSpec)

/-- ITS FALSE NEIGHBOUR: 'it returns false'. Refute it at one input. -/
def fnExactExploreWrong : ChangeSpec := { name := "fnExactExplore", fn := fun _ => fun
  | [d1, d2] => { results := [.lit (.bool false)], args := [d1, d2] }
  | _ => none }
def FnExactExploreWrongFalsely : Prop := fnExactExploreRow.holds Tryz.pinned (OpenSpec.ofChange fnExactExploreWrong)

/-- 'laws.FnExactShortestTo': WHATEVER THE INPUT: true; the input reads as it did. -/
def fnExactShortestToSpec : ChangeSpec := { name := "fnExactShortestTo", fn := fun _ => fun
  | [d1, d2, d3] => { results := [.lit (.bool true)], args := [d1, d2, d3] }
  | _ => none }
def fnExactShortestToRow : OpenClaim := { program := "ytgjnaocffdhnbaagreat", sum := "873c92d324b370e2b5ef482828d9ebea2ed0d8b9b8dbdc231fb79beba47af621", func := "loop.example/g01116/laws.FnExactShortestTo", spec := "fnExactShortestTo", unfollowed := true, recurses := true, apart := false }
def FnExactShortestToSaid : Prop := fnExactShortestToRow.holds Tryz.pinned (OpenSpec.ofChange fnExactShortestToSpec)

/-- ITS FALSE NEIGHBOUR: 'it returns false'. Refute it at one input. -/
def fnExactShortestToWrong : ChangeSpec := { name := "fnExactShortestTo", fn := fun _ => fun
  | [d1, d2, d3] => { results := [.lit (.bool false)], args := [d1, d2, d3] }
  | _ => none }
def FnExactShortestToWrongFalsely : Prop := fnExactShortestToRow.holds Tryz.pinned (OpenSpec.ofChange fnExactShortestToWrong)

/-- 'laws.FnExactShortestHalt': WHATEVER THE INPUT: true; the input reads as it did. -/
def fnExactShortestHaltSpec : ChangeSpec := { name := "fnExactShortestHalt", fn := fun _ => fun
  | [d1, d2] => { results := [.lit (.bool true)], args := [d1, d2] }
  | _ => none }
def fnExactShortestHaltRow : OpenClaim := { program := "ytgjnaocffdhnbaagreat", sum := "873c92d324b370e2b5ef482828d9ebea2ed0d8b9b8dbdc231fb79beba47af621", func := "loop.example/g01116/laws.FnExactShortestHalt", spec := "fnExactShortestHalt", unfollowed := true, recurses := true, apart := false }
def FnExactShortestHaltSaid : Prop := fnExactShortestHaltRow.holds Tryz.pinned (OpenSpec.ofChange fnExactShortestHaltSpec)

/-- ITS FALSE NEIGHBOUR: 'it returns false'. Refute it at one input. -/
def fnExactShortestHaltWrong : ChangeSpec := { name := "fnExactShortestHalt", fn := fun _ => fun
  | [d1, d2] => { results := [.lit (.bool false)], args := [d1, d2] }
  | _ => none }
def FnExactShortestHaltWrongFalsely : Prop := fnExactShortestHaltRow.holds Tryz.pinned (OpenSpec.ofChange fnExactShortestHaltWrong)

/-- 'laws.FnExactHaltedStates': WHATEVER THE INPUT: true; the input reads as it did. -/
def fnExactHaltedStatesSpec : ChangeSpec := { name := "fnExactHaltedStates", fn := fun _ => fun
  | [d1, d2] => { results := [.lit (.bool true)], args := [d1, d2] }
  | _ => none }
def fnExactHaltedStatesRow : OpenClaim := { program := "ytgjnaocffdhnbaagreat", sum := "873c92d324b370e2b5ef482828d9ebea2ed0d8b9b8dbdc231fb79beba47af621", func := "loop.example/g01116/laws.FnExactHaltedStates", spec := "fnExactHaltedStates", unfollowed := true, recurses := true, apart := false }
def FnExactHaltedStatesSaid : Prop := fnExactHaltedStatesRow.holds Tryz.pinned (OpenSpec.ofChange fnExactHaltedStatesSpec)

/-- ITS FALSE NEIGHBOUR: 'it returns false'. Refute it at one input. -/
def fnExactHaltedStatesWrong : ChangeSpec := { name := "fnExactHaltedStates", fn := fun _ => fun
  | [d1, d2] => { results := [.lit (.bool false)], args := [d1, d2] }
  | _ => none }
def FnExactHaltedStatesWrongFalsely : Prop := fnExactHaltedStatesRow.holds Tryz.pinned (OpenSpec.ofChange fnExactHaltedStatesWrong)

/-- 'laws.FnExactResultsOf': WHATEVER THE INPUT: true; the input reads as it did. -/
def fnExactResultsOfSpec : ChangeSpec := { name := "fnExactResultsOf", fn := fun _ => fun
  | [d1, d2, d3] => { results := [.lit (.bool true)], args := [d1, d2, d3] }
  | _ => none }
def fnExactResultsOfRow : OpenClaim := { program := "ytgjnaocffdhnbaagreat", sum := "873c92d324b370e2b5ef482828d9ebea2ed0d8b9b8dbdc231fb79beba47af621", func := "loop.example/g01116/laws.FnExactResultsOf", spec := "fnExactResultsOf", unfollowed := true, recurses := true, apart := false }
def FnExactResultsOfSaid : Prop := fnExactResultsOfRow.holds Tryz.pinned (OpenSpec.ofChange fnExactResultsOfSpec)

/-- ITS FALSE NEIGHBOUR: 'it returns false'. Refute it at one input. -/
def fnExactResultsOfWrong : ChangeSpec := { name := "fnExactResultsOf", fn := fun _ => fun
  | [d1, d2, d3] => { results := [.lit (.bool false)], args := [d1, d2, d3] }
  | _ => none }
def FnExactResultsOfWrongFalsely : Prop := fnExactResultsOfRow.holds Tryz.pinned (OpenSpec.ofChange fnExactResultsOfWrong)

/- THE SECOND FORM. 'bulk': how many values and letters a reading holds, each counted each time it is reached (what is shared counts as often as it is met; a slice's spare places count too). A statement '..UptoSaid' is the law's where the arguments, and the package variables that the reading takes, are together of bulk at most 1048576: NARROWER than '..Said'. Prove '..Said' where nothing that the law and all that it calls make is longer than what came in: it says more and counts as full. Else prove '..UptoSaid'. A law counts once. -/
mutual
def uptoBulk {H : Type} : DataW H → Nat
  | .lit (.string bytes) => bytes.length + 1
  | .lit _ => 1
  | .nil => 1
  | .ptr d => uptoBulk d + 1
  | .slice elems spare => uptoBulkAll elems + uptoBulkAll spare + 1
  | .agg parts => uptoBulkAll parts + 1
  | .iface _ d => uptoBulk d + 1
  | .map entries => uptoBulkEntries entries + 1
  | .held _ => 1
def uptoBulkAll {H : Type} : List (DataW H) → Nat
  | [] => 0
  | d :: r => uptoBulk d + uptoBulkAll r
def uptoBulkEntries {H : Type} : List (Lit × DataW H) → Nat
  | [] => 0
  | x :: r => uptoBulkEntry x + uptoBulkEntries r
def uptoBulkEntry {H : Type} : Lit × DataW H → Nat
  | (.string bytes, d) => bytes.length + uptoBulk d + 1
  | (_, d) => uptoBulk d + 1
 end
def uptoSmall : (H : Type) → List (DataW H) → Bool := fun _ ds => decide (uptoBulkAll ds ≤ 1048576)
def OpenSpec.upto (s : _root_.Go.ChangeSpec) : _root_.Go.OpenSpec := { _root_.Go.OpenSpec.ofChange s with cond := some uptoSmall }

/-- 'laws.FnExactMaximalChoices', WHERE WHAT IT READS IS OF BULK AT MOST 1048576: true; the input reads as it did. -/
def fnExactMaximalChoicesUptoRow : OpenClaim := { program := "ytgjnaocffdhnbaagreat", sum := "873c92d324b370e2b5ef482828d9ebea2ed0d8b9b8dbdc231fb79beba47af621", func := "loop.example/g01116/laws.FnExactMaximalChoices", spec := "fnExactMaximalChoices", unfollowed := true, recurses := true, apart := false, narrowed := true }
def FnExactMaximalChoicesUptoSaid : Prop := fnExactMaximalChoicesUptoRow.holds Tryz.pinned (OpenSpec.upto fnExactMaximalChoicesSpec)

/-- 'laws.FnExactNextStates', WHERE WHAT IT READS IS OF BULK AT MOST 1048576: true; the input reads as it did. -/
def fnExactNextStatesUptoRow : OpenClaim := { program := "ytgjnaocffdhnbaagreat", sum := "873c92d324b370e2b5ef482828d9ebea2ed0d8b9b8dbdc231fb79beba47af621", func := "loop.example/g01116/laws.FnExactNextStates", spec := "fnExactNextStates", unfollowed := true, recurses := true, apart := false, narrowed := true }
def FnExactNextStatesUptoSaid : Prop := fnExactNextStatesUptoRow.holds Tryz.pinned (OpenSpec.upto fnExactNextStatesSpec)

/-- 'laws.FnExactStatesAfter', WHERE WHAT IT READS IS OF BULK AT MOST 1048576: true; the input reads as it did. -/
def fnExactStatesAfterUptoRow : OpenClaim := { program := "ytgjnaocffdhnbaagreat", sum := "873c92d324b370e2b5ef482828d9ebea2ed0d8b9b8dbdc231fb79beba47af621", func := "loop.example/g01116/laws.FnExactStatesAfter", spec := "fnExactStatesAfter", unfollowed := true, recurses := true, apart := false, narrowed := true }
def FnExactStatesAfterUptoSaid : Prop := fnExactStatesAfterUptoRow.holds Tryz.pinned (OpenSpec.upto fnExactStatesAfterSpec)

/-- 'laws.FnExactAlwaysHalts', WHERE WHAT IT READS IS OF BULK AT MOST 1048576: true; the input reads as it did. -/
def fnExactAlwaysHaltsUptoRow : OpenClaim := { program := "ytgjnaocffdhnbaagreat", sum := "873c92d324b370e2b5ef482828d9ebea2ed0d8b9b8dbdc231fb79beba47af621", func := "loop.example/g01116/laws.FnExactAlwaysHalts", spec := "fnExactAlwaysHalts", unfollowed := true, recurses := true, apart := false, narrowed := true }
def FnExactAlwaysHaltsUptoSaid : Prop := fnExactAlwaysHaltsUptoRow.holds Tryz.pinned (OpenSpec.upto fnExactAlwaysHaltsSpec)

/-- 'laws.FnExactLongestRun', WHERE WHAT IT READS IS OF BULK AT MOST 1048576: true; the input reads as it did. -/
def fnExactLongestRunUptoRow : OpenClaim := { program := "ytgjnaocffdhnbaagreat", sum := "873c92d324b370e2b5ef482828d9ebea2ed0d8b9b8dbdc231fb79beba47af621", func := "loop.example/g01116/laws.FnExactLongestRun", spec := "fnExactLongestRun", unfollowed := true, recurses := true, apart := false, narrowed := true }
def FnExactLongestRunUptoSaid : Prop := fnExactLongestRunUptoRow.holds Tryz.pinned (OpenSpec.upto fnExactLongestRunSpec)

/-- 'laws.FnExactIsConfluent', WHERE WHAT IT READS IS OF BULK AT MOST 1048576: true; the input reads as it did. -/
def fnExactIsConfluentUptoRow : OpenClaim := { program := "ytgjnaocffdhnbaagreat", sum := "873c92d324b370e2b5ef482828d9ebea2ed0d8b9b8dbdc231fb79beba47af621", func := "loop.example/g01116/laws.FnExactIsConfluent", spec := "fnExactIsConfluent", unfollowed := true, recurses := true, apart := false, narrowed := true }
def FnExactIsConfluentUptoSaid : Prop := fnExactIsConfluentUptoRow.holds Tryz.pinned (OpenSpec.upto fnExactIsConfluentSpec)

/-- 'laws.FnExactExplore', WHERE WHAT IT READS IS OF BULK AT MOST 1048576: true; the input reads as it did. -/
def fnExactExploreUptoRow : OpenClaim := { program := "ytgjnaocffdhnbaagreat", sum := "873c92d324b370e2b5ef482828d9ebea2ed0d8b9b8dbdc231fb79beba47af621", func := "loop.example/g01116/laws.FnExactExplore", spec := "fnExactExplore", unfollowed := true, recurses := true, apart := false, narrowed := true }
def FnExactExploreUptoSaid : Prop := fnExactExploreUptoRow.holds Tryz.pinned (OpenSpec.upto fnExactExploreSpec)

/-- 'laws.FnExactShortestTo', WHERE WHAT IT READS IS OF BULK AT MOST 1048576: true; the input reads as it did. -/
def fnExactShortestToUptoRow : OpenClaim := { program := "ytgjnaocffdhnbaagreat", sum := "873c92d324b370e2b5ef482828d9ebea2ed0d8b9b8dbdc231fb79beba47af621", func := "loop.example/g01116/laws.FnExactShortestTo", spec := "fnExactShortestTo", unfollowed := true, recurses := true, apart := false, narrowed := true }
def FnExactShortestToUptoSaid : Prop := fnExactShortestToUptoRow.holds Tryz.pinned (OpenSpec.upto fnExactShortestToSpec)

/-- 'laws.FnExactShortestHalt', WHERE WHAT IT READS IS OF BULK AT MOST 1048576: true; the input reads as it did. -/
def fnExactShortestHaltUptoRow : OpenClaim := { program := "ytgjnaocffdhnbaagreat", sum := "873c92d324b370e2b5ef482828d9ebea2ed0d8b9b8dbdc231fb79beba47af621", func := "loop.example/g01116/laws.FnExactShortestHalt", spec := "fnExactShortestHalt", unfollowed := true, recurses := true, apart := false, narrowed := true }
def FnExactShortestHaltUptoSaid : Prop := fnExactShortestHaltUptoRow.holds Tryz.pinned (OpenSpec.upto fnExactShortestHaltSpec)

/-- 'laws.FnExactHaltedStates', WHERE WHAT IT READS IS OF BULK AT MOST 1048576: true; the input reads as it did. -/
def fnExactHaltedStatesUptoRow : OpenClaim := { program := "ytgjnaocffdhnbaagreat", sum := "873c92d324b370e2b5ef482828d9ebea2ed0d8b9b8dbdc231fb79beba47af621", func := "loop.example/g01116/laws.FnExactHaltedStates", spec := "fnExactHaltedStates", unfollowed := true, recurses := true, apart := false, narrowed := true }
def FnExactHaltedStatesUptoSaid : Prop := fnExactHaltedStatesUptoRow.holds Tryz.pinned (OpenSpec.upto fnExactHaltedStatesSpec)

/-- 'laws.FnExactResultsOf', WHERE WHAT IT READS IS OF BULK AT MOST 1048576: true; the input reads as it did. -/
def fnExactResultsOfUptoRow : OpenClaim := { program := "ytgjnaocffdhnbaagreat", sum := "873c92d324b370e2b5ef482828d9ebea2ed0d8b9b8dbdc231fb79beba47af621", func := "loop.example/g01116/laws.FnExactResultsOf", spec := "fnExactResultsOf", unfollowed := true, recurses := true, apart := false, narrowed := true }
def FnExactResultsOfUptoSaid : Prop := fnExactResultsOfUptoRow.holds Tryz.pinned (OpenSpec.upto fnExactResultsOfSpec)

end Rows
end Go.Proofs.YtgjnaocffdhnbaaGreat
