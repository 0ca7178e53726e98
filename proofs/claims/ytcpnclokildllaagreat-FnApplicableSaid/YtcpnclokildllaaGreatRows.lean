/-
  No cell of these rows narrows 'for every input' (looked for: loops, veiled, ifaces, maps, wideKeys, modest, calm, conditions, laid).
  DERIVED. THE GIVEN ROWS OF THIS SEAT. 5 by the template 'for every input the law returns true; each argument reads behind the call as it read before'; 0 by the template 'total and deterministic' (their statements: YtcpnclokildllaaGreatTotals.lean).
  GIVEN WITH THE SEED: the statements are not yours to turn. If you find one false, say at which input.
  Laid BY PROGRAM, IN A SANDBOX (cutbox-rows.mjs): the forced cells as the released guide's own fill.sh prints them over the translation fe6ccb0844a84744… (all of the seat's roots in one cut). By AI agents, Wed Nov 11 2026. No macro, syntax, notation, axiom, sorry.
-/
import Derived.Test.YtcpnclokildllaaGreatChecked
import GoSem.Claim
import GoSem.ClaimJoined
import GoSem.ClaimMapViews
import Derived.JoinedTies
import Derived.KernelRfl
namespace Go.Proofs.YtcpnclokildllaaGreat
/- THE CELL 'sum', in the pinned program and in every row, IS THE sha256 OF THE DUMP (.gsa) THAT YtcpnclokildllaaGreatProg.lean LOADS. Nothing in Lean hashes anything: it is a label: what it is worth is what the hold of that sum in a sandbox is worth. -/
noncomputable def Tryz.pinned : Pinned := { name := "ytcpnclokildllaagreat", sum := "fe6ccb0844a84744f74b57ebfa5e668d373cf608fb79451460eaf8ef7f4dad2e", checked := Tryz.checked }
namespace Rows
def none {H : Type} : Left H := { results := [], args := [] }

/-- 'laws.FnParents': WHATEVER THE INPUT: true; the input reads as it did. -/
def fnParentsSpec : ChangeSpec := { name := "fnParents", fn := fun _ => fun
  | [d1, d2] => { results := [.lit (.bool true)], args := [d1, d2] }
  | _ => none }
def fnParentsRow : OpenClaim := { program := "ytcpnclokildllaagreat", sum := "fe6ccb0844a84744f74b57ebfa5e668d373cf608fb79451460eaf8ef7f4dad2e", func := "loop.example/g01116/laws.FnParents", spec := "fnParents", unfollowed := true, recurses := true, apart := false }
def FnParentsSaid : Prop := fnParentsRow.holds Tryz.pinned (OpenSpec.ofChange fnParentsSpec)

/-- ITS FALSE NEIGHBOUR: 'it returns false'. Refute it at one input. -/
def fnParentsWrong : ChangeSpec := { name := "fnParents", fn := fun _ => fun
  | [d1, d2] => { results := [.lit (.bool false)], args := [d1, d2] }
  | _ => none }
def FnParentsWrongFalsely : Prop := fnParentsRow.holds Tryz.pinned (OpenSpec.ofChange fnParentsWrong)

/-- 'laws.FnFalling': WHATEVER THE INPUT: true; the input reads as it did. -/
def fnFallingSpec : ChangeSpec := { name := "fnFalling", fn := fun _ => fun
  | [d1, d2] => { results := [.lit (.bool true)], args := [d1, d2] }
  | _ => none }
def fnFallingRow : OpenClaim := { program := "ytcpnclokildllaagreat", sum := "fe6ccb0844a84744f74b57ebfa5e668d373cf608fb79451460eaf8ef7f4dad2e", func := "loop.example/g01116/laws.FnFalling", spec := "fnFalling", unfollowed := true, recurses := true, apart := false }
def FnFallingSaid : Prop := fnFallingRow.holds Tryz.pinned (OpenSpec.ofChange fnFallingSpec)

/-- ITS FALSE NEIGHBOUR: 'it returns false'. Refute it at one input. -/
def fnFallingWrong : ChangeSpec := { name := "fnFalling", fn := fun _ => fun
  | [d1, d2] => { results := [.lit (.bool false)], args := [d1, d2] }
  | _ => none }
def FnFallingWrongFalsely : Prop := fnFallingRow.holds Tryz.pinned (OpenSpec.ofChange fnFallingWrong)

/-- 'laws.FnStep': WHATEVER THE INPUT: true; the input reads as it did. -/
def fnStepSpec : ChangeSpec := { name := "fnStep", fn := fun _ => fun
  | [d1, d2] => { results := [.lit (.bool true)], args := [d1, d2] }
  | _ => none }
def fnStepRow : OpenClaim := { program := "ytcpnclokildllaagreat", sum := "fe6ccb0844a84744f74b57ebfa5e668d373cf608fb79451460eaf8ef7f4dad2e", func := "loop.example/g01116/laws.FnStep", spec := "fnStep", unfollowed := true, recurses := true, apart := false }
def FnStepSaid : Prop := fnStepRow.holds Tryz.pinned (OpenSpec.ofChange fnStepSpec)

/-- ITS FALSE NEIGHBOUR: 'it returns false'. Refute it at one input. -/
def fnStepWrong : ChangeSpec := { name := "fnStep", fn := fun _ => fun
  | [d1, d2] => { results := [.lit (.bool false)], args := [d1, d2] }
  | _ => none }
def FnStepWrongFalsely : Prop := fnStepRow.holds Tryz.pinned (OpenSpec.ofChange fnStepWrong)

/-- 'laws.FnApplicable': WHATEVER THE INPUT: true; the input reads as it did. -/
def fnApplicableSpec : ChangeSpec := { name := "fnApplicable", fn := fun _ => fun
  | [d1, d2] => { results := [.lit (.bool true)], args := [d1, d2] }
  | _ => none }
def fnApplicableRow : OpenClaim := { program := "ytcpnclokildllaagreat", sum := "fe6ccb0844a84744f74b57ebfa5e668d373cf608fb79451460eaf8ef7f4dad2e", func := "loop.example/g01116/laws.FnApplicable", spec := "fnApplicable", unfollowed := true, recurses := true, apart := false }
def FnApplicableSaid : Prop := fnApplicableRow.holds Tryz.pinned (OpenSpec.ofChange fnApplicableSpec)

/-- ITS FALSE NEIGHBOUR: 'it returns false'. Refute it at one input. -/
def fnApplicableWrong : ChangeSpec := { name := "fnApplicable", fn := fun _ => fun
  | [d1, d2] => { results := [.lit (.bool false)], args := [d1, d2] }
  | _ => none }
def FnApplicableWrongFalsely : Prop := fnApplicableRow.holds Tryz.pinned (OpenSpec.ofChange fnApplicableWrong)

/-- 'laws.FnGraph': WHATEVER THE INPUT: true; the input reads as it did. -/
def fnGraphSpec : ChangeSpec := { name := "fnGraph", fn := fun _ => fun
  | [d1, d2] => { results := [.lit (.bool true)], args := [d1, d2] }
  | _ => none }
def fnGraphRow : OpenClaim := { program := "ytcpnclokildllaagreat", sum := "fe6ccb0844a84744f74b57ebfa5e668d373cf608fb79451460eaf8ef7f4dad2e", func := "loop.example/g01116/laws.FnGraph", spec := "fnGraph", unfollowed := true, recurses := true, apart := false }
def FnGraphSaid : Prop := fnGraphRow.holds Tryz.pinned (OpenSpec.ofChange fnGraphSpec)

/-- ITS FALSE NEIGHBOUR: 'it returns false'. Refute it at one input. -/
def fnGraphWrong : ChangeSpec := { name := "fnGraph", fn := fun _ => fun
  | [d1, d2] => { results := [.lit (.bool false)], args := [d1, d2] }
  | _ => none }
def FnGraphWrongFalsely : Prop := fnGraphRow.holds Tryz.pinned (OpenSpec.ofChange fnGraphWrong)

/- THE SECOND FORM. 'bulk': how many values and letters a reading holds, each counted each time it is reached (what is shared counts as often as it is met; a slice's spare places count too). A statement '..UptoSaid' is the law's where the arguments, and the package variables that the reading takes, are together of bulk at most 1048576: NARROWER than '..Said'. Prove '..Said' where nothing that the law and all that it calls make is longer than what came in: it says more and counts as full. Else prove '..UptoSaid'. A law counts once. -/
mutual
def uptoBulk {H : Type} : DataW H → Nat
  | .lit (.string bytes) => bytes.length + 1
  | .lit _ => 1
  | .nil => 1
  | .ptr d => uptoBulk d + 1
  | .slice elems spare => uptoBulkAll elems + uptoBulkAll spare + 1
  | .agg parts => uptoBulkAll parts + 1
  | .iface _ d => uptoBulk d + 1
  | .map entries => uptoBulkEntries entries + 1
  | .held _ => 1
def uptoBulkAll {H : Type} : List (DataW H) → Nat
  | [] => 0
  | d :: r => uptoBulk d + uptoBulkAll r
def uptoBulkEntries {H : Type} : List (Lit × DataW H) → Nat
  | [] => 0
  | x :: r => uptoBulkEntry x + uptoBulkEntries r
def uptoBulkEntry {H : Type} : Lit × DataW H → Nat
  | (.string bytes, d) => bytes.length + uptoBulk d + 1
  | (_, d) => uptoBulk d + 1
 end
def uptoSmall : (H : Type) → List (DataW H) → Bool := fun _ ds => decide (uptoBulkAll ds ≤ 1048576)
def OpenSpec.upto (s : _root_.Go.ChangeSpec) : _root_.Go.OpenSpec := { _root_.Go.OpenSpec.ofChange s with cond := some uptoSmall }

/-- 'laws.FnParents', WHERE WHAT IT READS IS OF BULK AT MOST 1048576: true; the input reads as it did. -/
def fnParentsUptoRow : OpenClaim := { program := "ytcpnclokildllaagreat", sum := "fe6ccb0844a84744f74b57ebfa5e668d373cf608fb79451460eaf8ef7f4dad2e", func := "loop.example/g01116/laws.FnParents", spec := "fnParents", unfollowed := true, recurses := true, apart := false, narrowed := true }
def FnParentsUptoSaid : Prop := fnParentsUptoRow.holds Tryz.pinned (OpenSpec.upto fnParentsSpec)

/-- 'laws.FnFalling', WHERE WHAT IT READS IS OF BULK AT MOST 1048576: true; the input reads as it did. -/
def fnFallingUptoRow : OpenClaim := { program := "ytcpnclokildllaagreat", sum := "fe6ccb0844a84744f74b57ebfa5e668d373cf608fb79451460eaf8ef7f4dad2e", func := "loop.example/g01116/laws.FnFalling", spec := "fnFalling", unfollowed := true, recurses := true, apart := false, narrowed := true }
def FnFallingUptoSaid : Prop := fnFallingUptoRow.holds Tryz.pinned (OpenSpec.upto fnFallingSpec)

/-- 'laws.FnStep', WHERE WHAT IT READS IS OF BULK AT MOST 1048576: true; the input reads as it did. -/
def fnStepUptoRow : OpenClaim := { program := "ytcpnclokildllaagreat", sum := "fe6ccb0844a84744f74b57ebfa5e668d373cf608fb79451460eaf8ef7f4dad2e", func := "loop.example/g01116/laws.FnStep", spec := "fnStep", unfollowed := true, recurses := true, apart := false, narrowed := true }
def FnStepUptoSaid : Prop := fnStepUptoRow.holds Tryz.pinned (OpenSpec.upto fnStepSpec)

/-- 'laws.FnApplicable', WHERE WHAT IT READS IS OF BULK AT MOST 1048576: true; the input reads as it did. -/
def fnApplicableUptoRow : OpenClaim := { program := "ytcpnclokildllaagreat", sum := "fe6ccb0844a84744f74b57ebfa5e668d373cf608fb79451460eaf8ef7f4dad2e", func := "loop.example/g01116/laws.FnApplicable", spec := "fnApplicable", unfollowed := true, recurses := true, apart := false, narrowed := true }
def FnApplicableUptoSaid : Prop := fnApplicableUptoRow.holds Tryz.pinned (OpenSpec.upto fnApplicableSpec)

/-- 'laws.FnGraph', WHERE WHAT IT READS IS OF BULK AT MOST 1048576: true; the input reads as it did. -/
def fnGraphUptoRow : OpenClaim := { program := "ytcpnclokildllaagreat", sum := "fe6ccb0844a84744f74b57ebfa5e668d373cf608fb79451460eaf8ef7f4dad2e", func := "loop.example/g01116/laws.FnGraph", spec := "fnGraph", unfollowed := true, recurses := true, apart := false, narrowed := true }
def FnGraphUptoSaid : Prop := fnGraphUptoRow.holds Tryz.pinned (OpenSpec.upto fnGraphSpec)

end Rows
end Go.Proofs.YtcpnclokildllaaGreat
