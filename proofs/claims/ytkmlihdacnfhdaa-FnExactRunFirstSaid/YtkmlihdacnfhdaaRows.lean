/-
  No cell of these rows narrows 'for every input' (looked for: loops, veiled, ifaces, maps, wideKeys, modest, calm, conditions, laid).
  DERIVED. THE GIVEN ROWS OF THIS SEAT. 3 by the template 'for every input the law returns true; each argument reads behind the call as it read before'; 0 by the template 'total and deterministic' (their statements: YtkmlihdacnfhdaaTotals.lean).
  GIVEN WITH THE SEED: the statements are not yours to turn. If you find one false, say at which input.
  Laid BY PROGRAM, IN A SANDBOX (cutbox-rows.mjs): the forced cells as the released guide's own fill.sh prints them over the translation 3fa0e7efee42fbdf… (all of the seat's roots in one cut). By AI agents, Wed Nov 11 2026. No macro, syntax, notation, axiom, sorry.
-/
import Derived.Test.YtkmlihdacnfhdaaChecked
import GoSem.Claim
import GoSem.ClaimJoined
import GoSem.ClaimMapViews
import Derived.JoinedTies
import Derived.KernelRfl
namespace Go.Proofs.Ytkmlihdacnfhdaa
/- THE CELL 'sum', in the pinned program and in every row, IS THE sha256 OF THE DUMP (.gsa) THAT YtkmlihdacnfhdaaProg.lean LOADS. Nothing in Lean hashes anything: it is a label: what it is worth is what the hold of that sum in a sandbox is worth. -/
noncomputable def Try.pinned : Pinned := { name := "ytkmlihdacnfhdaa", sum := "3fa0e7efee42fbdf545f97ade6da138628aedb8327e7ef0490a7cd5d41a7b93c", checked := Try.checked }
namespace Rows
def none {H : Type} : Left H := { results := [], args := [] }

/-- 'laws.FnExactValidOwners': WHATEVER THE INPUT: true; the input reads as it did. -/
def fnExactValidOwnersSpec : ChangeSpec := { name := "fnExactValidOwners", fn := fun _ => fun
  | [d1, d2] => { results := [.lit (.bool true)], args := [d1, d2] }
  | _ => none }
def fnExactValidOwnersRow : OpenClaim := { program := "ytkmlihdacnfhdaa", sum := "3fa0e7efee42fbdf545f97ade6da138628aedb8327e7ef0490a7cd5d41a7b93c", func := "loop.example/g01116/laws.FnExactValidOwners", spec := "fnExactValidOwners", unfollowed := true, recurses := true, apart := false }
def FnExactValidOwnersSaid : Prop := fnExactValidOwnersRow.holds Try.pinned (OpenSpec.ofChange fnExactValidOwnersSpec)

/-- ITS FALSE NEIGHBOUR: 'it returns false'. Refute it at one input. -/
def fnExactValidOwnersWrong : ChangeSpec := { name := "fnExactValidOwners", fn := fun _ => fun
  | [d1, d2] => { results := [.lit (.bool false)], args := [d1, d2] }
  | _ => none }
def FnExactValidOwnersWrongFalsely : Prop := fnExactValidOwnersRow.holds Try.pinned (OpenSpec.ofChange fnExactValidOwnersWrong)

/-- 'laws.FnExactMeltCell': WHATEVER THE INPUT: true; the input reads as it did. -/
def fnExactMeltCellSpec : ChangeSpec := { name := "fnExactMeltCell", fn := fun _ => fun
  | [d1, d2, d3] => { results := [.lit (.bool true)], args := [d1, d2, d3] }
  | _ => none }
def fnExactMeltCellRow : OpenClaim := { program := "ytkmlihdacnfhdaa", sum := "3fa0e7efee42fbdf545f97ade6da138628aedb8327e7ef0490a7cd5d41a7b93c", func := "loop.example/g01116/laws.FnExactMeltCell", spec := "fnExactMeltCell", unfollowed := true, recurses := true, apart := false }
def FnExactMeltCellSaid : Prop := fnExactMeltCellRow.holds Try.pinned (OpenSpec.ofChange fnExactMeltCellSpec)

/-- ITS FALSE NEIGHBOUR: 'it returns false'. Refute it at one input. -/
def fnExactMeltCellWrong : ChangeSpec := { name := "fnExactMeltCell", fn := fun _ => fun
  | [d1, d2, d3] => { results := [.lit (.bool false)], args := [d1, d2, d3] }
  | _ => none }
def FnExactMeltCellWrongFalsely : Prop := fnExactMeltCellRow.holds Try.pinned (OpenSpec.ofChange fnExactMeltCellWrong)

/-- 'laws.FnExactRunFirst': WHATEVER THE INPUT: true; the input reads as it did. -/
def fnExactRunFirstSpec : ChangeSpec := { name := "fnExactRunFirst", fn := fun _ => fun
  | [d1, d2, d3] => { results := [.lit (.bool true)], args := [d1, d2, d3] }
  | _ => none }
def fnExactRunFirstRow : OpenClaim := { program := "ytkmlihdacnfhdaa", sum := "3fa0e7efee42fbdf545f97ade6da138628aedb8327e7ef0490a7cd5d41a7b93c", func := "loop.example/g01116/laws.FnExactRunFirst", spec := "fnExactRunFirst", unfollowed := true, recurses := true, apart := false }
def FnExactRunFirstSaid : Prop := fnExactRunFirstRow.holds Try.pinned (OpenSpec.ofChange fnExactRunFirstSpec)

/-- ITS FALSE NEIGHBOUR: 'it returns false'. Refute it at one input. -/
def fnExactRunFirstWrong : ChangeSpec := { name := "fnExactRunFirst", fn := fun _ => fun
  | [d1, d2, d3] => { results := [.lit (.bool false)], args := [d1, d2, d3] }
  | _ => none }
def FnExactRunFirstWrongFalsely : Prop := fnExactRunFirstRow.holds Try.pinned (OpenSpec.ofChange fnExactRunFirstWrong)

/- THE SECOND FORM. 'bulk': how many values and letters a reading holds, each counted each time it is reached (what is shared counts as often as it is met; a slice's spare places count too). A statement '..UptoSaid' is the law's where the arguments, and the package variables that the reading takes, are together of bulk at most 1048576: NARROWER than '..Said'. Prove '..Said' where nothing that the law and all that it calls make is longer than what came in: it says more and counts as full. Else prove '..UptoSaid'. A law counts once. -/
mutual
def uptoBulk {H : Type} : DataW H → Nat
  | .lit (.string bytes) => bytes.length + 1
  | .lit _ => 1
  | .nil => 1
  | .ptr d => uptoBulk d + 1
  | .slice elems spare => uptoBulkAll elems + uptoBulkAll spare + 1
  | .agg parts => uptoBulkAll parts + 1
  | .iface _ d => uptoBulk d + 1
  | .map entries => uptoBulkEntries entries + 1
  | .held _ => 1
def uptoBulkAll {H : Type} : List (DataW H) → Nat
  | [] => 0
  | d :: r => uptoBulk d + uptoBulkAll r
def uptoBulkEntries {H : Type} : List (Lit × DataW H) → Nat
  | [] => 0
  | x :: r => uptoBulkEntry x + uptoBulkEntries r
def uptoBulkEntry {H : Type} : Lit × DataW H → Nat
  | (.string bytes, d) => bytes.length + uptoBulk d + 1
  | (_, d) => uptoBulk d + 1
 end
def uptoSmall : (H : Type) → List (DataW H) → Bool := fun _ ds => decide (uptoBulkAll ds ≤ 1048576)
def OpenSpec.upto (s : _root_.Go.ChangeSpec) : _root_.Go.OpenSpec := { _root_.Go.OpenSpec.ofChange s with cond := some uptoSmall }

/-- 'laws.FnExactValidOwners', WHERE WHAT IT READS IS OF BULK AT MOST 1048576: true; the input reads as it did. -/
def fnExactValidOwnersUptoRow : OpenClaim := { program := "ytkmlihdacnfhdaa", sum := "3fa0e7efee42fbdf545f97ade6da138628aedb8327e7ef0490a7cd5d41a7b93c", func := "loop.example/g01116/laws.FnExactValidOwners", spec := "fnExactValidOwners", unfollowed := true, recurses := true, apart := false, narrowed := true }
def FnExactValidOwnersUptoSaid : Prop := fnExactValidOwnersUptoRow.holds Try.pinned (OpenSpec.upto fnExactValidOwnersSpec)

/-- 'laws.FnExactMeltCell', WHERE WHAT IT READS IS OF BULK AT MOST 1048576: true; the input reads as it did. -/
def fnExactMeltCellUptoRow : OpenClaim := { program := "ytkmlihdacnfhdaa", sum := "3fa0e7efee42fbdf545f97ade6da138628aedb8327e7ef0490a7cd5d41a7b93c", func := "loop.example/g01116/laws.FnExactMeltCell", spec := "fnExactMeltCell", unfollowed := true, recurses := true, apart := false, narrowed := true }
def FnExactMeltCellUptoSaid : Prop := fnExactMeltCellUptoRow.holds Try.pinned (OpenSpec.upto fnExactMeltCellSpec)

/-- 'laws.FnExactRunFirst', WHERE WHAT IT READS IS OF BULK AT MOST 1048576: true; the input reads as it did. -/
def fnExactRunFirstUptoRow : OpenClaim := { program := "ytkmlihdacnfhdaa", sum := "3fa0e7efee42fbdf545f97ade6da138628aedb8327e7ef0490a7cd5d41a7b93c", func := "loop.example/g01116/laws.FnExactRunFirst", spec := "fnExactRunFirst", unfollowed := true, recurses := true, apart := false, narrowed := true }
def FnExactRunFirstUptoSaid : Prop := fnExactRunFirstUptoRow.holds Try.pinned (OpenSpec.upto fnExactRunFirstSpec)

end Rows
end Go.Proofs.Ytkmlihdacnfhdaa
