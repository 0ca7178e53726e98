/-
  No cell of these rows narrows 'for every input' (looked for: loops, veiled, ifaces, maps, wideKeys, modest, calm, conditions, laid).
  DERIVED. THE GIVEN ROWS OF THIS SEAT. 3 by the template 'for every input the law returns true; each argument reads behind the call as it read before'; 0 by the template 'total and deterministic' (their statements: YtjfmcaiombkobaaGreatTotals.lean).
  GIVEN WITH THE SEED: the statements are not yours to turn. If you find one false, say at which input.
  Laid BY PROGRAM, IN A SANDBOX (cutbox-rows.mjs): the forced cells as the released guide's own fill.sh prints them over the translation 8135bb5aa54ea62d… (all of the seat's roots in one cut). By AI agents, Wed Nov 11 2026. No macro, syntax, notation, axiom, sorry.
-/
import Derived.Test.YtjfmcaiombkobaaGreatChecked
import GoSem.Claim
import GoSem.ClaimJoined
import GoSem.ClaimMapViews
import Derived.JoinedTies
import Derived.KernelRfl
namespace Go.Proofs.YtjfmcaiombkobaaGreat
/- THE CELL 'sum', in the pinned program and in every row, IS THE sha256 OF THE DUMP (.gsa) THAT YtjfmcaiombkobaaGreatProg.lean LOADS. Nothing in Lean hashes anything: it is a label: what it is worth is what the hold of that sum in a sandbox is worth. -/
noncomputable def Tryz.pinned : Pinned := { name := "ytjfmcaiombkobaagreat", sum := "8135bb5aa54ea62db88739c55f7f91bcff3857abba3f26639a049a2e79490b55", checked := Tryz.checked }
namespace Rows
def none {H : Type} : Left H := { results := [], args := [] }

/-- 'laws.FnCellValues': WHATEVER THE INPUT: true; the input reads as it did. -/
def fnCellValuesSpec : ChangeSpec := { name := "fnCellValues", fn := fun _ => fun
  | [d1, d2] => { results := [.lit (.bool true)], args := [d1, d2] }
  | _ => none }
def fnCellValuesRow : OpenClaim := { program := "ytjfmcaiombkobaagreat", sum := "8135bb5aa54ea62db88739c55f7f91bcff3857abba3f26639a049a2e79490b55", func := "loop.example/g01116/laws.FnCellValues", spec := "fnCellValues", unfollowed := true, recurses := true, apart := false }
def FnCellValuesSaid : Prop := fnCellValuesRow.holds Tryz.pinned (OpenSpec.ofChange fnCellValuesSpec)

/-- ITS FALSE NEIGHBOUR: 'it returns false'. Refute it at one input. -/
def fnCellValuesWrong : ChangeSpec := { name := "fnCellValues", fn := fun _ => fun
  | [d1, d2] => { results := [.lit (.bool false)], args := [d1, d2] }
  | _ => none }
def FnCellValuesWrongFalsely : Prop := fnCellValuesRow.holds Tryz.pinned (OpenSpec.ofChange fnCellValuesWrong)

/-- 'laws.FnFollow': WHATEVER THE INPUT: true; the input reads as it did. -/
def fnFollowSpec : ChangeSpec := { name := "fnFollow", fn := fun _ => fun
  | [d1, d2] => { results := [.lit (.bool true)], args := [d1, d2] }
  | _ => none }
def fnFollowRow : OpenClaim := { program := "ytjfmcaiombkobaagreat", sum := "8135bb5aa54ea62db88739c55f7f91bcff3857abba3f26639a049a2e79490b55", func := "loop.example/g01116/laws.FnFollow", spec := "fnFollow", unfollowed := true, recurses := true, apart := false }
def FnFollowSaid : Prop := fnFollowRow.holds Tryz.pinned (OpenSpec.ofChange fnFollowSpec)

/-- ITS FALSE NEIGHBOUR: 'it returns false'. Refute it at one input. -/
def fnFollowWrong : ChangeSpec := { name := "fnFollow", fn := fun _ => fun
  | [d1, d2] => { results := [.lit (.bool false)], args := [d1, d2] }
  | _ => none }
def FnFollowWrongFalsely : Prop := fnFollowRow.holds Tryz.pinned (OpenSpec.ofChange fnFollowWrong)

/-- 'laws.FnExactCellValues': WHATEVER THE INPUT: true; the input reads as it did. -/
def fnExactCellValuesSpec : ChangeSpec := { name := "fnExactCellValues", fn := fun _ => fun
  | [d1, d2, d3] => { results := [.lit (.bool true)], args := [d1, d2, d3] }
  | _ => none }
def fnExactCellValuesRow : OpenClaim := { program := "ytjfmcaiombkobaagreat", sum := "8135bb5aa54ea62db88739c55f7f91bcff3857abba3f26639a049a2e79490b55", func := "loop.example/g01116/laws.FnExactCellValues", spec := "fnExactCellValues", unfollowed := true, recurses := true, apart := false }
def FnExactCellValuesSaid : Prop := fnExactCellValuesRow.holds Tryz.pinned (OpenSpec.ofChange fnExactCellValuesSpec)

/-- ITS FALSE NEIGHBOUR: 'it returns false'. Refute it at one input. -/
def fnExactCellValuesWrong : ChangeSpec := { name := "fnExactCellValues", fn := fun _ => fun
  | [d1, d2, d3] => { results := [.lit (.bool false)], args := [d1, d2, d3] }
  | _ => none }
def FnExactCellValuesWrongFalsely : Prop := fnExactCellValuesRow.holds Tryz.pinned (OpenSpec.ofChange fnExactCellValuesWrong)

/- THE SECOND FORM. 'bulk': how many values and letters a reading holds, each counted each time it is reached (what is shared counts as often as it is met; a slice's spare places count too). A statement '..UptoSaid' is the law's where the arguments, and the package variables that the reading takes, are together of bulk at most 1048576: NARROWER than '..Said'. Prove '..Said' where nothing that the law and all that it calls make is longer than what came in: it says more and counts as full. Else prove '..UptoSaid'. A law counts once. -/
mutual
def uptoBulk {H : Type} : DataW H → Nat
  | .lit (.string bytes) => bytes.length + 1
  | .lit _ => 1
  | .nil => 1
  | .ptr d => uptoBulk d + 1
  | .slice elems spare => uptoBulkAll elems + uptoBulkAll spare + 1
  | .agg parts => uptoBulkAll parts + 1
  | .iface _ d => uptoBulk d + 1
  | .map entries => uptoBulkEntries entries + 1
  | .held _ => 1
def uptoBulkAll {H : Type} : List (DataW H) → Nat
  | [] => 0
  | d :: r => uptoBulk d + uptoBulkAll r
def uptoBulkEntries {H : Type} : List (Lit × DataW H) → Nat
  | [] => 0
  | x :: r => uptoBulkEntry x + uptoBulkEntries r
def uptoBulkEntry {H : Type} : Lit × DataW H → Nat
  | (.string bytes, d) => bytes.length + uptoBulk d + 1
  | (_, d) => uptoBulk d + 1
 end
def uptoSmall : (H : Type) → List (DataW H) → Bool := fun _ ds => decide (uptoBulkAll ds ≤ 1048576)
def OpenSpec.upto (s : _root_.Go.ChangeSpec) : _root_.Go.OpenSpec := { _root_.Go.OpenSpec.ofChange s with cond := some uptoSmall }

/-- 'laws.FnCellValues', WHERE WHAT IT READS IS OF BULK AT MOST 1048576: true; the input reads as it did. -/
def fnCellValuesUptoRow : OpenClaim := { program := "ytjfmcaiombkobaagreat", sum := "8135bb5aa54ea62db88739c55f7f91bcff3857abba3f26639a049a2e79490b55", func := "loop.example/g01116/laws.FnCellValues", spec := "fnCellValues", unfollowed := true, recurses := true, apart := false, narrowed := true }
def FnCellValuesUptoSaid : Prop := fnCellValuesUptoRow.holds Tryz.pinned (OpenSpec.upto fnCellValuesSpec)

/-- 'laws.FnFollow', WHERE WHAT IT READS IS OF BULK AT MOST 1048576: true; the input reads as it did. -/
def fnFollowUptoRow : OpenClaim := { program := "ytjfmcaiombkobaagreat", sum := "8135bb5aa54ea62db88739c55f7f91bcff3857abba3f26639a049a2e79490b55", func := "loop.example/g01116/laws.FnFollow", spec := "fnFollow", unfollowed := true, recurses := true, apart := false, narrowed := true }
def FnFollowUptoSaid : Prop := fnFollowUptoRow.holds Tryz.pinned (OpenSpec.upto fnFollowSpec)

/-- 'laws.FnExactCellValues', WHERE WHAT IT READS IS OF BULK AT MOST 1048576: true; the input reads as it did. -/
def fnExactCellValuesUptoRow : OpenClaim := { program := "ytjfmcaiombkobaagreat", sum := "8135bb5aa54ea62db88739c55f7f91bcff3857abba3f26639a049a2e79490b55", func := "loop.example/g01116/laws.FnExactCellValues", spec := "fnExactCellValues", unfollowed := true, recurses := true, apart := false, narrowed := true }
def FnExactCellValuesUptoSaid : Prop := fnExactCellValuesUptoRow.holds Tryz.pinned (OpenSpec.upto fnExactCellValuesSpec)

end Rows
end Go.Proofs.YtjfmcaiombkobaaGreat
