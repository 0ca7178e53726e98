/-
  No cell of these rows narrows 'for every input' (looked for: loops, veiled, ifaces, maps, wideKeys, modest, calm, conditions, laid).
  DERIVED. THE GIVEN ROWS OF THIS SEAT. 5 by the template 'for every input the law returns true; each argument reads behind the call as it read before'; 0 by the template 'total and deterministic' (their statements: YtkmlihdacnfhdaaGreatTotals.lean).
  GIVEN WITH THE SEED: the statements are not yours to turn. If you find one false, say at which input.
  Laid BY PROGRAM, IN A SANDBOX (cutbox-rows.mjs): the forced cells as the released guide's own fill.sh prints them over the translation c6982c9d26e1f186… (all of the seat's roots in one cut). By AI agents, Wed Nov 11 2026. No macro, syntax, notation, axiom, sorry.
-/
import Derived.Test.YtkmlihdacnfhdaaGreatChecked
import GoSem.Claim
import GoSem.ClaimJoined
import GoSem.ClaimMapViews
import Derived.JoinedTies
import Derived.KernelRfl
namespace Go.Proofs.YtkmlihdacnfhdaaGreat
/- THE CELL 'sum', in the pinned program and in every row, IS THE sha256 OF THE DUMP (.gsa) THAT YtkmlihdacnfhdaaGreatProg.lean LOADS. Nothing in Lean hashes anything: it is a label: what it is worth is what the hold of that sum in a sandbox is worth. -/
noncomputable def Tryz.pinned : Pinned := { name := "ytkmlihdacnfhdaagreat", sum := "c6982c9d26e1f18670026bad2b5eef875cd9026c67a55235a79916c2d2843560", checked := Tryz.checked }
namespace Rows
def none {H : Type} : Left H := { results := [], args := [] }

/-- 'laws.FnExactPutsOf': WHATEVER THE INPUT: true; the input reads as it did. -/
def fnExactPutsOfSpec : ChangeSpec := { name := "fnExactPutsOf", fn := fun _ => fun
  | [d1, d2, d3] => { results := [.lit (.bool true)], args := [d1, d2, d3] }
  | _ => none }
def fnExactPutsOfRow : OpenClaim := { program := "ytkmlihdacnfhdaagreat", sum := "c6982c9d26e1f18670026bad2b5eef875cd9026c67a55235a79916c2d2843560", func := "loop.example/g01116/laws.FnExactPutsOf", spec := "fnExactPutsOf", unfollowed := true, recurses := true, apart := false }
def FnExactPutsOfSaid : Prop := fnExactPutsOfRow.holds Tryz.pinned (OpenSpec.ofChange fnExactPutsOfSpec)

/-- ITS FALSE NEIGHBOUR: 'it returns false'. Refute it at one input. -/
def fnExactPutsOfWrong : ChangeSpec := { name := "fnExactPutsOf", fn := fun _ => fun
  | [d1, d2, d3] => { results := [.lit (.bool false)], args := [d1, d2, d3] }
  | _ => none }
def FnExactPutsOfWrongFalsely : Prop := fnExactPutsOfRow.holds Tryz.pinned (OpenSpec.ofChange fnExactPutsOfWrong)

/-- 'laws.FnExactStepOne': WHATEVER THE INPUT: true; the input reads as it did. -/
def fnExactStepOneSpec : ChangeSpec := { name := "fnExactStepOne", fn := fun _ => fun
  | [d1, d2, d3] => { results := [.lit (.bool true)], args := [d1, d2, d3] }
  | _ => none }
def fnExactStepOneRow : OpenClaim := { program := "ytkmlihdacnfhdaagreat", sum := "c6982c9d26e1f18670026bad2b5eef875cd9026c67a55235a79916c2d2843560", func := "loop.example/g01116/laws.FnExactStepOne", spec := "fnExactStepOne", unfollowed := true, recurses := true, apart := false }
def FnExactStepOneSaid : Prop := fnExactStepOneRow.holds Tryz.pinned (OpenSpec.ofChange fnExactStepOneSpec)

/-- ITS FALSE NEIGHBOUR: 'it returns false'. Refute it at one input. -/
def fnExactStepOneWrong : ChangeSpec := { name := "fnExactStepOne", fn := fun _ => fun
  | [d1, d2, d3] => { results := [.lit (.bool false)], args := [d1, d2, d3] }
  | _ => none }
def FnExactStepOneWrongFalsely : Prop := fnExactStepOneRow.holds Tryz.pinned (OpenSpec.ofChange fnExactStepOneWrong)

/-- 'laws.FnExactStepBy': WHATEVER THE INPUT: true; the input reads as it did. -/
def fnExactStepBySpec : ChangeSpec := { name := "fnExactStepBy", fn := fun _ => fun
  | [d1, d2, d3] => { results := [.lit (.bool true)], args := [d1, d2, d3] }
  | _ => none }
def fnExactStepByRow : OpenClaim := { program := "ytkmlihdacnfhdaagreat", sum := "c6982c9d26e1f18670026bad2b5eef875cd9026c67a55235a79916c2d2843560", func := "loop.example/g01116/laws.FnExactStepBy", spec := "fnExactStepBy", unfollowed := true, recurses := true, apart := false }
def FnExactStepBySaid : Prop := fnExactStepByRow.holds Tryz.pinned (OpenSpec.ofChange fnExactStepBySpec)

/-- ITS FALSE NEIGHBOUR: 'it returns false'. Refute it at one input. -/
def fnExactStepByWrong : ChangeSpec := { name := "fnExactStepBy", fn := fun _ => fun
  | [d1, d2, d3] => { results := [.lit (.bool false)], args := [d1, d2, d3] }
  | _ => none }
def FnExactStepByWrongFalsely : Prop := fnExactStepByRow.holds Tryz.pinned (OpenSpec.ofChange fnExactStepByWrong)

/-- 'laws.FnExactRunChoices': WHATEVER THE INPUT: true; the input reads as it did. -/
def fnExactRunChoicesSpec : ChangeSpec := { name := "fnExactRunChoices", fn := fun _ => fun
  | [d1, d2, d3] => { results := [.lit (.bool true)], args := [d1, d2, d3] }
  | _ => none }
def fnExactRunChoicesRow : OpenClaim := { program := "ytkmlihdacnfhdaagreat", sum := "c6982c9d26e1f18670026bad2b5eef875cd9026c67a55235a79916c2d2843560", func := "loop.example/g01116/laws.FnExactRunChoices", spec := "fnExactRunChoices", unfollowed := true, recurses := true, apart := false }
def FnExactRunChoicesSaid : Prop := fnExactRunChoicesRow.holds Tryz.pinned (OpenSpec.ofChange fnExactRunChoicesSpec)

/-- ITS FALSE NEIGHBOUR: 'it returns false'. Refute it at one input. -/
def fnExactRunChoicesWrong : ChangeSpec := { name := "fnExactRunChoices", fn := fun _ => fun
  | [d1, d2, d3] => { results := [.lit (.bool false)], args := [d1, d2, d3] }
  | _ => none }
def FnExactRunChoicesWrongFalsely : Prop := fnExactRunChoicesRow.holds Tryz.pinned (OpenSpec.ofChange fnExactRunChoicesWrong)

/-- 'laws.FnExactNextSingles': WHATEVER THE INPUT: true; the input reads as it did. -/
def fnExactNextSinglesSpec : ChangeSpec := { name := "fnExactNextSingles", fn := fun _ => fun
  | [d1, d2] => { results := [.lit (.bool true)], args := [d1, d2] }
  | _ => none }
def fnExactNextSinglesRow : OpenClaim := { program := "ytkmlihdacnfhdaagreat", sum := "c6982c9d26e1f18670026bad2b5eef875cd9026c67a55235a79916c2d2843560", func := "loop.example/g01116/laws.FnExactNextSingles", spec := "fnExactNextSingles", unfollowed := true, recurses := true, apart := false }
def FnExactNextSinglesSaid : Prop := fnExactNextSinglesRow.holds Tryz.pinned (OpenSpec.ofChange fnExactNextSinglesSpec)

/-- ITS FALSE NEIGHBOUR: 'it returns false'. Refute it at one input. -/
def fnExactNextSinglesWrong : ChangeSpec := { name := "fnExactNextSingles", fn := fun _ => fun
  | [d1, d2] => { results := [.lit (.bool false)], args := [d1, d2] }
  | _ => none }
def FnExactNextSinglesWrongFalsely : Prop := fnExactNextSinglesRow.holds Tryz.pinned (OpenSpec.ofChange fnExactNextSinglesWrong)

/- THE SECOND FORM. 'bulk': how many values and letters a reading holds, each counted each time it is reached (what is shared counts as often as it is met; a slice's spare places count too). A statement '..UptoSaid' is the law's where the arguments, and the package variables that the reading takes, are together of bulk at most 1048576: NARROWER than '..Said'. Prove '..Said' where nothing that the law and all that it calls make is longer than what came in: it says more and counts as full. Else prove '..UptoSaid'. A law counts once. -/
mutual
def uptoBulk {H : Type} : DataW H → Nat
  | .lit (.string bytes) => bytes.length + 1
  | .lit _ => 1
  | .nil => 1
  | .ptr d => uptoBulk d + 1
  | .slice elems spare => uptoBulkAll elems + uptoBulkAll spare + 1
  | .agg parts => uptoBulkAll parts + 1
  | .iface _ d => uptoBulk d + 1
  | .map entries => uptoBulkEntries entries + 1
  | .held _ => 1
def uptoBulkAll {H : Type} : List (DataW H) → Nat
  | [] => 0
  | d :: r => uptoBulk d + uptoBulkAll r
def uptoBulkEntries {H : Type} : List (Lit × DataW H) → Nat
  | [] => 0
  | x :: r => uptoBulkEntry x + uptoBulkEntries r
def uptoBulkEntry {H : Type} : Lit × DataW H → Nat
  | (.string bytes, d) => bytes.length + uptoBulk d + 1
  | (_, d) => uptoBulk d + 1
 end
def uptoSmall : (H : Type) → List (DataW H) → Bool := fun _ ds => decide (uptoBulkAll ds ≤ 1048576)
def OpenSpec.upto (s : _root_.Go.ChangeSpec) : _root_.Go.OpenSpec := { _root_.Go.OpenSpec.ofChange s with cond := some uptoSmall }

/-- 'laws.FnExactPutsOf', WHERE WHAT IT READS IS OF BULK AT MOST 1048576: true; the input reads as it did. -/
def fnExactPutsOfUptoRow : OpenClaim := { program := "ytkmlihdacnfhdaagreat", sum := "c6982c9d26e1f18670026bad2b5eef875cd9026c67a55235a79916c2d2843560", func := "loop.example/g01116/laws.FnExactPutsOf", spec := "fnExactPutsOf", unfollowed := true, recurses := true, apart := false, narrowed := true }
def FnExactPutsOfUptoSaid : Prop := fnExactPutsOfUptoRow.holds Tryz.pinned (OpenSpec.upto fnExactPutsOfSpec)

/-- 'laws.FnExactStepOne', WHERE WHAT IT READS IS OF BULK AT MOST 1048576: true; the input reads as it did. -/
def fnExactStepOneUptoRow : OpenClaim := { program := "ytkmlihdacnfhdaagreat", sum := "c6982c9d26e1f18670026bad2b5eef875cd9026c67a55235a79916c2d2843560", func := "loop.example/g01116/laws.FnExactStepOne", spec := "fnExactStepOne", unfollowed := true, recurses := true, apart := false, narrowed := true }
def FnExactStepOneUptoSaid : Prop := fnExactStepOneUptoRow.holds Tryz.pinned (OpenSpec.upto fnExactStepOneSpec)

/-- 'laws.FnExactStepBy', WHERE WHAT IT READS IS OF BULK AT MOST 1048576: true; the input reads as it did. -/
def fnExactStepByUptoRow : OpenClaim := { program := "ytkmlihdacnfhdaagreat", sum := "c6982c9d26e1f18670026bad2b5eef875cd9026c67a55235a79916c2d2843560", func := "loop.example/g01116/laws.FnExactStepBy", spec := "fnExactStepBy", unfollowed := true, recurses := true, apart := false, narrowed := true }
def FnExactStepByUptoSaid : Prop := fnExactStepByUptoRow.holds Tryz.pinned (OpenSpec.upto fnExactStepBySpec)

/-- 'laws.FnExactRunChoices', WHERE WHAT IT READS IS OF BULK AT MOST 1048576: true; the input reads as it did. -/
def fnExactRunChoicesUptoRow : OpenClaim := { program := "ytkmlihdacnfhdaagreat", sum := "c6982c9d26e1f18670026bad2b5eef875cd9026c67a55235a79916c2d2843560", func := "loop.example/g01116/laws.FnExactRunChoices", spec := "fnExactRunChoices", unfollowed := true, recurses := true, apart := false, narrowed := true }
def FnExactRunChoicesUptoSaid : Prop := fnExactRunChoicesUptoRow.holds Tryz.pinned (OpenSpec.upto fnExactRunChoicesSpec)

/-- 'laws.FnExactNextSingles', WHERE WHAT IT READS IS OF BULK AT MOST 1048576: true; the input reads as it did. -/
def fnExactNextSinglesUptoRow : OpenClaim := { program := "ytkmlihdacnfhdaagreat", sum := "c6982c9d26e1f18670026bad2b5eef875cd9026c67a55235a79916c2d2843560", func := "loop.example/g01116/laws.FnExactNextSingles", spec := "fnExactNextSingles", unfollowed := true, recurses := true, apart := false, narrowed := true }
def FnExactNextSinglesUptoSaid : Prop := fnExactNextSinglesUptoRow.holds Tryz.pinned (OpenSpec.upto fnExactNextSinglesSpec)

end Rows
end Go.Proofs.YtkmlihdacnfhdaaGreat
