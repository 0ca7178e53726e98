/-
  No cell of these rows narrows 'for every input' (looked for: loops, veiled, ifaces, maps, wideKeys, modest, calm, conditions, laid).
  DERIVED. THE GIVEN ROWS OF THIS SEAT. 3 by the template 'for every input the law returns true; each argument reads behind the call as it read before'; 0 by the template 'total and deterministic' (their statements: YtdhklgjmiamiaaaGreatTotals.lean).
  GIVEN WITH THE SEED: the statements are not yours to turn. If you find one false, say at which input.
  Laid BY PROGRAM, IN A SANDBOX (cutbox-rows.mjs): the forced cells as the released guide's own fill.sh prints them over the translation dc2d92514b12ed44… (all of the seat's roots in one cut). By AI agents, Wed Nov 11 2026. No macro, syntax, notation, axiom, sorry.
-/
import Derived.Test.YtdhklgjmiamiaaaGreatChecked
import GoSem.Claim
import GoSem.ClaimJoined
import GoSem.ClaimMapViews
import Derived.JoinedTies
import Derived.KernelRfl
namespace Go.Proofs.YtdhklgjmiamiaaaGreat
/- THE CELL 'sum', in the pinned program and in every row, IS THE sha256 OF THE DUMP (.gsa) THAT YtdhklgjmiamiaaaGreatProg.lean LOADS. Nothing in Lean hashes anything: it is a label: what it is worth is what the hold of that sum in a sandbox is worth. -/
noncomputable def Tryz.pinned : Pinned := { name := "ytdhklgjmiamiaaagreat", sum := "dc2d92514b12ed44f7f8d738b1ca756e711c4c828f8a53f46e0dcbfc44fd7358", checked := Tryz.checked }
namespace Rows
def none {H : Type} : Left H := { results := [], args := [] }

/-- 'laws.FnWeighed': WHATEVER THE INPUT: true; the input reads as it did. -/
def fnWeighedSpec : ChangeSpec := { name := "fnWeighed", fn := fun _ => fun
  | [d1, d2] => { results := [.lit (.bool true)], args := [d1, d2] }
  | _ => none }
def fnWeighedRow : OpenClaim := { program := "ytdhklgjmiamiaaagreat", sum := "dc2d92514b12ed44f7f8d738b1ca756e711c4c828f8a53f46e0dcbfc44fd7358", func := "loop.example/g01116/laws.FnWeighed", spec := "fnWeighed", unfollowed := true, recurses := true, apart := false }
def FnWeighedSaid : Prop := fnWeighedRow.holds Tryz.pinned (OpenSpec.ofChange fnWeighedSpec)

/-- ITS FALSE NEIGHBOUR: 'it returns false'. Refute it at one input. -/
def fnWeighedWrong : ChangeSpec := { name := "fnWeighed", fn := fun _ => fun
  | [d1, d2] => { results := [.lit (.bool false)], args := [d1, d2] }
  | _ => none }
def FnWeighedWrongFalsely : Prop := fnWeighedRow.holds Tryz.pinned (OpenSpec.ofChange fnWeighedWrong)

/-- 'laws.FnGraph': WHATEVER THE INPUT: true; the input reads as it did. -/
def fnGraphSpec : ChangeSpec := { name := "fnGraph", fn := fun _ => fun
  | [d1, d2] => { results := [.lit (.bool true)], args := [d1, d2] }
  | _ => none }
def fnGraphRow : OpenClaim := { program := "ytdhklgjmiamiaaagreat", sum := "dc2d92514b12ed44f7f8d738b1ca756e711c4c828f8a53f46e0dcbfc44fd7358", func := "loop.example/g01116/laws.FnGraph", spec := "fnGraph", unfollowed := true, recurses := true, apart := false }
def FnGraphSaid : Prop := fnGraphRow.holds Tryz.pinned (OpenSpec.ofChange fnGraphSpec)

/-- ITS FALSE NEIGHBOUR: 'it returns false'. Refute it at one input. -/
def fnGraphWrong : ChangeSpec := { name := "fnGraph", fn := fun _ => fun
  | [d1, d2] => { results := [.lit (.bool false)], args := [d1, d2] }
  | _ => none }
def FnGraphWrongFalsely : Prop := fnGraphRow.holds Tryz.pinned (OpenSpec.ofChange fnGraphWrong)

/-- 'laws.FnHalts': WHATEVER THE INPUT: true; the input reads as it did. -/
def fnHaltsSpec : ChangeSpec := { name := "fnHalts", fn := fun _ => fun
  | [d1, d2] => { results := [.lit (.bool true)], args := [d1, d2] }
  | _ => none }
def fnHaltsRow : OpenClaim := { program := "ytdhklgjmiamiaaagreat", sum := "dc2d92514b12ed44f7f8d738b1ca756e711c4c828f8a53f46e0dcbfc44fd7358", func := "loop.example/g01116/laws.FnHalts", spec := "fnHalts", unfollowed := true, recurses := true, apart := false }
def FnHaltsSaid : Prop := fnHaltsRow.holds Tryz.pinned (OpenSpec.ofChange fnHaltsSpec)

/-- ITS FALSE NEIGHBOUR: 'it returns false'. Refute it at one input. -/
def fnHaltsWrong : ChangeSpec := { name := "fnHalts", fn := fun _ => fun
  | [d1, d2] => { results := [.lit (.bool false)], args := [d1, d2] }
  | _ => none }
def FnHaltsWrongFalsely : Prop := fnHaltsRow.holds Tryz.pinned (OpenSpec.ofChange fnHaltsWrong)

/- THE SECOND FORM. 'bulk': how many values and letters a reading holds, each counted each time it is reached (what is shared counts as often as it is met; a slice's spare places count too). A statement '..UptoSaid' is the law's where the arguments, and the package variables that the reading takes, are together of bulk at most 1048576: NARROWER than '..Said'. Prove '..Said' where nothing that the law and all that it calls make is longer than what came in: it says more and counts as full. Else prove '..UptoSaid'. A law counts once. -/
mutual
def uptoBulk {H : Type} : DataW H → Nat
  | .lit (.string bytes) => bytes.length + 1
  | .lit _ => 1
  | .nil => 1
  | .ptr d => uptoBulk d + 1
  | .slice elems spare => uptoBulkAll elems + uptoBulkAll spare + 1
  | .agg parts => uptoBulkAll parts + 1
  | .iface _ d => uptoBulk d + 1
  | .map entries => uptoBulkEntries entries + 1
  | .held _ => 1
def uptoBulkAll {H : Type} : List (DataW H) → Nat
  | [] => 0
  | d :: r => uptoBulk d + uptoBulkAll r
def uptoBulkEntries {H : Type} : List (Lit × DataW H) → Nat
  | [] => 0
  | x :: r => uptoBulkEntry x + uptoBulkEntries r
def uptoBulkEntry {H : Type} : Lit × DataW H → Nat
  | (.string bytes, d) => bytes.length + uptoBulk d + 1
  | (_, d) => uptoBulk d + 1
 end
def uptoSmall : (H : Type) → List (DataW H) → Bool := fun _ ds => decide (uptoBulkAll ds ≤ 1048576)
def OpenSpec.upto (s : _root_.Go.ChangeSpec) : _root_.Go.OpenSpec := { _root_.Go.OpenSpec.ofChange s with cond := some uptoSmall }

/-- 'laws.FnWeighed', WHERE WHAT IT READS IS OF BULK AT MOST 1048576: true; the input reads as it did. -/
def fnWeighedUptoRow : OpenClaim := { program := "ytdhklgjmiamiaaagreat", sum := "dc2d92514b12ed44f7f8d738b1ca756e711c4c828f8a53f46e0dcbfc44fd7358", func := "loop.example/g01116/laws.FnWeighed", spec := "fnWeighed", unfollowed := true, recurses := true, apart := false, narrowed := true }
def FnWeighedUptoSaid : Prop := fnWeighedUptoRow.holds Tryz.pinned (OpenSpec.upto fnWeighedSpec)

/-- 'laws.FnGraph', WHERE WHAT IT READS IS OF BULK AT MOST 1048576: true; the input reads as it did. -/
def fnGraphUptoRow : OpenClaim := { program := "ytdhklgjmiamiaaagreat", sum := "dc2d92514b12ed44f7f8d738b1ca756e711c4c828f8a53f46e0dcbfc44fd7358", func := "loop.example/g01116/laws.FnGraph", spec := "fnGraph", unfollowed := true, recurses := true, apart := false, narrowed := true }
def FnGraphUptoSaid : Prop := fnGraphUptoRow.holds Tryz.pinned (OpenSpec.upto fnGraphSpec)

/-- 'laws.FnHalts', WHERE WHAT IT READS IS OF BULK AT MOST 1048576: true; the input reads as it did. -/
def fnHaltsUptoRow : OpenClaim := { program := "ytdhklgjmiamiaaagreat", sum := "dc2d92514b12ed44f7f8d738b1ca756e711c4c828f8a53f46e0dcbfc44fd7358", func := "loop.example/g01116/laws.FnHalts", spec := "fnHalts", unfollowed := true, recurses := true, apart := false, narrowed := true }
def FnHaltsUptoSaid : Prop := fnHaltsUptoRow.holds Tryz.pinned (OpenSpec.upto fnHaltsSpec)

end Rows
end Go.Proofs.YtdhklgjmiamiaaaGreat
