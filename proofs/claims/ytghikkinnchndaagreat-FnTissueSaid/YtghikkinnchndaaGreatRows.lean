/-
  No cell of these rows narrows 'for every input' (looked for: loops, veiled, ifaces, maps, wideKeys, modest, calm, conditions, laid).
  DERIVED. THE GIVEN ROWS OF THIS SEAT. 4 by the template 'for every input the law returns true; each argument reads behind the call as it read before'; 0 by the template 'total and deterministic' (their statements: YtghikkinnchndaaGreatTotals.lean).
  GIVEN WITH THE SEED: the statements are not yours to turn. If you find one false, say at which input.
  Laid BY PROGRAM, IN A SANDBOX (cutbox-rows.mjs): the forced cells as the released guide's own fill.sh prints them over the translation 7bec27caeb720cf8… (all of the seat's roots in one cut). By AI agents, Wed Nov 11 2026. No macro, syntax, notation, axiom, sorry.
-/
import Derived.Test.YtghikkinnchndaaGreatChecked
import GoSem.Claim
import GoSem.ClaimJoined
import GoSem.ClaimMapViews
import Derived.JoinedTies
import Derived.KernelRfl
namespace Go.Proofs.YtghikkinnchndaaGreat
/- THE CELL 'sum', in the pinned program and in every row, IS THE sha256 OF THE DUMP (.gsa) THAT YtghikkinnchndaaGreatProg.lean LOADS. Nothing in Lean hashes anything: it is a label: what it is worth is what the hold of that sum in a sandbox is worth. -/
noncomputable def Tryz.pinned : Pinned := { name := "ytghikkinnchndaagreat", sum := "7bec27caeb720cf80c0785e7499a5243d2fd06b6dd3adb175cbb81e99953446a", checked := Tryz.checked }
namespace Rows
def none {H : Type} : Left H := { results := [], args := [] }

/-- 'laws.FnTissueCrash': WHATEVER THE INPUT: true; the input reads as it did. -/
def fnTissueCrashSpec : ChangeSpec := { name := "fnTissueCrash", fn := fun _ => fun
  | [d1, d2] => { results := [.lit (.bool true)], args := [d1, d2] }
  | _ => none }
def fnTissueCrashRow : OpenClaim := { program := "ytghikkinnchndaagreat", sum := "7bec27caeb720cf80c0785e7499a5243d2fd06b6dd3adb175cbb81e99953446a", func := "loop.example/g01116/laws.FnTissueCrash", spec := "fnTissueCrash", unfollowed := true, recurses := true, apart := false }
def FnTissueCrashSaid : Prop := fnTissueCrashRow.holds Tryz.pinned (OpenSpec.ofChange fnTissueCrashSpec)

/-- ITS FALSE NEIGHBOUR: 'it returns false'. Refute it at one input. -/
def fnTissueCrashWrong : ChangeSpec := { name := "fnTissueCrash", fn := fun _ => fun
  | [d1, d2] => { results := [.lit (.bool false)], args := [d1, d2] }
  | _ => none }
def FnTissueCrashWrongFalsely : Prop := fnTissueCrashRow.holds Tryz.pinned (OpenSpec.ofChange fnTissueCrashWrong)

/-- 'laws.FnParcels': WHATEVER THE INPUT: true; the input reads as it did. -/
def fnParcelsSpec : ChangeSpec := { name := "fnParcels", fn := fun _ => fun
  | [d1, d2] => { results := [.lit (.bool true)], args := [d1, d2] }
  | _ => none }
def fnParcelsRow : OpenClaim := { program := "ytghikkinnchndaagreat", sum := "7bec27caeb720cf80c0785e7499a5243d2fd06b6dd3adb175cbb81e99953446a", func := "loop.example/g01116/laws.FnParcels", spec := "fnParcels", unfollowed := true, recurses := true, apart := false }
def FnParcelsSaid : Prop := fnParcelsRow.holds Tryz.pinned (OpenSpec.ofChange fnParcelsSpec)

/-- ITS FALSE NEIGHBOUR: 'it returns false'. Refute it at one input. -/
def fnParcelsWrong : ChangeSpec := { name := "fnParcels", fn := fun _ => fun
  | [d1, d2] => { results := [.lit (.bool false)], args := [d1, d2] }
  | _ => none }
def FnParcelsWrongFalsely : Prop := fnParcelsRow.holds Tryz.pinned (OpenSpec.ofChange fnParcelsWrong)

/-- 'laws.FnTissue': WHATEVER THE INPUT: true; the input reads as it did. -/
def fnTissueSpec : ChangeSpec := { name := "fnTissue", fn := fun _ => fun
  | [d1, d2] => { results := [.lit (.bool true)], args := [d1, d2] }
  | _ => none }
def fnTissueRow : OpenClaim := { program := "ytghikkinnchndaagreat", sum := "7bec27caeb720cf80c0785e7499a5243d2fd06b6dd3adb175cbb81e99953446a", func := "loop.example/g01116/laws.FnTissue", spec := "fnTissue", unfollowed := true, recurses := true, apart := false }
def FnTissueSaid : Prop := fnTissueRow.holds Tryz.pinned (OpenSpec.ofChange fnTissueSpec)

/-- ITS FALSE NEIGHBOUR: 'it returns false'. Refute it at one input. -/
def fnTissueWrong : ChangeSpec := { name := "fnTissue", fn := fun _ => fun
  | [d1, d2] => { results := [.lit (.bool false)], args := [d1, d2] }
  | _ => none }
def FnTissueWrongFalsely : Prop := fnTissueRow.holds Tryz.pinned (OpenSpec.ofChange fnTissueWrong)

/-- 'laws.FnPlan': WHATEVER THE INPUT: true; the input reads as it did. -/
def fnPlanSpec : ChangeSpec := { name := "fnPlan", fn := fun _ => fun
  | [d1, d2] => { results := [.lit (.bool true)], args := [d1, d2] }
  | _ => none }
def fnPlanRow : OpenClaim := { program := "ytghikkinnchndaagreat", sum := "7bec27caeb720cf80c0785e7499a5243d2fd06b6dd3adb175cbb81e99953446a", func := "loop.example/g01116/laws.FnPlan", spec := "fnPlan", unfollowed := true, recurses := true, apart := false }
def FnPlanSaid : Prop := fnPlanRow.holds Tryz.pinned (OpenSpec.ofChange fnPlanSpec)

/-- ITS FALSE NEIGHBOUR: 'it returns false'. Refute it at one input. -/
def fnPlanWrong : ChangeSpec := { name := "fnPlan", fn := fun _ => fun
  | [d1, d2] => { results := [.lit (.bool false)], args := [d1, d2] }
  | _ => none }
def FnPlanWrongFalsely : Prop := fnPlanRow.holds Tryz.pinned (OpenSpec.ofChange fnPlanWrong)

/- THE SECOND FORM. 'bulk': how many values and letters a reading holds, each counted each time it is reached (what is shared counts as often as it is met; a slice's spare places count too). A statement '..UptoSaid' is the law's where the arguments, and the package variables that the reading takes, are together of bulk at most 1048576: NARROWER than '..Said'. Prove '..Said' where nothing that the law and all that it calls make is longer than what came in: it says more and counts as full. Else prove '..UptoSaid'. A law counts once. -/
mutual
def uptoBulk {H : Type} : DataW H → Nat
  | .lit (.string bytes) => bytes.length + 1
  | .lit _ => 1
  | .nil => 1
  | .ptr d => uptoBulk d + 1
  | .slice elems spare => uptoBulkAll elems + uptoBulkAll spare + 1
  | .agg parts => uptoBulkAll parts + 1
  | .iface _ d => uptoBulk d + 1
  | .map entries => uptoBulkEntries entries + 1
  | .held _ => 1
def uptoBulkAll {H : Type} : List (DataW H) → Nat
  | [] => 0
  | d :: r => uptoBulk d + uptoBulkAll r
def uptoBulkEntries {H : Type} : List (Lit × DataW H) → Nat
  | [] => 0
  | x :: r => uptoBulkEntry x + uptoBulkEntries r
def uptoBulkEntry {H : Type} : Lit × DataW H → Nat
  | (.string bytes, d) => bytes.length + uptoBulk d + 1
  | (_, d) => uptoBulk d + 1
 end
def uptoSmall : (H : Type) → List (DataW H) → Bool := fun _ ds => decide (uptoBulkAll ds ≤ 1048576)
def OpenSpec.upto (s : _root_.Go.ChangeSpec) : _root_.Go.OpenSpec := { _root_.Go.OpenSpec.ofChange s with cond := some uptoSmall }

/-- 'laws.FnTissueCrash', WHERE WHAT IT READS IS OF BULK AT MOST 1048576: true; the input reads as it did. -/
def fnTissueCrashUptoRow : OpenClaim := { program := "ytghikkinnchndaagreat", sum := "7bec27caeb720cf80c0785e7499a5243d2fd06b6dd3adb175cbb81e99953446a", func := "loop.example/g01116/laws.FnTissueCrash", spec := "fnTissueCrash", unfollowed := true, recurses := true, apart := false, narrowed := true }
def FnTissueCrashUptoSaid : Prop := fnTissueCrashUptoRow.holds Tryz.pinned (OpenSpec.upto fnTissueCrashSpec)

/-- 'laws.FnParcels', WHERE WHAT IT READS IS OF BULK AT MOST 1048576: true; the input reads as it did. -/
def fnParcelsUptoRow : OpenClaim := { program := "ytghikkinnchndaagreat", sum := "7bec27caeb720cf80c0785e7499a5243d2fd06b6dd3adb175cbb81e99953446a", func := "loop.example/g01116/laws.FnParcels", spec := "fnParcels", unfollowed := true, recurses := true, apart := false, narrowed := true }
def FnParcelsUptoSaid : Prop := fnParcelsUptoRow.holds Tryz.pinned (OpenSpec.upto fnParcelsSpec)

/-- 'laws.FnTissue', WHERE WHAT IT READS IS OF BULK AT MOST 1048576: true; the input reads as it did. -/
def fnTissueUptoRow : OpenClaim := { program := "ytghikkinnchndaagreat", sum := "7bec27caeb720cf80c0785e7499a5243d2fd06b6dd3adb175cbb81e99953446a", func := "loop.example/g01116/laws.FnTissue", spec := "fnTissue", unfollowed := true, recurses := true, apart := false, narrowed := true }
def FnTissueUptoSaid : Prop := fnTissueUptoRow.holds Tryz.pinned (OpenSpec.upto fnTissueSpec)

/-- 'laws.FnPlan', WHERE WHAT IT READS IS OF BULK AT MOST 1048576: true; the input reads as it did. -/
def fnPlanUptoRow : OpenClaim := { program := "ytghikkinnchndaagreat", sum := "7bec27caeb720cf80c0785e7499a5243d2fd06b6dd3adb175cbb81e99953446a", func := "loop.example/g01116/laws.FnPlan", spec := "fnPlan", unfollowed := true, recurses := true, apart := false, narrowed := true }
def FnPlanUptoSaid : Prop := fnPlanUptoRow.holds Tryz.pinned (OpenSpec.upto fnPlanSpec)

end Rows
end Go.Proofs.YtghikkinnchndaaGreat
