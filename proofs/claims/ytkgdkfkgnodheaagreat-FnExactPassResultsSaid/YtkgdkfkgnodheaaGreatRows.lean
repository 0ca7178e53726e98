/-
  No cell of these rows narrows 'for every input' (looked for: loops, veiled, ifaces, maps, wideKeys, modest, calm, conditions, laid).
  DERIVED. THE GIVEN ROWS OF THIS SEAT. 3 by the template 'for every input the law returns true; each argument reads behind the call as it read before'; 0 by the template 'total and deterministic' (their statements: YtkgdkfkgnodheaaGreatTotals.lean).
  GIVEN WITH THE SEED: the statements are not yours to turn. If you find one false, say at which input.
  Laid BY PROGRAM, IN A SANDBOX (cutbox-rows.mjs): the forced cells as the released guide's own fill.sh prints them over the translation 7a79b2e78e55a32d… (all of the seat's roots in one cut). By AI agents, Wed Nov 11 2026. No macro, syntax, notation, axiom, sorry.
-/
import Derived.Test.YtkgdkfkgnodheaaGreatChecked
import GoSem.Claim
import GoSem.ClaimJoined
import GoSem.ClaimMapViews
import Derived.JoinedTies
import Derived.KernelRfl
namespace Go.Proofs.YtkgdkfkgnodheaaGreat
/- THE CELL 'sum', in the pinned program and in every row, IS THE sha256 OF THE DUMP (.gsa) THAT YtkgdkfkgnodheaaGreatProg.lean LOADS. Nothing in Lean hashes anything: it is a label: what it is worth is what the hold of that sum in a sandbox is worth. -/
noncomputable def Tryz.pinned : Pinned := { name := "ytkgdkfkgnodheaagreat", sum := "7a79b2e78e55a32de95efa04902cbec742f9bdb8afab7792dfe1e3f9f752254c", checked := Tryz.checked }
namespace Rows
def none {H : Type} : Left H := { results := [], args := [] }

/-- 'laws.FnExactPassGraph': WHATEVER THE INPUT: true; the input reads as it did. -/
def fnExactPassGraphSpec : ChangeSpec := { name := "fnExactPassGraph", fn := fun _ => fun
  | [d1, d2, d3] => { results := [.lit (.bool true)], args := [d1, d2, d3] }
  | _ => none }
def fnExactPassGraphRow : OpenClaim := { program := "ytkgdkfkgnodheaagreat", sum := "7a79b2e78e55a32de95efa04902cbec742f9bdb8afab7792dfe1e3f9f752254c", func := "loop.example/g01116/laws.FnExactPassGraph", spec := "fnExactPassGraph", unfollowed := true, recurses := true, apart := false }
def FnExactPassGraphSaid : Prop := fnExactPassGraphRow.holds Tryz.pinned (OpenSpec.ofChange fnExactPassGraphSpec)

/-- ITS FALSE NEIGHBOUR: 'it returns false'. Refute it at one input. -/
def fnExactPassGraphWrong : ChangeSpec := { name := "fnExactPassGraph", fn := fun _ => fun
  | [d1, d2, d3] => { results := [.lit (.bool false)], args := [d1, d2, d3] }
  | _ => none }
def FnExactPassGraphWrongFalsely : Prop := fnExactPassGraphRow.holds Tryz.pinned (OpenSpec.ofChange fnExactPassGraphWrong)

/-- 'laws.FnExactPassResults': WHATEVER THE INPUT: true; the input reads as it did. -/
def fnExactPassResultsSpec : ChangeSpec := { name := "fnExactPassResults", fn := fun _ => fun
  | [d1, d2, d3, d4] => { results := [.lit (.bool true)], args := [d1, d2, d3, d4] }
  | _ => none }
def fnExactPassResultsRow : OpenClaim := { program := "ytkgdkfkgnodheaagreat", sum := "7a79b2e78e55a32de95efa04902cbec742f9bdb8afab7792dfe1e3f9f752254c", func := "loop.example/g01116/laws.FnExactPassResults", spec := "fnExactPassResults", unfollowed := true, recurses := true, apart := false }
def FnExactPassResultsSaid : Prop := fnExactPassResultsRow.holds Tryz.pinned (OpenSpec.ofChange fnExactPassResultsSpec)

/-- ITS FALSE NEIGHBOUR: 'it returns false'. Refute it at one input. -/
def fnExactPassResultsWrong : ChangeSpec := { name := "fnExactPassResults", fn := fun _ => fun
  | [d1, d2, d3, d4] => { results := [.lit (.bool false)], args := [d1, d2, d3, d4] }
  | _ => none }
def FnExactPassResultsWrongFalsely : Prop := fnExactPassResultsRow.holds Tryz.pinned (OpenSpec.ofChange fnExactPassResultsWrong)

/-- 'laws.FnExactRestStocks': WHATEVER THE INPUT: true; the input reads as it did. -/
def fnExactRestStocksSpec : ChangeSpec := { name := "fnExactRestStocks", fn := fun _ => fun
  | [d1, d2, d3] => { results := [.lit (.bool true)], args := [d1, d2, d3] }
  | _ => none }
def fnExactRestStocksRow : OpenClaim := { program := "ytkgdkfkgnodheaagreat", sum := "7a79b2e78e55a32de95efa04902cbec742f9bdb8afab7792dfe1e3f9f752254c", func := "loop.example/g01116/laws.FnExactRestStocks", spec := "fnExactRestStocks", unfollowed := true, recurses := true, apart := false }
def FnExactRestStocksSaid : Prop := fnExactRestStocksRow.holds Tryz.pinned (OpenSpec.ofChange fnExactRestStocksSpec)

/-- ITS FALSE NEIGHBOUR: 'it returns false'. Refute it at one input. -/
def fnExactRestStocksWrong : ChangeSpec := { name := "fnExactRestStocks", fn := fun _ => fun
  | [d1, d2, d3] => { results := [.lit (.bool false)], args := [d1, d2, d3] }
  | _ => none }
def FnExactRestStocksWrongFalsely : Prop := fnExactRestStocksRow.holds Tryz.pinned (OpenSpec.ofChange fnExactRestStocksWrong)

/- THE SECOND FORM. 'bulk': how many values and letters a reading holds, each counted each time it is reached (what is shared counts as often as it is met; a slice's spare places count too). A statement '..UptoSaid' is the law's where the arguments, and the package variables that the reading takes, are together of bulk at most 1048576: NARROWER than '..Said'. Prove '..Said' where nothing that the law and all that it calls make is longer than what came in: it says more and counts as full. Else prove '..UptoSaid'. A law counts once. -/
mutual
def uptoBulk {H : Type} : DataW H → Nat
  | .lit (.string bytes) => bytes.length + 1
  | .lit _ => 1
  | .nil => 1
  | .ptr d => uptoBulk d + 1
  | .slice elems spare => uptoBulkAll elems + uptoBulkAll spare + 1
  | .agg parts => uptoBulkAll parts + 1
  | .iface _ d => uptoBulk d + 1
  | .map entries => uptoBulkEntries entries + 1
  | .held _ => 1
def uptoBulkAll {H : Type} : List (DataW H) → Nat
  | [] => 0
  | d :: r => uptoBulk d + uptoBulkAll r
def uptoBulkEntries {H : Type} : List (Lit × DataW H) → Nat
  | [] => 0
  | x :: r => uptoBulkEntry x + uptoBulkEntries r
def uptoBulkEntry {H : Type} : Lit × DataW H → Nat
  | (.string bytes, d) => bytes.length + uptoBulk d + 1
  | (_, d) => uptoBulk d + 1
 end
def uptoSmall : (H : Type) → List (DataW H) → Bool := fun _ ds => decide (uptoBulkAll ds ≤ 1048576)
def OpenSpec.upto (s : _root_.Go.ChangeSpec) : _root_.Go.OpenSpec := { _root_.Go.OpenSpec.ofChange s with cond := some uptoSmall }

/-- 'laws.FnExactPassGraph', WHERE WHAT IT READS IS OF BULK AT MOST 1048576: true; the input reads as it did. -/
def fnExactPassGraphUptoRow : OpenClaim := { program := "ytkgdkfkgnodheaagreat", sum := "7a79b2e78e55a32de95efa04902cbec742f9bdb8afab7792dfe1e3f9f752254c", func := "loop.example/g01116/laws.FnExactPassGraph", spec := "fnExactPassGraph", unfollowed := true, recurses := true, apart := false, narrowed := true }
def FnExactPassGraphUptoSaid : Prop := fnExactPassGraphUptoRow.holds Tryz.pinned (OpenSpec.upto fnExactPassGraphSpec)

/-- 'laws.FnExactPassResults', WHERE WHAT IT READS IS OF BULK AT MOST 1048576: true; the input reads as it did. -/
def fnExactPassResultsUptoRow : OpenClaim := { program := "ytkgdkfkgnodheaagreat", sum := "7a79b2e78e55a32de95efa04902cbec742f9bdb8afab7792dfe1e3f9f752254c", func := "loop.example/g01116/laws.FnExactPassResults", spec := "fnExactPassResults", unfollowed := true, recurses := true, apart := false, narrowed := true }
def FnExactPassResultsUptoSaid : Prop := fnExactPassResultsUptoRow.holds Tryz.pinned (OpenSpec.upto fnExactPassResultsSpec)

/-- 'laws.FnExactRestStocks', WHERE WHAT IT READS IS OF BULK AT MOST 1048576: true; the input reads as it did. -/
def fnExactRestStocksUptoRow : OpenClaim := { program := "ytkgdkfkgnodheaagreat", sum := "7a79b2e78e55a32de95efa04902cbec742f9bdb8afab7792dfe1e3f9f752254c", func := "loop.example/g01116/laws.FnExactRestStocks", spec := "fnExactRestStocks", unfollowed := true, recurses := true, apart := false, narrowed := true }
def FnExactRestStocksUptoSaid : Prop := fnExactRestStocksUptoRow.holds Tryz.pinned (OpenSpec.upto fnExactRestStocksSpec)

end Rows
end Go.Proofs.YtkgdkfkgnodheaaGreat
