/- One lemma an operation. No program here. -/
import Derived.Test.YtfekhnffbngoaaaDoorS
namespace Go.Proofs.YtfekhnffbngoaaaDoor
set_option linter.unusedVariables false
set_option linter.unusedSimpArgs false
open Go.RowKit

def pv (ρ : Operand → Value) : Op → Option Value
  | .move x => some (ρ x)
  | .assign x => some (ρ x)
  | .pick c a b => match ρ c with | .bool t => some (cond t (ρ a) (ρ b)) | _ => none
  | .nilCheck x => match ρ x with | .pointer (some a) => some (.pointer (some a)) | _ => none
  | .unOp .not _ x => match ρ x with | .bool b => some (.bool !b) | _ => none
  | .extract x i => match ρ x with | .tuple vs => vs[i]? | _ => none
  | .makeFunc f a c => some (.func f (a.toList.map ρ).toArray (c.toList.map ρ).toArray)
  | .binOp .lss _ x y _ => match ρ x, ρ y with | .int .i64 a, .int .i64 b => some (.bool (decide (a < b))) | _, _ => none
  | .binOp .leq _ x y _ => match ρ x, ρ y with | .int .i64 a, .int .i64 b => some (.bool (decide (a ≤ b))) | _, _ => none
  | .binOp .gtr _ x y _ => match ρ x, ρ y with | .int .i64 a, .int .i64 b => some (.bool (decide (a > b))) | _, _ => none
  | .binOp .geq _ x y _ => match ρ x, ρ y with | .int .i64 a, .int .i64 b => some (.bool (decide (a ≥ b))) | _, _ => none
  | .binOp .eql _ x y _ => match ρ x, ρ y with | .int .i64 a, .int .i64 b => some (.bool (a == b)) | .string a, .string b => some (.bool (a.toList == b.toList)) | _, _ => none
  | .binOp .neq _ x y _ => match ρ x, ρ y with | .int .i64 a, .int .i64 b => some (.bool (a != b)) | .string a, .string b => some (.bool !(a.toList == b.toList)) | _, _ => none
  | _ => none

theorem pv_run {P : Program} {ρ : Operand → Value} {o : Oper} {v : Value} (h : pv ρ o.op = some v) (w : World) : (execOp ρ o).run P w = .ok (.value v) w := by
  unfold execOp
  cases ho : o.op <;> rw [ho] at h <;> simp only [pv] at h <;> try (cases h; done)
  case move x => cases h; simp
  case assign x => cases h; simp
  case pick c a b =>
    split at h <;> cases h
    rename_i t ht
    cases t <;> simp [ht, asBool]
  case nilCheck x =>
    split at h <;> cases h
    rename_i a ha
    simp [ha]
  case makeFunc f a c => cases h; simp [Instr.makeFunc, ← List.map_toArray]
  case extract x i =>
    split at h
    · rename_i vs hvs
      simp [hvs, Instr.extract, h]
    · cases h
  case unOp op t x =>
    cases op <;> simp only [pv] at h <;> try (cases h; done)
    split at h <;> cases h
    rename_i b hb
    simp [hb, Op.unary]
  case binOp op t x y u =>
    cases op <;> simp only [pv] at h <;> try (cases h; done)
    all_goals split at h
    all_goals first
      | (cases h; done)
      | (rename_i h1 h2; cases h; simp [h1, h2, eqGuard, binOp, Op.intCmp]; done)
      | (rename_i h1 h2; cases h; simp [h1, h2, eqGuard, binOp, Op.stringOp]; done)

section
variable {P : Program} {ops : Array Oper} {Q : Exit → Act → World → Prop} {n : Nat} {ρ : Env} {W0 w : World} {rest : List Oper} {ps : List Prv} {Γ : List Fact}
  {d : Nat} {op : Op} {ty : TypeId} {pos : String} {af : Array Edge} {K : Env → World → Prop}

theorem o_val {w' : World} (v : Value) (h : (execOp (ev n ρ) ⟨some d, op, ty, pos, af, none⟩).run P w = .ok (.value v) w') (k : K (upd ρ d v) w') :
    OW P Q ⟨some d, op, ty, pos, af, none⟩ n ρ w K := by
  unfold OW
  intro K' hK
  unfold Oper.wp
  rw [mk_eval, h]
  show K' ((mk n ρ).put (some d) v) w'
  rw [mk_put]
  exact hK _ _ k

theorem o_unit {w' : World} (h : (execOp (ev n ρ) ⟨none, op, ty, pos, af, none⟩).run P w = .ok .skip w') (k : K ρ w') :
    OW P Q ⟨none, op, ty, pos, af, none⟩ n ρ w K := by
  unfold OW
  intro K' hK
  unfold Oper.wp
  rw [mk_eval, h]
  exact hK _ _ k

theorem o_pure (v : Value) (h : pv (ev n ρ) op = some v) (k : K (upd ρ d v) w) : OW P Q ⟨some d, op, ty, pos, af, none⟩ n ρ w K :=
  o_val v (pv_run (by exact h) w) k

theorem yielded_of {j e : Nat} {b : Bool} (hd : (ops[j]?).bind (·.dst) = some e) (hv : ev n ρ (.tmp e) = .bool b) : yielded ops (mk n ρ).tmps j = some b := by
  have hlt : e < n := by
    rcases Nat.lt_or_ge e n with h | h
    · exact h
    · have hb : Nat.blt e n = false := by
        cases hb : Nat.blt e n with
        | false => rfl
        | true => exact absurd (Nat.le_of_ble_eq_true hb) (by omega)
      simp [ev, hb, undef] at hv
  have hv' : ρ e = .bool b := by simpa [ev, show Nat.blt e n = true from Nat.ble_eq_true_of_le hlt] using hv
  simp [yielded, hd, mk, hlt, hv']

theorem yielded_un {j e : Nat} (hd : (ops[j]?).bind (·.dst) = some e) (hv : ev n ρ (.tmp e) = undef) : yielded ops (mk n ρ).tmps j = none := by
  rcases Nat.lt_or_ge e n with hlt | h
  · have hv' : ρ e = undef := by simpa [ev, show Nat.blt e n = true from Nat.ble_eq_true_of_le hlt] using hv
    simp [yielded, hd, mk, hlt, hv', undef]
  · simp [yielded, hd, mk, show ¬ e < n by omega]

/-- Where operation j of a region puts what it yields. -/
def dstAt : List Oper → Nat → Option Nat
  | [], _ => none
  | o :: _, 0 => o.dst
  | _ :: l, j + 1 => dstAt l j
theorem dstAt_eq : ∀ (l : List Oper) (j : Nat), (l.toArray[j]?).bind (·.dst) = dstAt l j
  | [], j => by simp [dstAt]
  | o :: l, 0 => by simp [dstAt]
  | o :: l, j + 1 => by
    have := dstAt_eq l j
    simp only [List.getElem?_toArray, List.getElem?_cons_succ, dstAt] at this ⊢
    exact this

theorem g_take {l : List Oper} {dst : Option Nat} {j : Nat} {b : Bool} (e : Nat) (hd : dstAt l j = some e) (hv : ev n ρ (.tmp e) = .bool b)
    (k : WL P l.toArray Q n (⟨dst, op, ty, pos, af, none⟩ :: rest) ρ w) : WL P l.toArray Q n (⟨dst, op, ty, pos, af, some (j, b)⟩ :: rest) ρ w := by
  have hw : Region.wanted ⟨dst, op, ty, pos, af, some (j, b)⟩ (yielded l.toArray (mk n ρ).tmps) = true := by simp [Region.wanted, yielded_of ((dstAt_eq l j).trans hd) hv]
  replace k := k.out
  refine WL.of ?_
  unfold wpList at k ⊢
  rw [if_pos hw]
  rw [if_pos (by rfl)] at k
  exact k

theorem g_skip {l : List Oper} {j : Nat} {b b' : Bool} (e : Nat) (hd : dstAt l j = some e) (hv : ev n ρ (.tmp e) = .bool b') (hb : b' = !b)
    (k : WL P l.toArray Q n rest (upd ρ d undef) w) : WL P l.toArray Q n (⟨some d, op, ty, pos, af, some (j, b)⟩ :: rest) ρ w := by
  subst hb
  have hw : Region.wanted ⟨some d, op, ty, pos, af, some (j, b)⟩ (yielded l.toArray (mk n ρ).tmps) = false := by simp [Region.wanted, yielded_of ((dstAt_eq l j).trans hd) hv]
  refine WL.of ?_
  unfold wpList
  rw [if_neg (by rw [hw]; simp), mk_put]
  exact k.out

theorem g_skipU {l : List Oper} {j : Nat} {b : Bool} (e : Nat) (hd : dstAt l j = some e) (hv : ev n ρ (.tmp e) = undef)
    (k : WL P l.toArray Q n rest (upd ρ d undef) w) : WL P l.toArray Q n (⟨some d, op, ty, pos, af, some (j, b)⟩ :: rest) ρ w := by
  have hw : Region.wanted ⟨some d, op, ty, pos, af, some (j, b)⟩ (yielded l.toArray (mk n ρ).tmps) = false := by simp [Region.wanted, yielded_un ((dstAt_eq l j).trans hd) hv]
  refine WL.of ?_
  unfold wpList
  rw [if_neg (by rw [hw]; simp), mk_put]
  exact k.out

/-! ### Numbers -/
theorem wrap_in {a : Int} (h : -9223372036854775808 ≤ a ∧ a ≤ 9223372036854775807) : IntKind.i64.wrap a = a := by
  exact IntWalk.i64_in a h

theorem o_add {x y : Operand} {t u : TypeId} (a b : Int) (hx : ev n ρ x = .int .i64 a) (hy : ev n ρ y = .int .i64 b) (h : -9223372036854775808 ≤ a + b ∧ a + b ≤ 9223372036854775807)
    (k : K (upd ρ d (.int .i64 (a + b))) w) : OW P Q ⟨some d, .binOp .add t x y u, ty, pos, af, none⟩ n ρ w K :=
  o_val _ (by simp [execOp, hx, hy, eqGuard, binOp, Op.intArith, wrap_in h]) k
theorem o_sub {x y : Operand} {t u : TypeId} (a b : Int) (hx : ev n ρ x = .int .i64 a) (hy : ev n ρ y = .int .i64 b) (h : -9223372036854775808 ≤ a - b ∧ a - b ≤ 9223372036854775807)
    (k : K (upd ρ d (.int .i64 (a - b))) w) : OW P Q ⟨some d, .binOp .sub t x y u, ty, pos, af, none⟩ n ρ w K :=
  o_val _ (by simp [execOp, hx, hy, eqGuard, binOp, Op.intArith, wrap_in h]) k
theorem o_mul {x y : Operand} {t u : TypeId} (a b : Int) (hx : ev n ρ x = .int .i64 a) (hy : ev n ρ y = .int .i64 b) (h : -9223372036854775808 ≤ a * b ∧ a * b ≤ 9223372036854775807)
    (k : K (upd ρ d (.int .i64 (a * b))) w) : OW P Q ⟨some d, .binOp .mul t x y u, ty, pos, af, none⟩ n ρ w K :=
  o_val _ (by simp [execOp, hx, hy, eqGuard, binOp, Op.intArith, wrap_in h]) k

/-! ### Slices -/
theorem o_len {x : Operand} {t e : TypeId} (hu : P.underlying t = some (.slice e)) (a : Option Addr) (m c : Nat) (hx : ev n ρ x = .slice a m c)
    (k : K (upd ρ d (.int .i64 m)) w) : OW P Q ⟨some d, .call ⟨.builtin .len, #[x], #[t]⟩, ty, pos, af, none⟩ n ρ w K :=
  o_val _ (by simp [execOp, resolve, invoke, builtin, Builtin.len_, hx, run_underlying hu, goInt]) k
end
end Go.Proofs.YtfekhnffbngoaaaDoor
