/- Steps of a walk, one lemma an operation: the frame as a function of the slot's number, the memory as what the call owns and a log of earlier worlds. No program here. -/
import Derived.Test.YtfekhnffbngoaaaDoorRep
import Derived.Deep.RegionHeld
import Derived.Deep.LoopGhost
namespace Go.Proofs.YtfekhnffbngoaaaDoor
set_option linter.unusedVariables false
set_option linter.unusedSimpArgs false
open Go.RowKit

/-! ### The frame -/
abbrev Env := Nat → Value
def upd (ρ : Env) (d : Nat) (v : Value) : Env := fun i => cond (Nat.beq i d) v (ρ i)
def env0 (l : List Value) : Env := fun i => l.getD i undef
def mk (n : Nat) (ρ : Env) : Act := { tmps := Array.ofFn (n := n) (fun i => ρ i), defers := [] }
def ev (n : Nat) (ρ : Env) : Operand → Value
  | .tmp t => cond (Nat.blt t n) (ρ t) undef
  | .const v => v
  | .global g => .pointer (some ⟨g, 0, none⟩)
  | .func f => .func (.func f) #[] #[]

theorem upd_same (ρ : Env) (d : Nat) (v : Value) : upd ρ d v d = v := by simp [upd]
theorem upd_ne (ρ : Env) {d i : Nat} (v : Value) (h : i ≠ d) : upd ρ d v i = ρ i := by
  unfold upd
  have : Nat.beq i d = false := by
    cases hb : Nat.beq i d with
    | false => rfl
    | true => exact absurd (Nat.eq_of_beq_eq_true hb) h
  rw [this]; rfl
theorem upd_self {ρ : Env} {d : Nat} {v : Value} (h : ρ d = v) : upd ρ d v = ρ := by
  funext i
  by_cases hi : i = d
  · subst hi; rw [upd_same, h]
  · rw [upd_ne _ _ hi]

theorem upd_eq {ρ ρ' : Env} {d : Nat} {v : Value} (h : ρ = ρ') (hd : ρ d = v) : ρ = upd ρ' d v := by subst h; exact (upd_self hd).symm

theorem mk_eval (n : Nat) (ρ : Env) : (mk n ρ).eval = ev n ρ := by
  funext x
  cases x with
  | tmp t =>
    simp only [Act.eval, ev, mk]
    by_cases h : t < n
    · rw [show Nat.blt t n = true from Nat.ble_eq_true_of_le h]
      simp [h]
    · have hb : Nat.blt t n = false := by
        cases hb : Nat.blt t n with
        | false => rfl
        | true => exact absurd (Nat.le_of_ble_eq_true hb) h
      rw [hb]
      simp [h]
  | const v => rfl
  | global g => rfl
  | func f => rfl

theorem mk_put (n : Nat) (ρ : Env) (d : Nat) (v : Value) : (mk n ρ).put (some d) v = mk n (upd ρ d v) := by
  simp only [Act.put, mk, Act.mk.injEq, and_true]
  apply Array.ext
  · simp
  · intro i h1 h2
    rw [Array.getElem_setIfInBounds (by simpa using h1)]
    simp only [Array.getElem_ofFn]
    by_cases hi : d = i
    · subst hi; simp [upd_same]
    · rw [if_neg hi, upd_ne _ _ (Ne.symm hi)]

theorem mk_put' (n : Nat) (ρ : Env) (d : Option Nat) (v : Value) : (mk n ρ).put d v = mk n (match d with | some d => upd ρ d v | none => ρ) := by
  cases d with
  | none => rfl
  | some d => exact mk_put n ρ d v

section
variable {P : Program} {ops : Array Oper} {Q : Exit → Act → World → Prop} {n : Nat} {ρ : Env} {w : World} {rest : List Oper}

@[irreducible] def WL (P : Program) (ops : Array Oper) (Q : Exit → Act → World → Prop) (n : Nat) (l : List Oper) (ρ : Env) (w : World) : Prop := wpList P ops Q l (mk n ρ) w
theorem WL.of {l : List Oper} (h : wpList P ops Q l (mk n ρ) w) : WL P ops Q n l ρ w := by unfold WL; exact h
theorem WL.out {l : List Oper} (h : WL P ops Q n l ρ w) : wpList P ops Q l (mk n ρ) w := by unfold WL at h; exact h

theorem enter {f : FuncId} {fn : Func} {c : Code} {args : Array Value} {R : Ending → World → Prop}
    (hf : P.funcs[f]? = some fn) (hb : fn.body = some c) (hn : fn.ntmps = n) (hs : args.size ≤ n)
    (h : c.wp P (bodyPost P fn R) (mk n (env0 args.toList)) w) : Calls P f args w R := by
  refine calls_of_wp hf hb ?_
  have e : ({ tmps := args ++ Array.replicate (fn.ntmps - args.size) undef, defers := [] } : Act) = mk n (env0 args.toList) := by
    simp only [mk, Act.mk.injEq, and_true]
    apply Array.ext
    · simp [hn]; omega
    · intro i h1 h2
      simp only [Array.getElem_ofFn, env0]
      by_cases hi : i < args.size
      · rw [Array.getElem_append_left hi]
        simp [List.getD_eq_getElem?_getD, hi]
      · rw [Array.getElem_append_right (by omega)]
        simp [List.getD_eq_getElem?_getD, Array.getElem?_eq_none (show args.size ≤ i by omega)]
  rw [e]
  exact h

/-- One operation: it runs and what follows holds. -/
@[irreducible] def OW (P : Program) (Q : Exit → Act → World → Prop) (o : Oper) (n : Nat) (ρ : Env) (w : World) (K : Env → World → Prop) : Prop :=
  ∀ K' : Act → World → Prop, (∀ ρ w, K ρ w → K' (mk n ρ) w) → o.wp P (mk n ρ) w K' Q

theorem sw {dst : Option Nat} {op : Op} {ty : TypeId} {pos : String} {af : Array Edge} (h : OW P Q ⟨dst, op, ty, pos, af, none⟩ n ρ w fun ρ w => WL P ops Q n rest ρ w) :
    WL P ops Q n (⟨dst, op, ty, pos, af, none⟩ :: rest) ρ w := by
  unfold OW at h
  exact WL.of (wpList_plain rfl fun K hK => h K fun ρ w hk => hK _ _ hk.out)

/-! ### Control -/
theorem c_seq {x y : Code} (h : x.wp P (Exit.then (y.wp P Q) Q) (mk n ρ) w) : (x.seq y).wp P Q (mk n ρ) w := wp_seq h
theorem c_reg {id : Nat} {l : List Oper} (h : WL P l.toArray Q n l ρ w) : (Code.region id l.toArray false).wp P Q (mk n ρ) w := wp_region_lit h.out
theorem c_nil (h : Q .normal (mk n ρ) w) : WL P ops Q n [] ρ w := WL.of h
theorem c_skip (h : Q .normal (mk n ρ) w) : Code.skip.wp P Q (mk n ρ) w := wp_skip h
theorem c_ret (h : Q .ret (mk n ρ) w) : Code.ret.wp P Q (mk n ρ) w := wp_ret h
theorem c_exit {id : Nat} (h : Q (.exit id) (mk n ρ) w) : (Code.exit id).wp P Q (mk n ρ) w := wp_exit h
theorem c_block {id : Nat} {c : Code} (h : c.wp P (Exit.inBlock id Q) (mk n ρ) w) : (Code.block id c).wp P Q (mk n ρ) w := wp_block h
theorem t_n {N : Act → World → Prop} {a : Act} (h : N a w) : Exit.then N Q .normal a w := h
theorem t_x {N : Act → World → Prop} {a : Act} {id : Nat} (h : Q (.exit id) a w) : Exit.then N Q (.exit id) a w := h
theorem t_r {N : Act → World → Prop} {a : Act} (h : Q .ret a w) : Exit.then N Q .ret a w := h
theorem b_n {a : Act} {id : Nat} (h : Q .normal a w) : Exit.inBlock id Q .normal a w := h
theorem b_r {a : Act} {id : Nat} (h : Q .ret a w) : Exit.inBlock id Q .ret a w := h
theorem b_x {a : Act} {id : Nat} (h : Q .normal a w) : Exit.inBlock id Q (.exit id) a w := by simpa [Exit.inBlock] using h
theorem b_o {a : Act} {id id' : Nat} (hne : Nat.beq id' id = false) (h : Q (.exit id') a w) : Exit.inBlock id Q (.exit id') a w := by
  have : id' ≠ id := fun e => by subst e; simp at hne
  simpa [Exit.inBlock, this] using h

theorem c_cond {x : Operand} {y z : Code} (c : Bool) (hc : ev n ρ x = .bool c) (h1 : c = true → y.wp P Q (mk n ρ) w) (h2 : c = false → z.wp P Q (mk n ρ) w) :
    (Code.cond x y z).wp P Q (mk n ρ) w := wp_cond_split (t := c) (by rw [mk_eval]; exact hc) h1 h2

theorem c_loop {c : Code} (I : Nat → Env → World → Prop) (m0 : Nat) (h0 : I m0 ρ w)
    (hs : ∀ m ρ w, I m ρ w → c.wp P (Exit.then (fun a' w' => ∃ m' ρ', a' = mk n ρ' ∧ m' < m ∧ I m' ρ' w') Q) (mk n ρ) w) : c.loop.wp P Q (mk n ρ) w := by
  refine wp_loop_ghost (fun m a w => ∃ ρ, a = mk n ρ ∧ I m ρ w) m0 ⟨ρ, rfl, h0⟩ ?_
  rintro m a w ⟨ρ, rfl, hI⟩
  refine Code.wp_mono ?_ (hs m ρ w hI)
  intro e a w h
  cases e with
  | normal => obtain ⟨m', ρ', e1, e2, e3⟩ := h; exact ⟨m', e2, ρ', e1, e3⟩
  | exit _ => exact h
  | goto _ => exact h
  | ret => exact h
  | panic _ => exact h
  | outgrown => exact h
theorem loop_end {m m' : Nat} {I : Nat → Env → World → Prop} (hm : m' < m) (h : I m' ρ w) :
    Exit.then (fun a' w' => ∃ m' ρ', a' = mk n ρ' ∧ m' < m ∧ I m' ρ' w') Q .normal (mk n ρ) w := ⟨m', ρ, rfl, hm, h⟩

/-! ### The end -/
theorem ret0 {fn : Func} {R : Ending → World → Prop} (hr : fn.results = #[]) (h : R (.returned (.tuple #[])) w) : bodyPost P fn R .normal (mk n ρ) w :=
  bodyPost_end (results_none hr _ _ _) rfl h
theorem ret0' {fn : Func} {R : Ending → World → Prop} (hr : fn.results = #[]) (h : R (.returned (.tuple #[])) w) : bodyPost P fn R .ret (mk n ρ) w :=
  bodyPost_ret (results_none hr _ _ _) rfl h
theorem ret1 {fn : Func} {R : Ending → World → Prop} {t : Nat} (v : Value) (hr : fn.results = #[.tmp t]) (hv : ev n ρ (.tmp t) = v) (h : R (.returned v) w) : bodyPost P fn R .ret (mk n ρ) w := by
  refine bodyPost_ret (results_tmp hr _ _ _) rfl ?_
  have e := congrFun (mk_eval n ρ) (.tmp t)
  simp only [Act.eval] at e
  rw [e, hv]
  exact h
theorem ret2 {fn : Func} {R : Ending → World → Prop} {t u : Nat} (v x : Value) (hr : fn.results = #[.tmp t, .tmp u]) (hv : ev n ρ (.tmp t) = v) (hx : ev n ρ (.tmp u) = x) (h : R (.returned (.tuple #[v, x])) w) : bodyPost P fn R .ret (mk n ρ) w := by
  refine bodyPost_ret (results_tmp2 hr _ _ _) rfl ?_
  have e := congrFun (mk_eval n ρ) (.tmp t)
  have e' := congrFun (mk_eval n ρ) (.tmp u)
  simp only [Act.eval] at e e'
  rw [e, hv, e', hx]
  exact h
end
end Go.Proofs.YtfekhnffbngoaaaDoor
