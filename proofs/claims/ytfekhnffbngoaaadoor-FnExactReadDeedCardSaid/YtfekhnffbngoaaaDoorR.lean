/- Short forms of the steps; slices of the call's own, place by place; what is new and shares nothing; calls that are walked into. No program here. -/
import Derived.Test.YtfekhnffbngoaaaDoorC
namespace Go.Proofs.YtfekhnffbngoaaaDoor
set_option linter.unusedVariables false
set_option linter.unusedSimpArgs false
open Go.Proofs.YtfekhnffbngoaaaDoor.Tot (tot)
open Go.Proofs.YtfekhnffbngoaaaDoor.Mark (cnt mrk mkd mkd_mark cnt_mark)
open Go.RowKit

abbrev pp (b o : Nat) : Value := .pointer (some ⟨b, o, none⟩)
abbrev aa (b o : Nat) : Option Addr := some ⟨b, o, none⟩

section
variable {P : Program} {ops : Array Oper} {Q : Exit → Act → World → Prop} {n : Nat} {ρ : Env} {W0 w : World} {rest : List Oper} {ps : List Prv} {Γ : List Fact}
  {d : Nat} {op : Op} {ty : TypeId} {pos : String} {af : Array Edge} {K : Env → World → Prop} {S : World → Prop} {l : List Oper} {fuel : Nat} {listed : Array Bool}

/-- A pure operation. -/
theorem sp (v : Value) (k : WL P ops Q n rest (upd ρ d v) w) (h : pv (ev n ρ) op = some v := by exact rfl) : WL P ops Q n (⟨some d, op, ty, pos, af, none⟩ :: rest) ρ w :=
  sw (o_pure v h k)

/-- Pure operations, one behind the other. -/
def pvs (n : Nat) : List Value → List Oper → Env → Prop
  | [], _, _ => True
  | v :: vs, ⟨some d, op, _, _, _, none⟩ :: os, ρ => pv (ev n ρ) op = some v ∧ pvs n vs os (upd ρ d v)
  | _ :: _, _, _ => False
def updP : List Value → List Oper → Env → Env
  | v :: vs, o :: os, ρ => updP vs os (upd ρ (o.dst.getD 0) v)
  | _, _, ρ => ρ
theorem sps : ∀ (vs : List Value) {os : List Oper} {ρ : Env} (_ : WL P ops Q n (os.drop vs.length) (updP vs os ρ) w) (_ : pvs n vs os ρ := by (repeat refine And.intro rfl ?_); exact trivial), WL P ops Q n os ρ w
  | [], [], _, k, _ => by simpa [updP] using k
  | [], o :: os, _, k, _ => by simpa [updP] using k
  | v :: vs, [], _, _, h => h.elim
  | v :: vs, ⟨none, op, ty, pos, af, gd⟩ :: os, _, _, h => h.elim
  | v :: vs, ⟨some d, op, ty, pos, af, some g⟩ :: os, _, _, h => h.elim
  | v :: vs, ⟨some d, op, ty, pos, af, none⟩ :: os, ρ, k, h => sp v (sps vs (by simpa [updP] using k) h.2) h.1

/-- A region whose order is drawn; all that is known lasts. -/
theorem c_drawH {id : Nat} (hm : P.follows .mixedOrders = true) (H : St W0 w ps Γ)
    (h : St W0 w.drew ps Γ → RW P l Q (fun w => St W0 w ps Γ) n l.toArray.size (Array.replicate l.toArray.size false) ρ w.drew) : (Code.region id l.toArray true).wp P Q (mk n ρ) w :=
  c_draw (fun w => St W0 w ps Γ) hm (H.ext (ext_drew _)) (h (H.ext (ext_drew _)))

/-- Operation i may be taken first. -/
def takeOk (l : List Oper) (listed : Array Bool) (i : Nat) : Bool := Region.noSelect l.toArray && (Region.free .any l.toArray listed i && (Region.ready .any l.toArray listed).contains i)
def NoPanic (Q : Exit → Act → World → Prop) (d : Nat) (v : Value) : Prop := ∀ c a w, Q (.panic c) (a.put (some d) v) w → Q (.panic c) a w
theorem takeOk_out {i : Nat} (h : takeOk l listed i = true) : Region.noSelect l.toArray = true ∧ Region.free .any l.toArray listed i = true ∧ (Region.ready .any l.toArray listed).contains i = true := by
  simp only [takeOk, Bool.and_eq_true] at h
  exact h

theorem rt (i : Nat) (v : Value) (hy : ∀ w', S w' → (execOp (ev n ρ) ⟨some d, op, ty, pos, af, none⟩).run P w' = .ok (.value v) w') (hS : S w)
    (h : RW P l Q S n fuel (listed.setIfInBounds i true) (upd ρ d v) w) (hi : l.toArray[i]? = some ⟨some d, op, ty, pos, af, none⟩ := by exact rfl) (hk : takeOk l listed i = true := by kernel_rfl)
    (hQ : NoPanic Q d v := by exact fun _ _ _ h => h) : RW P l Q S n (fuel + 1) listed ρ w :=
  r_take i v hi (takeOk_out hk).1 (takeOk_out hk).2.1 (takeOk_out hk).2.2 hQ hy hS h
theorem rtp (i : Nat) (v : Value) (hS : S w) (h : RW P l Q S n fuel (listed.setIfInBounds i true) (upd ρ d v) w) (hi : l.toArray[i]? = some ⟨some d, op, ty, pos, af, none⟩ := by exact rfl)
    (hp : pv (ev n ρ) op = some v := by exact rfl) (hk : takeOk l listed i = true := by kernel_rfl) (hQ : NoPanic Q d v := by exact fun _ _ _ h => h) : RW P l Q S n (fuel + 1) listed ρ w :=
  rt i v (y_pure hp) hS h hi hk hQ
theorem rg {j : Nat} {b : Bool} (i : Nat) (v : Value) (e : Nat) (hy : ∀ w', S w' → (execOp (ev n ρ) ⟨some d, op, ty, pos, af, some (j, b)⟩).run P w' = .ok (.value v) w') (hS : S w)
    (h : RW P l Q S n fuel (listed.setIfInBounds i true) (upd ρ d v) w) (hi : l.toArray[i]? = some ⟨some d, op, ty, pos, af, some (j, b)⟩ := by exact rfl) (hk : takeOk l listed i = true := by kernel_rfl)
    (hd : dstAt l j = some e := by exact rfl) (hv : ev n ρ (.tmp e) = .bool b := by exact rfl) (hQ : NoPanic Q d v := by exact fun _ _ _ h => h) : RW P l Q S n (fuel + 1) listed ρ w :=
  r_takeG i v hi (takeOk_out hk).1 (takeOk_out hk).2.1 (takeOk_out hk).2.2 hQ hd hv hy hS h
theorem rgp {j : Nat} {b : Bool} (i : Nat) (v : Value) (e : Nat) (hS : S w) (h : RW P l Q S n fuel (listed.setIfInBounds i true) (upd ρ d v) w) (hi : l.toArray[i]? = some ⟨some d, op, ty, pos, af, some (j, b)⟩ := by exact rfl)
    (hp : pv (ev n ρ) op = some v := by exact rfl) (hk : takeOk l listed i = true := by kernel_rfl)
    (hd : dstAt l j = some e := by exact rfl) (hv : ev n ρ (.tmp e) = .bool b := by exact rfl) (hQ : NoPanic Q d v := by exact fun _ _ _ h => h) : RW P l Q S n (fuel + 1) listed ρ w :=
  rg i v e (y_pure hp) hS h hi hk hd hv hQ

theorem retC3 {fn : Func} {R : Ending → World → Prop} {t u u' T b : Nat} {cs : List Value} {tb : TypeId} (H : St W0 w ps Γ) (i : Nat) (hp : ps[i]? = some (.box b cs tb)) (x y : Value) (hr : fn.results = #[.cell t T, .tmp u, .tmp u'])
    (ha : ∀ w, (isAgg T).run P w = .ok true w) (hs : ∀ w, (Go.sizeOf T).run P w = .ok cs.length w) (hv : ev n ρ (.tmp t) = .pointer (some ⟨b, 0, none⟩)) (hx : ev n ρ (.tmp u) = x) (hy : ev n ρ (.tmp u') = y)
    (h : R (.returned (.tuple #[.agg cs.toArray, x, y])) w) : bodyPost P fn R .ret (mk n ρ) w := by
  have hl := run_loadCells_list (P := P) w ⟨b, 0, none⟩ cs (fun j v hv => by rw [Addr.add_mid]; exact H.cells i hp j v hv)
  have e := congrFun (mk_eval n ρ) (.tmp t)
  have e' := congrFun (mk_eval n ρ) (.tmp u)
  have e'' := congrFun (mk_eval n ρ) (.tmp u')
  simp only [Act.eval, Array.getD_eq_getD_getElem?] at e e' e''
  rw [hv] at e
  rw [hx] at e'
  rw [hy] at e''
  exact bodyPost_ret (v := .tuple #[.agg cs.toArray, x, y]) (by simp [results, hr, e, e', e'', asAddr, loadVar, ha, hs, hl]) rfl h

/-! ### Operations that a guard rules out, many at once -/
def skipOk (n : Nat) (ρ : Env) (l : List Oper) (o : Oper) : Bool :=
  match o.guard with
  | some (j, b) => match dstAt l j with
    | some e => match ev n ρ (.tmp e) with | .bool c => c != b | .tuple vs => vs.isEmpty | _ => false
    | none => false
  | none => false
theorem skipOk_wanted {o : Oper} (h : skipOk n ρ l o = true) : Region.wanted o (yielded l.toArray (mk n ρ).tmps) = false := by
  unfold skipOk at h
  unfold Region.wanted
  split at h
  · rename_i j b hg
    split at h
    · rename_i e he
      rw [hg]
      split at h
      · rename_i c hc
        simp [yielded_of ((dstAt_eq l j).trans he) hc]
        simpa using h
      · rename_i vs hc
        have : vs = #[] := by simpa using h
        subst this
        simp [yielded_un ((dstAt_eq l j).trans he) hc]
      · cases h
    · cases h
  · cases h
def updU (ρ : Env) : List Nat → Env
  | [] => ρ
  | d :: ds => updU (upd ρ d undef) ds
def chkL (n : Nat) (l : List Oper) : List Oper → List Nat → Env → Bool
  | _, [], _ => true
  | o :: os, d :: ds, ρ => match o.dst with
    | some d' => Nat.beq d' d && (skipOk n ρ l o && chkL n l os ds (upd ρ d undef))
    | none => false
  | [], _ :: _, _ => false
theorem g_skips : ∀ (ds : List Nat) {os : List Oper} {ρ : Env} (_ : WL P l.toArray Q n (os.drop ds.length) (updU ρ ds) w) (_ : chkL n l os ds ρ = true := by kernel_rfl), WL P l.toArray Q n os ρ w
  | [], _, _, k, _ => by simpa [updU] using k
  | d :: ds, [], ρ, _, h => by simp [chkL] at h
  | d :: ds, ⟨dst, op, ty, pos, af, gd⟩ :: os, ρ, k, h => by
    unfold chkL at h
    split at h
    · rename_i d' hd
      simp only [Bool.and_eq_true] at h
      obtain ⟨h1, h2, h3⟩ := h
      have hd' := Nat.eq_of_beq_eq_true h1
      simp only at hd
      subst hd hd'
      have hw := skipOk_wanted h2
      have k' := g_skips ds (os := os) (ρ := upd ρ d' undef) (by simpa [updU] using k) h3
      refine WL.of ?_
      unfold wpList
      rw [if_neg (by rw [hw]; simp), mk_put]
      exact k'.out
    · cases h
def chkR (n : Nat) (l : List Oper) : List Nat → Array Bool → Env → Bool
  | [], _, _ => true
  | i :: is, listed, ρ => match l.toArray[i]? with
    | some o => match o.dst with
      | some d => skipOk n ρ l o && (takeOk l listed i && chkR n l is (listed.setIfInBounds i true) (upd ρ d undef))
      | none => false
    | none => false
def updR (l : List Oper) : List Nat → Env → Env
  | [], ρ => ρ
  | i :: is, ρ => updR l is (upd ρ ((dstAt l i).getD 0) undef)
def lsts : List Nat → Array Bool → Array Bool
  | [], a => a
  | i :: is, a => lsts is (a.setIfInBounds i true)
theorem r_skips : ∀ (is : List Nat) (m : Nat) {fuel : Nat} {listed : Array Bool} {ρ : Env} (_ : S w) (_ : RW P l Q S n fuel (lsts is listed) (updR l is ρ) w) (_ : chkR n l is listed ρ = true := by kernel_rfl) (_ : is.length = m := by exact rfl)
    (_ : ∀ d, NoPanic Q d undef := by exact fun _ _ _ _ h => h), RW P l Q S n (fuel + m) listed ρ w
  | [], m, _, _, _, _, k, _, hm, _ => by subst hm; exact k
  | i :: is, m, fuel, listed, ρ, hS, k, h, hm, hQ => by
    subst hm
    unfold chkR at h
    split at h
    · rename_i o ho
      split at h
      · rename_i d hd
        simp only [Bool.and_eq_true] at h
        obtain ⟨h1, h2, h3⟩ := h
        have hw := skipOk_wanted h1
        have e : dstAt l i = some d := by rw [← dstAt_eq, ho]; exact hd
        have k' := r_skips is is.length (fuel := fuel) (listed := listed.setIfInBounds i true) (ρ := upd ρ d undef) hS (by simpa [updR, lsts, e] using k) h3 rfl hQ
        show RW P l Q S n ((fuel + is.length) + 1) listed ρ w
        obtain ⟨dst, op, ty, pos, af, gd⟩ := o
        simp only at hd
        subst hd
        unfold RW at k' ⊢
        refine wpAnyH_take ho (takeOk_out h2).1 (takeOk_out h2).2.1 (takeOk_out h2).2.2 (hQ d) (Or.inr ⟨hw, rfl⟩) hS ?_
        show wpAnyH P .any l.toArray Q S _ _ ((mk n ρ).put (some d) undef) w
        rw [mk_put]
        exact k'
      · cases h
    · cases h
end
end Go.Proofs.YtfekhnffbngoaaaDoor
