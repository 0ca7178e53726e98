/- Shorter steps: what the table of types says comes by instances; values and places are found. No program here. -/
import Derived.Test.YtgjnaocffdhnbaaGreatR
namespace Go.Proofs.YtgjnaocffdhnbaaGreat
set_option linter.unusedVariables false
set_option linter.unusedSimpArgs false
open Go.Proofs.YtgjnaocffdhnbaaGreat.Tot (tot)
open Go.Proofs.YtgjnaocffdhnbaaGreat.Mark (cnt mrk mkd mkd_mark cnt_mark)
open Go.RowKit

class FldC (P : Program) (t : TypeId) (i : Nat) (j : outParam Nat) : Prop where
  out : ∃ (fs : Array Field) (f : Field) (m : Nat), P.underlying t = some (.struct fs) ∧ fs[i]? = some f ∧ f.offset = j ∧ ∀ w, (Go.sizeOf f.type).run P w = .ok (m + 1) w
class SclC (P : Program) (t : TypeId) : Prop where
  out : ∀ w, (isAgg t).run P w = .ok false w
class SliC (P : Program) (t : TypeId) (e : outParam TypeId) : Prop where
  out : P.underlying t = some (.slice e)
class TIC (P : Program) (t : TypeId) (z : outParam Value) (sz by' : outParam Nat) : Prop where
  out : TI P t z sz by'
class Qn (P : Program) (f : FuncId) : Prop where
  out : ∀ args w, (callFunc f args).run P w = .ok (.enter f args) w

section
variable {P : Program} {ops : Array Oper} {Q : Exit → Act → World → Prop} {n : Nat} {ρ : Env} {W0 w : World} {rest : List Oper} {ps : List Prv} {Γ : List Fact}
  {d : Nat} {op : Op} {ty : TypeId} {pos : String} {af : Array Edge} {K : Env → World → Prop} {S : World → Prop} {l : List Oper} {fuel : Nat} {listed : Array Bool}

theorem en {f : FuncId} {fn : Func} {c : Code} {args : Array Value} {R : Ending → World → Prop} (hf : P.funcs[f]? = some fn) (hn : fn.ntmps = n) (h : c.wp P (bodyPost P fn R) (mk n (env0 args.toList)) w)
    (hb : fn.body = some c := by exact rfl) (hs : args.size ≤ n := by exact Nat.le_of_ble_eq_true rfl) : Calls P f args w R := enter hf hb hn hs h

/-! ### In order -/
theorem oF {t : TypeId} {x : Operand} {i j b off : Nat} [hF : FldC P t i j] (hx : ev n ρ x = .pointer (some ⟨b, off, none⟩)) (k : WL P ops Q n rest (upd ρ d (.pointer (some ⟨b, off + j, none⟩))) w) :
    WL P ops Q n (⟨some d, .fieldAddr t x i, ty, pos, af, none⟩ :: rest) ρ w := by
  obtain ⟨fs, f, m, h1, h2, h3, h4⟩ := hF.out
  exact sw (o_field b off j h1 h2 h3 h4 hx k)
theorem oL {t : TypeId} {x : Operand} {b off : Nat} {v : Value} [hA : SclC P t] (hx : ev n ρ x = .pointer (some ⟨b, off, none⟩)) (hc : w.cell? ⟨b, off, none⟩ = some v) (k : WL P ops Q n rest (upd ρ d v) w) :
    WL P ops Q n (⟨some d, .load t x, ty, pos, af, none⟩ :: rest) ρ w := sw (jU v hA.out hx hc k)
theorem oN {x : Operand} {t e : TypeId} {a : Option Addr} {m c : Nat} [hS : SliC P t e] (hx : ev n ρ x = .slice a m c) (k : WL P ops Q n rest (upd ρ d (.int .i64 m)) w) :
    WL P ops Q n (⟨some d, .call ⟨.builtin .len, #[x], #[t]⟩, ty, pos, af, none⟩ :: rest) ρ w := sw (o_len hS.out a m c hx k)
theorem oI {x y : Operand} {t e : TypeId} {b off m c : Nat} {z : Value} {sz by' : Nat} {iv : Int} [hS : SliC P t e] [hT : TIC P e z sz by'] (hx : ev n ρ x = .slice (some ⟨b, off, none⟩) m c) (hy : ev n ρ y = .int .i64 iv)
    (k : WL P ops Q n rest (upd ρ d (.pointer (some ⟨b, off + iv.toNat * sz, none⟩))) w) (h0 : 0 ≤ iv := by omega) (h1 : iv < m := by omega) : WL P ops Q n (⟨some d, .indexAddr t x y, ty, pos, af, none⟩ :: rest) ρ w :=
  sw (o_idxAt iv hS.out hT.out hx hy h0 h1 k)

/-! ### In a drawn order -/
theorem tF {t : TypeId} {x : Operand} {j k b off : Nat} (i : Nat) (hi : l.toArray[i]? = some ⟨some d, .fieldAddr t x j, ty, pos, af, none⟩) [hF : FldC P t j k] (hx : ev n ρ x = .pointer (some ⟨b, off, none⟩)) (hS : S w)
    (h : RW P l Q S n fuel (listed.setIfInBounds i true) (upd ρ d (.pointer (some ⟨b, off + k, none⟩))) w) (hk : takeOk l listed i = true := by kernel_rfl)
    (hQ : NoPanic Q d (.pointer (some ⟨b, off + k, none⟩)) := by exact fun _ _ _ h => h) : RW P l Q S n (fuel + 1) listed ρ w := by
  obtain ⟨fs, f, m, h1, h2, h3, h4⟩ := hF.out
  exact rt i _ (y_field b off k h1 h2 h3 h4 hx) hS h hi hk hQ
theorem tL {t : TypeId} {x : Operand} {b off : Nat} {v : Value} (i : Nat) (hi : l.toArray[i]? = some ⟨some d, .load t x, ty, pos, af, none⟩) [hA : SclC P t] (hx : ev n ρ x = .pointer (some ⟨b, off, none⟩))
    (hc : ∀ w', S w' → w'.cell? ⟨b, off, none⟩ = some v) (hS : S w) (h : RW P l Q S n fuel (listed.setIfInBounds i true) (upd ρ d v) w) (hk : takeOk l listed i = true := by kernel_rfl)
    (hQ : NoPanic Q d v := by exact fun _ _ _ h => h) : RW P l Q S n (fuel + 1) listed ρ w := rt i v (y_load1 hA.out hx hc) hS h hi hk hQ
theorem tN {t e : TypeId} {x : Operand} {a : Option Addr} {m c : Nat} (i : Nat) (hi : l.toArray[i]? = some ⟨some d, .call ⟨.builtin .len, #[x], #[t]⟩, ty, pos, af, none⟩) [hL : SliC P t e] (hx : ev n ρ x = .slice a m c) (hS : S w)
    (h : RW P l Q S n fuel (listed.setIfInBounds i true) (upd ρ d (.int .i64 m)) w) (hk : takeOk l listed i = true := by kernel_rfl) (hQ : NoPanic Q d (.int .i64 m) := by exact fun _ _ _ h => h) :
    RW P l Q S n (fuel + 1) listed ρ w := rt i _ (y_len hL.out a m c hx) hS h hi hk hQ
theorem tI {t e : TypeId} {x y : Operand} {b off m c : Nat} {z : Value} {sz by' : Nat} {iv : Int} (i : Nat) (hi : l.toArray[i]? = some ⟨some d, .indexAddr t x y, ty, pos, af, none⟩) [hL : SliC P t e] [hT : TIC P e z sz by']
    (hx : ev n ρ x = .slice (some ⟨b, off, none⟩) m c) (hy : ev n ρ y = .int .i64 iv) (hS : S w) (h : RW P l Q S n fuel (listed.setIfInBounds i true) (upd ρ d (.pointer (some ⟨b, off + iv.toNat * sz, none⟩))) w)
    (h0 : 0 ≤ iv := by omega) (h1 : iv < m := by omega) (hk : takeOk l listed i = true := by kernel_rfl) (hQ : NoPanic Q d (.pointer (some ⟨b, off + iv.toNat * sz, none⟩)) := by exact fun _ _ _ h => h) : RW P l Q S n (fuel + 1) listed ρ w :=
  rt i _ (y_idxAt b off m c iv hL.out hT.out hx hy h0 h1) hS h hi hk hQ

theorem gF {t : TypeId} {x : Operand} {j k b off i' e : Nat} {bb : Bool} (i : Nat) (hi : l.toArray[i]? = some ⟨some d, .fieldAddr t x j, ty, pos, af, some (i', bb)⟩) [hF : FldC P t j k] (hx : ev n ρ x = .pointer (some ⟨b, off, none⟩)) (hS : S w)
    (h : RW P l Q S n fuel (listed.setIfInBounds i true) (upd ρ d (.pointer (some ⟨b, off + k, none⟩))) w) (hk : takeOk l listed i = true := by kernel_rfl)
    (hd : dstAt l i' = some e := by exact rfl) (hv : ev n ρ (.tmp e) = .bool bb := by exact rfl) (hQ : NoPanic Q d (.pointer (some ⟨b, off + k, none⟩)) := by exact fun _ _ _ h => h) : RW P l Q S n (fuel + 1) listed ρ w := by
  obtain ⟨fs, f, m, h1, h2, h3, h4⟩ := hF.out
  exact rg i _ e (y_field b off k h1 h2 h3 h4 hx) hS h hi hk hd hv hQ
theorem gL {t : TypeId} {x : Operand} {b off i' e : Nat} {bb : Bool} {v : Value} (i : Nat) (hi : l.toArray[i]? = some ⟨some d, .load t x, ty, pos, af, some (i', bb)⟩) [hA : SclC P t] (hx : ev n ρ x = .pointer (some ⟨b, off, none⟩))
    (hc : ∀ w', S w' → w'.cell? ⟨b, off, none⟩ = some v) (hS : S w) (h : RW P l Q S n fuel (listed.setIfInBounds i true) (upd ρ d v) w) (hk : takeOk l listed i = true := by kernel_rfl)
    (hd : dstAt l i' = some e := by exact rfl) (hv : ev n ρ (.tmp e) = .bool bb := by exact rfl) (hQ : NoPanic Q d v := by exact fun _ _ _ h => h) : RW P l Q S n (fuel + 1) listed ρ w :=
  rg i v e (y_load1 hA.out hx hc) hS h hi hk hd hv hQ
theorem gN {t e' : TypeId} {x : Operand} {a : Option Addr} {m c i' e : Nat} {bb : Bool} (i : Nat) (hi : l.toArray[i]? = some ⟨some d, .call ⟨.builtin .len, #[x], #[t]⟩, ty, pos, af, some (i', bb)⟩) [hL : SliC P t e'] (hx : ev n ρ x = .slice a m c) (hS : S w)
    (h : RW P l Q S n fuel (listed.setIfInBounds i true) (upd ρ d (.int .i64 m)) w) (hk : takeOk l listed i = true := by kernel_rfl)
    (hd : dstAt l i' = some e := by exact rfl) (hv : ev n ρ (.tmp e) = .bool bb := by exact rfl) (hQ : NoPanic Q d (.int .i64 m) := by exact fun _ _ _ h => h) :
    RW P l Q S n (fuel + 1) listed ρ w := rg i _ e (y_len hL.out a m c hx) hS h hi hk hd hv hQ
theorem gI {t e' : TypeId} {x y : Operand} {b off m c i' e : Nat} {bb : Bool} {z : Value} {sz by' : Nat} {iv : Int} (i : Nat) (hi : l.toArray[i]? = some ⟨some d, .indexAddr t x y, ty, pos, af, some (i', bb)⟩) [hL : SliC P t e'] [hT : TIC P e' z sz by']
    (hx : ev n ρ x = .slice (some ⟨b, off, none⟩) m c) (hy : ev n ρ y = .int .i64 iv) (hS : S w) (h : RW P l Q S n fuel (listed.setIfInBounds i true) (upd ρ d (.pointer (some ⟨b, off + iv.toNat * sz, none⟩))) w)
    (h0 : 0 ≤ iv := by omega) (h1 : iv < m := by omega) (hk : takeOk l listed i = true := by kernel_rfl)
    (hd : dstAt l i' = some e := by exact rfl) (hv : ev n ρ (.tmp e) = .bool bb := by exact rfl) (hQ : NoPanic Q d (.pointer (some ⟨b, off + iv.toNat * sz, none⟩)) := by exact fun _ _ _ h => h) : RW P l Q S n (fuel + 1) listed ρ w :=
  rg i _ e (y_idxAt b off m c iv hL.out hT.out hx hy h0 h1) hS h hi hk hd hv hQ

/-! ### Calls -/
theorem oc {x : Operand} {xs : Array Operand} {ts : Array TypeId} {f : FuncId} {fst caps : Array Value} {R : Value → World → Prop} {args : Array Value} [hC : Qn P f]
    (hc : Calls P f args w fun e w' => ∃ v, e = .returned v ∧ R v w' ∧ Ext w w') (k : ∀ v w', R v w' → Ext w w' → K (upd ρ d v) w')
    (hv : ev n ρ x = .func (.func f) fst caps := by exact rfl) (hargs : fst.toList ++ xs.toList.map (ev n ρ) ++ caps.toList = args.toList := by exact rfl) :
    OW P Q ⟨some d, .call ⟨.value x, xs, ts⟩, ty, pos, af, none⟩ n ρ w K := o_call args hv hargs hC.out hc k
end
section
variable {W0 w : World} {ps : List Prv} {Γ : List Fact}
theorem St.yP (H : St W0 w ps Γ) (i : Nat) {fr : Bool} {F : List Nat} {b o m c : Nat} {l : List Int} (hf : Γ[i]? = some (isF fr F (.slice (some ⟨b, o, none⟩) m c) l)) (k : Nat) (h1 : k < l.length) :
    w.cell? ⟨b, o + (k : Int).toNat * 1, none⟩ = some (.int .i64 (l[k]!)) := H.vT i hf (k : Int) (by omega) (by omega)
theorem St.elemBoolN (H : St W0 w ps Γ) (i : Nat) {fr : Bool} {F : List Nat} {b o m c : Nat} {l : List Bool} (hf : Γ[i]? = some (isF fr F (.slice (some ⟨b, o, none⟩) m c) l)) (k : Nat) (h1 : k < l.length) :
    w.cell? ⟨b, o + (k : Int).toNat * 1, none⟩ = some (.bool (l[k]!)) := H.QG i hf (k : Int) (by omega) (by omega)
end
end Go.Proofs.YtgjnaocffdhnbaaGreat
