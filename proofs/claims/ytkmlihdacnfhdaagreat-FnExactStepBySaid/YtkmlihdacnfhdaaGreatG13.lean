/- Walks, printed by program (wip/tools/gv.py): what each function comes to, for all arguments. -/
import Derived.Test.YtkmlihdacnfhdaaGreatG12
import Derived.Test.YtkmlihdacnfhdaaGreatG7
namespace Go.Proofs.YtkmlihdacnfhdaaGreat
open Go.Proofs.YtkmlihdacnfhdaaGreat.Tot (tot)
open Go.Proofs.YtkmlihdacnfhdaaGreat.Mark (cnt mrk mkd mkd_mark cnt_mark)
open Go.RowKit
set_option linter.unusedVariables false
set_option linter.unusedSimpArgs false
set_option maxRecDepth 100000
set_option maxHeartbeats 4000000

theorem ti134 : TI Tryz.prog 134 (.agg #[.int .i64 0, .int .i64 0, .int .i64 0, .int .i64 0, .int .i64 0, .int .i64 0]) 6 48 := by unfold TI; kernel_rfl


theorem isEnabled_ok (w : World) (s : qY) (t : qU) (r : QB) (qw : Option Addr) (qp : Nat) (qP : List Nat) (qG : Option Addr) (qC : Nat) (xC : List Nat) (qO : Option Addr) (qJ : Nat) (xK : List Nat) (xG : Option Addr) (xA : Nat) (zy : List Nat) (qL : Option Addr) (qK : Nat) (xI : List Nat) (vI : Option Addr) (vG : Nat) (QP : List Nat) (jh : Option Addr) (jg : Nat) (Xi : List Nat) (vP : Option Addr) (vO : Nat) (Q7 : List Nat) (jD : Option Addr) (jC : Nat) (Xy : List Nat) (Qx : Option Addr) (Qw : Nat) (FrOut : List Nat) (zV : Option Addr) (zJ : Nat) (FrInto : List Nat) (xx : qQ.rep w qP [.slice qw s.qf.length qp] s.qf) (xM : qQ.rep w xC [.slice qG s.qg.length qC] s.qg) (zo : qQ.rep w xK [.slice qO t.qh.length qJ] t.qh) (vk : qQ.rep w zy [.slice xG t.qo.length xA] t.qo) (xW : qQ.rep w xI [.slice qL t.ql.length qK] t.ql) (hrNeed : qQ.rep w QP [.slice vI r.qV.length vG] r.qV) (hrHave : qQ.rep w Xi [.slice jh r.xh.length jg] r.xh) (hrLack : qQ.rep w Q7 [.slice vP r.xk.length vO] r.xk) (hrHere : qQ.rep w Xy [.slice jD r.xm.length jC] r.xm) (hrOut : qQ.rep w FrOut [.slice Qx r.zg.length Qw] r.zg) (hrInto : qQ.rep w FrInto [.slice zV r.qB.length zJ] r.qB) (p0 : Qz s) (p1 : ve s t) (p2 : RuleOk s r) : Calls Tryz.prog 112 #[.agg #[.int .i64 s.qH, .slice qw s.qf.length qp, .slice qG s.qg.length qC], .agg #[.slice qO t.qh.length qJ, .slice xG t.qo.length xA, .slice qL t.ql.length qK], .agg #[.int .i64 r.qy, .int .i64 r.xZ, .slice vI r.qV.length vG, .slice jh r.xh.length jg, .slice vP r.xk.length vO, .slice jD r.xm.length jC, .slice Qx r.zg.length Qw, .slice zV r.qB.length zJ, .bool r.xO]] w (Ret (fun v w' => v = .bool (dec (EnOk s t r))) w) := by
 refine enter (n := 50) Tryz.func112 rfl Tryz.ntmps112 (Nat.le_of_ble_eq_true rfl) ?_
 have H := (((((((((((St.start w).arg hrInto).arg hrOut).arg hrHere).arg hrLack).arg hrHave).arg hrNeed).arg xW).arg vk).arg zo).arg xM).arg xx
 have vU := qM xx
 have jZ := qM xM
 have QN := qM zo
 have Xt := qM vk
 have Qn := qM xW
 have nhrNeed := qM hrNeed
 have nhrHave := qM hrHave
 have nhrLack := qM hrLack
 have nhrHere := qM hrHere
 have nhrOut := qM hrOut
 have nhrInto := qM hrInto
 clear xx xM zo vk xW hrNeed hrHave hrLack hrHere hrOut hrInto
 have N := Fresh.nil w.heap.size
 have p3 := p2.1
 have p4 := p1.1
 have p5 := p1.2.1
 have p6 := (p1.bagLen (k := r.qy.toNat) (by omega)).len
 have p7 := p2.2.2.2.2.1.len
 have p8 := p2.2.2.2.2.2.1.len
 have p9 := p2.2.2.2.2.2.2.1.len
 have p10 := jy p2.2.2.2.2.2.2.1
 have p11 := p0.1
 have p12 := p2.2.2.2.2.2.2.2.2.2.2
 have p13 := kinds_le p0
 refine qm (qA ?_)
 refine sw (yG H [.int .i64 s.qH, .slice qw s.qf.length qp, .slice qG s.qg.length qC] fun b1 w2 H => ?_)
 refine sw (yG H [.slice qO t.qh.length qJ, .slice xG t.qo.length xA, .slice qL t.ql.length qK] fun b3 w4 H => ?_)
 refine sw (yG H [.int .i64 r.qy, .int .i64 r.xZ, .slice vI r.qV.length vG, .slice jh r.xh.length jg, .slice vP r.xk.length vO, .slice jD r.xm.length jC, .slice Qx r.zg.length Qw, .slice zV r.qB.length zJ, .bool r.xO] fun b5 w6 H => ?_)
 refine sp (.bool false) ?_
 refine qx (t_n (qm (qm (qA ?_))))
 refine sw (qN b3 (0) 0 Tryz.underlying38 rfl rfl Tryz.sizeOf26 rfl ?_)
 refine sw (qE (.slice qO t.qh.length qJ) Tryz.isAgg26 rfl (H.cell 1 rfl rfl) ?_)
 refine sw (qN b5 (0) 0 Tryz.underlying110 rfl rfl Tryz.sizeOf2 rfl ?_)
 refine sw (qE (.int .i64 r.qy) Tryz.isAgg2 rfl (H.cell 0 rfl rfl) ?_)
 obtain ⟨b7, o8, rfl⟩ := H.addr 2 rfl (by omega)
 refine sw (xJ r.qy Tryz.underlying26 ti4 rfl rfl (by omega) (by omega) ?_)
 refine sw (qE (.bool (t.qh[r.qy.toNat]!)) Tryz.isAgg4 rfl (H.QT 2 rfl r.qy (by omega) (by omega)) ?_)
 refine sp (.bool (!(t.qh[r.qy.toNat]!))) ?_
 refine qx (t_n ?_)
 refine qW (!(t.qh[r.qy.toNat]!)) rfl (fun h10 => ?_) (fun h10 => ?_)
 ·skip
  replace h10 := xg h10
  refine qm (qA ?_)
  refine sp (.bool false) ?_
  refine qx (t_n (xB (t_r ?_)))
  refine ret1 (.bool false) rfl rfl ⟨_, rfl, ?_, H.base⟩
  rw [xy (fun h => by obtain ⟨h1, h2, h3, h4, h5⟩ := h; first | exact ft h1 ‹_› | exact ft h2 ‹_› | exact ft h3 ‹_› | exact h4 ⟨‹_›, ‹_›⟩ | (obtain ⟨q1, q2⟩ := h5 i (by omega); first | exact ft q1 ‹_› | exact absurd q2 ‹_›))]
 replace h10 := qX h10
 refine xu (t_n (qm (qA ?_)))
 refine sw (qN b3 (0) 1 Tryz.underlying38 rfl rfl Tryz.sizeOf27 rfl ?_)
 refine sw (qE (.slice xG t.qo.length xA) Tryz.isAgg27 rfl (H.cell 1 rfl rfl) ?_)
 refine sw (qN b5 (0) 0 Tryz.underlying110 rfl rfl Tryz.sizeOf2 rfl ?_)
 refine sw (qE (.int .i64 r.qy) Tryz.isAgg2 rfl (H.cell 0 rfl rfl) ?_)
 obtain ⟨b11, o12, rfl⟩ := H.addr 3 rfl (by omega)
 obtain ⟨ae14, ce14, Fe14, H⟩ := H.Qg 3 rfl r.qy r.qy.toNat (by omega) (by omega) (by omega)
 refine sw (xJ r.qy Tryz.underlying27 ti22 rfl rfl (by omega) (by omega) ?_)
 refine sw (qE (.slice ae14 ((t.qo[r.qy.toNat]!).length) ce14) Tryz.isAgg22 rfl (H.zh 1 rfl 0 rfl) ?_)
 refine sp (.slice ae14 ((t.qo[r.qy.toNat]!).length) ce14) ?_
 refine qx (t_n (qm (qm (qA ?_))))
 refine sw (qN b5 (0) 2 Tryz.underlying110 rfl rfl Tryz.sizeOf22 rfl ?_)
 refine sw (qE (.slice vI r.qV.length vG) Tryz.isAgg22 rfl (H.cell 0 rfl rfl) ?_)
 refine sp (.slice ae14 ((t.qo[r.qy.toNat]!).length) ce14) ?_
 refine sw (xe #[.slice vI r.qV.length vG, .slice ae14 ((t.qo[r.qy.toNat]!).length) ce14] rfl rfl Tryz.call128 (isWithin_ok w6 r.qV (t.qo[r.qy.toNat]!) vI vG QP ae14 ce14 Fe14 (H.get 7 rfl).1 (H.get 0 rfl).1 (by first | assumption | omega) (by first | assumption | omega)) ?_)
 rintro _ w15 rfl x16
 replace H := H.ext x16
 refine sps [.bool (!(within r.qV (t.qo[r.qy.toNat]!))), .bool (!(within r.qV (t.qo[r.qy.toNat]!)))] ?_
 cases h17 : (!(within r.qV (t.qo[r.qy.toNat]!)))
 ·skip
  replace h17 := qX h17
  refine qR 26 rfl rfl ?_
  refine sw (qN b5 (0) 3 Tryz.underlying110 rfl rfl Tryz.sizeOf22 rfl ?_)
  refine qR 26 rfl rfl ?_
  refine sw (qE (.slice jh r.xh.length jg) Tryz.isAgg22 rfl (H.cell 0 rfl rfl) ?_)
  refine qR 26 rfl rfl ?_
  refine sp (.slice ae14 ((t.qo[r.qy.toNat]!).length) ce14) ?_
  refine qR 26 rfl rfl ?_
  refine sw (xe #[.slice jh r.xh.length jg, .slice ae14 ((t.qo[r.qy.toNat]!).length) ce14] rfl rfl Tryz.call128 (isWithin_ok w15 r.xh (t.qo[r.qy.toNat]!) jh jg Xi ae14 ce14 Fe14 (H.get 8 rfl).1 (H.get 0 rfl).1 (by first | assumption | omega) (by first | assumption | omega)) ?_)
  rintro _ w18 rfl x19
  replace H := H.ext x19
  refine qR 26 rfl rfl ?_
  refine sps [.bool (!(within r.xh (t.qo[r.qy.toNat]!))), .bool (!(within r.xh (t.qo[r.qy.toNat]!))), .bool (!(within r.xh (t.qo[r.qy.toNat]!)))] ?_
  cases h20 : (!(within r.xh (t.qo[r.qy.toNat]!)))
  ·skip
   replace h20 := qX h20
   refine qR 33 rfl rfl ?_
   refine sw (qN b5 (0) 4 Tryz.underlying110 rfl rfl Tryz.sizeOf22 rfl ?_)
   refine qR 33 rfl rfl ?_
   refine sw (qE (.slice vP r.xk.length vO) Tryz.isAgg22 rfl (H.cell 0 rfl rfl) ?_)
   refine qR 33 rfl rfl ?_
   refine sw (xe #[.slice vP r.xk.length vO] rfl rfl Tryz.call124 (bagSize_ok w18 r.xk vP vO Q7 (H.get 9 rfl).1 (by first | assumption | exact jy (by assumption) | exact Q5 (by assumption))) ?_)
   rintro _ w21 rfl x22
   replace H := H.ext x22
   refine qR 33 rfl rfl ?_
   refine sp (.bool (decide ((sumL r.xk : Int) > 0))) ?_
   refine qR 33 rfl rfl ?_
   refine sp (.bool (decide ((sumL r.xk : Int) > 0))) ?_
   cases h23 : (decide ((sumL r.xk : Int) > 0))
   ·skip
    replace h23 := of_decide_eq_false h23
    refine xY [39, 40, 41, 42] ?_
    refine qR 33 rfl rfl ?_
    refine sps [.bool false, .bool false] ?_
    refine qx (t_n ?_)
    refine qW false rfl (fun h => absurd h (by decide)) (fun _ => ?_)
    refine xu (t_n (qm (qA ?_)))
    refine sw (qN b5 (0) 7 Tryz.underlying110 rfl rfl Tryz.sizeOf108 rfl ?_)
    refine sw (qE (.slice zV r.qB.length zJ) Tryz.isAgg108 rfl (H.cell 0 rfl rfl) ?_)
    refine sp (.func (.func 150) #[] #[pp b3 0, pp b1 0, pp b5 0]) ?_
    refine sw (Qs #[.slice zV r.qB.length zJ, .func (.func 150) #[] #[pp b3 0, pp b1 0, pp b5 0]] rfl rfl Tryz.call149 ?_)
    refine enter (n := 9) Tryz.func149 rfl Tryz.ntmps149 (Nat.le_of_ble_eq_true rfl) ?_
    refine qm (qA ?_)
    refine sp (.bool false) ?_
    refine qx (t_n (qm (qA ?_)))
    refine sps [.slice zV r.qB.length zJ, .func (.func 150) #[] #[pp b3 0, pp b1 0, pp b5 0]] ?_
    refine sw (Qs #[.slice zV r.qB.length zJ, .func (.func 150) #[] #[pp b3 0, pp b1 0, pp b5 0]] rfl rfl Tryz.call163 ?_)
    refine enter (n := 19) Tryz.func163 rfl Tryz.ntmps163 (Nat.le_of_ble_eq_true rfl) ?_
    refine qm (qA ?_)
    refine sp (.int .i64 0) ?_
    refine qx (t_n (qm (qm (qA ?_))))
    refine sp (.slice zV r.qB.length zJ) ?_
    refine sw (zZ Tryz.underlying108 zV r.qB.length zJ rfl ?_)
    refine sp (.int .i64 0) ?_
    refine qx (t_n (xE ?_))
    refine zX (fun m' ρ w24 => ∃ (junk : Env) (i : Nat), ρ = upd (upd (upd (upd junk 0 (.slice zV r.qB.length zJ)) 1 (.func (.func 150) #[] #[pp b3 0, pp b1 0, pp b5 0])) 7 (.int .i64 r.qB.length)) 8 (.int .i64 i) ∧ ((i : Int) ≤ r.qB.length) ∧ (IntoUp s t r i) ∧ m' = (r.qB.length - (i : Int)).toNat ∧ Fresh w.heap.size [] ∧ St w w24 [.box b5 [.int .i64 r.qy, .int .i64 r.xZ, .slice vI r.qV.length vG, .slice jh r.xh.length jg, .slice vP r.xk.length vO, .slice jD r.xm.length jC, .slice Qx r.zg.length Qw, .slice zV r.qB.length zJ, .bool r.xO] 110, .box b3 [.slice (aa b7 o8) t.qh.length qJ, .slice (aa b11 o12) t.qo.length xA, .slice qL t.ql.length qK] 38, .box b1 [.int .i64 s.qH, .slice qw s.qf.length qp, .slice qG s.qg.length qC] 36] [isF false Fe14 (.slice ae14 ((t.qo[r.qy.toNat]!).length) ce14) (t.qo[r.qy.toNat]!), atF b11 (o12 + (r.qy : Int).toNat * 1) [.slice ae14 ((t.qo[r.qy.toNat]!).length) ce14], isF false qP (.slice qw s.qf.length qp) s.qf, isF false xC (.slice qG s.qg.length qC) s.qg, isF false xK (.slice (aa b7 o8) t.qh.length qJ) t.qh, isF false zy (.slice (aa b11 o12) t.qo.length xA) t.qo, isF false xI (.slice qL t.ql.length qK) t.ql, isF false QP (.slice vI r.qV.length vG) r.qV, isF false Xi (.slice jh r.xh.length jg) r.xh, isF false Q7 (.slice vP r.xk.length vO) r.xk, isF false Xy (.slice jD r.xm.length jC) r.xm, isF false FrOut (.slice Qx r.zg.length Qw) r.zg, isF false FrInto (.slice zV r.qB.length zJ) r.qB]) ((r.qB.length - (0 : Int)).toNat) ⟨_, 0, (by exact qj (qj (qj (qj (rfl) rfl) rfl) rfl) rfl), (by omega), (by exact fun j hj => by omega), rfl, N, H⟩ ?_
    clear H N
    rintro m' ρ w25 ⟨junk, i, rfl, i0, i1, rfl, N, H⟩
    refine qm (qA ?_)
    refine sp (.bool (decide ((i : Int) < r.qB.length))) ?_
    refine qx (t_n (qm ?_))
    refine qW (decide ((i : Int) < r.qB.length)) rfl (fun h26 => ?_) (fun h26 => ?_)
    ·skip
     replace h26 := of_decide_eq_true h26
     have q := (p12 i (by omega)).1
     have q1 := q.1
     have q2 := q.2
     refine xu (t_n (qm (xE (qm (qA ?_)))))
     refine sps [.int .i64 i, .int .i64 i] ?_
     refine qx (t_n (qm (qA ?_)))
     refine sps [.func (.func 150) #[] #[pp b3 0, pp b1 0, pp b5 0], .slice zV r.qB.length zJ, .int .i64 i] ?_
     obtain ⟨b27, o28, rfl⟩ := H.addr 12 rfl (by omega)
     obtain ⟨ae30Bag, ce30Bag, Fe30Bag, H⟩ := H.jJ 12 rfl i i (by omega) (by omega) (by omega)
     refine sw (xJ i Tryz.underlying108 ti115 rfl rfl (by omega) (by omega) ?_)
     refine sw (zl [.int .i64 ((r.qB[i]!).qy), .slice ae30Bag (((r.qB[i]!).vz).length) ce30Bag] Tryz.isAgg115 Tryz.sizeOf115 rfl (qI (H.get 1 rfl) 0 2) ?_)
     refine sw (Qs #[.agg #[.int .i64 ((r.qB[i]!).qy), .slice ae30Bag (((r.qB[i]!).vz).length) ce30Bag], pp b3 0, pp b1 0, pp b5 0] rfl rfl Tryz.call150 ?_)
     refine enter (n := 23) Tryz.func150 rfl Tryz.ntmps150 (Nat.le_of_ble_eq_true rfl) ?_
     refine qm (qA ?_)
     refine sw (yG H [.int .i64 ((r.qB[i]!).qy), .slice ae30Bag (((r.qB[i]!).vz).length) ce30Bag] fun b31 w32 H => ?_)
     refine sp (.bool false) ?_
     refine qx (t_n (qm ?_))
     refine yA rfl H fun H => ?_
     refine rt 0 (pp b3 (0 + 0)) (xF b3 (0) 0 Tryz.underlying38 rfl rfl Tryz.sizeOf26 rfl) H ?_
     refine rt 1 (.slice (aa b7 o8) t.qh.length qJ) (xw Tryz.isAgg26 rfl (fun _ h => h.cell 2 rfl rfl)) H ?_
     refine rt 2 (pp b31 (0 + 0)) (xF b31 (0) 0 Tryz.underlying115 rfl rfl Tryz.sizeOf2 rfl) H ?_
     refine rt 3 (.int .i64 ((r.qB[i]!).qy)) (xw Tryz.isAgg2 rfl (fun _ h => h.cell 0 rfl rfl)) H ?_
     refine rt 4 (pp b7 (o8 + ((r.qB[i]!).qy : Int).toNat * 1)) (xQ b7 (o8) t.qh.length qJ ((r.qB[i]!).qy) Tryz.underlying26 ti4 rfl rfl (by omega) (by omega)) H ?_
     refine rt 5 (.bool (t.qh[((r.qB[i]!).qy).toNat]!)) (xw Tryz.isAgg4 rfl (fun _ h => h.QT 6 rfl ((r.qB[i]!).qy) (by omega) (by omega))) H ?_
     refine rtp 6 (.bool (!(t.qh[((r.qB[i]!).qy).toNat]!))) H ?_
     refine rtp 7 (.bool (!(t.qh[((r.qB[i]!).qy).toNat]!))) H ?_
     cases h34 : (!(t.qh[((r.qB[i]!).qy).toNat]!))
     ·skip
      replace h34 := qX h34
      refine rg 8 (.agg #[.int .i64 s.qH, .slice qw s.qf.length qp, .slice qG s.qg.length qC]) 13 (Qm (cs := [.int .i64 s.qH, .slice qw s.qf.length qp, .slice qG s.qg.length qC]) Tryz.isAgg36 Tryz.sizeOf36 rfl (fun _ h => qI (h.cells 3 rfl) 0 3)) H ?_
      refine rg 9 (.agg #[.slice (aa b7 o8) t.qh.length qJ, .slice (aa b11 o12) t.qo.length xA, .slice qL t.ql.length qK]) 13 (Qm (cs := [.slice (aa b7 o8) t.qh.length qJ, .slice (aa b11 o12) t.qo.length xA, .slice qL t.ql.length qK]) Tryz.isAgg38 Tryz.sizeOf38 rfl (fun _ h => qI (h.cells 2 rfl) 0 3)) H ?_
      refine rg 10 (pp b31 (0 + 0)) 13 (xF b31 (0) 0 Tryz.underlying115 rfl rfl Tryz.sizeOf2 rfl) H ?_
      refine rg 11 (.int .i64 ((r.qB[i]!).qy)) 13 (xw Tryz.isAgg2 rfl (fun _ h => h.cell 0 rfl rfl)) H ?_
      refine rg 13 (pp b5 (0 + 0)) 13 (xF b5 (0) 0 Tryz.underlying110 rfl rfl Tryz.sizeOf2 rfl) H ?_
      refine rg 14 (.int .i64 r.qy) 13 (xw Tryz.isAgg2 rfl (fun _ h => h.cell 1 rfl rfl)) H ?_
      refine xn [12] (by kernel_rfl) (by simp) (r_opG rfl (e := 13) rfl rfl ?_ xq)
      refine xe #[.agg #[.int .i64 s.qH, .slice qw s.qf.length qp, .slice qG s.qg.length qC], .agg #[.slice (aa b7 o8) t.qh.length qJ, .slice (aa b11 o12) t.qo.length xA, .slice qL t.ql.length qK], .int .i64 ((r.qB[i]!).qy)] rfl rfl Tryz.call144 (parentNow_ok w32.drew s t ((r.qB[i]!).qy) qw qp qP qG qC xC (aa b7 o8) qJ xK (aa b11 o12) xA zy qL qK xI (H.get 4 rfl).1 (H.get 5 rfl).1 (H.get 6 rfl).1 (H.get 7 rfl).1 (H.get 8 rfl).1 (by first | assumption | omega) (by first | assumption | omega) (by first | assumption | omega)) ?_
      rintro _ w36 rfl x37
      replace H := H.ext x37
      refine ⟨H, ?_⟩
      refine rgp 15 (.bool ((xf s t ((r.qB[i]!).qy) : Int) != r.qy)) 13 H ?_
      refine rtp 16 (.bool ((xf s t ((r.qB[i]!).qy) : Int) != r.qy)) H ?_
      refine rtp 17 (.bool ((xf s t ((r.qB[i]!).qy) : Int) != r.qy)) H ?_
      refine xN (by kernel_rfl) (t_n ?_)
      refine xB ?_
      refine ret1 (.bool ((xf s t ((r.qB[i]!).qy) : Int) != r.qy)) rfl rfl ⟨_, rfl, ?_⟩
      replace H := H.erases [0]
      dsimp only [yJ, List.eraseIdx] at H
      refine qx (t_n ?_)
      refine qW ((xf s t ((r.qB[i]!).qy) : Int) != r.qy) rfl (fun h38 => ?_) (fun h38 => ?_)
      ·skip
       replace h38 := bne_iff_ne.1 h38
       refine qm (qA ?_)
       refine sps [.int .i64 i, .int .i64 i] ?_
       refine qx (t_n (xB (b_r (t_r (t_r (b_r (t_r ?_)))))))
       refine ret1 (.int .i64 i) rfl rfl ⟨_, rfl, ?_⟩
       refine sw (o_pure (.bool true) (by show some (Value.bool (decide ((i : Int) ≥ 0))) = some (Value.bool true); rw [decide_eq_true (by omega)]) ?_)
       refine sp (.bool true) ?_
       refine qx (t_n (xB ?_))
       refine ret1 (.bool true) rfl rfl ⟨_, rfl, ?_⟩
       refine sps [.bool false, .bool false] ?_
       refine qx (t_n (xB ?_))
       refine ret1 (.bool false) rfl rfl ⟨_, rfl, ?_, H.base⟩
       rw [xy (fun h => by obtain ⟨h1, h2, h3, h4, h5⟩ := h; first | exact ft h1 ‹_› | exact ft h2 ‹_› | exact ft h3 ‹_› | exact h4 ⟨‹_›, ‹_›⟩ | (obtain ⟨q1, q2⟩ := h5 i (by omega); first | exact ft q1 ‹_› | exact absurd q2 ‹_›))]
      replace h38 := xR h38
      refine xu (b_n (t_n (qA ?_)))
      refine sw (vg i 1 rfl rfl (by omega) ?_)
      refine sp (.int .i64 (i + 1)) ?_
      refine qx ?_
      refine xH (m' := (r.qB.length - ((i + 1) : Int)).toNat) (by omega) ⟨_, i + 1, (by exact qj (qj (qj (qj (rfl) rfl) rfl) rfl) rfl), ?_, ?_, rfl, N, H.pick [0, 1, 2] [2, 3, 4, 5, 6, 7, 8, 9, 10, 11, 12, 13, 14]⟩
      · omega
      · exact i1.succ ‹_› ‹_›
     replace h34 := xg h34
     refine zQ [8, 9, 10, 11, 12, 13, 14, 15] 8 (H) ?_
     refine rtp 16 (.bool true) H ?_
     refine rtp 17 (.bool true) H ?_
     refine xN (by kernel_rfl) (t_n ?_)
     refine xB ?_
     refine ret1 (.bool true) rfl rfl ⟨_, rfl, ?_⟩
     replace H := H.erases [0]
     dsimp only [yJ, List.eraseIdx] at H
     refine qx (t_n ?_)
     refine qW true rfl (fun _ => ?_) (fun h => absurd h (by decide))
     refine qm (qA ?_)
     refine sps [.int .i64 i, .int .i64 i] ?_
     refine qx (t_n (xB (b_r (t_r (t_r (b_r (t_r ?_)))))))
     refine ret1 (.int .i64 i) rfl rfl ⟨_, rfl, ?_⟩
     refine sw (o_pure (.bool true) (by show some (Value.bool (decide ((i : Int) ≥ 0))) = some (Value.bool true); rw [decide_eq_true (by omega)]) ?_)
     refine sp (.bool true) ?_
     refine qx (t_n (xB ?_))
     refine ret1 (.bool true) rfl rfl ⟨_, rfl, ?_⟩
     refine sps [.bool false, .bool false] ?_
     refine qx (t_n (xB ?_))
     refine ret1 (.bool false) rfl rfl ⟨_, rfl, ?_, H.base⟩
     rw [xy (fun h => by obtain ⟨h1, h2, h3, h4, h5⟩ := h; first | exact ft h1 ‹_› | exact ft h2 ‹_› | exact ft h3 ‹_› | exact h4 ⟨‹_›, ‹_›⟩ | (obtain ⟨q1, q2⟩ := h5 i (by omega); first | exact ft q1 ‹_› | exact absurd q2 ‹_›))]
    replace h26 := of_decide_eq_false h26
    refine zU (t_x (t_x (b_x (t_n (qm (qA ?_))))))
    refine sp (.int .i64 (-1)) ?_
    refine qx (t_n (xB ?_))
    refine ret1 (.int .i64 (-1)) rfl rfl ⟨_, rfl, ?_⟩
    refine sps [.bool false, .bool false] ?_
    refine qx (t_n (xB ?_))
    refine ret1 (.bool false) rfl rfl ⟨_, rfl, ?_⟩
    refine sps [.bool true, .bool true] ?_
    refine qx (t_n (xB ?_))
    refine ret1 (.bool true) rfl rfl ⟨_, rfl, ?_, H.base⟩
    rw [Qh ⟨by assumption, by assumption, by assumption, fun ⟨u, v⟩ => by first | omega | exact ft v ‹_›, (show i = r.qB.length by omega) ▸ i1⟩]
   replace h23 := of_decide_eq_true h23
   refine qR 38 rfl rfl ?_
   refine sw (qN b5 (0) 4 Tryz.underlying110 rfl rfl Tryz.sizeOf22 rfl ?_)
   refine qR 38 rfl rfl ?_
   refine sw (qE (.slice vP r.xk.length vO) Tryz.isAgg22 rfl (H.cell 0 rfl rfl) ?_)
   refine qR 38 rfl rfl ?_
   refine sp (.slice ae14 ((t.qo[r.qy.toNat]!).length) ce14) ?_
   refine qR 38 rfl rfl ?_
   refine sw (xe #[.slice vP r.xk.length vO, .slice ae14 ((t.qo[r.qy.toNat]!).length) ce14] rfl rfl Tryz.call128 (isWithin_ok w21 r.xk (t.qo[r.qy.toNat]!) vP vO Q7 ae14 ce14 Fe14 (H.get 9 rfl).1 (H.get 0 rfl).1 (by first | assumption | omega) (by first | assumption | omega)) ?_)
   rintro _ w39 rfl x40
   replace H := H.ext x40
   refine qR 33 rfl rfl ?_
   refine sps [.bool (within r.xk (t.qo[r.qy.toNat]!)), .bool (within r.xk (t.qo[r.qy.toNat]!))] ?_
   refine qx (t_n ?_)
   refine qW (within r.xk (t.qo[r.qy.toNat]!)) rfl (fun h41 => ?_) (fun h41 => ?_)
   ·skip
    refine qm (qA ?_)
    refine sp (.bool false) ?_
    refine qx (t_n (xB (t_r ?_)))
    refine ret1 (.bool false) rfl rfl ⟨_, rfl, ?_, H.base⟩
    rw [xy (fun h => by obtain ⟨h1, h2, h3, h4, h5⟩ := h; first | exact ft h1 ‹_› | exact ft h2 ‹_› | exact ft h3 ‹_› | exact h4 ⟨‹_›, ‹_›⟩ | (obtain ⟨q1, q2⟩ := h5 i (by omega); first | exact ft q1 ‹_› | exact absurd q2 ‹_›))]
   refine xu (t_n (qm (qA ?_)))
   refine sw (qN b5 (0) 7 Tryz.underlying110 rfl rfl Tryz.sizeOf108 rfl ?_)
   refine sw (qE (.slice zV r.qB.length zJ) Tryz.isAgg108 rfl (H.cell 0 rfl rfl) ?_)
   refine sp (.func (.func 150) #[] #[pp b3 0, pp b1 0, pp b5 0]) ?_
   refine sw (Qs #[.slice zV r.qB.length zJ, .func (.func 150) #[] #[pp b3 0, pp b1 0, pp b5 0]] rfl rfl Tryz.call149 ?_)
   refine enter (n := 9) Tryz.func149 rfl Tryz.ntmps149 (Nat.le_of_ble_eq_true rfl) ?_
   refine qm (qA ?_)
   refine sp (.bool false) ?_
   refine qx (t_n (qm (qA ?_)))
   refine sps [.slice zV r.qB.length zJ, .func (.func 150) #[] #[pp b3 0, pp b1 0, pp b5 0]] ?_
   refine sw (Qs #[.slice zV r.qB.length zJ, .func (.func 150) #[] #[pp b3 0, pp b1 0, pp b5 0]] rfl rfl Tryz.call163 ?_)
   refine enter (n := 19) Tryz.func163 rfl Tryz.ntmps163 (Nat.le_of_ble_eq_true rfl) ?_
   refine qm (qA ?_)
   refine sp (.int .i64 0) ?_
   refine qx (t_n (qm (qm (qA ?_))))
   refine sp (.slice zV r.qB.length zJ) ?_
   refine sw (zZ Tryz.underlying108 zV r.qB.length zJ rfl ?_)
   refine sp (.int .i64 0) ?_
   refine qx (t_n (xE ?_))
   refine zX (fun m' ρ w42 => ∃ (junk : Env) (i : Nat), ρ = upd (upd (upd (upd junk 0 (.slice zV r.qB.length zJ)) 1 (.func (.func 150) #[] #[pp b3 0, pp b1 0, pp b5 0])) 7 (.int .i64 r.qB.length)) 8 (.int .i64 i) ∧ ((i : Int) ≤ r.qB.length) ∧ (IntoUp s t r i) ∧ m' = (r.qB.length - (i : Int)).toNat ∧ Fresh w.heap.size [] ∧ St w w42 [.box b5 [.int .i64 r.qy, .int .i64 r.xZ, .slice vI r.qV.length vG, .slice jh r.xh.length jg, .slice vP r.xk.length vO, .slice jD r.xm.length jC, .slice Qx r.zg.length Qw, .slice zV r.qB.length zJ, .bool r.xO] 110, .box b3 [.slice (aa b7 o8) t.qh.length qJ, .slice (aa b11 o12) t.qo.length xA, .slice qL t.ql.length qK] 38, .box b1 [.int .i64 s.qH, .slice qw s.qf.length qp, .slice qG s.qg.length qC] 36] [isF false Fe14 (.slice ae14 ((t.qo[r.qy.toNat]!).length) ce14) (t.qo[r.qy.toNat]!), atF b11 (o12 + (r.qy : Int).toNat * 1) [.slice ae14 ((t.qo[r.qy.toNat]!).length) ce14], isF false qP (.slice qw s.qf.length qp) s.qf, isF false xC (.slice qG s.qg.length qC) s.qg, isF false xK (.slice (aa b7 o8) t.qh.length qJ) t.qh, isF false zy (.slice (aa b11 o12) t.qo.length xA) t.qo, isF false xI (.slice qL t.ql.length qK) t.ql, isF false QP (.slice vI r.qV.length vG) r.qV, isF false Xi (.slice jh r.xh.length jg) r.xh, isF false Q7 (.slice vP r.xk.length vO) r.xk, isF false Xy (.slice jD r.xm.length jC) r.xm, isF false FrOut (.slice Qx r.zg.length Qw) r.zg, isF false FrInto (.slice zV r.qB.length zJ) r.qB]) ((r.qB.length - (0 : Int)).toNat) ⟨_, 0, (by exact qj (qj (qj (qj (rfl) rfl) rfl) rfl) rfl), (by omega), (by exact fun j hj => by omega), rfl, N, H⟩ ?_
   clear H N
   rintro m' ρ w43 ⟨junk, i, rfl, i0, i1, rfl, N, H⟩
   refine qm (qA ?_)
   refine sp (.bool (decide ((i : Int) < r.qB.length))) ?_
   refine qx (t_n (qm ?_))
   refine qW (decide ((i : Int) < r.qB.length)) rfl (fun h44 => ?_) (fun h44 => ?_)
   ·skip
    replace h44 := of_decide_eq_true h44
    have q := (p12 i (by omega)).1
    have q1 := q.1
    have q2 := q.2
    refine xu (t_n (qm (xE (qm (qA ?_)))))
    refine sps [.int .i64 i, .int .i64 i] ?_
    refine qx (t_n (qm (qA ?_)))
    refine sps [.func (.func 150) #[] #[pp b3 0, pp b1 0, pp b5 0], .slice zV r.qB.length zJ, .int .i64 i] ?_
    obtain ⟨b45, o46, rfl⟩ := H.addr 12 rfl (by omega)
    obtain ⟨ae48Bag, ce48Bag, Fe48Bag, H⟩ := H.jJ 12 rfl i i (by omega) (by omega) (by omega)
    refine sw (xJ i Tryz.underlying108 ti115 rfl rfl (by omega) (by omega) ?_)
    refine sw (zl [.int .i64 ((r.qB[i]!).qy), .slice ae48Bag (((r.qB[i]!).vz).length) ce48Bag] Tryz.isAgg115 Tryz.sizeOf115 rfl (qI (H.get 1 rfl) 0 2) ?_)
    refine sw (Qs #[.agg #[.int .i64 ((r.qB[i]!).qy), .slice ae48Bag (((r.qB[i]!).vz).length) ce48Bag], pp b3 0, pp b1 0, pp b5 0] rfl rfl Tryz.call150 ?_)
    refine enter (n := 23) Tryz.func150 rfl Tryz.ntmps150 (Nat.le_of_ble_eq_true rfl) ?_
    refine qm (qA ?_)
    refine sw (yG H [.int .i64 ((r.qB[i]!).qy), .slice ae48Bag (((r.qB[i]!).vz).length) ce48Bag] fun b49 w50 H => ?_)
    refine sp (.bool false) ?_
    refine qx (t_n (qm ?_))
    refine yA rfl H fun H => ?_
    refine rt 0 (pp b3 (0 + 0)) (xF b3 (0) 0 Tryz.underlying38 rfl rfl Tryz.sizeOf26 rfl) H ?_
    refine rt 1 (.slice (aa b7 o8) t.qh.length qJ) (xw Tryz.isAgg26 rfl (fun _ h => h.cell 2 rfl rfl)) H ?_
    refine rt 2 (pp b49 (0 + 0)) (xF b49 (0) 0 Tryz.underlying115 rfl rfl Tryz.sizeOf2 rfl) H ?_
    refine rt 3 (.int .i64 ((r.qB[i]!).qy)) (xw Tryz.isAgg2 rfl (fun _ h => h.cell 0 rfl rfl)) H ?_
    refine rt 4 (pp b7 (o8 + ((r.qB[i]!).qy : Int).toNat * 1)) (xQ b7 (o8) t.qh.length qJ ((r.qB[i]!).qy) Tryz.underlying26 ti4 rfl rfl (by omega) (by omega)) H ?_
    refine rt 5 (.bool (t.qh[((r.qB[i]!).qy).toNat]!)) (xw Tryz.isAgg4 rfl (fun _ h => h.QT 6 rfl ((r.qB[i]!).qy) (by omega) (by omega))) H ?_
    refine rtp 6 (.bool (!(t.qh[((r.qB[i]!).qy).toNat]!))) H ?_
    refine rtp 7 (.bool (!(t.qh[((r.qB[i]!).qy).toNat]!))) H ?_
    cases h52 : (!(t.qh[((r.qB[i]!).qy).toNat]!))
    ·skip
     replace h52 := qX h52
     refine rg 8 (.agg #[.int .i64 s.qH, .slice qw s.qf.length qp, .slice qG s.qg.length qC]) 13 (Qm (cs := [.int .i64 s.qH, .slice qw s.qf.length qp, .slice qG s.qg.length qC]) Tryz.isAgg36 Tryz.sizeOf36 rfl (fun _ h => qI (h.cells 3 rfl) 0 3)) H ?_
     refine rg 9 (.agg #[.slice (aa b7 o8) t.qh.length qJ, .slice (aa b11 o12) t.qo.length xA, .slice qL t.ql.length qK]) 13 (Qm (cs := [.slice (aa b7 o8) t.qh.length qJ, .slice (aa b11 o12) t.qo.length xA, .slice qL t.ql.length qK]) Tryz.isAgg38 Tryz.sizeOf38 rfl (fun _ h => qI (h.cells 2 rfl) 0 3)) H ?_
     refine rg 10 (pp b49 (0 + 0)) 13 (xF b49 (0) 0 Tryz.underlying115 rfl rfl Tryz.sizeOf2 rfl) H ?_
     refine rg 11 (.int .i64 ((r.qB[i]!).qy)) 13 (xw Tryz.isAgg2 rfl (fun _ h => h.cell 0 rfl rfl)) H ?_
     refine rg 13 (pp b5 (0 + 0)) 13 (xF b5 (0) 0 Tryz.underlying110 rfl rfl Tryz.sizeOf2 rfl) H ?_
     refine rg 14 (.int .i64 r.qy) 13 (xw Tryz.isAgg2 rfl (fun _ h => h.cell 1 rfl rfl)) H ?_
     refine xn [12] (by kernel_rfl) (by simp) (r_opG rfl (e := 13) rfl rfl ?_ xq)
     refine xe #[.agg #[.int .i64 s.qH, .slice qw s.qf.length qp, .slice qG s.qg.length qC], .agg #[.slice (aa b7 o8) t.qh.length qJ, .slice (aa b11 o12) t.qo.length xA, .slice qL t.ql.length qK], .int .i64 ((r.qB[i]!).qy)] rfl rfl Tryz.call144 (parentNow_ok w50.drew s t ((r.qB[i]!).qy) qw qp qP qG qC xC (aa b7 o8) qJ xK (aa b11 o12) xA zy qL qK xI (H.get 4 rfl).1 (H.get 5 rfl).1 (H.get 6 rfl).1 (H.get 7 rfl).1 (H.get 8 rfl).1 (by first | assumption | omega) (by first | assumption | omega) (by first | assumption | omega)) ?_
     rintro _ w54 rfl x55
     replace H := H.ext x55
     refine ⟨H, ?_⟩
     refine rgp 15 (.bool ((xf s t ((r.qB[i]!).qy) : Int) != r.qy)) 13 H ?_
     refine rtp 16 (.bool ((xf s t ((r.qB[i]!).qy) : Int) != r.qy)) H ?_
     refine rtp 17 (.bool ((xf s t ((r.qB[i]!).qy) : Int) != r.qy)) H ?_
     refine xN (by kernel_rfl) (t_n ?_)
     refine xB ?_
     refine ret1 (.bool ((xf s t ((r.qB[i]!).qy) : Int) != r.qy)) rfl rfl ⟨_, rfl, ?_⟩
     replace H := H.erases [0]
     dsimp only [yJ, List.eraseIdx] at H
     refine qx (t_n ?_)
     refine qW ((xf s t ((r.qB[i]!).qy) : Int) != r.qy) rfl (fun h56 => ?_) (fun h56 => ?_)
     ·skip
      replace h56 := bne_iff_ne.1 h56
      refine qm (qA ?_)
      refine sps [.int .i64 i, .int .i64 i] ?_
      refine qx (t_n (xB (b_r (t_r (t_r (b_r (t_r ?_)))))))
      refine ret1 (.int .i64 i) rfl rfl ⟨_, rfl, ?_⟩
      refine sw (o_pure (.bool true) (by show some (Value.bool (decide ((i : Int) ≥ 0))) = some (Value.bool true); rw [decide_eq_true (by omega)]) ?_)
      refine sp (.bool true) ?_
      refine qx (t_n (xB ?_))
      refine ret1 (.bool true) rfl rfl ⟨_, rfl, ?_⟩
      refine sps [.bool false, .bool false] ?_
      refine qx (t_n (xB ?_))
      refine ret1 (.bool false) rfl rfl ⟨_, rfl, ?_, H.base⟩
      rw [xy (fun h => by obtain ⟨h1, h2, h3, h4, h5⟩ := h; first | exact ft h1 ‹_› | exact ft h2 ‹_› | exact ft h3 ‹_› | exact h4 ⟨‹_›, ‹_›⟩ | (obtain ⟨q1, q2⟩ := h5 i (by omega); first | exact ft q1 ‹_› | exact absurd q2 ‹_›))]
     replace h56 := xR h56
     refine xu (b_n (t_n (qA ?_)))
     refine sw (vg i 1 rfl rfl (by omega) ?_)
     refine sp (.int .i64 (i + 1)) ?_
     refine qx ?_
     refine xH (m' := (r.qB.length - ((i + 1) : Int)).toNat) (by omega) ⟨_, i + 1, (by exact qj (qj (qj (qj (rfl) rfl) rfl) rfl) rfl), ?_, ?_, rfl, N, H.pick [0, 1, 2] [2, 3, 4, 5, 6, 7, 8, 9, 10, 11, 12, 13, 14]⟩
     · omega
     · exact i1.succ ‹_› ‹_›
    replace h52 := xg h52
    refine zQ [8, 9, 10, 11, 12, 13, 14, 15] 8 (H) ?_
    refine rtp 16 (.bool true) H ?_
    refine rtp 17 (.bool true) H ?_
    refine xN (by kernel_rfl) (t_n ?_)
    refine xB ?_
    refine ret1 (.bool true) rfl rfl ⟨_, rfl, ?_⟩
    replace H := H.erases [0]
    dsimp only [yJ, List.eraseIdx] at H
    refine qx (t_n ?_)
    refine qW true rfl (fun _ => ?_) (fun h => absurd h (by decide))
    refine qm (qA ?_)
    refine sps [.int .i64 i, .int .i64 i] ?_
    refine qx (t_n (xB (b_r (t_r (t_r (b_r (t_r ?_)))))))
    refine ret1 (.int .i64 i) rfl rfl ⟨_, rfl, ?_⟩
    refine sw (o_pure (.bool true) (by show some (Value.bool (decide ((i : Int) ≥ 0))) = some (Value.bool true); rw [decide_eq_true (by omega)]) ?_)
    refine sp (.bool true) ?_
    refine qx (t_n (xB ?_))
    refine ret1 (.bool true) rfl rfl ⟨_, rfl, ?_⟩
    refine sps [.bool false, .bool false] ?_
    refine qx (t_n (xB ?_))
    refine ret1 (.bool false) rfl rfl ⟨_, rfl, ?_, H.base⟩
    rw [xy (fun h => by obtain ⟨h1, h2, h3, h4, h5⟩ := h; first | exact ft h1 ‹_› | exact ft h2 ‹_› | exact ft h3 ‹_› | exact h4 ⟨‹_›, ‹_›⟩ | (obtain ⟨q1, q2⟩ := h5 i (by omega); first | exact ft q1 ‹_› | exact absurd q2 ‹_›))]
   replace h44 := of_decide_eq_false h44
   refine zU (t_x (t_x (b_x (t_n (qm (qA ?_))))))
   refine sp (.int .i64 (-1)) ?_
   refine qx (t_n (xB ?_))
   refine ret1 (.int .i64 (-1)) rfl rfl ⟨_, rfl, ?_⟩
   refine sps [.bool false, .bool false] ?_
   refine qx (t_n (xB ?_))
   refine ret1 (.bool false) rfl rfl ⟨_, rfl, ?_⟩
   refine sps [.bool true, .bool true] ?_
   refine qx (t_n (xB ?_))
   refine ret1 (.bool true) rfl rfl ⟨_, rfl, ?_, H.base⟩
   rw [Qh ⟨by assumption, by assumption, by assumption, fun ⟨u, v⟩ => by first | omega | exact ft v ‹_›, (show i = r.qB.length by omega) ▸ i1⟩]
  replace h20 := xg h20
  refine xY [34, 35, 36, 37, 38, 39, 40, 41, 42, 43] ?_
  refine sp (.bool true) ?_
  refine qx (t_n ?_)
  refine qW true rfl (fun _ => ?_) (fun h => absurd h (by decide))
  refine qm (qA ?_)
  refine sp (.bool false) ?_
  refine qx (t_n (xB (t_r ?_)))
  refine ret1 (.bool false) rfl rfl ⟨_, rfl, ?_, H.base⟩
  rw [xy (fun h => by obtain ⟨h1, h2, h3, h4, h5⟩ := h; first | exact ft h1 ‹_› | exact ft h2 ‹_› | exact ft h3 ‹_› | exact h4 ⟨‹_›, ‹_›⟩ | (obtain ⟨q1, q2⟩ := h5 i (by omega); first | exact ft q1 ‹_› | exact absurd q2 ‹_›))]
 replace h17 := xg h17
 refine xY [27, 28, 29, 30, 31] ?_
 refine sps [.bool true, .bool true] ?_
 refine xY [34, 35, 36, 37, 38, 39, 40, 41, 42, 43] ?_
 refine sp (.bool true) ?_
 refine qx (t_n ?_)
 refine qW true rfl (fun _ => ?_) (fun h => absurd h (by decide))
 refine qm (qA ?_)
 refine sp (.bool false) ?_
 refine qx (t_n (xB (t_r ?_)))
 refine ret1 (.bool false) rfl rfl ⟨_, rfl, ?_, H.base⟩
 rw [xy (fun h => by obtain ⟨h1, h2, h3, h4, h5⟩ := h; first | exact ft h1 ‹_› | exact ft h2 ‹_› | exact ft h3 ‹_› | exact h4 ⟨‹_›, ‹_›⟩ | (obtain ⟨q1, q2⟩ := h5 i (by omega); first | exact ft q1 ‹_› | exact absurd q2 ‹_›))]

theorem cloneSS_ok (w : World) (l : List (List Int)) (al : Option Addr) (cl : Nat) (Fl : List Nat) (hl : qQ.rep w Fl [.slice al l.length cl] l) (p0 : l.length ≤ 1000000) : Calls Tryz.prog 98 #[.slice al l.length cl] w (Ret (fun v w' => ∃ (ra : Option Addr) (rn : Nat) (rc : Nat) (rx : List Value) (rF : List Nat), v = .slice ra rn rc ∧ (∀ b ∈ rF, b ∈ Fl) ∧ St w w' [.row (.slice ra rn rc) 22 1 rn rx] [jk false rF rx l]) w) := by
 refine enter (n := 8) Tryz.func98 rfl Tryz.ntmps98 (Nat.le_of_ble_eq_true rfl) ?_
 have H := (St.start w).arg hl
 have nhl := qM hl
 clear hl
 have N := Fresh.nil w.heap.size
 refine qm (qA ?_)
 refine sp (.slice none 0 0) ?_
 refine qx (t_n (qm (qm (qA ?_))))
 refine sp (.slice al l.length cl) ?_
 refine sw (o_eqnil Tryz.underlying27 al l.length cl rfl ?_)
 refine qx (t_n ?_)
 refine qW (al.isNone) rfl (fun h1 => ?_) (fun h1 => ?_)
 ·skip
  refine qm (qA ?_)
  refine sp (.slice none 0 0) ?_
  refine qx (t_n (xB (t_r ?_)))
  replace H := H.nilRow 22 1
  replace H := H.Xo (α := List Int)
  refine ret1 (.slice none 0 0) rfl rfl ⟨_, rfl, ?_, H.base⟩
  obtain rfl := H.nilOf 1 rfl ‹_›
  replace H := H.unfree 0 rfl
  exact ⟨none, 0, 0, [], [], rfl, (by intro b hb; first | (simp at hb; done) | exact id b (by simpa using hb)), H.pick [0] [0]⟩
 refine xu (t_n (qm (qA ?_)))
 refine sw (o_build0 H Tryz.underlying27 ti22 fun b2 w3 H => ?_)
 refine sp (.slice al l.length cl) ?_
 replace H := H.boxRow 0 rfl 1 0 rfl (by decide)
 try dsimp only [List.set] at H
 replace H := H.Xo (α := List Int)
 refine sw (o_appendFR H 0 rfl 1 rfl Tryz.underlying27 ti22 rfl (by decide) rfl rfl (by unfold maxLen; omega) (by omega) fun a4 c5 w6 us7 G8 H hG9 => ?_)
 try dsimp only [List.set] at H
 replace H := H.repsCat false 1 rfl 0 rfl (by simp)
 refine sp (.slice a4 (0 + l.length) c5) ?_
 refine qx (t_n (xB ?_))
 refine ret1 (.slice a4 (0 + l.length) c5) rfl rfl ⟨_, rfl, ?_, H.base⟩
 exact ⟨a4, 0 + l.length, c5, [] ++ us7, ([] ++ G8), rfl, (by intro b hb; first | (simp at hb; done) | exact hG9 b (by simpa using hb)), H.pick [0] [0]⟩

theorem applicable_ok (w : World) (s : qY) (t : qU) (qw : Option Addr) (qp : Nat) (qP : List Nat) (qG : Option Addr) (qC : Nat) (xC : List Nat) (qO : Option Addr) (qJ : Nat) (xK : List Nat) (xG : Option Addr) (xA : Nat) (zy : List Nat) (qL : Option Addr) (qK : Nat) (xI : List Nat) (xx : qQ.rep w qP [.slice qw s.qf.length qp] s.qf) (xM : qQ.rep w xC [.slice qG s.qg.length qC] s.qg) (zo : qQ.rep w xK [.slice qO t.qh.length qJ] t.qh) (vk : qQ.rep w zy [.slice xG t.qo.length xA] t.qo) (xW : qQ.rep w xI [.slice qL t.ql.length qK] t.ql) (p0 : Qz s) (p1 : ve s t) : Calls Tryz.prog 65 #[.agg #[.int .i64 s.qH, .slice qw s.qf.length qp, .slice qG s.qg.length qC], .agg #[.slice qO t.qh.length qJ, .slice xG t.qo.length xA, .slice qL t.ql.length qK]] w (Ret (fun v w' => ∃ (ra : Option Addr) (rn : Nat) (rc : Nat), v = .slice ra rn rc ∧ Fresh w.heap.size [] ∧ St w w' [.row (.slice ra rn rc) 2 1 rn ((appls s t).map (Value.int .i64))] []) w) := by
 refine enter (n := 69) Tryz.func65 rfl Tryz.ntmps65 (Nat.le_of_ble_eq_true rfl) ?_
 have H := (((((St.start w).arg xW).arg vk).arg zo).arg xM).arg xx
 have vU := qM xx
 have jZ := qM xM
 have QN := qM zo
 have Xt := qM vk
 have Qn := qM xW
 clear xx xM zo vk xW
 have N := Fresh.nil w.heap.size
 have p2 := p0.2.1
 have p3 := p0.1.2.1
 refine qm (qA ?_)
 refine sw (yG H [.int .i64 s.qH, .slice qw s.qf.length qp, .slice qG s.qg.length qC] fun b1 w2 H => ?_)
 refine sw (yG H [.slice qO t.qh.length qJ, .slice xG t.qo.length xA, .slice qL t.ql.length qK] fun b3 w4 H => ?_)
 refine sp (.slice none 0 0) ?_
 refine qx (t_n (qm (qA ?_)))
 refine sw (jH [.int .i64 0, .int .i64 0, .int .i64 0, .int .i64 0, .int .i64 0, .int .i64 0] [] ?_)
 refine sw (zn H ti134 [.int .i64 0, .int .i64 0, .int .i64 0, .int .i64 0, .int .i64 0, .int .i64 0] fun b5 w6 H => ?_)
 refine sw (xU H 0 [.int .i64 0, .int .i64 0, .int .i64 0, .int .i64 0, .int .i64 0, .int .i64 0] Tryz.sizeOf134 fun w7 H => ?_)
 try dsimp only [List.set] at H
 refine qx (t_n (qm (qm (qA ?_))))
 refine sp (.int .i64 0) ?_
 refine qx (t_n (xE ?_))
 try dsimp only [List.set] at H
 refine zX (fun m' ρ w8 => ∃ (junk : Env) (c : Nat) (top : List Int), ρ = upd (upd (upd (upd junk 2 (pp b1 0)) 3 (pp b3 0)) 5 (pp b5 0)) 13 (.int .i64 c) ∧ top = minus c ∧ ((c : Int) ≤ 6) ∧ m' = (6 - (c : Int)).toNat ∧ Fresh w.heap.size [] ∧ St w w8 [.box b5 (top.map (Value.int .i64)) 134, .box b3 [.slice qO t.qh.length qJ, .slice xG t.qo.length xA, .slice qL t.ql.length qK] 38, .box b1 [.int .i64 s.qH, .slice qw s.qf.length qp, .slice qG s.qg.length qC] 36] [isF false qP (.slice qw s.qf.length qp) s.qf, isF false xC (.slice qG s.qg.length qC) s.qg, isF false xK (.slice qO t.qh.length qJ) t.qh, isF false zy (.slice xG t.qo.length xA) t.qo, isF false xI (.slice qL t.ql.length qK) t.ql]) ((6 - (0 : Int)).toNat) ⟨_, 0, [0, 0, 0, 0, 0, 0], (by exact qj (qj (qj (qj (rfl) rfl) rfl) rfl) rfl), (by rfl), (by omega), rfl, N, H⟩ ?_
 clear H N
 rintro m' ρ w9 ⟨junk, c, top, rfl, rfl, i0, rfl, N, H⟩
 refine qm (qA ?_)
 refine sp (.bool (decide ((c : Int) < 6))) ?_
 refine qx (t_n (qm ?_))
 refine qW (decide ((c : Int) < 6)) rfl (fun h10 => ?_) (fun h10 => ?_)
 ·skip
  replace h10 := of_decide_eq_true h10
  refine xu (t_n (qm (xE (qm (qA ?_)))))
  refine sps [.int .i64 c, .int .i64 c] ?_
  refine qx (t_n (qA ?_))
  refine sp (.int .i64 c) ?_
  refine sw (o_idxArr c Tryz.underlying134 ti2 rfl rfl (by omega) (by omega) ?_)
  refine sw (o_storeArr H 0 rfl (-1) Tryz.sizeOf2 rfl rfl (i := c) (by omega) (by simp only [List.length_set, List.length_cons, List.length_nil, minus_len, Xg]; omega) fun w11 H => ?_)
  try dsimp only [List.set] at H
  refine qx (b_n (t_n (qA ?_)))
  refine sw (vg c 1 rfl rfl (by omega) ?_)
  refine sp (.int .i64 (c + 1)) ?_
  refine qx ?_
  refine xH (m' := (6 - ((c + 1) : Int)).toNat) (by omega) ⟨_, c + 1, ((minus c).set c (-1)), (by exact qj (qj (qj (qj (rfl) rfl) rfl) rfl) rfl), ?_, ?_, rfl, N, H⟩
  · exact minus_set (by omega)
  · omega
 replace h10 := of_decide_eq_false h10
 refine zU (t_x (t_x (b_x (t_n (qm (qm (qA ?_)))))))
 refine sw (qN b1 (0) 2 Tryz.underlying36 rfl rfl Tryz.sizeOf34 rfl ?_)
 refine sw (qE (.slice qG s.qg.length qC) Tryz.isAgg34 rfl (H.cell 2 rfl rfl) ?_)
 refine sw (zZ Tryz.underlying34 qG s.qg.length qC rfl ?_)
 refine sp (.int .i64 0) ?_
 refine qx (t_n (xE ?_))
 refine zX (fun m' ρ w12 => ∃ (junk : Env) (k : Nat) (top_1 : List Int), ρ = upd (upd (upd (upd (upd (upd junk 2 (pp b1 0)) 3 (pp b3 0)) 5 (pp b5 0)) 20 (.slice qG s.qg.length qC)) 21 (.int .i64 s.qg.length)) 22 (.int .i64 k) ∧ top_1 = bests s t (-1) 6 k ∧ ((k : Int) ≤ s.qg.length) ∧ m' = (s.qg.length - (k : Int)).toNat ∧ Fresh w.heap.size [] ∧ St w w12 [.box b5 (top_1.map (Value.int .i64)) 134, .box b3 [.slice qO t.qh.length qJ, .slice xG t.qo.length xA, .slice qL t.ql.length qK] 38, .box b1 [.int .i64 s.qH, .slice qw s.qf.length qp, .slice qG s.qg.length qC] 36] [isF false qP (.slice qw s.qf.length qp) s.qf, isF false xC (.slice qG s.qg.length qC) s.qg, isF false xK (.slice qO t.qh.length qJ) t.qh, isF false zy (.slice xG t.qo.length xA) t.qo, isF false xI (.slice qL t.ql.length qK) t.ql]) ((s.qg.length - (0 : Int)).toNat) ⟨_, 0, (minus c), (by exact qj (qj (qj (qj (qj (qj (rfl) rfl) rfl) rfl) rfl) rfl) rfl), (by exact minus_six (by omega) s t), (by omega), rfl, N, H⟩ ?_
 clear H N
 rintro m' ρ w13 ⟨junk, k, top_1, rfl, rfl, i0, rfl, N, H⟩
 refine qm (qA ?_)
 refine sp (.bool (decide ((k : Int) < s.qg.length))) ?_
 refine qx (t_n (qm ?_))
 refine qW (decide ((k : Int) < s.qg.length)) rfl (fun h14 => ?_) (fun h14 => ?_)
 ·skip
  replace h14 := of_decide_eq_true h14
  have q := p0.rule (i := k) (by omega)
  have qc := q.1
  have qk := q.cell
  have qr := q.2.1
  have q6 : (s.qg[k]!).qy.toNat < 6 := by omega
  refine xu (t_n (qm (xE (qm (qA ?_)))))
  obtain ⟨b15, o16, rfl⟩ := H.addr 1 rfl (by omega)
  obtain ⟨ae18Need, ce18Need, Fe18Need, ae18Have, ce18Have, Fe18Have, ae18Lack, ce18Lack, Fe18Lack, ae18Here, ce18Here, Fe18Here, ae18Out, ce18Out, Fe18Out, ae18Into, ce18Into, Fe18Into, H⟩ := H.yI 1 rfl k k (by omega) (by omega) (by omega)
  refine sw (xJ k Tryz.underlying34 ti110 rfl rfl (by omega) (by omega) ?_)
  refine sw (zl [.int .i64 ((s.qg[k]!).qy), .int .i64 ((s.qg[k]!).xZ), .slice ae18Need (((s.qg[k]!).qV).length) ce18Need, .slice ae18Have (((s.qg[k]!).xh).length) ce18Have, .slice ae18Lack (((s.qg[k]!).xk).length) ce18Lack, .slice ae18Here (((s.qg[k]!).xm).length) ce18Here, .slice ae18Out (((s.qg[k]!).zg).length) ce18Out, .slice ae18Into (((s.qg[k]!).qB).length) ce18Into, .bool ((s.qg[k]!).xO)] Tryz.isAgg110 Tryz.sizeOf110 rfl (qI (H.get 6 rfl) 0 9) ?_)
  refine sw (zn H ti110 [.int .i64 0, .int .i64 0, .slice none 0 0, .slice none 0 0, .slice none 0 0, .slice none 0 0, .slice none 0 0, .slice none 0 0, .bool false] fun b19 w20 H => ?_)
  refine sw (xU H 0 [.int .i64 ((s.qg[k]!).qy), .int .i64 ((s.qg[k]!).xZ), .slice ae18Need (((s.qg[k]!).qV).length) ce18Need, .slice ae18Have (((s.qg[k]!).xh).length) ce18Have, .slice ae18Lack (((s.qg[k]!).xk).length) ce18Lack, .slice ae18Here (((s.qg[k]!).xm).length) ce18Here, .slice ae18Out (((s.qg[k]!).zg).length) ce18Out, .slice ae18Into (((s.qg[k]!).qB).length) ce18Into, .bool ((s.qg[k]!).xO)] Tryz.sizeOf110 fun w21 H => ?_)
  try dsimp only [List.set] at H
  refine qx (t_n (qm (qA ?_)))
  refine sw (zl [.int .i64 s.qH, .slice qw s.qf.length qp, .slice (aa b15 o16) s.qg.length qC] Tryz.isAgg36 Tryz.sizeOf36 rfl (qI (H.cells 3 rfl) 0 3) ?_)
  refine sw (zl [.slice qO t.qh.length qJ, .slice xG t.qo.length xA, .slice qL t.ql.length qK] Tryz.isAgg38 Tryz.sizeOf38 rfl (qI (H.cells 2 rfl) 0 3) ?_)
  refine sw (zl [.int .i64 ((s.qg[k]!).qy), .int .i64 ((s.qg[k]!).xZ), .slice ae18Need (((s.qg[k]!).qV).length) ce18Need, .slice ae18Have (((s.qg[k]!).xh).length) ce18Have, .slice ae18Lack (((s.qg[k]!).xk).length) ce18Lack, .slice ae18Here (((s.qg[k]!).xm).length) ce18Here, .slice ae18Out (((s.qg[k]!).zg).length) ce18Out, .slice ae18Into (((s.qg[k]!).qB).length) ce18Into, .bool ((s.qg[k]!).xO)] Tryz.isAgg110 Tryz.sizeOf110 rfl (qI (H.cells 0 rfl) 0 9) ?_)
  refine sw (xe #[.agg #[.int .i64 s.qH, .slice qw s.qf.length qp, .slice (aa b15 o16) s.qg.length qC], .agg #[.slice qO t.qh.length qJ, .slice xG t.qo.length xA, .slice qL t.ql.length qK], .agg #[.int .i64 ((s.qg[k]!).qy), .int .i64 ((s.qg[k]!).xZ), .slice ae18Need (((s.qg[k]!).qV).length) ce18Need, .slice ae18Have (((s.qg[k]!).xh).length) ce18Have, .slice ae18Lack (((s.qg[k]!).xk).length) ce18Lack, .slice ae18Here (((s.qg[k]!).xm).length) ce18Here, .slice ae18Out (((s.qg[k]!).zg).length) ce18Out, .slice ae18Into (((s.qg[k]!).qB).length) ce18Into, .bool ((s.qg[k]!).xO)]] rfl rfl Tryz.call112 (isEnabled_ok w21 s t (s.qg[k]!) qw qp qP (aa b15 o16) qC xC qO qJ xK xG xA zy qL qK xI ae18Need ce18Need Fe18Need ae18Have ce18Have Fe18Have ae18Lack ce18Lack Fe18Lack ae18Here ce18Here Fe18Here ae18Out ce18Out Fe18Out ae18Into ce18Into Fe18Into (H.get 7 rfl).1 (H.get 8 rfl).1 (H.get 9 rfl).1 (H.get 10 rfl).1 (H.get 11 rfl).1 (H.get 0 rfl).1 (H.get 1 rfl).1 (H.get 2 rfl).1 (H.get 3 rfl).1 (H.get 4 rfl).1 (H.get 5 rfl).1 (by first | assumption | omega) (by first | assumption | omega) (by first | assumption | omega)) ?_)
  rintro _ w23 rfl x24
  replace H := H.ext x24
  refine qx (t_n ?_)
  refine qW (dec (EnOk s t (s.qg[k]!))) rfl (fun h25 => ?_) (fun h25 => ?_)
  ·skip
   replace h25 := jI h25
   refine yS rfl H [0, 2, 3] fun H => ?_
   have S := H.yw [0, 2, 3] [0, 1, 2, 3, 4, 5, 6, 7, 8, 9, 10, 11]
   refine rt 0 (pp b19 (0 + 0)) (xF b19 (0) 0 Tryz.underlying110 rfl rfl Tryz.sizeOf2 rfl) S ?_
   refine rt 1 (.int .i64 ((s.qg[k]!).qy)) (xw Tryz.isAgg2 rfl (fun _ h => h.cell 0 rfl rfl)) S ?_
   refine rt 2 (pp b19 (0 + 0)) (xF b19 (0) 0 Tryz.underlying110 rfl rfl Tryz.sizeOf2 rfl) S ?_
   refine rt 3 (.int .i64 ((s.qg[k]!).qy)) (xw Tryz.isAgg2 rfl (fun _ h => h.cell 0 rfl rfl)) S ?_
   refine rt 4 (pp b5 (0 + ((s.qg[k]!).qy : Int).toNat * 1)) (y_idxArr b5 (0) 6 ((s.qg[k]!).qy) Tryz.underlying134 ti2 rfl rfl (by omega) (by omega)) S ?_
   refine rt 6 (pp b19 (0 + 1)) (xF b19 (0) 1 Tryz.underlying110 rfl rfl Tryz.sizeOf2 rfl) S ?_
   refine rt 7 (.int .i64 ((s.qg[k]!).xZ)) (xw Tryz.isAgg2 rfl (fun _ h => h.cell 0 rfl rfl)) S ?_
   refine xn [5] (by kernel_rfl) (by simp) (xX rfl ?_ xq)
   refine qE (.int .i64 ((bests s t (-1) 6 k)[((s.qg[k]!).qy).toNat]!)) Tryz.isAgg2 rfl (H.cell 1 rfl (ints_at (iv := (s.qg[k]!).qy) (i := (((s.qg[k]!).qy).toNat)) (by omega) (by simp only [List.length_set, List.length_cons, List.length_nil, minus_len, Xg]; omega))) ?_
   refine ⟨H.pick [0, 2, 3] [0, 1, 2, 3, 4, 5, 6, 7, 8, 9, 10, 11], ?_⟩
   have S := H.yw [0, 2, 3] [0, 1, 2, 3, 4, 5, 6, 7, 8, 9, 10, 11]
   refine rt 8 (.int .i64 (max ((bests s t (-1) 6 k)[((s.qg[k]!).qy).toNat]!) ((s.qg[k]!).xZ))) (y_max ((bests s t (-1) 6 k)[((s.qg[k]!).qy).toNat]!) ((s.qg[k]!).xZ) rfl rfl) S ?_
   refine rt 9 (pp b5 (0 + ((s.qg[k]!).qy : Int).toNat * 1)) (y_idxArr b5 (0) 6 ((s.qg[k]!).qy) Tryz.underlying134 ti2 rfl rfl (by omega) (by omega)) S ?_
   refine xn [10] (by kernel_rfl) (by simp) (xX rfl ?_ xq)
   refine o_storeArr H 1 rfl (max ((bests s t (-1) 6 k)[((s.qg[k]!).qy).toNat]!) ((s.qg[k]!).xZ)) Tryz.sizeOf2 rfl rfl (i := (((s.qg[k]!).qy).toNat)) (by omega) (by simp only [List.length_set, List.length_cons, List.length_nil, minus_len, Xg]; omega) fun w27 H => ?_
   try dsimp only [List.set] at H
   refine ⟨H.pick [0, 2, 3] [0, 1, 2, 3, 4, 5, 6, 7, 8, 9, 10, 11], ?_⟩
   refine xN (by kernel_rfl) (b_n (t_n ?_))
   refine qA ?_
   refine sw (vg k 1 rfl rfl (by omega) ?_)
   refine sp (.int .i64 (k + 1)) ?_
   refine qx ?_
   refine xH (m' := (s.qg.length - ((k + 1) : Int)).toNat) (by omega) ⟨_, k + 1, ((bests s t (-1) 6 k).set (((s.qg[k]!).qy).toNat) (max ((bests s t (-1) 6 k)[((s.qg[k]!).qy).toNat]!) ((s.qg[k]!).xZ))), (by exact qj (qj (qj (qj (qj (qj (rfl) rfl) rfl) rfl) rfl) rfl) rfl), ?_, ?_, rfl, N, H.pick [1, 2, 3] [7, 8, 9, 10, 11]⟩
   · first | exact bests_set ‹_› (by omega) | exact bests_skip ‹_›
   · omega
  replace h25 := zi h25
  refine xu (b_n (t_n (qA ?_)))
  refine sw (vg k 1 rfl rfl (by omega) ?_)
  refine sp (.int .i64 (k + 1)) ?_
  refine qx ?_
  refine xH (m' := (s.qg.length - ((k + 1) : Int)).toNat) (by omega) ⟨_, k + 1, (bests s t (-1) 6 k), (by exact qj (qj (qj (qj (qj (qj (rfl) rfl) rfl) rfl) rfl) rfl) rfl), ?_, ?_, rfl, N, H.pick [1, 2, 3] [7, 8, 9, 10, 11]⟩
  · first | exact bests_set ‹_› (by omega) | exact bests_skip ‹_›
  · omega
 replace h14 := of_decide_eq_false h14
 refine zU (t_x (t_x (b_x (t_n (qm (qA ?_))))))
 refine sw (o_build0 H Tryz.underlying22 ti2 fun b28 w29 H => ?_)
 refine sp (.slice (aa b28 0) 0 0) ?_
 refine qx (t_n (qm (qm (qA ?_))))
 refine sw (qN b1 (0) 2 Tryz.underlying36 rfl rfl Tryz.sizeOf34 rfl ?_)
 refine sw (qE (.slice qG s.qg.length qC) Tryz.isAgg34 rfl (H.cell 3 rfl rfl) ?_)
 refine sw (zZ Tryz.underlying34 qG s.qg.length qC rfl ?_)
 refine sp (.int .i64 0) ?_
 refine qx (t_n (xE ?_))
 replace H := H.boxRowI 0 [] 0
 try dsimp only [List.set] at H
 refine zX (fun m' ρ w30 => ∃ (junk : Env) (a_out : Option Addr) (Xu : Nat) (c_out : Nat) (out : List Int) (i : Nat), ρ = upd (upd (upd (upd (upd (upd (upd junk 2 (pp b1 0)) 3 (pp b3 0)) 5 (pp b5 0)) 9 (.slice a_out Xu c_out)) 43 (.slice qG s.qg.length qC)) 44 (.int .i64 s.qg.length)) 45 (.int .i64 i) ∧ out = applL s t i ∧ ((i : Int) ≤ s.qg.length) ∧ m' = (s.qg.length - (i : Int)).toNat ∧ Fresh w.heap.size [] ∧ St w w30 [.row (.slice a_out Xu c_out) 2 1 Xu (out.map (Value.int .i64)), .box b5 ((bests s t (-1) 6 k).map (Value.int .i64)) 134, .box b3 [.slice qO t.qh.length qJ, .slice xG t.qo.length xA, .slice qL t.ql.length qK] 38, .box b1 [.int .i64 s.qH, .slice qw s.qf.length qp, .slice qG s.qg.length qC] 36] [isF false qP (.slice qw s.qf.length qp) s.qf, isF false xC (.slice qG s.qg.length qC) s.qg, isF false xK (.slice qO t.qh.length qJ) t.qh, isF false zy (.slice xG t.qo.length xA) t.qo, isF false xI (.slice qL t.ql.length qK) t.ql]) ((s.qg.length - (0 : Int)).toNat) ⟨_, (aa b28 0), 0, 0, ([] : List Int), 0, (by exact qj (qj (qj (qj (qj (qj (qj (rfl) rfl) rfl) rfl) rfl) rfl) rfl) rfl), (by rfl), (by omega), rfl, N, H⟩ ?_
 clear H N
 rintro m' ρ w31 ⟨junk, a_out, Xu, c_out, out, i, rfl, rfl, i0, rfl, N, H⟩
 have hn_out := H.Xb 0 rfl
 have ll := applL_le s t i
 refine qm (qA ?_)
 refine sp (.bool (decide ((i : Int) < s.qg.length))) ?_
 refine qx (t_n (qm ?_))
 refine qW (decide ((i : Int) < s.qg.length)) rfl (fun h32 => ?_) (fun h32 => ?_)
 ·skip
  replace h32 := of_decide_eq_true h32
  have q := p0.rule (i := i) (by omega)
  have qc := q.1
  have qk := q.cell
  have qr := q.2.1
  have q6 : (s.qg[i]!).qy.toNat < 6 := by omega
  refine xu (t_n (qm (xE (qm (qA ?_)))))
  refine sp (.int .i64 i) ?_
  obtain ⟨b33, o34, rfl⟩ := H.addr 1 rfl (by omega)
  obtain ⟨ae36Need, ce36Need, Fe36Need, ae36Have, ce36Have, Fe36Have, ae36Lack, ce36Lack, Fe36Lack, ae36Here, ce36Here, Fe36Here, ae36Out, ce36Out, Fe36Out, ae36Into, ce36Into, Fe36Into, H⟩ := H.yI 1 rfl i i (by omega) (by omega) (by omega)
  refine sw (xJ i Tryz.underlying34 ti110 rfl rfl (by omega) (by omega) ?_)
  refine sw (zl [.int .i64 ((s.qg[i]!).qy), .int .i64 ((s.qg[i]!).xZ), .slice ae36Need (((s.qg[i]!).qV).length) ce36Need, .slice ae36Have (((s.qg[i]!).xh).length) ce36Have, .slice ae36Lack (((s.qg[i]!).xk).length) ce36Lack, .slice ae36Here (((s.qg[i]!).xm).length) ce36Here, .slice ae36Out (((s.qg[i]!).zg).length) ce36Out, .slice ae36Into (((s.qg[i]!).qB).length) ce36Into, .bool ((s.qg[i]!).xO)] Tryz.isAgg110 Tryz.sizeOf110 rfl (qI (H.get 6 rfl) 0 9) ?_)
  refine sw (zn H ti110 [.int .i64 0, .int .i64 0, .slice none 0 0, .slice none 0 0, .slice none 0 0, .slice none 0 0, .slice none 0 0, .slice none 0 0, .bool false] fun b37 w38 H => ?_)
  refine sp (.int .i64 i) ?_
  refine sw (xU H 0 [.int .i64 ((s.qg[i]!).qy), .int .i64 ((s.qg[i]!).xZ), .slice ae36Need (((s.qg[i]!).qV).length) ce36Need, .slice ae36Have (((s.qg[i]!).xh).length) ce36Have, .slice ae36Lack (((s.qg[i]!).xk).length) ce36Lack, .slice ae36Here (((s.qg[i]!).xm).length) ce36Here, .slice ae36Out (((s.qg[i]!).zg).length) ce36Out, .slice ae36Into (((s.qg[i]!).qB).length) ce36Into, .bool ((s.qg[i]!).xO)] Tryz.sizeOf110 fun w39 H => ?_)
  try dsimp only [List.set] at H
  refine qx (t_n (qm ?_))
  refine yA rfl H fun H => ?_
  refine rt 0 (pp b37 (0 + 1)) (xF b37 (0) 1 Tryz.underlying110 rfl rfl Tryz.sizeOf2 rfl) H ?_
  refine rt 1 (.int .i64 ((s.qg[i]!).xZ)) (xw Tryz.isAgg2 rfl (fun _ h => h.cell 0 rfl rfl)) H ?_
  refine rt 2 (pp b37 (0 + 0)) (xF b37 (0) 0 Tryz.underlying110 rfl rfl Tryz.sizeOf2 rfl) H ?_
  refine rt 3 (.int .i64 ((s.qg[i]!).qy)) (xw Tryz.isAgg2 rfl (fun _ h => h.cell 0 rfl rfl)) H ?_
  refine rt 4 (pp b5 (0 + ((s.qg[i]!).qy : Int).toNat * 1)) (y_idxArr b5 (0) 6 ((s.qg[i]!).qy) Tryz.underlying134 ti2 rfl rfl (by omega) (by omega)) H ?_
  refine rt 5 (.int .i64 ((bests s t (-1) 6 k)[((s.qg[i]!).qy).toNat]!)) (xw Tryz.isAgg2 rfl (fun _ h => h.cell 2 rfl (ints_at (iv := (s.qg[i]!).qy) (i := (((s.qg[i]!).qy).toNat)) (by omega) (by simp only [List.length_set, List.length_cons, List.length_nil, minus_len, Xg]; omega)))) H ?_
  refine rtp 6 (.bool (((s.qg[i]!).xZ : Int) == ((bests s t (-1) 6 k)[((s.qg[i]!).qy).toNat]!))) H ?_
  refine rtp 7 (.bool (((s.qg[i]!).xZ : Int) == ((bests s t (-1) 6 k)[((s.qg[i]!).qy).toNat]!))) H ?_
  cases h41 : (((s.qg[i]!).xZ : Int) == ((bests s t (-1) 6 k)[((s.qg[i]!).qy).toNat]!))
  ·skip
   replace h41 := ne_of_beq_false h41
   refine zQ [8, 9, 10, 11] 4 (H) ?_
   refine rtp 12 (.bool false) H ?_
   refine xN (by kernel_rfl) (t_n ?_)
   refine qW false rfl (fun h => absurd h (by decide)) (fun _ => ?_)
   refine xu (b_n (t_n (qA ?_)))
   refine sw (vg i 1 rfl rfl (by omega) ?_)
   refine sp (.int .i64 (i + 1)) ?_
   refine qx ?_
   refine xH (m' := (s.qg.length - ((i + 1) : Int)).toNat) (by omega) ⟨_, a_out, Xu, c_out, (applL s t i), i + 1, (by exact qj (qj (qj (qj (qj (qj (qj (rfl) rfl) rfl) rfl) rfl) rfl) rfl) rfl), ?_, ?_, rfl, N, H.pick [1, 2, 3, 4] [7, 8, 9, 10, 11]⟩
   · first | exact applL_yes (appl_yes (n := 6) (z := -1) (k := k) (by omega) (by omega) (by omega) q6 ‹_› ‹_›) | exact applL_no (appl_no (n := 6) (z := -1) (k := k) (by omega) (by omega) (by omega) q6 ‹_›) | exact applL_no (fun h => ‹¬ EnOk _ _ _› h.1)
   · omega
  replace h41 := eq_of_beq h41
  refine rg 8 (.agg #[.int .i64 s.qH, .slice qw s.qf.length qp, .slice (aa b33 o34) s.qg.length qC]) 57 (Qm (cs := [.int .i64 s.qH, .slice qw s.qf.length qp, .slice (aa b33 o34) s.qg.length qC]) Tryz.isAgg36 Tryz.sizeOf36 rfl (fun _ h => qI (h.cells 4 rfl) 0 3)) H ?_
  refine rg 9 (.agg #[.slice qO t.qh.length qJ, .slice xG t.qo.length xA, .slice qL t.ql.length qK]) 57 (Qm (cs := [.slice qO t.qh.length qJ, .slice xG t.qo.length xA, .slice qL t.ql.length qK]) Tryz.isAgg38 Tryz.sizeOf38 rfl (fun _ h => qI (h.cells 3 rfl) 0 3)) H ?_
  refine rg 10 (.agg #[.int .i64 ((s.qg[i]!).qy), .int .i64 ((s.qg[i]!).xZ), .slice ae36Need (((s.qg[i]!).qV).length) ce36Need, .slice ae36Have (((s.qg[i]!).xh).length) ce36Have, .slice ae36Lack (((s.qg[i]!).xk).length) ce36Lack, .slice ae36Here (((s.qg[i]!).xm).length) ce36Here, .slice ae36Out (((s.qg[i]!).zg).length) ce36Out, .slice ae36Into (((s.qg[i]!).qB).length) ce36Into, .bool ((s.qg[i]!).xO)]) 57 (Qm (cs := [.int .i64 ((s.qg[i]!).qy), .int .i64 ((s.qg[i]!).xZ), .slice ae36Need (((s.qg[i]!).qV).length) ce36Need, .slice ae36Have (((s.qg[i]!).xh).length) ce36Have, .slice ae36Lack (((s.qg[i]!).xk).length) ce36Lack, .slice ae36Here (((s.qg[i]!).xm).length) ce36Here, .slice ae36Out (((s.qg[i]!).zg).length) ce36Out, .slice ae36Into (((s.qg[i]!).qB).length) ce36Into, .bool ((s.qg[i]!).xO)]) Tryz.isAgg110 Tryz.sizeOf110 rfl (fun _ h => qI (h.cells 0 rfl) 0 9)) H ?_
  refine xn [11] (by kernel_rfl) (by simp) (r_opG rfl (e := 57) rfl rfl ?_ xq)
  refine xe #[.agg #[.int .i64 s.qH, .slice qw s.qf.length qp, .slice (aa b33 o34) s.qg.length qC], .agg #[.slice qO t.qh.length qJ, .slice xG t.qo.length xA, .slice qL t.ql.length qK], .agg #[.int .i64 ((s.qg[i]!).qy), .int .i64 ((s.qg[i]!).xZ), .slice ae36Need (((s.qg[i]!).qV).length) ce36Need, .slice ae36Have (((s.qg[i]!).xh).length) ce36Have, .slice ae36Lack (((s.qg[i]!).xk).length) ce36Lack, .slice ae36Here (((s.qg[i]!).xm).length) ce36Here, .slice ae36Out (((s.qg[i]!).zg).length) ce36Out, .slice ae36Into (((s.qg[i]!).qB).length) ce36Into, .bool ((s.qg[i]!).xO)]] rfl rfl Tryz.call112 (isEnabled_ok w39.drew s t (s.qg[i]!) qw qp qP (aa b33 o34) qC xC qO qJ xK xG xA zy qL qK xI ae36Need ce36Need Fe36Need ae36Have ce36Have Fe36Have ae36Lack ce36Lack Fe36Lack ae36Here ce36Here Fe36Here ae36Out ce36Out Fe36Out ae36Into ce36Into Fe36Into (H.get 7 rfl).1 (H.get 8 rfl).1 (H.get 9 rfl).1 (H.get 10 rfl).1 (H.get 11 rfl).1 (H.get 0 rfl).1 (H.get 1 rfl).1 (H.get 2 rfl).1 (H.get 3 rfl).1 (H.get 4 rfl).1 (H.get 5 rfl).1 (by first | assumption | omega) (by first | assumption | omega) (by first | assumption | omega)) ?_
  rintro _ w43 rfl x44
  replace H := H.ext x44
  refine ⟨H, ?_⟩
  refine rtp 12 (.bool (dec (EnOk s t (s.qg[i]!)))) H ?_
  refine xN (by kernel_rfl) (t_n ?_)
  refine qW (dec (EnOk s t (s.qg[i]!))) rfl (fun h45 => ?_) (fun h45 => ?_)
  ·skip
   replace h45 := jI h45
   refine qA ?_
   refine sps [.slice a_out Xu c_out, .int .i64 i] ?_
   refine sw (Xe H Tryz.underlying22 ti2 [.int .i64 i] fun b46 w47 H => ?_)
   refine sw (Xf H 2 rfl 0 rfl Tryz.underlying22 ti2 rfl (by decide) rfl rfl rfl (by simp [Value.oneCell', Value.cells]) (by unfold maxLen; omega) (by omega) fun a48 c49 w50 H => ?_)
   rw [snocI] at H
   try dsimp only [List.set] at H
   refine sp (.slice a48 (Xu + 1) c49) ?_
   refine qx (b_n (t_n (qA ?_)))
   refine sw (vg i 1 rfl rfl (by omega) ?_)
   refine sp (.int .i64 (i + 1)) ?_
   refine qx ?_
   refine xH (m' := (s.qg.length - ((i + 1) : Int)).toNat) (by omega) ⟨_, a48, Xu + 1, c49, ((applL s t i) ++ [(i : Int)]), i + 1, (by exact qj (qj (qj (qj (qj (qj (qj (rfl) rfl) rfl) rfl) rfl) rfl) rfl) rfl), ?_, ?_, rfl, N, H.pick [2, 3, 4, 5] [7, 8, 9, 10, 11]⟩
   · first | exact applL_yes (appl_yes (n := 6) (z := -1) (k := k) (by omega) (by omega) (by omega) q6 ‹_› ‹_›) | exact applL_no (appl_no (n := 6) (z := -1) (k := k) (by omega) (by omega) (by omega) q6 ‹_›) | exact applL_no (fun h => ‹¬ EnOk _ _ _› h.1)
   · omega
  replace h45 := zi h45
  refine xu (b_n (t_n (qA ?_)))
  refine sw (vg i 1 rfl rfl (by omega) ?_)
  refine sp (.int .i64 (i + 1)) ?_
  refine qx ?_
  refine xH (m' := (s.qg.length - ((i + 1) : Int)).toNat) (by omega) ⟨_, a_out, Xu, c_out, (applL s t i), i + 1, (by exact qj (qj (qj (qj (qj (qj (qj (rfl) rfl) rfl) rfl) rfl) rfl) rfl) rfl), ?_, ?_, rfl, N, H.pick [1, 2, 3, 4] [7, 8, 9, 10, 11]⟩
  · first | exact applL_yes (appl_yes (n := 6) (z := -1) (k := k) (by omega) (by omega) (by omega) q6 ‹_› ‹_›) | exact applL_no (appl_no (n := 6) (z := -1) (k := k) (by omega) (by omega) (by omega) q6 ‹_›) | exact applL_no (fun h => ‹¬ EnOk _ _ _› h.1)
  · omega
 replace h32 := of_decide_eq_false h32
 refine zU (t_x (t_x (b_x (t_n (qm (qA ?_))))))
 refine sps [.slice a_out Xu c_out, .slice a_out Xu c_out] ?_
 refine qx (t_n (xB ?_))
 refine ret1 (.slice a_out Xu c_out) rfl rfl ⟨_, rfl, ?_, H.base⟩
 obtain rfl : i = s.qg.length := by omega
 exact ⟨a_out, Xu, c_out, rfl, N, H.pick [0] []⟩

end Go.Proofs.YtkmlihdacnfhdaaGreat
