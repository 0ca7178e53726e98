/- Walks, printed by program (wip/tools/gv.py): what each function comes to, for all arguments. -/
import Derived.Test.YtkmlihdacnfhdaaGreatG12
import Derived.Test.YtkmlihdacnfhdaaGreatG7
namespace Go.Proofs.YtkmlihdacnfhdaaGreat
open Go.Proofs.YtkmlihdacnfhdaaGreat.Tot (tot)
open Go.Proofs.YtkmlihdacnfhdaaGreat.Mark (cnt mrk mkd mkd_mark cnt_mark)
open Go.RowKit
set_option linter.unusedVariables false
set_option linter.unusedSimpArgs false
set_option maxRecDepth 100000
set_option maxHeartbeats 4000000

theorem ti134 : TI Tryz.prog 134 (.agg #[.int .i64 0, .int .i64 0, .int .i64 0, .int .i64 0, .int .i64 0, .int .i64 0]) 6 48 := by unfold TI; kernel_rfl


theorem isEnabled_ok (w : World) (s : qW) (t : qU) (r : Qk) (qw : Option Addr) (qo : Nat) (qO : List Nat) (qG : Option Addr) (qE : Nat) (xA : List Nat) (qP : Option Addr) (qJ : Nat) (xO : List Nat) (xH : Option Addr) (xC : Nat) (zL : List Nat) (qN : Option Addr) (qM : Nat) (xI : List Nat) (vg : Option Addr) (ve : Nat) (QF : List Nat) (vY : Option Addr) (vX : Nat) (Q9 : List Nat) (vJ : Option Addr) (vI : Nat) (QT : List Nat) (jo : Option Addr) (jm : Nat) (Xj : List Nat) (Qi : Option Addr) (Qh : Nat) (FrOut : List Nat) (zO : Option Addr) (zD : Nat) (FrInto : List Nat) (xn : qR.rep w qO [.slice qw s.qf.length qo] s.qf) (xJ : qR.rep w xA [.slice qG s.qg.length qE] s.qg) (zA : qR.rep w xO [.slice qP t.qh.length qJ] t.qh) (vH : qR.rep w zL [.slice xH t.qp.length xC] t.qp) (zh : qR.rep w xI [.slice qN t.ql.length qM] t.ql) (hrNeed : qR.rep w QF [.slice vg r.qV.length ve] r.qV) (hrHave : qR.rep w Q9 [.slice vY r.xh.length vX] r.xh) (hrLack : qR.rep w QT [.slice vJ r.xk.length vI] r.xk) (hrHere : qR.rep w Xj [.slice jo r.xm.length jm] r.xm) (hrOut : qR.rep w FrOut [.slice Qi r.zf.length Qh] r.zf) (hrInto : qR.rep w FrInto [.slice zO r.qC.length zD] r.qC) (p0 : yC s) (p1 : zH s t) (p2 : RuleOk s r) : Calls Tryz.prog 112 #[.agg #[.int .i64 s.qH, .slice qw s.qf.length qo, .slice qG s.qg.length qE], .agg #[.slice qP t.qh.length qJ, .slice xH t.qp.length xC, .slice qN t.ql.length qM], .agg #[.int .i64 r.qA, .int .i64 r.xY, .slice vg r.qV.length ve, .slice vY r.xh.length vX, .slice vJ r.xk.length vI, .slice jo r.xm.length jm, .slice Qi r.zf.length Qh, .slice zO r.qC.length zD, .bool r.xN]] w (Ret (fun v w' => v = .bool (dec (EnOk s t r))) w) := by
 refine enter (n := 50) Tryz.func112 rfl Tryz.ntmps112 (Nat.le_of_ble_eq_true rfl) ?_
 have H := (((((((((((St.start w).arg hrInto).arg hrOut).arg hrHere).arg hrLack).arg hrHave).arg hrNeed).arg zh).arg vH).arg zA).arg xJ).arg xn
 have vK := qL xn
 have jP := qL xJ
 have QZ := qL zA
 have XN := qL vH
 have Qu := qL zh
 have nhrNeed := qL hrNeed
 have nhrHave := qL hrHave
 have nhrLack := qL hrLack
 have nhrHere := qL hrHere
 have nhrOut := qL hrOut
 have nhrInto := qL hrInto
 clear xn xJ zA vH zh hrNeed hrHave hrLack hrHere hrOut hrInto
 have N := Fresh.nil w.heap.size
 have p3 := p2.1
 have p4 := p1.1
 have p5 := p1.2.1
 have p6 := (p1.bagLen (k := r.qA.toNat) (by omega)).len
 have p7 := p2.2.2.2.2.1.len
 have p8 := p2.2.2.2.2.2.1.len
 have p9 := p2.2.2.2.2.2.2.1.len
 have p10 := jh p2.2.2.2.2.2.2.1
 have p11 := p0.1
 have p12 := p2.2.2.2.2.2.2.2.2.2.2
 have p13 := kinds_le p0
 refine qm (qB ?_)
 refine sw (yD H [.int .i64 s.qH, .slice qw s.qf.length qo, .slice qG s.qg.length qE] fun b1 w2 H => ?_)
 refine sw (yD H [.slice qP t.qh.length qJ, .slice xH t.qp.length xC, .slice qN t.ql.length qM] fun b3 w4 H => ?_)
 refine sw (yD H [.int .i64 r.qA, .int .i64 r.xY, .slice vg r.qV.length ve, .slice vY r.xh.length vX, .slice vJ r.xk.length vI, .slice jo r.xm.length jm, .slice Qi r.zf.length Qh, .slice zO r.qC.length zD, .bool r.xN] fun b5 w6 H => ?_)
 refine sp (.bool false) ?_
 refine qy (t_n (qm (qm (qB ?_))))
 refine sw (qK b3 (0) 0 Tryz.underlying38 rfl rfl Tryz.sizeOf26 rfl ?_)
 refine sw (qF (.slice qP t.qh.length qJ) Tryz.isAgg26 rfl (H.cell 1 rfl rfl) ?_)
 refine sw (qK b5 (0) 0 Tryz.underlying110 rfl rfl Tryz.sizeOf2 rfl ?_)
 refine sw (qF (.int .i64 r.qA) Tryz.isAgg2 rfl (H.cell 0 rfl rfl) ?_)
 obtain ⟨b7, o8, rfl⟩ := H.addr 2 rfl (by omega)
 refine sw (xK r.qA Tryz.underlying26 ti4 rfl rfl (by omega) (by omega) ?_)
 refine sw (qF (.bool (t.qh[r.qA.toNat]!)) Tryz.isAgg4 rfl (H.QK 2 rfl r.qA (by omega) (by omega)) ?_)
 refine sp (.bool (!(t.qh[r.qA.toNat]!))) ?_
 refine qy (t_n ?_)
 refine qZ (!(t.qh[r.qA.toNat]!)) rfl (fun h10 => ?_) (fun h10 => ?_)
 ·skip
  replace h10 := xg h10
  refine qm (qB ?_)
  refine sp (.bool false) ?_
  refine qy (t_n (xB (t_r ?_)))
  refine ret1 (.bool false) rfl rfl ⟨_, rfl, ?_, H.base⟩
  rw [xy (fun h => by obtain ⟨h1, h2, h3, h4, h5⟩ := h; first | exact ft h1 ‹_› | exact ft h2 ‹_› | exact ft h3 ‹_› | exact h4 ⟨‹_›, ‹_›⟩ | (obtain ⟨q1, q2⟩ := h5 i (by omega); first | exact ft q1 ‹_› | exact absurd q2 ‹_›))]
 replace h10 := qX h10
 refine xx (t_n (qm (qB ?_)))
 refine sw (qK b3 (0) 1 Tryz.underlying38 rfl rfl Tryz.sizeOf27 rfl ?_)
 refine sw (qF (.slice xH t.qp.length xC) Tryz.isAgg27 rfl (H.cell 1 rfl rfl) ?_)
 refine sw (qK b5 (0) 0 Tryz.underlying110 rfl rfl Tryz.sizeOf2 rfl ?_)
 refine sw (qF (.int .i64 r.qA) Tryz.isAgg2 rfl (H.cell 0 rfl rfl) ?_)
 obtain ⟨b11, o12, rfl⟩ := H.addr 3 rfl (by omega)
 obtain ⟨ae14, ce14, Fe14, H⟩ := H.yX 3 rfl r.qA r.qA.toNat (by omega) (by omega) (by omega)
 refine sw (xK r.qA Tryz.underlying27 ti22 rfl rfl (by omega) (by omega) ?_)
 refine sw (qF (.slice ae14 ((t.qp[r.qA.toNat]!).length) ce14) Tryz.isAgg22 rfl (H.xZ 1 rfl 0 rfl) ?_)
 refine sp (.slice ae14 ((t.qp[r.qA.toNat]!).length) ce14) ?_
 refine qy (t_n (qm (qm (qB ?_))))
 refine sw (qK b5 (0) 2 Tryz.underlying110 rfl rfl Tryz.sizeOf22 rfl ?_)
 refine sw (qF (.slice vg r.qV.length ve) Tryz.isAgg22 rfl (H.cell 0 rfl rfl) ?_)
 refine sp (.slice ae14 ((t.qp[r.qA.toNat]!).length) ce14) ?_
 refine sw (xf #[.slice vg r.qV.length ve, .slice ae14 ((t.qp[r.qA.toNat]!).length) ce14] rfl rfl Tryz.call128 (isWithin_ok w6 r.qV (t.qp[r.qA.toNat]!) vg ve QF ae14 ce14 Fe14 (H.get 7 rfl).1 (H.get 0 rfl).1 (by first | assumption | omega) (by first | assumption | omega)) ?_)
 rintro _ w15 rfl x16
 replace H := H.ext x16
 refine sps [.bool (!(within r.qV (t.qp[r.qA.toNat]!))), .bool (!(within r.qV (t.qp[r.qA.toNat]!)))] ?_
 cases h17 : (!(within r.qV (t.qp[r.qA.toNat]!)))
 ·skip
  replace h17 := qX h17
  refine qQ 26 rfl rfl ?_
  refine sw (qK b5 (0) 3 Tryz.underlying110 rfl rfl Tryz.sizeOf22 rfl ?_)
  refine qQ 26 rfl rfl ?_
  refine sw (qF (.slice vY r.xh.length vX) Tryz.isAgg22 rfl (H.cell 0 rfl rfl) ?_)
  refine qQ 26 rfl rfl ?_
  refine sp (.slice ae14 ((t.qp[r.qA.toNat]!).length) ce14) ?_
  refine qQ 26 rfl rfl ?_
  refine sw (xf #[.slice vY r.xh.length vX, .slice ae14 ((t.qp[r.qA.toNat]!).length) ce14] rfl rfl Tryz.call128 (isWithin_ok w15 r.xh (t.qp[r.qA.toNat]!) vY vX Q9 ae14 ce14 Fe14 (H.get 8 rfl).1 (H.get 0 rfl).1 (by first | assumption | omega) (by first | assumption | omega)) ?_)
  rintro _ w18 rfl x19
  replace H := H.ext x19
  refine qQ 26 rfl rfl ?_
  refine sps [.bool (!(within r.xh (t.qp[r.qA.toNat]!))), .bool (!(within r.xh (t.qp[r.qA.toNat]!))), .bool (!(within r.xh (t.qp[r.qA.toNat]!)))] ?_
  cases h20 : (!(within r.xh (t.qp[r.qA.toNat]!)))
  ·skip
   replace h20 := qX h20
   refine qQ 33 rfl rfl ?_
   refine sw (qK b5 (0) 4 Tryz.underlying110 rfl rfl Tryz.sizeOf22 rfl ?_)
   refine qQ 33 rfl rfl ?_
   refine sw (qF (.slice vJ r.xk.length vI) Tryz.isAgg22 rfl (H.cell 0 rfl rfl) ?_)
   refine qQ 33 rfl rfl ?_
   refine sw (xf #[.slice vJ r.xk.length vI] rfl rfl Tryz.call124 (bagSize_ok w18 r.xk vJ vI QT (H.get 9 rfl).1 (by first | assumption | exact jh (by assumption) | exact QS (by assumption))) ?_)
   rintro _ w21 rfl x22
   replace H := H.ext x22
   refine qQ 33 rfl rfl ?_
   refine sp (.bool (decide ((sumL r.xk : Int) > 0))) ?_
   refine qQ 33 rfl rfl ?_
   refine sp (.bool (decide ((sumL r.xk : Int) > 0))) ?_
   cases h23 : (decide ((sumL r.xk : Int) > 0))
   ·skip
    replace h23 := of_decide_eq_false h23
    refine xW [39, 40, 41, 42] ?_
    refine qQ 33 rfl rfl ?_
    refine sps [.bool false, .bool false] ?_
    refine qy (t_n ?_)
    refine qZ false rfl (fun h => absurd h (by decide)) (fun _ => ?_)
    refine xx (t_n (qm (qB ?_)))
    refine sw (qK b5 (0) 7 Tryz.underlying110 rfl rfl Tryz.sizeOf108 rfl ?_)
    refine sw (qF (.slice zO r.qC.length zD) Tryz.isAgg108 rfl (H.cell 0 rfl rfl) ?_)
    refine sp (.func (.func 150) #[] #[pp b3 0, pp b1 0, pp b5 0]) ?_
    refine sw (QD #[.slice zO r.qC.length zD, .func (.func 150) #[] #[pp b3 0, pp b1 0, pp b5 0]] rfl rfl Tryz.call149 ?_)
    refine enter (n := 9) Tryz.func149 rfl Tryz.ntmps149 (Nat.le_of_ble_eq_true rfl) ?_
    refine qm (qB ?_)
    refine sp (.bool false) ?_
    refine qy (t_n (qm (qB ?_)))
    refine sps [.slice zO r.qC.length zD, .func (.func 150) #[] #[pp b3 0, pp b1 0, pp b5 0]] ?_
    refine sw (QD #[.slice zO r.qC.length zD, .func (.func 150) #[] #[pp b3 0, pp b1 0, pp b5 0]] rfl rfl Tryz.call163 ?_)
    refine enter (n := 19) Tryz.func163 rfl Tryz.ntmps163 (Nat.le_of_ble_eq_true rfl) ?_
    refine qm (qB ?_)
    refine sp (.int .i64 0) ?_
    refine qy (t_n (qm (qm (qB ?_))))
    refine sp (.slice zO r.qC.length zD) ?_
    refine sw (zX Tryz.underlying108 zO r.qC.length zD rfl ?_)
    refine sp (.int .i64 0) ?_
    refine qy (t_n (xE ?_))
    refine zW (fun m' ρ w24 => ∃ (junk : Env) (i : Nat), ρ = upd (upd (upd (upd junk 0 (.slice zO r.qC.length zD)) 1 (.func (.func 150) #[] #[pp b3 0, pp b1 0, pp b5 0])) 7 (.int .i64 r.qC.length)) 8 (.int .i64 i) ∧ ((i : Int) ≤ r.qC.length) ∧ (IntoUp s t r i) ∧ m' = (r.qC.length - (i : Int)).toNat ∧ Fresh w.heap.size [] ∧ St w w24 [.box b5 [.int .i64 r.qA, .int .i64 r.xY, .slice vg r.qV.length ve, .slice vY r.xh.length vX, .slice vJ r.xk.length vI, .slice jo r.xm.length jm, .slice Qi r.zf.length Qh, .slice zO r.qC.length zD, .bool r.xN] 110, .box b3 [.slice (aa b7 o8) t.qh.length qJ, .slice (aa b11 o12) t.qp.length xC, .slice qN t.ql.length qM] 38, .box b1 [.int .i64 s.qH, .slice qw s.qf.length qo, .slice qG s.qg.length qE] 36] [isF false Fe14 (.slice ae14 ((t.qp[r.qA.toNat]!).length) ce14) (t.qp[r.qA.toNat]!), atF b11 (o12 + (r.qA : Int).toNat * 1) [.slice ae14 ((t.qp[r.qA.toNat]!).length) ce14], isF false qO (.slice qw s.qf.length qo) s.qf, isF false xA (.slice qG s.qg.length qE) s.qg, isF false xO (.slice (aa b7 o8) t.qh.length qJ) t.qh, isF false zL (.slice (aa b11 o12) t.qp.length xC) t.qp, isF false xI (.slice qN t.ql.length qM) t.ql, isF false QF (.slice vg r.qV.length ve) r.qV, isF false Q9 (.slice vY r.xh.length vX) r.xh, isF false QT (.slice vJ r.xk.length vI) r.xk, isF false Xj (.slice jo r.xm.length jm) r.xm, isF false FrOut (.slice Qi r.zf.length Qh) r.zf, isF false FrInto (.slice zO r.qC.length zD) r.qC]) ((r.qC.length - (0 : Int)).toNat) ⟨_, 0, (by exact qj (qj (qj (qj (rfl) rfl) rfl) rfl) rfl), (by omega), (by exact fun j hj => by omega), rfl, N, H⟩ ?_
    clear H N
    rintro m' ρ w25 ⟨junk, i, rfl, i0, i1, rfl, N, H⟩
    refine qm (qB ?_)
    refine sp (.bool (decide ((i : Int) < r.qC.length))) ?_
    refine qy (t_n (qm ?_))
    refine qZ (decide ((i : Int) < r.qC.length)) rfl (fun h26 => ?_) (fun h26 => ?_)
    ·skip
     replace h26 := of_decide_eq_true h26
     have q := (p12 i (by omega)).1
     have q1 := q.1
     have q2 := q.2
     refine xx (t_n (qm (xE (qm (qB ?_)))))
     refine sps [.int .i64 i, .int .i64 i] ?_
     refine qy (t_n (qm (qB ?_)))
     refine sps [.func (.func 150) #[] #[pp b3 0, pp b1 0, pp b5 0], .slice zO r.qC.length zD, .int .i64 i] ?_
     obtain ⟨b27, o28, rfl⟩ := H.addr 12 rfl (by omega)
     obtain ⟨ae30Bag, ce30Bag, Fe30Bag, H⟩ := H.jy 12 rfl i i (by omega) (by omega) (by omega)
     refine sw (xK i Tryz.underlying108 ti115 rfl rfl (by omega) (by omega) ?_)
     refine sw (zi [.int .i64 ((r.qC[i]!).qA), .slice ae30Bag (((r.qC[i]!).zV).length) ce30Bag] Tryz.isAgg115 Tryz.sizeOf115 rfl (qI (H.get 1 rfl) 0 2) ?_)
     refine sw (QD #[.agg #[.int .i64 ((r.qC[i]!).qA), .slice ae30Bag (((r.qC[i]!).zV).length) ce30Bag], pp b3 0, pp b1 0, pp b5 0] rfl rfl Tryz.call150 ?_)
     refine enter (n := 23) Tryz.func150 rfl Tryz.ntmps150 (Nat.le_of_ble_eq_true rfl) ?_
     refine qm (qB ?_)
     refine sw (yD H [.int .i64 ((r.qC[i]!).qA), .slice ae30Bag (((r.qC[i]!).zV).length) ce30Bag] fun b31 w32 H => ?_)
     refine sp (.bool false) ?_
     refine qy (t_n (qm ?_))
     refine yA rfl H fun H => ?_
     refine rt 0 (pp b3 (0 + 0)) (xF b3 (0) 0 Tryz.underlying38 rfl rfl Tryz.sizeOf26 rfl) H ?_
     refine rt 1 (.slice (aa b7 o8) t.qh.length qJ) (xw Tryz.isAgg26 rfl (fun _ h => h.cell 2 rfl rfl)) H ?_
     refine rt 2 (pp b31 (0 + 0)) (xF b31 (0) 0 Tryz.underlying115 rfl rfl Tryz.sizeOf2 rfl) H ?_
     refine rt 3 (.int .i64 ((r.qC[i]!).qA)) (xw Tryz.isAgg2 rfl (fun _ h => h.cell 0 rfl rfl)) H ?_
     refine rt 4 (pp b7 (o8 + ((r.qC[i]!).qA : Int).toNat * 1)) (xQ b7 (o8) t.qh.length qJ ((r.qC[i]!).qA) Tryz.underlying26 ti4 rfl rfl (by omega) (by omega)) H ?_
     refine rt 5 (.bool (t.qh[((r.qC[i]!).qA).toNat]!)) (xw Tryz.isAgg4 rfl (fun _ h => h.QK 6 rfl ((r.qC[i]!).qA) (by omega) (by omega))) H ?_
     refine rtp 6 (.bool (!(t.qh[((r.qC[i]!).qA).toNat]!))) H ?_
     refine rtp 7 (.bool (!(t.qh[((r.qC[i]!).qA).toNat]!))) H ?_
     cases h34 : (!(t.qh[((r.qC[i]!).qA).toNat]!))
     ·skip
      replace h34 := qX h34
      refine rg 8 (.agg #[.int .i64 s.qH, .slice qw s.qf.length qo, .slice qG s.qg.length qE]) 13 (yG (cs := [.int .i64 s.qH, .slice qw s.qf.length qo, .slice qG s.qg.length qE]) Tryz.isAgg36 Tryz.sizeOf36 rfl (fun _ h => qI (h.cells 3 rfl) 0 3)) H ?_
      refine rg 9 (.agg #[.slice (aa b7 o8) t.qh.length qJ, .slice (aa b11 o12) t.qp.length xC, .slice qN t.ql.length qM]) 13 (yG (cs := [.slice (aa b7 o8) t.qh.length qJ, .slice (aa b11 o12) t.qp.length xC, .slice qN t.ql.length qM]) Tryz.isAgg38 Tryz.sizeOf38 rfl (fun _ h => qI (h.cells 2 rfl) 0 3)) H ?_
      refine rg 10 (pp b31 (0 + 0)) 13 (xF b31 (0) 0 Tryz.underlying115 rfl rfl Tryz.sizeOf2 rfl) H ?_
      refine rg 11 (.int .i64 ((r.qC[i]!).qA)) 13 (xw Tryz.isAgg2 rfl (fun _ h => h.cell 0 rfl rfl)) H ?_
      refine rg 13 (pp b5 (0 + 0)) 13 (xF b5 (0) 0 Tryz.underlying110 rfl rfl Tryz.sizeOf2 rfl) H ?_
      refine rg 14 (.int .i64 r.qA) 13 (xw Tryz.isAgg2 rfl (fun _ h => h.cell 1 rfl rfl)) H ?_
      refine xq [12] (by kernel_rfl) (by simp) (r_opG rfl (e := 13) rfl rfl ?_ xu)
      refine xf #[.agg #[.int .i64 s.qH, .slice qw s.qf.length qo, .slice qG s.qg.length qE], .agg #[.slice (aa b7 o8) t.qh.length qJ, .slice (aa b11 o12) t.qp.length xC, .slice qN t.ql.length qM], .int .i64 ((r.qC[i]!).qA)] rfl rfl Tryz.call144 (parentNow_ok w32.drew s t ((r.qC[i]!).qA) qw qo qO qG qE xA (aa b7 o8) qJ xO (aa b11 o12) xC zL qN qM xI (H.get 4 rfl).1 (H.get 5 rfl).1 (H.get 6 rfl).1 (H.get 7 rfl).1 (H.get 8 rfl).1 (by first | assumption | omega) (by first | assumption | omega) (by first | assumption | omega)) ?_
      rintro _ w36 rfl x37
      replace H := H.ext x37
      refine ⟨H, ?_⟩
      refine rgp 15 (.bool ((xe s t ((r.qC[i]!).qA) : Int) != r.qA)) 13 H ?_
      refine rtp 16 (.bool ((xe s t ((r.qC[i]!).qA) : Int) != r.qA)) H ?_
      refine rtp 17 (.bool ((xe s t ((r.qC[i]!).qA) : Int) != r.qA)) H ?_
      refine xM (by kernel_rfl) (t_n ?_)
      refine xB ?_
      refine ret1 (.bool ((xe s t ((r.qC[i]!).qA) : Int) != r.qA)) rfl rfl ⟨_, rfl, ?_⟩
      replace H := H.erases [0]
      dsimp only [yE, List.eraseIdx] at H
      refine qy (t_n ?_)
      refine qZ ((xe s t ((r.qC[i]!).qA) : Int) != r.qA) rfl (fun h38 => ?_) (fun h38 => ?_)
      ·skip
       replace h38 := bne_iff_ne.1 h38
       refine qm (qB ?_)
       refine sps [.int .i64 i, .int .i64 i] ?_
       refine qy (t_n (xB (b_r (t_r (t_r (b_r (t_r ?_)))))))
       refine ret1 (.int .i64 i) rfl rfl ⟨_, rfl, ?_⟩
       refine sw (o_pure (.bool true) (by show some (Value.bool (decide ((i : Int) ≥ 0))) = some (Value.bool true); rw [decide_eq_true (by omega)]) ?_)
       refine sp (.bool true) ?_
       refine qy (t_n (xB ?_))
       refine ret1 (.bool true) rfl rfl ⟨_, rfl, ?_⟩
       refine sps [.bool false, .bool false] ?_
       refine qy (t_n (xB ?_))
       refine ret1 (.bool false) rfl rfl ⟨_, rfl, ?_, H.base⟩
       rw [xy (fun h => by obtain ⟨h1, h2, h3, h4, h5⟩ := h; first | exact ft h1 ‹_› | exact ft h2 ‹_› | exact ft h3 ‹_› | exact h4 ⟨‹_›, ‹_›⟩ | (obtain ⟨q1, q2⟩ := h5 i (by omega); first | exact ft q1 ‹_› | exact absurd q2 ‹_›))]
      replace h38 := xR h38
      refine xx (b_n (t_n (qB ?_)))
      refine sw (vw i 1 rfl rfl (by omega) ?_)
      refine sp (.int .i64 (i + 1)) ?_
      refine qy ?_
      refine xG (m' := (r.qC.length - ((i + 1) : Int)).toNat) (by omega) ⟨_, i + 1, (by exact qj (qj (qj (qj (rfl) rfl) rfl) rfl) rfl), ?_, ?_, rfl, N, H.pick [0, 1, 2] [2, 3, 4, 5, 6, 7, 8, 9, 10, 11, 12, 13, 14]⟩
      · omega
      · exact i1.succ ‹_› ‹_›
     replace h34 := xg h34
     refine zJ [8, 9, 10, 11, 12, 13, 14, 15] 8 (H) ?_
     refine rtp 16 (.bool true) H ?_
     refine rtp 17 (.bool true) H ?_
     refine xM (by kernel_rfl) (t_n ?_)
     refine xB ?_
     refine ret1 (.bool true) rfl rfl ⟨_, rfl, ?_⟩
     replace H := H.erases [0]
     dsimp only [yE, List.eraseIdx] at H
     refine qy (t_n ?_)
     refine qZ true rfl (fun _ => ?_) (fun h => absurd h (by decide))
     refine qm (qB ?_)
     refine sps [.int .i64 i, .int .i64 i] ?_
     refine qy (t_n (xB (b_r (t_r (t_r (b_r (t_r ?_)))))))
     refine ret1 (.int .i64 i) rfl rfl ⟨_, rfl, ?_⟩
     refine sw (o_pure (.bool true) (by show some (Value.bool (decide ((i : Int) ≥ 0))) = some (Value.bool true); rw [decide_eq_true (by omega)]) ?_)
     refine sp (.bool true) ?_
     refine qy (t_n (xB ?_))
     refine ret1 (.bool true) rfl rfl ⟨_, rfl, ?_⟩
     refine sps [.bool false, .bool false] ?_
     refine qy (t_n (xB ?_))
     refine ret1 (.bool false) rfl rfl ⟨_, rfl, ?_, H.base⟩
     rw [xy (fun h => by obtain ⟨h1, h2, h3, h4, h5⟩ := h; first | exact ft h1 ‹_› | exact ft h2 ‹_› | exact ft h3 ‹_› | exact h4 ⟨‹_›, ‹_›⟩ | (obtain ⟨q1, q2⟩ := h5 i (by omega); first | exact ft q1 ‹_› | exact absurd q2 ‹_›))]
    replace h26 := of_decide_eq_false h26
    refine zT (t_x (t_x (b_x (t_n (qm (qB ?_))))))
    refine sp (.int .i64 (-1)) ?_
    refine qy (t_n (xB ?_))
    refine ret1 (.int .i64 (-1)) rfl rfl ⟨_, rfl, ?_⟩
    refine sps [.bool false, .bool false] ?_
    refine qy (t_n (xB ?_))
    refine ret1 (.bool false) rfl rfl ⟨_, rfl, ?_⟩
    refine sps [.bool true, .bool true] ?_
    refine qy (t_n (xB ?_))
    refine ret1 (.bool true) rfl rfl ⟨_, rfl, ?_, H.base⟩
    rw [yY ⟨by assumption, by assumption, by assumption, fun ⟨u, v⟩ => by first | omega | exact ft v ‹_›, (show i = r.qC.length by omega) ▸ i1⟩]
   replace h23 := of_decide_eq_true h23
   refine qQ 38 rfl rfl ?_
   refine sw (qK b5 (0) 4 Tryz.underlying110 rfl rfl Tryz.sizeOf22 rfl ?_)
   refine qQ 38 rfl rfl ?_
   refine sw (qF (.slice vJ r.xk.length vI) Tryz.isAgg22 rfl (H.cell 0 rfl rfl) ?_)
   refine qQ 38 rfl rfl ?_
   refine sp (.slice ae14 ((t.qp[r.qA.toNat]!).length) ce14) ?_
   refine qQ 38 rfl rfl ?_
   refine sw (xf #[.slice vJ r.xk.length vI, .slice ae14 ((t.qp[r.qA.toNat]!).length) ce14] rfl rfl Tryz.call128 (isWithin_ok w21 r.xk (t.qp[r.qA.toNat]!) vJ vI QT ae14 ce14 Fe14 (H.get 9 rfl).1 (H.get 0 rfl).1 (by first | assumption | omega) (by first | assumption | omega)) ?_)
   rintro _ w39 rfl x40
   replace H := H.ext x40
   refine qQ 33 rfl rfl ?_
   refine sps [.bool (within r.xk (t.qp[r.qA.toNat]!)), .bool (within r.xk (t.qp[r.qA.toNat]!))] ?_
   refine qy (t_n ?_)
   refine qZ (within r.xk (t.qp[r.qA.toNat]!)) rfl (fun h41 => ?_) (fun h41 => ?_)
   ·skip
    refine qm (qB ?_)
    refine sp (.bool false) ?_
    refine qy (t_n (xB (t_r ?_)))
    refine ret1 (.bool false) rfl rfl ⟨_, rfl, ?_, H.base⟩
    rw [xy (fun h => by obtain ⟨h1, h2, h3, h4, h5⟩ := h; first | exact ft h1 ‹_› | exact ft h2 ‹_› | exact ft h3 ‹_› | exact h4 ⟨‹_›, ‹_›⟩ | (obtain ⟨q1, q2⟩ := h5 i (by omega); first | exact ft q1 ‹_› | exact absurd q2 ‹_›))]
   refine xx (t_n (qm (qB ?_)))
   refine sw (qK b5 (0) 7 Tryz.underlying110 rfl rfl Tryz.sizeOf108 rfl ?_)
   refine sw (qF (.slice zO r.qC.length zD) Tryz.isAgg108 rfl (H.cell 0 rfl rfl) ?_)
   refine sp (.func (.func 150) #[] #[pp b3 0, pp b1 0, pp b5 0]) ?_
   refine sw (QD #[.slice zO r.qC.length zD, .func (.func 150) #[] #[pp b3 0, pp b1 0, pp b5 0]] rfl rfl Tryz.call149 ?_)
   refine enter (n := 9) Tryz.func149 rfl Tryz.ntmps149 (Nat.le_of_ble_eq_true rfl) ?_
   refine qm (qB ?_)
   refine sp (.bool false) ?_
   refine qy (t_n (qm (qB ?_)))
   refine sps [.slice zO r.qC.length zD, .func (.func 150) #[] #[pp b3 0, pp b1 0, pp b5 0]] ?_
   refine sw (QD #[.slice zO r.qC.length zD, .func (.func 150) #[] #[pp b3 0, pp b1 0, pp b5 0]] rfl rfl Tryz.call163 ?_)
   refine enter (n := 19) Tryz.func163 rfl Tryz.ntmps163 (Nat.le_of_ble_eq_true rfl) ?_
   refine qm (qB ?_)
   refine sp (.int .i64 0) ?_
   refine qy (t_n (qm (qm (qB ?_))))
   refine sp (.slice zO r.qC.length zD) ?_
   refine sw (zX Tryz.underlying108 zO r.qC.length zD rfl ?_)
   refine sp (.int .i64 0) ?_
   refine qy (t_n (xE ?_))
   refine zW (fun m' ρ w42 => ∃ (junk : Env) (i : Nat), ρ = upd (upd (upd (upd junk 0 (.slice zO r.qC.length zD)) 1 (.func (.func 150) #[] #[pp b3 0, pp b1 0, pp b5 0])) 7 (.int .i64 r.qC.length)) 8 (.int .i64 i) ∧ ((i : Int) ≤ r.qC.length) ∧ (IntoUp s t r i) ∧ m' = (r.qC.length - (i : Int)).toNat ∧ Fresh w.heap.size [] ∧ St w w42 [.box b5 [.int .i64 r.qA, .int .i64 r.xY, .slice vg r.qV.length ve, .slice vY r.xh.length vX, .slice vJ r.xk.length vI, .slice jo r.xm.length jm, .slice Qi r.zf.length Qh, .slice zO r.qC.length zD, .bool r.xN] 110, .box b3 [.slice (aa b7 o8) t.qh.length qJ, .slice (aa b11 o12) t.qp.length xC, .slice qN t.ql.length qM] 38, .box b1 [.int .i64 s.qH, .slice qw s.qf.length qo, .slice qG s.qg.length qE] 36] [isF false Fe14 (.slice ae14 ((t.qp[r.qA.toNat]!).length) ce14) (t.qp[r.qA.toNat]!), atF b11 (o12 + (r.qA : Int).toNat * 1) [.slice ae14 ((t.qp[r.qA.toNat]!).length) ce14], isF false qO (.slice qw s.qf.length qo) s.qf, isF false xA (.slice qG s.qg.length qE) s.qg, isF false xO (.slice (aa b7 o8) t.qh.length qJ) t.qh, isF false zL (.slice (aa b11 o12) t.qp.length xC) t.qp, isF false xI (.slice qN t.ql.length qM) t.ql, isF false QF (.slice vg r.qV.length ve) r.qV, isF false Q9 (.slice vY r.xh.length vX) r.xh, isF false QT (.slice vJ r.xk.length vI) r.xk, isF false Xj (.slice jo r.xm.length jm) r.xm, isF false FrOut (.slice Qi r.zf.length Qh) r.zf, isF false FrInto (.slice zO r.qC.length zD) r.qC]) ((r.qC.length - (0 : Int)).toNat) ⟨_, 0, (by exact qj (qj (qj (qj (rfl) rfl) rfl) rfl) rfl), (by omega), (by exact fun j hj => by omega), rfl, N, H⟩ ?_
   clear H N
   rintro m' ρ w43 ⟨junk, i, rfl, i0, i1, rfl, N, H⟩
   refine qm (qB ?_)
   refine sp (.bool (decide ((i : Int) < r.qC.length))) ?_
   refine qy (t_n (qm ?_))
   refine qZ (decide ((i : Int) < r.qC.length)) rfl (fun h44 => ?_) (fun h44 => ?_)
   ·skip
    replace h44 := of_decide_eq_true h44
    have q := (p12 i (by omega)).1
    have q1 := q.1
    have q2 := q.2
    refine xx (t_n (qm (xE (qm (qB ?_)))))
    refine sps [.int .i64 i, .int .i64 i] ?_
    refine qy (t_n (qm (qB ?_)))
    refine sps [.func (.func 150) #[] #[pp b3 0, pp b1 0, pp b5 0], .slice zO r.qC.length zD, .int .i64 i] ?_
    obtain ⟨b45, o46, rfl⟩ := H.addr 12 rfl (by omega)
    obtain ⟨ae48Bag, ce48Bag, Fe48Bag, H⟩ := H.jy 12 rfl i i (by omega) (by omega) (by omega)
    refine sw (xK i Tryz.underlying108 ti115 rfl rfl (by omega) (by omega) ?_)
    refine sw (zi [.int .i64 ((r.qC[i]!).qA), .slice ae48Bag (((r.qC[i]!).zV).length) ce48Bag] Tryz.isAgg115 Tryz.sizeOf115 rfl (qI (H.get 1 rfl) 0 2) ?_)
    refine sw (QD #[.agg #[.int .i64 ((r.qC[i]!).qA), .slice ae48Bag (((r.qC[i]!).zV).length) ce48Bag], pp b3 0, pp b1 0, pp b5 0] rfl rfl Tryz.call150 ?_)
    refine enter (n := 23) Tryz.func150 rfl Tryz.ntmps150 (Nat.le_of_ble_eq_true rfl) ?_
    refine qm (qB ?_)
    refine sw (yD H [.int .i64 ((r.qC[i]!).qA), .slice ae48Bag (((r.qC[i]!).zV).length) ce48Bag] fun b49 w50 H => ?_)
    refine sp (.bool false) ?_
    refine qy (t_n (qm ?_))
    refine yA rfl H fun H => ?_
    refine rt 0 (pp b3 (0 + 0)) (xF b3 (0) 0 Tryz.underlying38 rfl rfl Tryz.sizeOf26 rfl) H ?_
    refine rt 1 (.slice (aa b7 o8) t.qh.length qJ) (xw Tryz.isAgg26 rfl (fun _ h => h.cell 2 rfl rfl)) H ?_
    refine rt 2 (pp b49 (0 + 0)) (xF b49 (0) 0 Tryz.underlying115 rfl rfl Tryz.sizeOf2 rfl) H ?_
    refine rt 3 (.int .i64 ((r.qC[i]!).qA)) (xw Tryz.isAgg2 rfl (fun _ h => h.cell 0 rfl rfl)) H ?_
    refine rt 4 (pp b7 (o8 + ((r.qC[i]!).qA : Int).toNat * 1)) (xQ b7 (o8) t.qh.length qJ ((r.qC[i]!).qA) Tryz.underlying26 ti4 rfl rfl (by omega) (by omega)) H ?_
    refine rt 5 (.bool (t.qh[((r.qC[i]!).qA).toNat]!)) (xw Tryz.isAgg4 rfl (fun _ h => h.QK 6 rfl ((r.qC[i]!).qA) (by omega) (by omega))) H ?_
    refine rtp 6 (.bool (!(t.qh[((r.qC[i]!).qA).toNat]!))) H ?_
    refine rtp 7 (.bool (!(t.qh[((r.qC[i]!).qA).toNat]!))) H ?_
    cases h52 : (!(t.qh[((r.qC[i]!).qA).toNat]!))
    ·skip
     replace h52 := qX h52
     refine rg 8 (.agg #[.int .i64 s.qH, .slice qw s.qf.length qo, .slice qG s.qg.length qE]) 13 (yG (cs := [.int .i64 s.qH, .slice qw s.qf.length qo, .slice qG s.qg.length qE]) Tryz.isAgg36 Tryz.sizeOf36 rfl (fun _ h => qI (h.cells 3 rfl) 0 3)) H ?_
     refine rg 9 (.agg #[.slice (aa b7 o8) t.qh.length qJ, .slice (aa b11 o12) t.qp.length xC, .slice qN t.ql.length qM]) 13 (yG (cs := [.slice (aa b7 o8) t.qh.length qJ, .slice (aa b11 o12) t.qp.length xC, .slice qN t.ql.length qM]) Tryz.isAgg38 Tryz.sizeOf38 rfl (fun _ h => qI (h.cells 2 rfl) 0 3)) H ?_
     refine rg 10 (pp b49 (0 + 0)) 13 (xF b49 (0) 0 Tryz.underlying115 rfl rfl Tryz.sizeOf2 rfl) H ?_
     refine rg 11 (.int .i64 ((r.qC[i]!).qA)) 13 (xw Tryz.isAgg2 rfl (fun _ h => h.cell 0 rfl rfl)) H ?_
     refine rg 13 (pp b5 (0 + 0)) 13 (xF b5 (0) 0 Tryz.underlying110 rfl rfl Tryz.sizeOf2 rfl) H ?_
     refine rg 14 (.int .i64 r.qA) 13 (xw Tryz.isAgg2 rfl (fun _ h => h.cell 1 rfl rfl)) H ?_
     refine xq [12] (by kernel_rfl) (by simp) (r_opG rfl (e := 13) rfl rfl ?_ xu)
     refine xf #[.agg #[.int .i64 s.qH, .slice qw s.qf.length qo, .slice qG s.qg.length qE], .agg #[.slice (aa b7 o8) t.qh.length qJ, .slice (aa b11 o12) t.qp.length xC, .slice qN t.ql.length qM], .int .i64 ((r.qC[i]!).qA)] rfl rfl Tryz.call144 (parentNow_ok w50.drew s t ((r.qC[i]!).qA) qw qo qO qG qE xA (aa b7 o8) qJ xO (aa b11 o12) xC zL qN qM xI (H.get 4 rfl).1 (H.get 5 rfl).1 (H.get 6 rfl).1 (H.get 7 rfl).1 (H.get 8 rfl).1 (by first | assumption | omega) (by first | assumption | omega) (by first | assumption | omega)) ?_
     rintro _ w54 rfl x55
     replace H := H.ext x55
     refine ⟨H, ?_⟩
     refine rgp 15 (.bool ((xe s t ((r.qC[i]!).qA) : Int) != r.qA)) 13 H ?_
     refine rtp 16 (.bool ((xe s t ((r.qC[i]!).qA) : Int) != r.qA)) H ?_
     refine rtp 17 (.bool ((xe s t ((r.qC[i]!).qA) : Int) != r.qA)) H ?_
     refine xM (by kernel_rfl) (t_n ?_)
     refine xB ?_
     refine ret1 (.bool ((xe s t ((r.qC[i]!).qA) : Int) != r.qA)) rfl rfl ⟨_, rfl, ?_⟩
     replace H := H.erases [0]
     dsimp only [yE, List.eraseIdx] at H
     refine qy (t_n ?_)
     refine qZ ((xe s t ((r.qC[i]!).qA) : Int) != r.qA) rfl (fun h56 => ?_) (fun h56 => ?_)
     ·skip
      replace h56 := bne_iff_ne.1 h56
      refine qm (qB ?_)
      refine sps [.int .i64 i, .int .i64 i] ?_
      refine qy (t_n (xB (b_r (t_r (t_r (b_r (t_r ?_)))))))
      refine ret1 (.int .i64 i) rfl rfl ⟨_, rfl, ?_⟩
      refine sw (o_pure (.bool true) (by show some (Value.bool (decide ((i : Int) ≥ 0))) = some (Value.bool true); rw [decide_eq_true (by omega)]) ?_)
      refine sp (.bool true) ?_
      refine qy (t_n (xB ?_))
      refine ret1 (.bool true) rfl rfl ⟨_, rfl, ?_⟩
      refine sps [.bool false, .bool false] ?_
      refine qy (t_n (xB ?_))
      refine ret1 (.bool false) rfl rfl ⟨_, rfl, ?_, H.base⟩
      rw [xy (fun h => by obtain ⟨h1, h2, h3, h4, h5⟩ := h; first | exact ft h1 ‹_› | exact ft h2 ‹_› | exact ft h3 ‹_› | exact h4 ⟨‹_›, ‹_›⟩ | (obtain ⟨q1, q2⟩ := h5 i (by omega); first | exact ft q1 ‹_› | exact absurd q2 ‹_›))]
     replace h56 := xR h56
     refine xx (b_n (t_n (qB ?_)))
     refine sw (vw i 1 rfl rfl (by omega) ?_)
     refine sp (.int .i64 (i + 1)) ?_
     refine qy ?_
     refine xG (m' := (r.qC.length - ((i + 1) : Int)).toNat) (by omega) ⟨_, i + 1, (by exact qj (qj (qj (qj (rfl) rfl) rfl) rfl) rfl), ?_, ?_, rfl, N, H.pick [0, 1, 2] [2, 3, 4, 5, 6, 7, 8, 9, 10, 11, 12, 13, 14]⟩
     · omega
     · exact i1.succ ‹_› ‹_›
    replace h52 := xg h52
    refine zJ [8, 9, 10, 11, 12, 13, 14, 15] 8 (H) ?_
    refine rtp 16 (.bool true) H ?_
    refine rtp 17 (.bool true) H ?_
    refine xM (by kernel_rfl) (t_n ?_)
    refine xB ?_
    refine ret1 (.bool true) rfl rfl ⟨_, rfl, ?_⟩
    replace H := H.erases [0]
    dsimp only [yE, List.eraseIdx] at H
    refine qy (t_n ?_)
    refine qZ true rfl (fun _ => ?_) (fun h => absurd h (by decide))
    refine qm (qB ?_)
    refine sps [.int .i64 i, .int .i64 i] ?_
    refine qy (t_n (xB (b_r (t_r (t_r (b_r (t_r ?_)))))))
    refine ret1 (.int .i64 i) rfl rfl ⟨_, rfl, ?_⟩
    refine sw (o_pure (.bool true) (by show some (Value.bool (decide ((i : Int) ≥ 0))) = some (Value.bool true); rw [decide_eq_true (by omega)]) ?_)
    refine sp (.bool true) ?_
    refine qy (t_n (xB ?_))
    refine ret1 (.bool true) rfl rfl ⟨_, rfl, ?_⟩
    refine sps [.bool false, .bool false] ?_
    refine qy (t_n (xB ?_))
    refine ret1 (.bool false) rfl rfl ⟨_, rfl, ?_, H.base⟩
    rw [xy (fun h => by obtain ⟨h1, h2, h3, h4, h5⟩ := h; first | exact ft h1 ‹_› | exact ft h2 ‹_› | exact ft h3 ‹_› | exact h4 ⟨‹_›, ‹_›⟩ | (obtain ⟨q1, q2⟩ := h5 i (by omega); first | exact ft q1 ‹_› | exact absurd q2 ‹_›))]
   replace h44 := of_decide_eq_false h44
   refine zT (t_x (t_x (b_x (t_n (qm (qB ?_))))))
   refine sp (.int .i64 (-1)) ?_
   refine qy (t_n (xB ?_))
   refine ret1 (.int .i64 (-1)) rfl rfl ⟨_, rfl, ?_⟩
   refine sps [.bool false, .bool false] ?_
   refine qy (t_n (xB ?_))
   refine ret1 (.bool false) rfl rfl ⟨_, rfl, ?_⟩
   refine sps [.bool true, .bool true] ?_
   refine qy (t_n (xB ?_))
   refine ret1 (.bool true) rfl rfl ⟨_, rfl, ?_, H.base⟩
   rw [yY ⟨by assumption, by assumption, by assumption, fun ⟨u, v⟩ => by first | omega | exact ft v ‹_›, (show i = r.qC.length by omega) ▸ i1⟩]
  replace h20 := xg h20
  refine xW [34, 35, 36, 37, 38, 39, 40, 41, 42, 43] ?_
  refine sp (.bool true) ?_
  refine qy (t_n ?_)
  refine qZ true rfl (fun _ => ?_) (fun h => absurd h (by decide))
  refine qm (qB ?_)
  refine sp (.bool false) ?_
  refine qy (t_n (xB (t_r ?_)))
  refine ret1 (.bool false) rfl rfl ⟨_, rfl, ?_, H.base⟩
  rw [xy (fun h => by obtain ⟨h1, h2, h3, h4, h5⟩ := h; first | exact ft h1 ‹_› | exact ft h2 ‹_› | exact ft h3 ‹_› | exact h4 ⟨‹_›, ‹_›⟩ | (obtain ⟨q1, q2⟩ := h5 i (by omega); first | exact ft q1 ‹_› | exact absurd q2 ‹_›))]
 replace h17 := xg h17
 refine xW [27, 28, 29, 30, 31] ?_
 refine sps [.bool true, .bool true] ?_
 refine xW [34, 35, 36, 37, 38, 39, 40, 41, 42, 43] ?_
 refine sp (.bool true) ?_
 refine qy (t_n ?_)
 refine qZ true rfl (fun _ => ?_) (fun h => absurd h (by decide))
 refine qm (qB ?_)
 refine sp (.bool false) ?_
 refine qy (t_n (xB (t_r ?_)))
 refine ret1 (.bool false) rfl rfl ⟨_, rfl, ?_, H.base⟩
 rw [xy (fun h => by obtain ⟨h1, h2, h3, h4, h5⟩ := h; first | exact ft h1 ‹_› | exact ft h2 ‹_› | exact ft h3 ‹_› | exact h4 ⟨‹_›, ‹_›⟩ | (obtain ⟨q1, q2⟩ := h5 i (by omega); first | exact ft q1 ‹_› | exact absurd q2 ‹_›))]

theorem cloneSS_ok (w : World) (l : List (List Int)) (al : Option Addr) (cl : Nat) (Fl : List Nat) (hl : qR.rep w Fl [.slice al l.length cl] l) (p0 : l.length ≤ 1000000) : Calls Tryz.prog 98 #[.slice al l.length cl] w (Ret (fun v w' => ∃ (ra : Option Addr) (rn : Nat) (rc : Nat) (rx : List Value) (rF : List Nat), v = .slice ra rn rc ∧ (∀ b ∈ rF, b ∈ Fl) ∧ St w w' [.row (.slice ra rn rc) 22 1 rn rx] [jf false rF rx l]) w) := by
 refine enter (n := 8) Tryz.func98 rfl Tryz.ntmps98 (Nat.le_of_ble_eq_true rfl) ?_
 have H := (St.start w).arg hl
 have nhl := qL hl
 clear hl
 have N := Fresh.nil w.heap.size
 refine qm (qB ?_)
 refine sp (.slice none 0 0) ?_
 refine qy (t_n (qm (qm (qB ?_))))
 refine sp (.slice al l.length cl) ?_
 refine sw (o_eqnil Tryz.underlying27 al l.length cl rfl ?_)
 refine qy (t_n ?_)
 refine qZ (al.isNone) rfl (fun h1 => ?_) (fun h1 => ?_)
 ·skip
  refine qm (qB ?_)
  refine sp (.slice none 0 0) ?_
  refine qy (t_n (xB (t_r ?_)))
  replace H := H.nilRow 22 1
  replace H := H.Xa (α := List Int)
  refine ret1 (.slice none 0 0) rfl rfl ⟨_, rfl, ?_, H.base⟩
  obtain rfl := H.nilOf 1 rfl ‹_›
  replace H := H.unfree 0 rfl
  exact ⟨none, 0, 0, [], [], rfl, (by intro b hb; first | (simp at hb; done) | exact id b (by simpa using hb)), H.pick [0] [0]⟩
 refine xx (t_n (qm (qB ?_)))
 refine sw (o_build0 H Tryz.underlying27 ti22 fun b2 w3 H => ?_)
 refine sp (.slice al l.length cl) ?_
 replace H := H.boxRow 0 rfl 1 0 rfl (by decide)
 try dsimp only [List.set] at H
 replace H := H.Xa (α := List Int)
 refine sw (o_appendFR H 0 rfl 1 rfl Tryz.underlying27 ti22 rfl (by decide) rfl rfl (by unfold maxLen; omega) (by omega) fun a4 c5 w6 us7 G8 H hG9 => ?_)
 try dsimp only [List.set] at H
 replace H := H.repsCat false 1 rfl 0 rfl (by simp)
 refine sp (.slice a4 (0 + l.length) c5) ?_
 refine qy (t_n (xB ?_))
 refine ret1 (.slice a4 (0 + l.length) c5) rfl rfl ⟨_, rfl, ?_, H.base⟩
 exact ⟨a4, 0 + l.length, c5, [] ++ us7, ([] ++ G8), rfl, (by intro b hb; first | (simp at hb; done) | exact hG9 b (by simpa using hb)), H.pick [0] [0]⟩

theorem applicable_ok (w : World) (s : qW) (t : qU) (qw : Option Addr) (qo : Nat) (qO : List Nat) (qG : Option Addr) (qE : Nat) (xA : List Nat) (qP : Option Addr) (qJ : Nat) (xO : List Nat) (xH : Option Addr) (xC : Nat) (zL : List Nat) (qN : Option Addr) (qM : Nat) (xI : List Nat) (xn : qR.rep w qO [.slice qw s.qf.length qo] s.qf) (xJ : qR.rep w xA [.slice qG s.qg.length qE] s.qg) (zA : qR.rep w xO [.slice qP t.qh.length qJ] t.qh) (vH : qR.rep w zL [.slice xH t.qp.length xC] t.qp) (zh : qR.rep w xI [.slice qN t.ql.length qM] t.ql) (p0 : yC s) (p1 : zH s t) : Calls Tryz.prog 65 #[.agg #[.int .i64 s.qH, .slice qw s.qf.length qo, .slice qG s.qg.length qE], .agg #[.slice qP t.qh.length qJ, .slice xH t.qp.length xC, .slice qN t.ql.length qM]] w (Ret (fun v w' => ∃ (ra : Option Addr) (rn : Nat) (rc : Nat), v = .slice ra rn rc ∧ Fresh w.heap.size [] ∧ St w w' [.row (.slice ra rn rc) 2 1 rn ((appls s t).map (Value.int .i64))] []) w) := by
 refine enter (n := 69) Tryz.func65 rfl Tryz.ntmps65 (Nat.le_of_ble_eq_true rfl) ?_
 have H := (((((St.start w).arg zh).arg vH).arg zA).arg xJ).arg xn
 have vK := qL xn
 have jP := qL xJ
 have QZ := qL zA
 have XN := qL vH
 have Qu := qL zh
 clear xn xJ zA vH zh
 have N := Fresh.nil w.heap.size
 have p2 := p0.2.1
 have p3 := p0.1.2.1
 refine qm (qB ?_)
 refine sw (yD H [.int .i64 s.qH, .slice qw s.qf.length qo, .slice qG s.qg.length qE] fun b1 w2 H => ?_)
 refine sw (yD H [.slice qP t.qh.length qJ, .slice xH t.qp.length xC, .slice qN t.ql.length qM] fun b3 w4 H => ?_)
 refine sp (.slice none 0 0) ?_
 refine qy (t_n (qm (qB ?_)))
 refine sw (jr [.int .i64 0, .int .i64 0, .int .i64 0, .int .i64 0, .int .i64 0, .int .i64 0] [] ?_)
 refine sw (zn H ti134 [.int .i64 0, .int .i64 0, .int .i64 0, .int .i64 0, .int .i64 0, .int .i64 0] fun b5 w6 H => ?_)
 refine sw (xU H 0 [.int .i64 0, .int .i64 0, .int .i64 0, .int .i64 0, .int .i64 0, .int .i64 0] Tryz.sizeOf134 fun w7 H => ?_)
 try dsimp only [List.set] at H
 refine qy (t_n (qm (qm (qB ?_))))
 refine sp (.int .i64 0) ?_
 refine qy (t_n (xE ?_))
 try dsimp only [List.set] at H
 refine zW (fun m' ρ w8 => ∃ (junk : Env) (c : Nat) (top : List Int), ρ = upd (upd (upd (upd junk 2 (pp b1 0)) 3 (pp b3 0)) 5 (pp b5 0)) 13 (.int .i64 c) ∧ top = minus c ∧ ((c : Int) ≤ 6) ∧ m' = (6 - (c : Int)).toNat ∧ Fresh w.heap.size [] ∧ St w w8 [.box b5 (top.map (Value.int .i64)) 134, .box b3 [.slice qP t.qh.length qJ, .slice xH t.qp.length xC, .slice qN t.ql.length qM] 38, .box b1 [.int .i64 s.qH, .slice qw s.qf.length qo, .slice qG s.qg.length qE] 36] [isF false qO (.slice qw s.qf.length qo) s.qf, isF false xA (.slice qG s.qg.length qE) s.qg, isF false xO (.slice qP t.qh.length qJ) t.qh, isF false zL (.slice xH t.qp.length xC) t.qp, isF false xI (.slice qN t.ql.length qM) t.ql]) ((6 - (0 : Int)).toNat) ⟨_, 0, [0, 0, 0, 0, 0, 0], (by exact qj (qj (qj (qj (rfl) rfl) rfl) rfl) rfl), (by rfl), (by omega), rfl, N, H⟩ ?_
 clear H N
 rintro m' ρ w9 ⟨junk, c, top, rfl, rfl, i0, rfl, N, H⟩
 refine qm (qB ?_)
 refine sp (.bool (decide ((c : Int) < 6))) ?_
 refine qy (t_n (qm ?_))
 refine qZ (decide ((c : Int) < 6)) rfl (fun h10 => ?_) (fun h10 => ?_)
 ·skip
  replace h10 := of_decide_eq_true h10
  refine xx (t_n (qm (xE (qm (qB ?_)))))
  refine sps [.int .i64 c, .int .i64 c] ?_
  refine qy (t_n (qB ?_))
  refine sp (.int .i64 c) ?_
  refine sw (o_idxArr c Tryz.underlying134 ti2 rfl rfl (by omega) (by omega) ?_)
  refine sw (o_storeArr H 0 rfl (-1) Tryz.sizeOf2 rfl rfl (i := c) (by omega) (by simp only [List.length_set, List.length_cons, List.length_nil, minus_len, Q7]; omega) fun w11 H => ?_)
  try dsimp only [List.set] at H
  refine qy (b_n (t_n (qB ?_)))
  refine sw (vw c 1 rfl rfl (by omega) ?_)
  refine sp (.int .i64 (c + 1)) ?_
  refine qy ?_
  refine xG (m' := (6 - ((c + 1) : Int)).toNat) (by omega) ⟨_, c + 1, ((minus c).set c (-1)), (by exact qj (qj (qj (qj (rfl) rfl) rfl) rfl) rfl), ?_, ?_, rfl, N, H⟩
  · exact minus_set (by omega)
  · omega
 replace h10 := of_decide_eq_false h10
 refine zT (t_x (t_x (b_x (t_n (qm (qm (qB ?_)))))))
 refine sw (qK b1 (0) 2 Tryz.underlying36 rfl rfl Tryz.sizeOf34 rfl ?_)
 refine sw (qF (.slice qG s.qg.length qE) Tryz.isAgg34 rfl (H.cell 2 rfl rfl) ?_)
 refine sw (zX Tryz.underlying34 qG s.qg.length qE rfl ?_)
 refine sp (.int .i64 0) ?_
 refine qy (t_n (xE ?_))
 refine zW (fun m' ρ w12 => ∃ (junk : Env) (k : Nat) (top_1 : List Int), ρ = upd (upd (upd (upd (upd (upd junk 2 (pp b1 0)) 3 (pp b3 0)) 5 (pp b5 0)) 20 (.slice qG s.qg.length qE)) 21 (.int .i64 s.qg.length)) 22 (.int .i64 k) ∧ top_1 = bests s t (-1) 6 k ∧ ((k : Int) ≤ s.qg.length) ∧ m' = (s.qg.length - (k : Int)).toNat ∧ Fresh w.heap.size [] ∧ St w w12 [.box b5 (top_1.map (Value.int .i64)) 134, .box b3 [.slice qP t.qh.length qJ, .slice xH t.qp.length xC, .slice qN t.ql.length qM] 38, .box b1 [.int .i64 s.qH, .slice qw s.qf.length qo, .slice qG s.qg.length qE] 36] [isF false qO (.slice qw s.qf.length qo) s.qf, isF false xA (.slice qG s.qg.length qE) s.qg, isF false xO (.slice qP t.qh.length qJ) t.qh, isF false zL (.slice xH t.qp.length xC) t.qp, isF false xI (.slice qN t.ql.length qM) t.ql]) ((s.qg.length - (0 : Int)).toNat) ⟨_, 0, (minus c), (by exact qj (qj (qj (qj (qj (qj (rfl) rfl) rfl) rfl) rfl) rfl) rfl), (by exact minus_six (by omega) s t), (by omega), rfl, N, H⟩ ?_
 clear H N
 rintro m' ρ w13 ⟨junk, k, top_1, rfl, rfl, i0, rfl, N, H⟩
 refine qm (qB ?_)
 refine sp (.bool (decide ((k : Int) < s.qg.length))) ?_
 refine qy (t_n (qm ?_))
 refine qZ (decide ((k : Int) < s.qg.length)) rfl (fun h14 => ?_) (fun h14 => ?_)
 ·skip
  replace h14 := of_decide_eq_true h14
  have q := p0.rule (i := k) (by omega)
  have qc := q.1
  have qk := q.cell
  have qr := q.2.1
  have q6 : (s.qg[k]!).qA.toNat < 6 := by omega
  refine xx (t_n (qm (xE (qm (qB ?_)))))
  obtain ⟨b15, o16, rfl⟩ := H.addr 1 rfl (by omega)
  obtain ⟨ae18Need, ce18Need, Fe18Need, ae18Have, ce18Have, Fe18Have, ae18Lack, ce18Lack, Fe18Lack, ae18Here, ce18Here, Fe18Here, ae18Out, ce18Out, Fe18Out, ae18Into, ce18Into, Fe18Into, H⟩ := H.yJ 1 rfl k k (by omega) (by omega) (by omega)
  refine sw (xK k Tryz.underlying34 ti110 rfl rfl (by omega) (by omega) ?_)
  refine sw (zi [.int .i64 ((s.qg[k]!).qA), .int .i64 ((s.qg[k]!).xY), .slice ae18Need (((s.qg[k]!).qV).length) ce18Need, .slice ae18Have (((s.qg[k]!).xh).length) ce18Have, .slice ae18Lack (((s.qg[k]!).xk).length) ce18Lack, .slice ae18Here (((s.qg[k]!).xm).length) ce18Here, .slice ae18Out (((s.qg[k]!).zf).length) ce18Out, .slice ae18Into (((s.qg[k]!).qC).length) ce18Into, .bool ((s.qg[k]!).xN)] Tryz.isAgg110 Tryz.sizeOf110 rfl (qI (H.get 6 rfl) 0 9) ?_)
  refine sw (zn H ti110 [.int .i64 0, .int .i64 0, .slice none 0 0, .slice none 0 0, .slice none 0 0, .slice none 0 0, .slice none 0 0, .slice none 0 0, .bool false] fun b19 w20 H => ?_)
  refine sw (xU H 0 [.int .i64 ((s.qg[k]!).qA), .int .i64 ((s.qg[k]!).xY), .slice ae18Need (((s.qg[k]!).qV).length) ce18Need, .slice ae18Have (((s.qg[k]!).xh).length) ce18Have, .slice ae18Lack (((s.qg[k]!).xk).length) ce18Lack, .slice ae18Here (((s.qg[k]!).xm).length) ce18Here, .slice ae18Out (((s.qg[k]!).zf).length) ce18Out, .slice ae18Into (((s.qg[k]!).qC).length) ce18Into, .bool ((s.qg[k]!).xN)] Tryz.sizeOf110 fun w21 H => ?_)
  try dsimp only [List.set] at H
  refine qy (t_n (qm (qB ?_)))
  refine sw (zi [.int .i64 s.qH, .slice qw s.qf.length qo, .slice (aa b15 o16) s.qg.length qE] Tryz.isAgg36 Tryz.sizeOf36 rfl (qI (H.cells 3 rfl) 0 3) ?_)
  refine sw (zi [.slice qP t.qh.length qJ, .slice xH t.qp.length xC, .slice qN t.ql.length qM] Tryz.isAgg38 Tryz.sizeOf38 rfl (qI (H.cells 2 rfl) 0 3) ?_)
  refine sw (zi [.int .i64 ((s.qg[k]!).qA), .int .i64 ((s.qg[k]!).xY), .slice ae18Need (((s.qg[k]!).qV).length) ce18Need, .slice ae18Have (((s.qg[k]!).xh).length) ce18Have, .slice ae18Lack (((s.qg[k]!).xk).length) ce18Lack, .slice ae18Here (((s.qg[k]!).xm).length) ce18Here, .slice ae18Out (((s.qg[k]!).zf).length) ce18Out, .slice ae18Into (((s.qg[k]!).qC).length) ce18Into, .bool ((s.qg[k]!).xN)] Tryz.isAgg110 Tryz.sizeOf110 rfl (qI (H.cells 0 rfl) 0 9) ?_)
  refine sw (xf #[.agg #[.int .i64 s.qH, .slice qw s.qf.length qo, .slice (aa b15 o16) s.qg.length qE], .agg #[.slice qP t.qh.length qJ, .slice xH t.qp.length xC, .slice qN t.ql.length qM], .agg #[.int .i64 ((s.qg[k]!).qA), .int .i64 ((s.qg[k]!).xY), .slice ae18Need (((s.qg[k]!).qV).length) ce18Need, .slice ae18Have (((s.qg[k]!).xh).length) ce18Have, .slice ae18Lack (((s.qg[k]!).xk).length) ce18Lack, .slice ae18Here (((s.qg[k]!).xm).length) ce18Here, .slice ae18Out (((s.qg[k]!).zf).length) ce18Out, .slice ae18Into (((s.qg[k]!).qC).length) ce18Into, .bool ((s.qg[k]!).xN)]] rfl rfl Tryz.call112 (isEnabled_ok w21 s t (s.qg[k]!) qw qo qO (aa b15 o16) qE xA qP qJ xO xH xC zL qN qM xI ae18Need ce18Need Fe18Need ae18Have ce18Have Fe18Have ae18Lack ce18Lack Fe18Lack ae18Here ce18Here Fe18Here ae18Out ce18Out Fe18Out ae18Into ce18Into Fe18Into (H.get 7 rfl).1 (H.get 8 rfl).1 (H.get 9 rfl).1 (H.get 10 rfl).1 (H.get 11 rfl).1 (H.get 0 rfl).1 (H.get 1 rfl).1 (H.get 2 rfl).1 (H.get 3 rfl).1 (H.get 4 rfl).1 (H.get 5 rfl).1 (by first | assumption | omega) (by first | assumption | omega) (by first | assumption | omega)) ?_)
  rintro _ w23 rfl x24
  replace H := H.ext x24
  refine qy (t_n ?_)
  refine qZ (dec (EnOk s t (s.qg[k]!))) rfl (fun h25 => ?_) (fun h25 => ?_)
  ·skip
   replace h25 := jI h25
   refine yL rfl H [0, 2, 3] fun H => ?_
   have S := H.yx [0, 2, 3] [0, 1, 2, 3, 4, 5, 6, 7, 8, 9, 10, 11]
   refine rt 0 (pp b19 (0 + 0)) (xF b19 (0) 0 Tryz.underlying110 rfl rfl Tryz.sizeOf2 rfl) S ?_
   refine rt 1 (.int .i64 ((s.qg[k]!).qA)) (xw Tryz.isAgg2 rfl (fun _ h => h.cell 0 rfl rfl)) S ?_
   refine rt 2 (pp b19 (0 + 0)) (xF b19 (0) 0 Tryz.underlying110 rfl rfl Tryz.sizeOf2 rfl) S ?_
   refine rt 3 (.int .i64 ((s.qg[k]!).qA)) (xw Tryz.isAgg2 rfl (fun _ h => h.cell 0 rfl rfl)) S ?_
   refine rt 4 (pp b5 (0 + ((s.qg[k]!).qA : Int).toNat * 1)) (y_idxArr b5 (0) 6 ((s.qg[k]!).qA) Tryz.underlying134 ti2 rfl rfl (by omega) (by omega)) S ?_
   refine rt 6 (pp b19 (0 + 1)) (xF b19 (0) 1 Tryz.underlying110 rfl rfl Tryz.sizeOf2 rfl) S ?_
   refine rt 7 (.int .i64 ((s.qg[k]!).xY)) (xw Tryz.isAgg2 rfl (fun _ h => h.cell 0 rfl rfl)) S ?_
   refine xq [5] (by kernel_rfl) (by simp) (xX rfl ?_ xu)
   refine qF (.int .i64 ((bests s t (-1) 6 k)[((s.qg[k]!).qA).toNat]!)) Tryz.isAgg2 rfl (H.cell 1 rfl (ints_at (iv := (s.qg[k]!).qA) (i := (((s.qg[k]!).qA).toNat)) (by omega) (by simp only [List.length_set, List.length_cons, List.length_nil, minus_len, Q7]; omega))) ?_
   refine ⟨H.pick [0, 2, 3] [0, 1, 2, 3, 4, 5, 6, 7, 8, 9, 10, 11], ?_⟩
   have S := H.yx [0, 2, 3] [0, 1, 2, 3, 4, 5, 6, 7, 8, 9, 10, 11]
   refine rt 8 (.int .i64 (max ((bests s t (-1) 6 k)[((s.qg[k]!).qA).toNat]!) ((s.qg[k]!).xY))) (y_max ((bests s t (-1) 6 k)[((s.qg[k]!).qA).toNat]!) ((s.qg[k]!).xY) rfl rfl) S ?_
   refine rt 9 (pp b5 (0 + ((s.qg[k]!).qA : Int).toNat * 1)) (y_idxArr b5 (0) 6 ((s.qg[k]!).qA) Tryz.underlying134 ti2 rfl rfl (by omega) (by omega)) S ?_
   refine xq [10] (by kernel_rfl) (by simp) (xX rfl ?_ xu)
   refine o_storeArr H 1 rfl (max ((bests s t (-1) 6 k)[((s.qg[k]!).qA).toNat]!) ((s.qg[k]!).xY)) Tryz.sizeOf2 rfl rfl (i := (((s.qg[k]!).qA).toNat)) (by omega) (by simp only [List.length_set, List.length_cons, List.length_nil, minus_len, Q7]; omega) fun w27 H => ?_
   try dsimp only [List.set] at H
   refine ⟨H.pick [0, 2, 3] [0, 1, 2, 3, 4, 5, 6, 7, 8, 9, 10, 11], ?_⟩
   refine xM (by kernel_rfl) (b_n (t_n ?_))
   refine qB ?_
   refine sw (vw k 1 rfl rfl (by omega) ?_)
   refine sp (.int .i64 (k + 1)) ?_
   refine qy ?_
   refine xG (m' := (s.qg.length - ((k + 1) : Int)).toNat) (by omega) ⟨_, k + 1, ((bests s t (-1) 6 k).set (((s.qg[k]!).qA).toNat) (max ((bests s t (-1) 6 k)[((s.qg[k]!).qA).toNat]!) ((s.qg[k]!).xY))), (by exact qj (qj (qj (qj (qj (qj (rfl) rfl) rfl) rfl) rfl) rfl) rfl), ?_, ?_, rfl, N, H.pick [1, 2, 3] [7, 8, 9, 10, 11]⟩
   · first | exact bests_set ‹_› (by omega) | exact bests_skip ‹_›
   · omega
  replace h25 := zg h25
  refine xx (b_n (t_n (qB ?_)))
  refine sw (vw k 1 rfl rfl (by omega) ?_)
  refine sp (.int .i64 (k + 1)) ?_
  refine qy ?_
  refine xG (m' := (s.qg.length - ((k + 1) : Int)).toNat) (by omega) ⟨_, k + 1, (bests s t (-1) 6 k), (by exact qj (qj (qj (qj (qj (qj (rfl) rfl) rfl) rfl) rfl) rfl) rfl), ?_, ?_, rfl, N, H.pick [1, 2, 3] [7, 8, 9, 10, 11]⟩
  · first | exact bests_set ‹_› (by omega) | exact bests_skip ‹_›
  · omega
 replace h14 := of_decide_eq_false h14
 refine zT (t_x (t_x (b_x (t_n (qm (qB ?_))))))
 refine sw (o_build0 H Tryz.underlying22 ti2 fun b28 w29 H => ?_)
 refine sp (.slice (aa b28 0) 0 0) ?_
 refine qy (t_n (qm (qm (qB ?_))))
 refine sw (qK b1 (0) 2 Tryz.underlying36 rfl rfl Tryz.sizeOf34 rfl ?_)
 refine sw (qF (.slice qG s.qg.length qE) Tryz.isAgg34 rfl (H.cell 3 rfl rfl) ?_)
 refine sw (zX Tryz.underlying34 qG s.qg.length qE rfl ?_)
 refine sp (.int .i64 0) ?_
 refine qy (t_n (xE ?_))
 replace H := H.boxRowI 0 [] 0
 try dsimp only [List.set] at H
 refine zW (fun m' ρ w30 => ∃ (junk : Env) (a_out : Option Addr) (Xi : Nat) (c_out : Nat) (out : List Int) (i : Nat), ρ = upd (upd (upd (upd (upd (upd (upd junk 2 (pp b1 0)) 3 (pp b3 0)) 5 (pp b5 0)) 9 (.slice a_out Xi c_out)) 43 (.slice qG s.qg.length qE)) 44 (.int .i64 s.qg.length)) 45 (.int .i64 i) ∧ out = applL s t i ∧ ((i : Int) ≤ s.qg.length) ∧ m' = (s.qg.length - (i : Int)).toNat ∧ Fresh w.heap.size [] ∧ St w w30 [.row (.slice a_out Xi c_out) 2 1 Xi (out.map (Value.int .i64)), .box b5 ((bests s t (-1) 6 k).map (Value.int .i64)) 134, .box b3 [.slice qP t.qh.length qJ, .slice xH t.qp.length xC, .slice qN t.ql.length qM] 38, .box b1 [.int .i64 s.qH, .slice qw s.qf.length qo, .slice qG s.qg.length qE] 36] [isF false qO (.slice qw s.qf.length qo) s.qf, isF false xA (.slice qG s.qg.length qE) s.qg, isF false xO (.slice qP t.qh.length qJ) t.qh, isF false zL (.slice xH t.qp.length xC) t.qp, isF false xI (.slice qN t.ql.length qM) t.ql]) ((s.qg.length - (0 : Int)).toNat) ⟨_, (aa b28 0), 0, 0, ([] : List Int), 0, (by exact qj (qj (qj (qj (qj (qj (qj (rfl) rfl) rfl) rfl) rfl) rfl) rfl) rfl), (by rfl), (by omega), rfl, N, H⟩ ?_
 clear H N
 rintro m' ρ w31 ⟨junk, a_out, Xi, c_out, out, i, rfl, rfl, i0, rfl, N, H⟩
 have hn_out := H.QX 0 rfl
 have ll := applL_le s t i
 refine qm (qB ?_)
 refine sp (.bool (decide ((i : Int) < s.qg.length))) ?_
 refine qy (t_n (qm ?_))
 refine qZ (decide ((i : Int) < s.qg.length)) rfl (fun h32 => ?_) (fun h32 => ?_)
 ·skip
  replace h32 := of_decide_eq_true h32
  have q := p0.rule (i := i) (by omega)
  have qc := q.1
  have qk := q.cell
  have qr := q.2.1
  have q6 : (s.qg[i]!).qA.toNat < 6 := by omega
  refine xx (t_n (qm (xE (qm (qB ?_)))))
  refine sp (.int .i64 i) ?_
  obtain ⟨b33, o34, rfl⟩ := H.addr 1 rfl (by omega)
  obtain ⟨ae36Need, ce36Need, Fe36Need, ae36Have, ce36Have, Fe36Have, ae36Lack, ce36Lack, Fe36Lack, ae36Here, ce36Here, Fe36Here, ae36Out, ce36Out, Fe36Out, ae36Into, ce36Into, Fe36Into, H⟩ := H.yJ 1 rfl i i (by omega) (by omega) (by omega)
  refine sw (xK i Tryz.underlying34 ti110 rfl rfl (by omega) (by omega) ?_)
  refine sw (zi [.int .i64 ((s.qg[i]!).qA), .int .i64 ((s.qg[i]!).xY), .slice ae36Need (((s.qg[i]!).qV).length) ce36Need, .slice ae36Have (((s.qg[i]!).xh).length) ce36Have, .slice ae36Lack (((s.qg[i]!).xk).length) ce36Lack, .slice ae36Here (((s.qg[i]!).xm).length) ce36Here, .slice ae36Out (((s.qg[i]!).zf).length) ce36Out, .slice ae36Into (((s.qg[i]!).qC).length) ce36Into, .bool ((s.qg[i]!).xN)] Tryz.isAgg110 Tryz.sizeOf110 rfl (qI (H.get 6 rfl) 0 9) ?_)
  refine sw (zn H ti110 [.int .i64 0, .int .i64 0, .slice none 0 0, .slice none 0 0, .slice none 0 0, .slice none 0 0, .slice none 0 0, .slice none 0 0, .bool false] fun b37 w38 H => ?_)
  refine sp (.int .i64 i) ?_
  refine sw (xU H 0 [.int .i64 ((s.qg[i]!).qA), .int .i64 ((s.qg[i]!).xY), .slice ae36Need (((s.qg[i]!).qV).length) ce36Need, .slice ae36Have (((s.qg[i]!).xh).length) ce36Have, .slice ae36Lack (((s.qg[i]!).xk).length) ce36Lack, .slice ae36Here (((s.qg[i]!).xm).length) ce36Here, .slice ae36Out (((s.qg[i]!).zf).length) ce36Out, .slice ae36Into (((s.qg[i]!).qC).length) ce36Into, .bool ((s.qg[i]!).xN)] Tryz.sizeOf110 fun w39 H => ?_)
  try dsimp only [List.set] at H
  refine qy (t_n (qm ?_))
  refine yA rfl H fun H => ?_
  refine rt 0 (pp b37 (0 + 1)) (xF b37 (0) 1 Tryz.underlying110 rfl rfl Tryz.sizeOf2 rfl) H ?_
  refine rt 1 (.int .i64 ((s.qg[i]!).xY)) (xw Tryz.isAgg2 rfl (fun _ h => h.cell 0 rfl rfl)) H ?_
  refine rt 2 (pp b37 (0 + 0)) (xF b37 (0) 0 Tryz.underlying110 rfl rfl Tryz.sizeOf2 rfl) H ?_
  refine rt 3 (.int .i64 ((s.qg[i]!).qA)) (xw Tryz.isAgg2 rfl (fun _ h => h.cell 0 rfl rfl)) H ?_
  refine rt 4 (pp b5 (0 + ((s.qg[i]!).qA : Int).toNat * 1)) (y_idxArr b5 (0) 6 ((s.qg[i]!).qA) Tryz.underlying134 ti2 rfl rfl (by omega) (by omega)) H ?_
  refine rt 5 (.int .i64 ((bests s t (-1) 6 k)[((s.qg[i]!).qA).toNat]!)) (xw Tryz.isAgg2 rfl (fun _ h => h.cell 2 rfl (ints_at (iv := (s.qg[i]!).qA) (i := (((s.qg[i]!).qA).toNat)) (by omega) (by simp only [List.length_set, List.length_cons, List.length_nil, minus_len, Q7]; omega)))) H ?_
  refine rtp 6 (.bool (((s.qg[i]!).xY : Int) == ((bests s t (-1) 6 k)[((s.qg[i]!).qA).toNat]!))) H ?_
  refine rtp 7 (.bool (((s.qg[i]!).xY : Int) == ((bests s t (-1) 6 k)[((s.qg[i]!).qA).toNat]!))) H ?_
  cases h41 : (((s.qg[i]!).xY : Int) == ((bests s t (-1) 6 k)[((s.qg[i]!).qA).toNat]!))
  ·skip
   replace h41 := ne_of_beq_false h41
   refine zJ [8, 9, 10, 11] 4 (H) ?_
   refine rtp 12 (.bool false) H ?_
   refine xM (by kernel_rfl) (t_n ?_)
   refine qZ false rfl (fun h => absurd h (by decide)) (fun _ => ?_)
   refine xx (b_n (t_n (qB ?_)))
   refine sw (vw i 1 rfl rfl (by omega) ?_)
   refine sp (.int .i64 (i + 1)) ?_
   refine qy ?_
   refine xG (m' := (s.qg.length - ((i + 1) : Int)).toNat) (by omega) ⟨_, a_out, Xi, c_out, (applL s t i), i + 1, (by exact qj (qj (qj (qj (qj (qj (qj (rfl) rfl) rfl) rfl) rfl) rfl) rfl) rfl), ?_, ?_, rfl, N, H.pick [1, 2, 3, 4] [7, 8, 9, 10, 11]⟩
   · first | exact applL_yes (appl_yes (n := 6) (z := -1) (k := k) (by omega) (by omega) (by omega) q6 ‹_› ‹_›) | exact applL_no (appl_no (n := 6) (z := -1) (k := k) (by omega) (by omega) (by omega) q6 ‹_›) | exact applL_no (fun h => ‹¬ EnOk _ _ _› h.1)
   · omega
  replace h41 := eq_of_beq h41
  refine rg 8 (.agg #[.int .i64 s.qH, .slice qw s.qf.length qo, .slice (aa b33 o34) s.qg.length qE]) 57 (yG (cs := [.int .i64 s.qH, .slice qw s.qf.length qo, .slice (aa b33 o34) s.qg.length qE]) Tryz.isAgg36 Tryz.sizeOf36 rfl (fun _ h => qI (h.cells 4 rfl) 0 3)) H ?_
  refine rg 9 (.agg #[.slice qP t.qh.length qJ, .slice xH t.qp.length xC, .slice qN t.ql.length qM]) 57 (yG (cs := [.slice qP t.qh.length qJ, .slice xH t.qp.length xC, .slice qN t.ql.length qM]) Tryz.isAgg38 Tryz.sizeOf38 rfl (fun _ h => qI (h.cells 3 rfl) 0 3)) H ?_
  refine rg 10 (.agg #[.int .i64 ((s.qg[i]!).qA), .int .i64 ((s.qg[i]!).xY), .slice ae36Need (((s.qg[i]!).qV).length) ce36Need, .slice ae36Have (((s.qg[i]!).xh).length) ce36Have, .slice ae36Lack (((s.qg[i]!).xk).length) ce36Lack, .slice ae36Here (((s.qg[i]!).xm).length) ce36Here, .slice ae36Out (((s.qg[i]!).zf).length) ce36Out, .slice ae36Into (((s.qg[i]!).qC).length) ce36Into, .bool ((s.qg[i]!).xN)]) 57 (yG (cs := [.int .i64 ((s.qg[i]!).qA), .int .i64 ((s.qg[i]!).xY), .slice ae36Need (((s.qg[i]!).qV).length) ce36Need, .slice ae36Have (((s.qg[i]!).xh).length) ce36Have, .slice ae36Lack (((s.qg[i]!).xk).length) ce36Lack, .slice ae36Here (((s.qg[i]!).xm).length) ce36Here, .slice ae36Out (((s.qg[i]!).zf).length) ce36Out, .slice ae36Into (((s.qg[i]!).qC).length) ce36Into, .bool ((s.qg[i]!).xN)]) Tryz.isAgg110 Tryz.sizeOf110 rfl (fun _ h => qI (h.cells 0 rfl) 0 9)) H ?_
  refine xq [11] (by kernel_rfl) (by simp) (r_opG rfl (e := 57) rfl rfl ?_ xu)
  refine xf #[.agg #[.int .i64 s.qH, .slice qw s.qf.length qo, .slice (aa b33 o34) s.qg.length qE], .agg #[.slice qP t.qh.length qJ, .slice xH t.qp.length xC, .slice qN t.ql.length qM], .agg #[.int .i64 ((s.qg[i]!).qA), .int .i64 ((s.qg[i]!).xY), .slice ae36Need (((s.qg[i]!).qV).length) ce36Need, .slice ae36Have (((s.qg[i]!).xh).length) ce36Have, .slice ae36Lack (((s.qg[i]!).xk).length) ce36Lack, .slice ae36Here (((s.qg[i]!).xm).length) ce36Here, .slice ae36Out (((s.qg[i]!).zf).length) ce36Out, .slice ae36Into (((s.qg[i]!).qC).length) ce36Into, .bool ((s.qg[i]!).xN)]] rfl rfl Tryz.call112 (isEnabled_ok w39.drew s t (s.qg[i]!) qw qo qO (aa b33 o34) qE xA qP qJ xO xH xC zL qN qM xI ae36Need ce36Need Fe36Need ae36Have ce36Have Fe36Have ae36Lack ce36Lack Fe36Lack ae36Here ce36Here Fe36Here ae36Out ce36Out Fe36Out ae36Into ce36Into Fe36Into (H.get 7 rfl).1 (H.get 8 rfl).1 (H.get 9 rfl).1 (H.get 10 rfl).1 (H.get 11 rfl).1 (H.get 0 rfl).1 (H.get 1 rfl).1 (H.get 2 rfl).1 (H.get 3 rfl).1 (H.get 4 rfl).1 (H.get 5 rfl).1 (by first | assumption | omega) (by first | assumption | omega) (by first | assumption | omega)) ?_
  rintro _ w43 rfl x44
  replace H := H.ext x44
  refine ⟨H, ?_⟩
  refine rtp 12 (.bool (dec (EnOk s t (s.qg[i]!)))) H ?_
  refine xM (by kernel_rfl) (t_n ?_)
  refine qZ (dec (EnOk s t (s.qg[i]!))) rfl (fun h45 => ?_) (fun h45 => ?_)
  ·skip
   replace h45 := jI h45
   refine qB ?_
   refine sps [.slice a_out Xi c_out, .int .i64 i] ?_
   refine sw (Q4 H Tryz.underlying22 ti2 [.int .i64 i] fun b46 w47 H => ?_)
   refine sw (Q5 H 2 rfl 0 rfl Tryz.underlying22 ti2 rfl (by decide) rfl rfl rfl (by simp [Value.oneCell', Value.cells]) (by unfold maxLen; omega) (by omega) fun a48 c49 w50 H => ?_)
   rw [snocI] at H
   try dsimp only [List.set] at H
   refine sp (.slice a48 (Xi + 1) c49) ?_
   refine qy (b_n (t_n (qB ?_)))
   refine sw (vw i 1 rfl rfl (by omega) ?_)
   refine sp (.int .i64 (i + 1)) ?_
   refine qy ?_
   refine xG (m' := (s.qg.length - ((i + 1) : Int)).toNat) (by omega) ⟨_, a48, Xi + 1, c49, ((applL s t i) ++ [(i : Int)]), i + 1, (by exact qj (qj (qj (qj (qj (qj (qj (rfl) rfl) rfl) rfl) rfl) rfl) rfl) rfl), ?_, ?_, rfl, N, H.pick [2, 3, 4, 5] [7, 8, 9, 10, 11]⟩
   · first | exact applL_yes (appl_yes (n := 6) (z := -1) (k := k) (by omega) (by omega) (by omega) q6 ‹_› ‹_›) | exact applL_no (appl_no (n := 6) (z := -1) (k := k) (by omega) (by omega) (by omega) q6 ‹_›) | exact applL_no (fun h => ‹¬ EnOk _ _ _› h.1)
   · omega
  replace h45 := zg h45
  refine xx (b_n (t_n (qB ?_)))
  refine sw (vw i 1 rfl rfl (by omega) ?_)
  refine sp (.int .i64 (i + 1)) ?_
  refine qy ?_
  refine xG (m' := (s.qg.length - ((i + 1) : Int)).toNat) (by omega) ⟨_, a_out, Xi, c_out, (applL s t i), i + 1, (by exact qj (qj (qj (qj (qj (qj (qj (rfl) rfl) rfl) rfl) rfl) rfl) rfl) rfl), ?_, ?_, rfl, N, H.pick [1, 2, 3, 4] [7, 8, 9, 10, 11]⟩
  · first | exact applL_yes (appl_yes (n := 6) (z := -1) (k := k) (by omega) (by omega) (by omega) q6 ‹_› ‹_›) | exact applL_no (appl_no (n := 6) (z := -1) (k := k) (by omega) (by omega) (by omega) q6 ‹_›) | exact applL_no (fun h => ‹¬ EnOk _ _ _› h.1)
  · omega
 replace h32 := of_decide_eq_false h32
 refine zT (t_x (t_x (b_x (t_n (qm (qB ?_))))))
 refine sps [.slice a_out Xi c_out, .slice a_out Xi c_out] ?_
 refine qy (t_n (xB ?_))
 refine ret1 (.slice a_out Xi c_out) rfl rfl ⟨_, rfl, ?_, H.base⟩
 obtain rfl : i = s.qg.length := by omega
 exact ⟨a_out, Xi, c_out, rfl, N, H.pick [0] []⟩

end Go.Proofs.YtkmlihdacnfhdaaGreat
