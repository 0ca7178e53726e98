/- Walks, printed by program (wip/tools/gv.py): what each function comes to, for all arguments. -/
import Derived.Test.YtkmlihdacnfhdaaGreatG12
import Derived.Test.YtkmlihdacnfhdaaGreatG7
namespace Go.Proofs.YtkmlihdacnfhdaaGreat
open Go.Proofs.YtkmlihdacnfhdaaGreat.Tot (tot)
open Go.Proofs.YtkmlihdacnfhdaaGreat.Mark (cnt mrk mkd mkd_mark cnt_mark)
open Go.RowKit
set_option linter.unusedVariables false
set_option linter.unusedSimpArgs false
set_option maxRecDepth 100000
set_option maxHeartbeats 4000000

theorem ti134 : TI Tryz.prog 134 (.agg #[.int .i64 0, .int .i64 0, .int .i64 0, .int .i64 0, .int .i64 0, .int .i64 0]) 6 48 := by unfold TI; kernel_rfl


theorem isEnabled_ok (w : World) (s : qX) (t : qU) (r : QG) (qw : Option Addr) (qo : Nat) (qO : List Nat) (qF : Option Addr) (qB : Nat) (xw : List Nat) (qM : Option Addr) (qI : Nat) (xJ : List Nat) (xF : Option Addr) (xn : Nat) (zq : List Nat) (qL : Option Addr) (qK : Nat) (xI : List Nat) (vN : Option Addr) (vK : Nat) (QZ : List Nat) (jC : Option Addr) (jB : Nat) (Xz : List Nat) (vZ : Option Addr) (vY : Nat) (Xg : List Nat) (jP : Option Addr) (jO : Nat) (XM : List Nat) (Qy : Option Addr) (Qx : Nat) (FrOut : List Nat) (vw : Option Addr) (zN : Nat) (FrInto : List Nat) (xx : qV.rep w qO [.slice qw s.qf.length qo] s.qf) (xM : qV.rep w xw [.slice qF s.qg.length qB] s.qg) (zo : qV.rep w xJ [.slice qM t.qh.length qI] t.qh) (zY : qV.rep w zq [.slice xF t.qp.length xn] t.qp) (xW : qV.rep w xI [.slice qL t.ql.length qK] t.ql) (hrNeed : qV.rep w QZ [.slice vN r.qR.length vK] r.qR) (hrHave : qV.rep w Xz [.slice jC r.xh.length jB] r.xh) (hrLack : qV.rep w Xg [.slice vZ r.xm.length vY] r.xm) (hrHere : qV.rep w XM [.slice jP r.xB.length jO] r.xB) (hrOut : qV.rep w FrOut [.slice Qy r.zk.length Qx] r.zk) (hrInto : qV.rep w FrInto [.slice vw r.qC.length zN] r.qC) (p0 : yI s) (p1 : zu s t) (p2 : RuleOk s r) : Calls Tryz.prog 112 #[.agg #[.int .i64 s.qJ, .slice qw s.qf.length qo, .slice qF s.qg.length qB], .agg #[.slice qM t.qh.length qI, .slice xF t.qp.length xn, .slice qL t.ql.length qK], .agg #[.int .i64 r.qy, .int .i64 r.zh, .slice vN r.qR.length vK, .slice jC r.xh.length jB, .slice vZ r.xm.length vY, .slice jP r.xB.length jO, .slice Qy r.zk.length Qx, .slice vw r.qC.length zN, .bool r.xQ]] w (Ret (fun v w' => v = .bool (dec (EnOk s t r))) w) := by
 refine enter (n := 50) Tryz.func112 rfl Tryz.ntmps112 (Nat.le_of_ble_eq_true rfl) ?_
 have H := (((((((((((St.start w).arg hrInto).arg hrOut).arg hrHere).arg hrLack).arg hrHave).arg hrNeed).arg xW).arg zY).arg zo).arg xM).arg xx
 have vU := qN xx
 have jW := qN xM
 have QB := qN zo
 have Xn := qN zY
 have yT := qN xW
 have nhrNeed := qN hrNeed
 have nhrHave := qN hrHave
 have nhrLack := qN hrLack
 have nhrHere := qN hrHere
 have nhrOut := qN hrOut
 have nhrInto := qN hrInto
 clear xx xM zo zY xW hrNeed hrHave hrLack hrHere hrOut hrInto
 have N := Fresh.nil w.heap.size
 have p3 := p2.1
 have p4 := p1.1
 have p5 := p1.2.1
 have p6 := (p1.bagLen (k := r.qy.toNat) (by omega)).len
 have p7 := p2.2.2.2.2.1.len
 have p8 := p2.2.2.2.2.2.1.len
 have p9 := p2.2.2.2.2.2.2.1.len
 have p10 := jK p2.2.2.2.2.2.2.1
 have p11 := p0.1
 have p12 := p2.2.2.2.2.2.2.2.2.2.2
 have p13 := kinds_le p0
 refine qm (qA ?_)
 refine sw (yN H [.int .i64 s.qJ, .slice qw s.qf.length qo, .slice qF s.qg.length qB] fun b1 w2 H => ?_)
 refine sw (yN H [.slice qM t.qh.length qI, .slice xF t.qp.length xn, .slice qL t.ql.length qK] fun b3 w4 H => ?_)
 refine sw (yN H [.int .i64 r.qy, .int .i64 r.zh, .slice vN r.qR.length vK, .slice jC r.xh.length jB, .slice vZ r.xm.length vY, .slice jP r.xB.length jO, .slice Qy r.zk.length Qx, .slice vw r.qC.length zN, .bool r.xQ] fun b5 w6 H => ?_)
 refine sp (.bool false) ?_
 refine qx (t_n (qm (qm (qA ?_))))
 refine sw (qP b3 (0) 0 Tryz.underlying38 rfl rfl Tryz.sizeOf26 rfl ?_)
 refine sw (qE (.slice qM t.qh.length qI) Tryz.isAgg26 rfl (H.cell 1 rfl rfl) ?_)
 refine sw (qP b5 (0) 0 Tryz.underlying110 rfl rfl Tryz.sizeOf2 rfl ?_)
 refine sw (qE (.int .i64 r.qy) Tryz.isAgg2 rfl (H.cell 0 rfl rfl) ?_)
 obtain ⟨b7, o8, rfl⟩ := H.addr 2 rfl (by omega)
 refine sw (xK r.qy Tryz.underlying26 ti4 rfl rfl (by omega) (by omega) ?_)
 refine sw (qE (.bool (t.qh[r.qy.toNat]!)) Tryz.isAgg4 rfl (H.Q7 2 rfl r.qy (by omega) (by omega)) ?_)
 refine sp (.bool (!(t.qh[r.qy.toNat]!))) ?_
 refine qx (t_n ?_)
 refine qW (!(t.qh[r.qy.toNat]!)) rfl (fun h10 => ?_) (fun h10 => ?_)
 ·skip
  replace h10 := xg h10
  refine qm (qA ?_)
  refine sp (.bool false) ?_
  refine qx (t_n (xC (t_r ?_)))
  refine ret1 (.bool false) rfl rfl ⟨_, rfl, ?_, H.base⟩
  rw [xy (fun h => by obtain ⟨h1, h2, h3, h4, h5⟩ := h; first | exact ft h1 ‹_› | exact ft h2 ‹_› | exact ft h3 ‹_› | exact h4 ⟨‹_›, ‹_›⟩ | (obtain ⟨q1, q2⟩ := h5 i (by omega); first | exact ft q1 ‹_› | exact absurd q2 ‹_›))]
 replace h10 := qY h10
 refine xk (t_n (qm (qA ?_)))
 refine sw (qP b3 (0) 1 Tryz.underlying38 rfl rfl Tryz.sizeOf27 rfl ?_)
 refine sw (qE (.slice xF t.qp.length xn) Tryz.isAgg27 rfl (H.cell 1 rfl rfl) ?_)
 refine sw (qP b5 (0) 0 Tryz.underlying110 rfl rfl Tryz.sizeOf2 rfl ?_)
 refine sw (qE (.int .i64 r.qy) Tryz.isAgg2 rfl (H.cell 0 rfl rfl) ?_)
 obtain ⟨b11, o12, rfl⟩ := H.addr 3 rfl (by omega)
 obtain ⟨ae14, ce14, Fe14, H⟩ := H.yH 3 rfl r.qy r.qy.toNat (by omega) (by omega) (by omega)
 refine sw (xK r.qy Tryz.underlying27 ti22 rfl rfl (by omega) (by omega) ?_)
 refine sw (qE (.slice ae14 ((t.qp[r.qy.toNat]!).length) ce14) Tryz.isAgg22 rfl (H.xY 1 rfl 0 rfl) ?_)
 refine sp (.slice ae14 ((t.qp[r.qy.toNat]!).length) ce14) ?_
 refine qx (t_n (qm (qm (qA ?_))))
 refine sw (qP b5 (0) 2 Tryz.underlying110 rfl rfl Tryz.sizeOf22 rfl ?_)
 refine sw (qE (.slice vN r.qR.length vK) Tryz.isAgg22 rfl (H.cell 0 rfl rfl) ?_)
 refine sp (.slice ae14 ((t.qp[r.qy.toNat]!).length) ce14) ?_
 refine sw (qZ #[.slice vN r.qR.length vK, .slice ae14 ((t.qp[r.qy.toNat]!).length) ce14] rfl rfl Tryz.call128 (isWithin_ok w6 r.qR (t.qp[r.qy.toNat]!) vN vK QZ ae14 ce14 Fe14 (H.get 7 rfl).1 (H.get 0 rfl).1 (by first | assumption | omega) (by first | assumption | omega)) ?_)
 rintro _ w15 rfl x16
 replace H := H.ext x16
 refine sps [.bool (!(within r.qR (t.qp[r.qy.toNat]!))), .bool (!(within r.qR (t.qp[r.qy.toNat]!)))] ?_
 cases h17 : (!(within r.qR (t.qp[r.qy.toNat]!)))
 ·skip
  replace h17 := qY h17
  refine qQ 26 rfl rfl ?_
  refine sw (qP b5 (0) 3 Tryz.underlying110 rfl rfl Tryz.sizeOf22 rfl ?_)
  refine qQ 26 rfl rfl ?_
  refine sw (qE (.slice jC r.xh.length jB) Tryz.isAgg22 rfl (H.cell 0 rfl rfl) ?_)
  refine qQ 26 rfl rfl ?_
  refine sp (.slice ae14 ((t.qp[r.qy.toNat]!).length) ce14) ?_
  refine qQ 26 rfl rfl ?_
  refine sw (qZ #[.slice jC r.xh.length jB, .slice ae14 ((t.qp[r.qy.toNat]!).length) ce14] rfl rfl Tryz.call128 (isWithin_ok w15 r.xh (t.qp[r.qy.toNat]!) jC jB Xz ae14 ce14 Fe14 (H.get 8 rfl).1 (H.get 0 rfl).1 (by first | assumption | omega) (by first | assumption | omega)) ?_)
  rintro _ w18 rfl x19
  replace H := H.ext x19
  refine qQ 26 rfl rfl ?_
  refine sps [.bool (!(within r.xh (t.qp[r.qy.toNat]!))), .bool (!(within r.xh (t.qp[r.qy.toNat]!))), .bool (!(within r.xh (t.qp[r.qy.toNat]!)))] ?_
  cases h20 : (!(within r.xh (t.qp[r.qy.toNat]!)))
  ·skip
   replace h20 := qY h20
   refine qQ 33 rfl rfl ?_
   refine sw (qP b5 (0) 4 Tryz.underlying110 rfl rfl Tryz.sizeOf22 rfl ?_)
   refine qQ 33 rfl rfl ?_
   refine sw (qE (.slice vZ r.xm.length vY) Tryz.isAgg22 rfl (H.cell 0 rfl rfl) ?_)
   refine qQ 33 rfl rfl ?_
   refine sw (qZ #[.slice vZ r.xm.length vY] rfl rfl Tryz.call124 (bagSize_ok w18 r.xm vZ vY Xg (H.get 9 rfl).1 (by first | assumption | exact jK (by assumption) | exact Xf (by assumption))) ?_)
   rintro _ w21 rfl x22
   replace H := H.ext x22
   refine qQ 33 rfl rfl ?_
   refine sp (.bool (decide ((sumL r.xm : Int) > 0))) ?_
   refine qQ 33 rfl rfl ?_
   refine sp (.bool (decide ((sumL r.xm : Int) > 0))) ?_
   cases h23 : (decide ((sumL r.xm : Int) > 0))
   ·skip
    replace h23 := of_decide_eq_false h23
    refine zf [39, 40, 41, 42] ?_
    refine qQ 33 rfl rfl ?_
    refine sps [.bool false, .bool false] ?_
    refine qx (t_n ?_)
    refine qW false rfl (fun h => absurd h (by decide)) (fun _ => ?_)
    refine xk (t_n (qm (qA ?_)))
    refine sw (qP b5 (0) 7 Tryz.underlying110 rfl rfl Tryz.sizeOf108 rfl ?_)
    refine sw (qE (.slice vw r.qC.length zN) Tryz.isAgg108 rfl (H.cell 0 rfl rfl) ?_)
    refine sp (.func (.func 150) #[] #[pp b3 0, pp b1 0, pp b5 0]) ?_
    refine sw (yS #[.slice vw r.qC.length zN, .func (.func 150) #[] #[pp b3 0, pp b1 0, pp b5 0]] rfl rfl Tryz.call149 ?_)
    refine enter (n := 9) Tryz.func149 rfl Tryz.ntmps149 (Nat.le_of_ble_eq_true rfl) ?_
    refine qm (qA ?_)
    refine sp (.bool false) ?_
    refine qx (t_n (qm (qA ?_)))
    refine sps [.slice vw r.qC.length zN, .func (.func 150) #[] #[pp b3 0, pp b1 0, pp b5 0]] ?_
    refine sw (yS #[.slice vw r.qC.length zN, .func (.func 150) #[] #[pp b3 0, pp b1 0, pp b5 0]] rfl rfl Tryz.call163 ?_)
    refine enter (n := 19) Tryz.func163 rfl Tryz.ntmps163 (Nat.le_of_ble_eq_true rfl) ?_
    refine qm (qA ?_)
    refine sp (.int .i64 0) ?_
    refine qx (t_n (qm (qm (qA ?_))))
    refine sp (.slice vw r.qC.length zN) ?_
    refine sw (zX Tryz.underlying108 vw r.qC.length zN rfl ?_)
    refine sp (.int .i64 0) ?_
    refine qx (t_n (xE ?_))
    refine zU (fun m' ρ w24 => ∃ (junk : Env) (i : Nat), ρ = upd (upd (upd (upd junk 0 (.slice vw r.qC.length zN)) 1 (.func (.func 150) #[] #[pp b3 0, pp b1 0, pp b5 0])) 7 (.int .i64 r.qC.length)) 8 (.int .i64 i) ∧ ((i : Int) ≤ r.qC.length) ∧ (IntoUp s t r i) ∧ m' = (r.qC.length - (i : Int)).toNat ∧ Fresh w.heap.size [] ∧ St w w24 [.box b5 [.int .i64 r.qy, .int .i64 r.zh, .slice vN r.qR.length vK, .slice jC r.xh.length jB, .slice vZ r.xm.length vY, .slice jP r.xB.length jO, .slice Qy r.zk.length Qx, .slice vw r.qC.length zN, .bool r.xQ] 110, .box b3 [.slice (aa b7 o8) t.qh.length qI, .slice (aa b11 o12) t.qp.length xn, .slice qL t.ql.length qK] 38, .box b1 [.int .i64 s.qJ, .slice qw s.qf.length qo, .slice qF s.qg.length qB] 36] [isF false Fe14 (.slice ae14 ((t.qp[r.qy.toNat]!).length) ce14) (t.qp[r.qy.toNat]!), atF b11 (o12 + (r.qy : Int).toNat * 1) [.slice ae14 ((t.qp[r.qy.toNat]!).length) ce14], isF false qO (.slice qw s.qf.length qo) s.qf, isF false xw (.slice qF s.qg.length qB) s.qg, isF false xJ (.slice (aa b7 o8) t.qh.length qI) t.qh, isF false zq (.slice (aa b11 o12) t.qp.length xn) t.qp, isF false xI (.slice qL t.ql.length qK) t.ql, isF false QZ (.slice vN r.qR.length vK) r.qR, isF false Xz (.slice jC r.xh.length jB) r.xh, isF false Xg (.slice vZ r.xm.length vY) r.xm, isF false XM (.slice jP r.xB.length jO) r.xB, isF false FrOut (.slice Qy r.zk.length Qx) r.zk, isF false FrInto (.slice vw r.qC.length zN) r.qC]) ((r.qC.length - (0 : Int)).toNat) ⟨_, 0, (by exact qj (qj (qj (qj (rfl) rfl) rfl) rfl) rfl), (by omega), (by exact fun j hj => by omega), rfl, N, H⟩ ?_
    clear H N
    rintro m' ρ w25 ⟨junk, i, rfl, i0, i1, rfl, N, H⟩
    refine qm (qA ?_)
    refine sp (.bool (decide ((i : Int) < r.qC.length))) ?_
    refine qx (t_n (qm ?_))
    refine qW (decide ((i : Int) < r.qC.length)) rfl (fun h26 => ?_) (fun h26 => ?_)
    ·skip
     replace h26 := of_decide_eq_true h26
     have q := (p12 i (by omega)).1
     have q1 := q.1
     have q2 := q.2
     refine xk (t_n (qm (xE (qm (qA ?_)))))
     refine sps [.int .i64 i, .int .i64 i] ?_
     refine qx (t_n (qm (qA ?_)))
     refine sps [.func (.func 150) #[] #[pp b3 0, pp b1 0, pp b5 0], .slice vw r.qC.length zN, .int .i64 i] ?_
     obtain ⟨b27, o28, rfl⟩ := H.addr 12 rfl (by omega)
     obtain ⟨ae30Bag, ce30Bag, Fe30Bag, H⟩ := H.jT 12 rfl i i (by omega) (by omega) (by omega)
     refine sw (xK i Tryz.underlying108 ti115 rfl rfl (by omega) (by omega) ?_)
     refine sw (zg [.int .i64 ((r.qC[i]!).qy), .slice ae30Bag (((r.qC[i]!).vH).length) ce30Bag] Tryz.isAgg115 Tryz.sizeOf115 rfl (qH (H.get 1 rfl) 0 2) ?_)
     refine sw (yS #[.agg #[.int .i64 ((r.qC[i]!).qy), .slice ae30Bag (((r.qC[i]!).vH).length) ce30Bag], pp b3 0, pp b1 0, pp b5 0] rfl rfl Tryz.call150 ?_)
     refine enter (n := 23) Tryz.func150 rfl Tryz.ntmps150 (Nat.le_of_ble_eq_true rfl) ?_
     refine qm (qA ?_)
     refine sw (yN H [.int .i64 ((r.qC[i]!).qy), .slice ae30Bag (((r.qC[i]!).vH).length) ce30Bag] fun b31 w32 H => ?_)
     refine sp (.bool false) ?_
     refine qx (t_n (qm ?_))
     refine yw rfl H fun H => ?_
     refine rt 0 (pp b3 (0 + 0)) (xG b3 (0) 0 Tryz.underlying38 rfl rfl Tryz.sizeOf26 rfl) H ?_
     refine rt 1 (.slice (aa b7 o8) t.qh.length qI) (xA Tryz.isAgg26 rfl (fun _ h => h.cell 2 rfl rfl)) H ?_
     refine rt 2 (pp b31 (0 + 0)) (xG b31 (0) 0 Tryz.underlying115 rfl rfl Tryz.sizeOf2 rfl) H ?_
     refine rt 3 (.int .i64 ((r.qC[i]!).qy)) (xA Tryz.isAgg2 rfl (fun _ h => h.cell 0 rfl rfl)) H ?_
     refine rt 4 (pp b7 (o8 + ((r.qC[i]!).qy : Int).toNat * 1)) (xO b7 (o8) t.qh.length qI ((r.qC[i]!).qy) Tryz.underlying26 ti4 rfl rfl (by omega) (by omega)) H ?_
     refine rt 5 (.bool (t.qh[((r.qC[i]!).qy).toNat]!)) (xA Tryz.isAgg4 rfl (fun _ h => h.Q7 6 rfl ((r.qC[i]!).qy) (by omega) (by omega))) H ?_
     refine rtp 6 (.bool (!(t.qh[((r.qC[i]!).qy).toNat]!))) H ?_
     refine rtp 7 (.bool (!(t.qh[((r.qC[i]!).qy).toNat]!))) H ?_
     cases h34 : (!(t.qh[((r.qC[i]!).qy).toNat]!))
     ·skip
      replace h34 := qY h34
      refine rg 8 (.agg #[.int .i64 s.qJ, .slice qw s.qf.length qo, .slice qF s.qg.length qB]) 13 (Qp (cs := [.int .i64 s.qJ, .slice qw s.qf.length qo, .slice qF s.qg.length qB]) Tryz.isAgg36 Tryz.sizeOf36 rfl (fun _ h => qH (h.cells 3 rfl) 0 3)) H ?_
      refine rg 9 (.agg #[.slice (aa b7 o8) t.qh.length qI, .slice (aa b11 o12) t.qp.length xn, .slice qL t.ql.length qK]) 13 (Qp (cs := [.slice (aa b7 o8) t.qh.length qI, .slice (aa b11 o12) t.qp.length xn, .slice qL t.ql.length qK]) Tryz.isAgg38 Tryz.sizeOf38 rfl (fun _ h => qH (h.cells 2 rfl) 0 3)) H ?_
      refine rg 10 (pp b31 (0 + 0)) 13 (xG b31 (0) 0 Tryz.underlying115 rfl rfl Tryz.sizeOf2 rfl) H ?_
      refine rg 11 (.int .i64 ((r.qC[i]!).qy)) 13 (xA Tryz.isAgg2 rfl (fun _ h => h.cell 0 rfl rfl)) H ?_
      refine rg 13 (pp b5 (0 + 0)) 13 (xG b5 (0) 0 Tryz.underlying110 rfl rfl Tryz.sizeOf2 rfl) H ?_
      refine rg 14 (.int .i64 r.qy) 13 (xA Tryz.isAgg2 rfl (fun _ h => h.cell 1 rfl rfl)) H ?_
      refine xq [12] (by kernel_rfl) (by simp) (Xp rfl (e := 13) rfl rfl ?_ xu)
      refine qZ #[.agg #[.int .i64 s.qJ, .slice qw s.qf.length qo, .slice qF s.qg.length qB], .agg #[.slice (aa b7 o8) t.qh.length qI, .slice (aa b11 o12) t.qp.length xn, .slice qL t.ql.length qK], .int .i64 ((r.qC[i]!).qy)] rfl rfl Tryz.call144 (parentNow_ok w32.drew s t ((r.qC[i]!).qy) qw qo qO qF qB xw (aa b7 o8) qI xJ (aa b11 o12) xn zq qL qK xI (H.get 4 rfl).1 (H.get 5 rfl).1 (H.get 6 rfl).1 (H.get 7 rfl).1 (H.get 8 rfl).1 (by first | assumption | omega) (by first | assumption | omega) (by first | assumption | omega)) ?_
      rintro _ w36 rfl x37
      replace H := H.ext x37
      refine ⟨H, ?_⟩
      refine rgp 15 (.bool ((xf s t ((r.qC[i]!).qy) : Int) != r.qy)) 13 H ?_
      refine rtp 16 (.bool ((xf s t ((r.qC[i]!).qy) : Int) != r.qy)) H ?_
      refine rtp 17 (.bool ((xf s t ((r.qC[i]!).qy) : Int) != r.qy)) H ?_
      refine xN (by kernel_rfl) (t_n ?_)
      refine xC ?_
      refine ret1 (.bool ((xf s t ((r.qC[i]!).qy) : Int) != r.qy)) rfl rfl ⟨_, rfl, ?_⟩
      replace H := H.erases [0]
      dsimp only [yV, List.eraseIdx] at H
      refine qx (t_n ?_)
      refine qW ((xf s t ((r.qC[i]!).qy) : Int) != r.qy) rfl (fun h38 => ?_) (fun h38 => ?_)
      ·skip
       replace h38 := bne_iff_ne.1 h38
       refine qm (qA ?_)
       refine sps [.int .i64 i, .int .i64 i] ?_
       refine qx (t_n (xC (b_r (t_r (t_r (b_r (t_r ?_)))))))
       refine ret1 (.int .i64 i) rfl rfl ⟨_, rfl, ?_⟩
       refine sw (o_pure (.bool true) (by show some (Value.bool (decide ((i : Int) ≥ 0))) = some (Value.bool true); rw [decide_eq_true (by omega)]) ?_)
       refine sp (.bool true) ?_
       refine qx (t_n (xC ?_))
       refine ret1 (.bool true) rfl rfl ⟨_, rfl, ?_⟩
       refine sps [.bool false, .bool false] ?_
       refine qx (t_n (xC ?_))
       refine ret1 (.bool false) rfl rfl ⟨_, rfl, ?_, H.base⟩
       rw [xy (fun h => by obtain ⟨h1, h2, h3, h4, h5⟩ := h; first | exact ft h1 ‹_› | exact ft h2 ‹_› | exact ft h3 ‹_› | exact h4 ⟨‹_›, ‹_›⟩ | (obtain ⟨q1, q2⟩ := h5 i (by omega); first | exact ft q1 ‹_› | exact absurd q2 ‹_›))]
      replace h38 := xR h38
      refine xk (b_n (t_n (qA ?_)))
      refine sw (zZ i 1 rfl rfl (by omega) ?_)
      refine sp (.int .i64 (i + 1)) ?_
      refine qx ?_
      refine xH (m' := (r.qC.length - ((i + 1) : Int)).toNat) (by omega) ⟨_, i + 1, (by exact qj (qj (qj (qj (rfl) rfl) rfl) rfl) rfl), ?_, ?_, rfl, N, H.pick [0, 1, 2] [2, 3, 4, 5, 6, 7, 8, 9, 10, 11, 12, 13, 14]⟩
      · omega
      · exact i1.succ ‹_› ‹_›
     replace h34 := xg h34
     refine zT [8, 9, 10, 11, 12, 13, 14, 15] 8 (H) ?_
     refine rtp 16 (.bool true) H ?_
     refine rtp 17 (.bool true) H ?_
     refine xN (by kernel_rfl) (t_n ?_)
     refine xC ?_
     refine ret1 (.bool true) rfl rfl ⟨_, rfl, ?_⟩
     replace H := H.erases [0]
     dsimp only [yV, List.eraseIdx] at H
     refine qx (t_n ?_)
     refine qW true rfl (fun _ => ?_) (fun h => absurd h (by decide))
     refine qm (qA ?_)
     refine sps [.int .i64 i, .int .i64 i] ?_
     refine qx (t_n (xC (b_r (t_r (t_r (b_r (t_r ?_)))))))
     refine ret1 (.int .i64 i) rfl rfl ⟨_, rfl, ?_⟩
     refine sw (o_pure (.bool true) (by show some (Value.bool (decide ((i : Int) ≥ 0))) = some (Value.bool true); rw [decide_eq_true (by omega)]) ?_)
     refine sp (.bool true) ?_
     refine qx (t_n (xC ?_))
     refine ret1 (.bool true) rfl rfl ⟨_, rfl, ?_⟩
     refine sps [.bool false, .bool false] ?_
     refine qx (t_n (xC ?_))
     refine ret1 (.bool false) rfl rfl ⟨_, rfl, ?_, H.base⟩
     rw [xy (fun h => by obtain ⟨h1, h2, h3, h4, h5⟩ := h; first | exact ft h1 ‹_› | exact ft h2 ‹_› | exact ft h3 ‹_› | exact h4 ⟨‹_›, ‹_›⟩ | (obtain ⟨q1, q2⟩ := h5 i (by omega); first | exact ft q1 ‹_› | exact absurd q2 ‹_›))]
    replace h26 := of_decide_eq_false h26
    refine zK (t_x (t_x (b_x (t_n (qm (qA ?_))))))
    refine sp (.int .i64 (-1)) ?_
    refine qx (t_n (xC ?_))
    refine ret1 (.int .i64 (-1)) rfl rfl ⟨_, rfl, ?_⟩
    refine sps [.bool false, .bool false] ?_
    refine qx (t_n (xC ?_))
    refine ret1 (.bool false) rfl rfl ⟨_, rfl, ?_⟩
    refine sps [.bool true, .bool true] ?_
    refine qx (t_n (xC ?_))
    refine ret1 (.bool true) rfl rfl ⟨_, rfl, ?_, H.base⟩
    rw [yP ⟨by assumption, by assumption, by assumption, fun ⟨u, v⟩ => by first | omega | exact ft v ‹_›, (show i = r.qC.length by omega) ▸ i1⟩]
   replace h23 := of_decide_eq_true h23
   refine qQ 38 rfl rfl ?_
   refine sw (qP b5 (0) 4 Tryz.underlying110 rfl rfl Tryz.sizeOf22 rfl ?_)
   refine qQ 38 rfl rfl ?_
   refine sw (qE (.slice vZ r.xm.length vY) Tryz.isAgg22 rfl (H.cell 0 rfl rfl) ?_)
   refine qQ 38 rfl rfl ?_
   refine sp (.slice ae14 ((t.qp[r.qy.toNat]!).length) ce14) ?_
   refine qQ 38 rfl rfl ?_
   refine sw (qZ #[.slice vZ r.xm.length vY, .slice ae14 ((t.qp[r.qy.toNat]!).length) ce14] rfl rfl Tryz.call128 (isWithin_ok w21 r.xm (t.qp[r.qy.toNat]!) vZ vY Xg ae14 ce14 Fe14 (H.get 9 rfl).1 (H.get 0 rfl).1 (by first | assumption | omega) (by first | assumption | omega)) ?_)
   rintro _ w39 rfl x40
   replace H := H.ext x40
   refine qQ 33 rfl rfl ?_
   refine sps [.bool (within r.xm (t.qp[r.qy.toNat]!)), .bool (within r.xm (t.qp[r.qy.toNat]!))] ?_
   refine qx (t_n ?_)
   refine qW (within r.xm (t.qp[r.qy.toNat]!)) rfl (fun h41 => ?_) (fun h41 => ?_)
   ·skip
    refine qm (qA ?_)
    refine sp (.bool false) ?_
    refine qx (t_n (xC (t_r ?_)))
    refine ret1 (.bool false) rfl rfl ⟨_, rfl, ?_, H.base⟩
    rw [xy (fun h => by obtain ⟨h1, h2, h3, h4, h5⟩ := h; first | exact ft h1 ‹_› | exact ft h2 ‹_› | exact ft h3 ‹_› | exact h4 ⟨‹_›, ‹_›⟩ | (obtain ⟨q1, q2⟩ := h5 i (by omega); first | exact ft q1 ‹_› | exact absurd q2 ‹_›))]
   refine xk (t_n (qm (qA ?_)))
   refine sw (qP b5 (0) 7 Tryz.underlying110 rfl rfl Tryz.sizeOf108 rfl ?_)
   refine sw (qE (.slice vw r.qC.length zN) Tryz.isAgg108 rfl (H.cell 0 rfl rfl) ?_)
   refine sp (.func (.func 150) #[] #[pp b3 0, pp b1 0, pp b5 0]) ?_
   refine sw (yS #[.slice vw r.qC.length zN, .func (.func 150) #[] #[pp b3 0, pp b1 0, pp b5 0]] rfl rfl Tryz.call149 ?_)
   refine enter (n := 9) Tryz.func149 rfl Tryz.ntmps149 (Nat.le_of_ble_eq_true rfl) ?_
   refine qm (qA ?_)
   refine sp (.bool false) ?_
   refine qx (t_n (qm (qA ?_)))
   refine sps [.slice vw r.qC.length zN, .func (.func 150) #[] #[pp b3 0, pp b1 0, pp b5 0]] ?_
   refine sw (yS #[.slice vw r.qC.length zN, .func (.func 150) #[] #[pp b3 0, pp b1 0, pp b5 0]] rfl rfl Tryz.call163 ?_)
   refine enter (n := 19) Tryz.func163 rfl Tryz.ntmps163 (Nat.le_of_ble_eq_true rfl) ?_
   refine qm (qA ?_)
   refine sp (.int .i64 0) ?_
   refine qx (t_n (qm (qm (qA ?_))))
   refine sp (.slice vw r.qC.length zN) ?_
   refine sw (zX Tryz.underlying108 vw r.qC.length zN rfl ?_)
   refine sp (.int .i64 0) ?_
   refine qx (t_n (xE ?_))
   refine zU (fun m' ρ w42 => ∃ (junk : Env) (i : Nat), ρ = upd (upd (upd (upd junk 0 (.slice vw r.qC.length zN)) 1 (.func (.func 150) #[] #[pp b3 0, pp b1 0, pp b5 0])) 7 (.int .i64 r.qC.length)) 8 (.int .i64 i) ∧ ((i : Int) ≤ r.qC.length) ∧ (IntoUp s t r i) ∧ m' = (r.qC.length - (i : Int)).toNat ∧ Fresh w.heap.size [] ∧ St w w42 [.box b5 [.int .i64 r.qy, .int .i64 r.zh, .slice vN r.qR.length vK, .slice jC r.xh.length jB, .slice vZ r.xm.length vY, .slice jP r.xB.length jO, .slice Qy r.zk.length Qx, .slice vw r.qC.length zN, .bool r.xQ] 110, .box b3 [.slice (aa b7 o8) t.qh.length qI, .slice (aa b11 o12) t.qp.length xn, .slice qL t.ql.length qK] 38, .box b1 [.int .i64 s.qJ, .slice qw s.qf.length qo, .slice qF s.qg.length qB] 36] [isF false Fe14 (.slice ae14 ((t.qp[r.qy.toNat]!).length) ce14) (t.qp[r.qy.toNat]!), atF b11 (o12 + (r.qy : Int).toNat * 1) [.slice ae14 ((t.qp[r.qy.toNat]!).length) ce14], isF false qO (.slice qw s.qf.length qo) s.qf, isF false xw (.slice qF s.qg.length qB) s.qg, isF false xJ (.slice (aa b7 o8) t.qh.length qI) t.qh, isF false zq (.slice (aa b11 o12) t.qp.length xn) t.qp, isF false xI (.slice qL t.ql.length qK) t.ql, isF false QZ (.slice vN r.qR.length vK) r.qR, isF false Xz (.slice jC r.xh.length jB) r.xh, isF false Xg (.slice vZ r.xm.length vY) r.xm, isF false XM (.slice jP r.xB.length jO) r.xB, isF false FrOut (.slice Qy r.zk.length Qx) r.zk, isF false FrInto (.slice vw r.qC.length zN) r.qC]) ((r.qC.length - (0 : Int)).toNat) ⟨_, 0, (by exact qj (qj (qj (qj (rfl) rfl) rfl) rfl) rfl), (by omega), (by exact fun j hj => by omega), rfl, N, H⟩ ?_
   clear H N
   rintro m' ρ w43 ⟨junk, i, rfl, i0, i1, rfl, N, H⟩
   refine qm (qA ?_)
   refine sp (.bool (decide ((i : Int) < r.qC.length))) ?_
   refine qx (t_n (qm ?_))
   refine qW (decide ((i : Int) < r.qC.length)) rfl (fun h44 => ?_) (fun h44 => ?_)
   ·skip
    replace h44 := of_decide_eq_true h44
    have q := (p12 i (by omega)).1
    have q1 := q.1
    have q2 := q.2
    refine xk (t_n (qm (xE (qm (qA ?_)))))
    refine sps [.int .i64 i, .int .i64 i] ?_
    refine qx (t_n (qm (qA ?_)))
    refine sps [.func (.func 150) #[] #[pp b3 0, pp b1 0, pp b5 0], .slice vw r.qC.length zN, .int .i64 i] ?_
    obtain ⟨b45, o46, rfl⟩ := H.addr 12 rfl (by omega)
    obtain ⟨ae48Bag, ce48Bag, Fe48Bag, H⟩ := H.jT 12 rfl i i (by omega) (by omega) (by omega)
    refine sw (xK i Tryz.underlying108 ti115 rfl rfl (by omega) (by omega) ?_)
    refine sw (zg [.int .i64 ((r.qC[i]!).qy), .slice ae48Bag (((r.qC[i]!).vH).length) ce48Bag] Tryz.isAgg115 Tryz.sizeOf115 rfl (qH (H.get 1 rfl) 0 2) ?_)
    refine sw (yS #[.agg #[.int .i64 ((r.qC[i]!).qy), .slice ae48Bag (((r.qC[i]!).vH).length) ce48Bag], pp b3 0, pp b1 0, pp b5 0] rfl rfl Tryz.call150 ?_)
    refine enter (n := 23) Tryz.func150 rfl Tryz.ntmps150 (Nat.le_of_ble_eq_true rfl) ?_
    refine qm (qA ?_)
    refine sw (yN H [.int .i64 ((r.qC[i]!).qy), .slice ae48Bag (((r.qC[i]!).vH).length) ce48Bag] fun b49 w50 H => ?_)
    refine sp (.bool false) ?_
    refine qx (t_n (qm ?_))
    refine yw rfl H fun H => ?_
    refine rt 0 (pp b3 (0 + 0)) (xG b3 (0) 0 Tryz.underlying38 rfl rfl Tryz.sizeOf26 rfl) H ?_
    refine rt 1 (.slice (aa b7 o8) t.qh.length qI) (xA Tryz.isAgg26 rfl (fun _ h => h.cell 2 rfl rfl)) H ?_
    refine rt 2 (pp b49 (0 + 0)) (xG b49 (0) 0 Tryz.underlying115 rfl rfl Tryz.sizeOf2 rfl) H ?_
    refine rt 3 (.int .i64 ((r.qC[i]!).qy)) (xA Tryz.isAgg2 rfl (fun _ h => h.cell 0 rfl rfl)) H ?_
    refine rt 4 (pp b7 (o8 + ((r.qC[i]!).qy : Int).toNat * 1)) (xO b7 (o8) t.qh.length qI ((r.qC[i]!).qy) Tryz.underlying26 ti4 rfl rfl (by omega) (by omega)) H ?_
    refine rt 5 (.bool (t.qh[((r.qC[i]!).qy).toNat]!)) (xA Tryz.isAgg4 rfl (fun _ h => h.Q7 6 rfl ((r.qC[i]!).qy) (by omega) (by omega))) H ?_
    refine rtp 6 (.bool (!(t.qh[((r.qC[i]!).qy).toNat]!))) H ?_
    refine rtp 7 (.bool (!(t.qh[((r.qC[i]!).qy).toNat]!))) H ?_
    cases h52 : (!(t.qh[((r.qC[i]!).qy).toNat]!))
    ·skip
     replace h52 := qY h52
     refine rg 8 (.agg #[.int .i64 s.qJ, .slice qw s.qf.length qo, .slice qF s.qg.length qB]) 13 (Qp (cs := [.int .i64 s.qJ, .slice qw s.qf.length qo, .slice qF s.qg.length qB]) Tryz.isAgg36 Tryz.sizeOf36 rfl (fun _ h => qH (h.cells 3 rfl) 0 3)) H ?_
     refine rg 9 (.agg #[.slice (aa b7 o8) t.qh.length qI, .slice (aa b11 o12) t.qp.length xn, .slice qL t.ql.length qK]) 13 (Qp (cs := [.slice (aa b7 o8) t.qh.length qI, .slice (aa b11 o12) t.qp.length xn, .slice qL t.ql.length qK]) Tryz.isAgg38 Tryz.sizeOf38 rfl (fun _ h => qH (h.cells 2 rfl) 0 3)) H ?_
     refine rg 10 (pp b49 (0 + 0)) 13 (xG b49 (0) 0 Tryz.underlying115 rfl rfl Tryz.sizeOf2 rfl) H ?_
     refine rg 11 (.int .i64 ((r.qC[i]!).qy)) 13 (xA Tryz.isAgg2 rfl (fun _ h => h.cell 0 rfl rfl)) H ?_
     refine rg 13 (pp b5 (0 + 0)) 13 (xG b5 (0) 0 Tryz.underlying110 rfl rfl Tryz.sizeOf2 rfl) H ?_
     refine rg 14 (.int .i64 r.qy) 13 (xA Tryz.isAgg2 rfl (fun _ h => h.cell 1 rfl rfl)) H ?_
     refine xq [12] (by kernel_rfl) (by simp) (Xp rfl (e := 13) rfl rfl ?_ xu)
     refine qZ #[.agg #[.int .i64 s.qJ, .slice qw s.qf.length qo, .slice qF s.qg.length qB], .agg #[.slice (aa b7 o8) t.qh.length qI, .slice (aa b11 o12) t.qp.length xn, .slice qL t.ql.length qK], .int .i64 ((r.qC[i]!).qy)] rfl rfl Tryz.call144 (parentNow_ok w50.drew s t ((r.qC[i]!).qy) qw qo qO qF qB xw (aa b7 o8) qI xJ (aa b11 o12) xn zq qL qK xI (H.get 4 rfl).1 (H.get 5 rfl).1 (H.get 6 rfl).1 (H.get 7 rfl).1 (H.get 8 rfl).1 (by first | assumption | omega) (by first | assumption | omega) (by first | assumption | omega)) ?_
     rintro _ w54 rfl x55
     replace H := H.ext x55
     refine ⟨H, ?_⟩
     refine rgp 15 (.bool ((xf s t ((r.qC[i]!).qy) : Int) != r.qy)) 13 H ?_
     refine rtp 16 (.bool ((xf s t ((r.qC[i]!).qy) : Int) != r.qy)) H ?_
     refine rtp 17 (.bool ((xf s t ((r.qC[i]!).qy) : Int) != r.qy)) H ?_
     refine xN (by kernel_rfl) (t_n ?_)
     refine xC ?_
     refine ret1 (.bool ((xf s t ((r.qC[i]!).qy) : Int) != r.qy)) rfl rfl ⟨_, rfl, ?_⟩
     replace H := H.erases [0]
     dsimp only [yV, List.eraseIdx] at H
     refine qx (t_n ?_)
     refine qW ((xf s t ((r.qC[i]!).qy) : Int) != r.qy) rfl (fun h56 => ?_) (fun h56 => ?_)
     ·skip
      replace h56 := bne_iff_ne.1 h56
      refine qm (qA ?_)
      refine sps [.int .i64 i, .int .i64 i] ?_
      refine qx (t_n (xC (b_r (t_r (t_r (b_r (t_r ?_)))))))
      refine ret1 (.int .i64 i) rfl rfl ⟨_, rfl, ?_⟩
      refine sw (o_pure (.bool true) (by show some (Value.bool (decide ((i : Int) ≥ 0))) = some (Value.bool true); rw [decide_eq_true (by omega)]) ?_)
      refine sp (.bool true) ?_
      refine qx (t_n (xC ?_))
      refine ret1 (.bool true) rfl rfl ⟨_, rfl, ?_⟩
      refine sps [.bool false, .bool false] ?_
      refine qx (t_n (xC ?_))
      refine ret1 (.bool false) rfl rfl ⟨_, rfl, ?_, H.base⟩
      rw [xy (fun h => by obtain ⟨h1, h2, h3, h4, h5⟩ := h; first | exact ft h1 ‹_› | exact ft h2 ‹_› | exact ft h3 ‹_› | exact h4 ⟨‹_›, ‹_›⟩ | (obtain ⟨q1, q2⟩ := h5 i (by omega); first | exact ft q1 ‹_› | exact absurd q2 ‹_›))]
     replace h56 := xR h56
     refine xk (b_n (t_n (qA ?_)))
     refine sw (zZ i 1 rfl rfl (by omega) ?_)
     refine sp (.int .i64 (i + 1)) ?_
     refine qx ?_
     refine xH (m' := (r.qC.length - ((i + 1) : Int)).toNat) (by omega) ⟨_, i + 1, (by exact qj (qj (qj (qj (rfl) rfl) rfl) rfl) rfl), ?_, ?_, rfl, N, H.pick [0, 1, 2] [2, 3, 4, 5, 6, 7, 8, 9, 10, 11, 12, 13, 14]⟩
     · omega
     · exact i1.succ ‹_› ‹_›
    replace h52 := xg h52
    refine zT [8, 9, 10, 11, 12, 13, 14, 15] 8 (H) ?_
    refine rtp 16 (.bool true) H ?_
    refine rtp 17 (.bool true) H ?_
    refine xN (by kernel_rfl) (t_n ?_)
    refine xC ?_
    refine ret1 (.bool true) rfl rfl ⟨_, rfl, ?_⟩
    replace H := H.erases [0]
    dsimp only [yV, List.eraseIdx] at H
    refine qx (t_n ?_)
    refine qW true rfl (fun _ => ?_) (fun h => absurd h (by decide))
    refine qm (qA ?_)
    refine sps [.int .i64 i, .int .i64 i] ?_
    refine qx (t_n (xC (b_r (t_r (t_r (b_r (t_r ?_)))))))
    refine ret1 (.int .i64 i) rfl rfl ⟨_, rfl, ?_⟩
    refine sw (o_pure (.bool true) (by show some (Value.bool (decide ((i : Int) ≥ 0))) = some (Value.bool true); rw [decide_eq_true (by omega)]) ?_)
    refine sp (.bool true) ?_
    refine qx (t_n (xC ?_))
    refine ret1 (.bool true) rfl rfl ⟨_, rfl, ?_⟩
    refine sps [.bool false, .bool false] ?_
    refine qx (t_n (xC ?_))
    refine ret1 (.bool false) rfl rfl ⟨_, rfl, ?_, H.base⟩
    rw [xy (fun h => by obtain ⟨h1, h2, h3, h4, h5⟩ := h; first | exact ft h1 ‹_› | exact ft h2 ‹_› | exact ft h3 ‹_› | exact h4 ⟨‹_›, ‹_›⟩ | (obtain ⟨q1, q2⟩ := h5 i (by omega); first | exact ft q1 ‹_› | exact absurd q2 ‹_›))]
   replace h44 := of_decide_eq_false h44
   refine zK (t_x (t_x (b_x (t_n (qm (qA ?_))))))
   refine sp (.int .i64 (-1)) ?_
   refine qx (t_n (xC ?_))
   refine ret1 (.int .i64 (-1)) rfl rfl ⟨_, rfl, ?_⟩
   refine sps [.bool false, .bool false] ?_
   refine qx (t_n (xC ?_))
   refine ret1 (.bool false) rfl rfl ⟨_, rfl, ?_⟩
   refine sps [.bool true, .bool true] ?_
   refine qx (t_n (xC ?_))
   refine ret1 (.bool true) rfl rfl ⟨_, rfl, ?_, H.base⟩
   rw [yP ⟨by assumption, by assumption, by assumption, fun ⟨u, v⟩ => by first | omega | exact ft v ‹_›, (show i = r.qC.length by omega) ▸ i1⟩]
  replace h20 := xg h20
  refine zf [34, 35, 36, 37, 38, 39, 40, 41, 42, 43] ?_
  refine sp (.bool true) ?_
  refine qx (t_n ?_)
  refine qW true rfl (fun _ => ?_) (fun h => absurd h (by decide))
  refine qm (qA ?_)
  refine sp (.bool false) ?_
  refine qx (t_n (xC (t_r ?_)))
  refine ret1 (.bool false) rfl rfl ⟨_, rfl, ?_, H.base⟩
  rw [xy (fun h => by obtain ⟨h1, h2, h3, h4, h5⟩ := h; first | exact ft h1 ‹_› | exact ft h2 ‹_› | exact ft h3 ‹_› | exact h4 ⟨‹_›, ‹_›⟩ | (obtain ⟨q1, q2⟩ := h5 i (by omega); first | exact ft q1 ‹_› | exact absurd q2 ‹_›))]
 replace h17 := xg h17
 refine zf [27, 28, 29, 30, 31] ?_
 refine sps [.bool true, .bool true] ?_
 refine zf [34, 35, 36, 37, 38, 39, 40, 41, 42, 43] ?_
 refine sp (.bool true) ?_
 refine qx (t_n ?_)
 refine qW true rfl (fun _ => ?_) (fun h => absurd h (by decide))
 refine qm (qA ?_)
 refine sp (.bool false) ?_
 refine qx (t_n (xC (t_r ?_)))
 refine ret1 (.bool false) rfl rfl ⟨_, rfl, ?_, H.base⟩
 rw [xy (fun h => by obtain ⟨h1, h2, h3, h4, h5⟩ := h; first | exact ft h1 ‹_› | exact ft h2 ‹_› | exact ft h3 ‹_› | exact h4 ⟨‹_›, ‹_›⟩ | (obtain ⟨q1, q2⟩ := h5 i (by omega); first | exact ft q1 ‹_› | exact absurd q2 ‹_›))]

theorem cloneSS_ok (w : World) (l : List (List Int)) (al : Option Addr) (cl : Nat) (Fl : List Nat) (hl : qV.rep w Fl [.slice al l.length cl] l) (p0 : l.length ≤ 1000000) : Calls Tryz.prog 98 #[.slice al l.length cl] w (Ret (fun v w' => ∃ (ra : Option Addr) (rn : Nat) (rc : Nat) (rx : List Value) (rF : List Nat), v = .slice ra rn rc ∧ (∀ b ∈ rF, b ∈ Fl) ∧ St w w' [.row (.slice ra rn rc) 22 1 rn rx] [vX false rF rx l]) w) := by
 refine enter (n := 8) Tryz.func98 rfl Tryz.ntmps98 (Nat.le_of_ble_eq_true rfl) ?_
 have H := (St.start w).arg hl
 have nhl := qN hl
 clear hl
 have N := Fresh.nil w.heap.size
 refine qm (qA ?_)
 refine sp (.slice none 0 0) ?_
 refine qx (t_n (qm (qm (qA ?_))))
 refine sp (.slice al l.length cl) ?_
 refine sw (o_eqnil Tryz.underlying27 al l.length cl rfl ?_)
 refine qx (t_n ?_)
 refine qW (al.isNone) rfl (fun h1 => ?_) (fun h1 => ?_)
 ·skip
  refine qm (qA ?_)
  refine sp (.slice none 0 0) ?_
  refine qx (t_n (xC (t_r ?_)))
  replace H := H.nilRow 22 1
  replace H := H.Qw (α := List Int)
  refine ret1 (.slice none 0 0) rfl rfl ⟨_, rfl, ?_, H.base⟩
  obtain rfl := H.nilOf 1 rfl ‹_›
  replace H := H.unfree 0 rfl
  exact ⟨none, 0, 0, [], [], rfl, (by intro b hb; first | (simp at hb; done) | exact id b (by simpa using hb)), H.pick [0] [0]⟩
 refine xk (t_n (qm (qA ?_)))
 refine sw (o_build0 H Tryz.underlying27 ti22 fun b2 w3 H => ?_)
 refine sp (.slice al l.length cl) ?_
 replace H := H.boxRow 0 rfl 1 0 rfl (by decide)
 try dsimp only [List.set] at H
 replace H := H.Qw (α := List Int)
 refine sw (o_appendFR H 0 rfl 1 rfl Tryz.underlying27 ti22 rfl (by decide) rfl rfl (by unfold maxLen; omega) (by omega) fun a4 c5 w6 us7 G8 H hG9 => ?_)
 try dsimp only [List.set] at H
 replace H := H.repsCat false 1 rfl 0 rfl (by simp)
 refine sp (.slice a4 (0 + l.length) c5) ?_
 refine qx (t_n (xC ?_))
 refine ret1 (.slice a4 (0 + l.length) c5) rfl rfl ⟨_, rfl, ?_, H.base⟩
 exact ⟨a4, 0 + l.length, c5, [] ++ us7, ([] ++ G8), rfl, (by intro b hb; first | (simp at hb; done) | exact hG9 b (by simpa using hb)), H.pick [0] [0]⟩

theorem applicable_ok (w : World) (s : qX) (t : qU) (qw : Option Addr) (qo : Nat) (qO : List Nat) (qF : Option Addr) (qB : Nat) (xw : List Nat) (qM : Option Addr) (qI : Nat) (xJ : List Nat) (xF : Option Addr) (xn : Nat) (zq : List Nat) (qL : Option Addr) (qK : Nat) (xI : List Nat) (xx : qV.rep w qO [.slice qw s.qf.length qo] s.qf) (xM : qV.rep w xw [.slice qF s.qg.length qB] s.qg) (zo : qV.rep w xJ [.slice qM t.qh.length qI] t.qh) (zY : qV.rep w zq [.slice xF t.qp.length xn] t.qp) (xW : qV.rep w xI [.slice qL t.ql.length qK] t.ql) (p0 : yI s) (p1 : zu s t) : Calls Tryz.prog 65 #[.agg #[.int .i64 s.qJ, .slice qw s.qf.length qo, .slice qF s.qg.length qB], .agg #[.slice qM t.qh.length qI, .slice xF t.qp.length xn, .slice qL t.ql.length qK]] w (Ret (fun v w' => ∃ (ra : Option Addr) (rn : Nat) (rc : Nat), v = .slice ra rn rc ∧ Fresh w.heap.size [] ∧ St w w' [.row (.slice ra rn rc) 2 1 rn ((appls s t).map (Value.int .i64))] []) w) := by
 refine enter (n := 69) Tryz.func65 rfl Tryz.ntmps65 (Nat.le_of_ble_eq_true rfl) ?_
 have H := (((((St.start w).arg xW).arg zY).arg zo).arg xM).arg xx
 have vU := qN xx
 have jW := qN xM
 have QB := qN zo
 have Xn := qN zY
 have yT := qN xW
 clear xx xM zo zY xW
 have N := Fresh.nil w.heap.size
 have p2 := p0.2.1
 have p3 := p0.1.2.1
 refine qm (qA ?_)
 refine sw (yN H [.int .i64 s.qJ, .slice qw s.qf.length qo, .slice qF s.qg.length qB] fun b1 w2 H => ?_)
 refine sw (yN H [.slice qM t.qh.length qI, .slice xF t.qp.length xn, .slice qL t.ql.length qK] fun b3 w4 H => ?_)
 refine sp (.slice none 0 0) ?_
 refine qx (t_n (qm (qA ?_)))
 refine sw (jo [.int .i64 0, .int .i64 0, .int .i64 0, .int .i64 0, .int .i64 0, .int .i64 0] [] ?_)
 refine sw (zn H ti134 [.int .i64 0, .int .i64 0, .int .i64 0, .int .i64 0, .int .i64 0, .int .i64 0] fun b5 w6 H => ?_)
 refine sw (xP H 0 [.int .i64 0, .int .i64 0, .int .i64 0, .int .i64 0, .int .i64 0, .int .i64 0] Tryz.sizeOf134 fun w7 H => ?_)
 try dsimp only [List.set] at H
 refine qx (t_n (qm (qm (qA ?_))))
 refine sp (.int .i64 0) ?_
 refine qx (t_n (xE ?_))
 try dsimp only [List.set] at H
 refine zU (fun m' ρ w8 => ∃ (junk : Env) (c : Nat) (top : List Int), ρ = upd (upd (upd (upd junk 2 (pp b1 0)) 3 (pp b3 0)) 5 (pp b5 0)) 13 (.int .i64 c) ∧ top = minus c ∧ ((c : Int) ≤ 6) ∧ m' = (6 - (c : Int)).toNat ∧ Fresh w.heap.size [] ∧ St w w8 [.box b5 (top.map (Value.int .i64)) 134, .box b3 [.slice qM t.qh.length qI, .slice xF t.qp.length xn, .slice qL t.ql.length qK] 38, .box b1 [.int .i64 s.qJ, .slice qw s.qf.length qo, .slice qF s.qg.length qB] 36] [isF false qO (.slice qw s.qf.length qo) s.qf, isF false xw (.slice qF s.qg.length qB) s.qg, isF false xJ (.slice qM t.qh.length qI) t.qh, isF false zq (.slice xF t.qp.length xn) t.qp, isF false xI (.slice qL t.ql.length qK) t.ql]) ((6 - (0 : Int)).toNat) ⟨_, 0, [0, 0, 0, 0, 0, 0], (by exact qj (qj (qj (qj (rfl) rfl) rfl) rfl) rfl), (by rfl), (by omega), rfl, N, H⟩ ?_
 clear H N
 rintro m' ρ w9 ⟨junk, c, top, rfl, rfl, i0, rfl, N, H⟩
 refine qm (qA ?_)
 refine sp (.bool (decide ((c : Int) < 6))) ?_
 refine qx (t_n (qm ?_))
 refine qW (decide ((c : Int) < 6)) rfl (fun h10 => ?_) (fun h10 => ?_)
 ·skip
  replace h10 := of_decide_eq_true h10
  refine xk (t_n (qm (xE (qm (qA ?_)))))
  refine sps [.int .i64 c, .int .i64 c] ?_
  refine qx (t_n (qA ?_))
  refine sp (.int .i64 c) ?_
  refine sw (o_idxArr c Tryz.underlying134 ti2 rfl rfl (by omega) (by omega) ?_)
  refine sw (o_storeArr H 0 rfl (-1) Tryz.sizeOf2 rfl rfl (i := c) (by omega) (by simp only [List.length_set, List.length_cons, List.length_nil, minus_len, Xv]; omega) fun w11 H => ?_)
  try dsimp only [List.set] at H
  refine qx (b_n (t_n (qA ?_)))
  refine sw (zZ c 1 rfl rfl (by omega) ?_)
  refine sp (.int .i64 (c + 1)) ?_
  refine qx ?_
  refine xH (m' := (6 - ((c + 1) : Int)).toNat) (by omega) ⟨_, c + 1, ((minus c).set c (-1)), (by exact qj (qj (qj (qj (rfl) rfl) rfl) rfl) rfl), ?_, ?_, rfl, N, H⟩
  · exact minus_set (by omega)
  · omega
 replace h10 := of_decide_eq_false h10
 refine zK (t_x (t_x (b_x (t_n (qm (qm (qA ?_)))))))
 refine sw (qP b1 (0) 2 Tryz.underlying36 rfl rfl Tryz.sizeOf34 rfl ?_)
 refine sw (qE (.slice qF s.qg.length qB) Tryz.isAgg34 rfl (H.cell 2 rfl rfl) ?_)
 refine sw (zX Tryz.underlying34 qF s.qg.length qB rfl ?_)
 refine sp (.int .i64 0) ?_
 refine qx (t_n (xE ?_))
 refine zU (fun m' ρ w12 => ∃ (junk : Env) (k : Nat) (top_1 : List Int), ρ = upd (upd (upd (upd (upd (upd junk 2 (pp b1 0)) 3 (pp b3 0)) 5 (pp b5 0)) 20 (.slice qF s.qg.length qB)) 21 (.int .i64 s.qg.length)) 22 (.int .i64 k) ∧ top_1 = bests s t (-1) 6 k ∧ ((k : Int) ≤ s.qg.length) ∧ m' = (s.qg.length - (k : Int)).toNat ∧ Fresh w.heap.size [] ∧ St w w12 [.box b5 (top_1.map (Value.int .i64)) 134, .box b3 [.slice qM t.qh.length qI, .slice xF t.qp.length xn, .slice qL t.ql.length qK] 38, .box b1 [.int .i64 s.qJ, .slice qw s.qf.length qo, .slice qF s.qg.length qB] 36] [isF false qO (.slice qw s.qf.length qo) s.qf, isF false xw (.slice qF s.qg.length qB) s.qg, isF false xJ (.slice qM t.qh.length qI) t.qh, isF false zq (.slice xF t.qp.length xn) t.qp, isF false xI (.slice qL t.ql.length qK) t.ql]) ((s.qg.length - (0 : Int)).toNat) ⟨_, 0, (minus c), (by exact qj (qj (qj (qj (qj (qj (rfl) rfl) rfl) rfl) rfl) rfl) rfl), (by exact minus_six (by omega) s t), (by omega), rfl, N, H⟩ ?_
 clear H N
 rintro m' ρ w13 ⟨junk, k, top_1, rfl, rfl, i0, rfl, N, H⟩
 refine qm (qA ?_)
 refine sp (.bool (decide ((k : Int) < s.qg.length))) ?_
 refine qx (t_n (qm ?_))
 refine qW (decide ((k : Int) < s.qg.length)) rfl (fun h14 => ?_) (fun h14 => ?_)
 ·skip
  replace h14 := of_decide_eq_true h14
  have q := p0.rule (i := k) (by omega)
  have qc := q.1
  have qk := q.cell
  have qr := q.2.1
  have q6 : (s.qg[k]!).qy.toNat < 6 := by omega
  refine xk (t_n (qm (xE (qm (qA ?_)))))
  obtain ⟨b15, o16, rfl⟩ := H.addr 1 rfl (by omega)
  obtain ⟨ae18Need, ce18Need, Fe18Need, ae18Have, ce18Have, Fe18Have, ae18Lack, ce18Lack, Fe18Lack, ae18Here, ce18Here, Fe18Here, ae18Out, ce18Out, Fe18Out, ae18Into, ce18Into, Fe18Into, H⟩ := H.yB 1 rfl k k (by omega) (by omega) (by omega)
  refine sw (xK k Tryz.underlying34 ti110 rfl rfl (by omega) (by omega) ?_)
  refine sw (zg [.int .i64 ((s.qg[k]!).qy), .int .i64 ((s.qg[k]!).zh), .slice ae18Need (((s.qg[k]!).qR).length) ce18Need, .slice ae18Have (((s.qg[k]!).xh).length) ce18Have, .slice ae18Lack (((s.qg[k]!).xm).length) ce18Lack, .slice ae18Here (((s.qg[k]!).xB).length) ce18Here, .slice ae18Out (((s.qg[k]!).zk).length) ce18Out, .slice ae18Into (((s.qg[k]!).qC).length) ce18Into, .bool ((s.qg[k]!).xQ)] Tryz.isAgg110 Tryz.sizeOf110 rfl (qH (H.get 6 rfl) 0 9) ?_)
  refine sw (zn H ti110 [.int .i64 0, .int .i64 0, .slice none 0 0, .slice none 0 0, .slice none 0 0, .slice none 0 0, .slice none 0 0, .slice none 0 0, .bool false] fun b19 w20 H => ?_)
  refine sw (xP H 0 [.int .i64 ((s.qg[k]!).qy), .int .i64 ((s.qg[k]!).zh), .slice ae18Need (((s.qg[k]!).qR).length) ce18Need, .slice ae18Have (((s.qg[k]!).xh).length) ce18Have, .slice ae18Lack (((s.qg[k]!).xm).length) ce18Lack, .slice ae18Here (((s.qg[k]!).xB).length) ce18Here, .slice ae18Out (((s.qg[k]!).zk).length) ce18Out, .slice ae18Into (((s.qg[k]!).qC).length) ce18Into, .bool ((s.qg[k]!).xQ)] Tryz.sizeOf110 fun w21 H => ?_)
  try dsimp only [List.set] at H
  refine qx (t_n (qm (qA ?_)))
  refine sw (zg [.int .i64 s.qJ, .slice qw s.qf.length qo, .slice (aa b15 o16) s.qg.length qB] Tryz.isAgg36 Tryz.sizeOf36 rfl (qH (H.cells 3 rfl) 0 3) ?_)
  refine sw (zg [.slice qM t.qh.length qI, .slice xF t.qp.length xn, .slice qL t.ql.length qK] Tryz.isAgg38 Tryz.sizeOf38 rfl (qH (H.cells 2 rfl) 0 3) ?_)
  refine sw (zg [.int .i64 ((s.qg[k]!).qy), .int .i64 ((s.qg[k]!).zh), .slice ae18Need (((s.qg[k]!).qR).length) ce18Need, .slice ae18Have (((s.qg[k]!).xh).length) ce18Have, .slice ae18Lack (((s.qg[k]!).xm).length) ce18Lack, .slice ae18Here (((s.qg[k]!).xB).length) ce18Here, .slice ae18Out (((s.qg[k]!).zk).length) ce18Out, .slice ae18Into (((s.qg[k]!).qC).length) ce18Into, .bool ((s.qg[k]!).xQ)] Tryz.isAgg110 Tryz.sizeOf110 rfl (qH (H.cells 0 rfl) 0 9) ?_)
  refine sw (qZ #[.agg #[.int .i64 s.qJ, .slice qw s.qf.length qo, .slice (aa b15 o16) s.qg.length qB], .agg #[.slice qM t.qh.length qI, .slice xF t.qp.length xn, .slice qL t.ql.length qK], .agg #[.int .i64 ((s.qg[k]!).qy), .int .i64 ((s.qg[k]!).zh), .slice ae18Need (((s.qg[k]!).qR).length) ce18Need, .slice ae18Have (((s.qg[k]!).xh).length) ce18Have, .slice ae18Lack (((s.qg[k]!).xm).length) ce18Lack, .slice ae18Here (((s.qg[k]!).xB).length) ce18Here, .slice ae18Out (((s.qg[k]!).zk).length) ce18Out, .slice ae18Into (((s.qg[k]!).qC).length) ce18Into, .bool ((s.qg[k]!).xQ)]] rfl rfl Tryz.call112 (isEnabled_ok w21 s t (s.qg[k]!) qw qo qO (aa b15 o16) qB xw qM qI xJ xF xn zq qL qK xI ae18Need ce18Need Fe18Need ae18Have ce18Have Fe18Have ae18Lack ce18Lack Fe18Lack ae18Here ce18Here Fe18Here ae18Out ce18Out Fe18Out ae18Into ce18Into Fe18Into (H.get 7 rfl).1 (H.get 8 rfl).1 (H.get 9 rfl).1 (H.get 10 rfl).1 (H.get 11 rfl).1 (H.get 0 rfl).1 (H.get 1 rfl).1 (H.get 2 rfl).1 (H.get 3 rfl).1 (H.get 4 rfl).1 (H.get 5 rfl).1 (by first | assumption | omega) (by first | assumption | omega) (by first | assumption | omega)) ?_)
  rintro _ w23 rfl x24
  replace H := H.ext x24
  refine qx (t_n ?_)
  refine qW (dec (EnOk s t (s.qg[k]!))) rfl (fun h25 => ?_) (fun h25 => ?_)
  ·skip
   replace h25 := jG h25
   refine Qa rfl H [0, 2, 3] fun H => ?_
   have S := H.yG [0, 2, 3] [0, 1, 2, 3, 4, 5, 6, 7, 8, 9, 10, 11]
   refine rt 0 (pp b19 (0 + 0)) (xG b19 (0) 0 Tryz.underlying110 rfl rfl Tryz.sizeOf2 rfl) S ?_
   refine rt 1 (.int .i64 ((s.qg[k]!).qy)) (xA Tryz.isAgg2 rfl (fun _ h => h.cell 0 rfl rfl)) S ?_
   refine rt 2 (pp b19 (0 + 0)) (xG b19 (0) 0 Tryz.underlying110 rfl rfl Tryz.sizeOf2 rfl) S ?_
   refine rt 3 (.int .i64 ((s.qg[k]!).qy)) (xA Tryz.isAgg2 rfl (fun _ h => h.cell 0 rfl rfl)) S ?_
   refine rt 4 (pp b5 (0 + ((s.qg[k]!).qy : Int).toNat * 1)) (y_idxArr b5 (0) 6 ((s.qg[k]!).qy) Tryz.underlying134 ti2 rfl rfl (by omega) (by omega)) S ?_
   refine rt 6 (pp b19 (0 + 1)) (xG b19 (0) 1 Tryz.underlying110 rfl rfl Tryz.sizeOf2 rfl) S ?_
   refine rt 7 (.int .i64 ((s.qg[k]!).zh)) (xA Tryz.isAgg2 rfl (fun _ h => h.cell 0 rfl rfl)) S ?_
   refine xq [5] (by kernel_rfl) (by simp) (xZ rfl ?_ xu)
   refine qE (.int .i64 ((bests s t (-1) 6 k)[((s.qg[k]!).qy).toNat]!)) Tryz.isAgg2 rfl (H.cell 1 rfl (ints_at (iv := (s.qg[k]!).qy) (i := (((s.qg[k]!).qy).toNat)) (by omega) (by simp only [List.length_set, List.length_cons, List.length_nil, minus_len, Xv]; omega))) ?_
   refine ⟨H.pick [0, 2, 3] [0, 1, 2, 3, 4, 5, 6, 7, 8, 9, 10, 11], ?_⟩
   have S := H.yG [0, 2, 3] [0, 1, 2, 3, 4, 5, 6, 7, 8, 9, 10, 11]
   refine rt 8 (.int .i64 (max ((bests s t (-1) 6 k)[((s.qg[k]!).qy).toNat]!) ((s.qg[k]!).zh))) (y_max ((bests s t (-1) 6 k)[((s.qg[k]!).qy).toNat]!) ((s.qg[k]!).zh) rfl rfl) S ?_
   refine rt 9 (pp b5 (0 + ((s.qg[k]!).qy : Int).toNat * 1)) (y_idxArr b5 (0) 6 ((s.qg[k]!).qy) Tryz.underlying134 ti2 rfl rfl (by omega) (by omega)) S ?_
   refine xq [10] (by kernel_rfl) (by simp) (xZ rfl ?_ xu)
   refine o_storeArr H 1 rfl (max ((bests s t (-1) 6 k)[((s.qg[k]!).qy).toNat]!) ((s.qg[k]!).zh)) Tryz.sizeOf2 rfl rfl (i := (((s.qg[k]!).qy).toNat)) (by omega) (by simp only [List.length_set, List.length_cons, List.length_nil, minus_len, Xv]; omega) fun w27 H => ?_
   try dsimp only [List.set] at H
   refine ⟨H.pick [0, 2, 3] [0, 1, 2, 3, 4, 5, 6, 7, 8, 9, 10, 11], ?_⟩
   refine xN (by kernel_rfl) (b_n (t_n ?_))
   refine qA ?_
   refine sw (zZ k 1 rfl rfl (by omega) ?_)
   refine sp (.int .i64 (k + 1)) ?_
   refine qx ?_
   refine xH (m' := (s.qg.length - ((k + 1) : Int)).toNat) (by omega) ⟨_, k + 1, ((bests s t (-1) 6 k).set (((s.qg[k]!).qy).toNat) (max ((bests s t (-1) 6 k)[((s.qg[k]!).qy).toNat]!) ((s.qg[k]!).zh))), (by exact qj (qj (qj (qj (qj (qj (rfl) rfl) rfl) rfl) rfl) rfl) rfl), ?_, ?_, rfl, N, H.pick [1, 2, 3] [7, 8, 9, 10, 11]⟩
   · first | exact bests_set ‹_› (by omega) | exact bests_skip ‹_›
   · omega
  replace h25 := xX h25
  refine xk (b_n (t_n (qA ?_)))
  refine sw (zZ k 1 rfl rfl (by omega) ?_)
  refine sp (.int .i64 (k + 1)) ?_
  refine qx ?_
  refine xH (m' := (s.qg.length - ((k + 1) : Int)).toNat) (by omega) ⟨_, k + 1, (bests s t (-1) 6 k), (by exact qj (qj (qj (qj (qj (qj (rfl) rfl) rfl) rfl) rfl) rfl) rfl), ?_, ?_, rfl, N, H.pick [1, 2, 3] [7, 8, 9, 10, 11]⟩
  · first | exact bests_set ‹_› (by omega) | exact bests_skip ‹_›
  · omega
 replace h14 := of_decide_eq_false h14
 refine zK (t_x (t_x (b_x (t_n (qm (qA ?_))))))
 refine sw (o_build0 H Tryz.underlying22 ti2 fun b28 w29 H => ?_)
 refine sp (.slice (aa b28 0) 0 0) ?_
 refine qx (t_n (qm (qm (qA ?_))))
 refine sw (qP b1 (0) 2 Tryz.underlying36 rfl rfl Tryz.sizeOf34 rfl ?_)
 refine sw (qE (.slice qF s.qg.length qB) Tryz.isAgg34 rfl (H.cell 3 rfl rfl) ?_)
 refine sw (zX Tryz.underlying34 qF s.qg.length qB rfl ?_)
 refine sp (.int .i64 0) ?_
 refine qx (t_n (xE ?_))
 replace H := H.boxRowI 0 [] 0
 try dsimp only [List.set] at H
 refine zU (fun m' ρ w30 => ∃ (junk : Env) (a_out : Option Addr) (XI : Nat) (c_out : Nat) (out : List Int) (i : Nat), ρ = upd (upd (upd (upd (upd (upd (upd junk 2 (pp b1 0)) 3 (pp b3 0)) 5 (pp b5 0)) 9 (.slice a_out XI c_out)) 43 (.slice qF s.qg.length qB)) 44 (.int .i64 s.qg.length)) 45 (.int .i64 i) ∧ out = applL s t i ∧ ((i : Int) ≤ s.qg.length) ∧ m' = (s.qg.length - (i : Int)).toNat ∧ Fresh w.heap.size [] ∧ St w w30 [.row (.slice a_out XI c_out) 2 1 XI (out.map (Value.int .i64)), .box b5 ((bests s t (-1) 6 k).map (Value.int .i64)) 134, .box b3 [.slice qM t.qh.length qI, .slice xF t.qp.length xn, .slice qL t.ql.length qK] 38, .box b1 [.int .i64 s.qJ, .slice qw s.qf.length qo, .slice qF s.qg.length qB] 36] [isF false qO (.slice qw s.qf.length qo) s.qf, isF false xw (.slice qF s.qg.length qB) s.qg, isF false xJ (.slice qM t.qh.length qI) t.qh, isF false zq (.slice xF t.qp.length xn) t.qp, isF false xI (.slice qL t.ql.length qK) t.ql]) ((s.qg.length - (0 : Int)).toNat) ⟨_, (aa b28 0), 0, 0, ([] : List Int), 0, (by exact qj (qj (qj (qj (qj (qj (qj (rfl) rfl) rfl) rfl) rfl) rfl) rfl) rfl), (by rfl), (by omega), rfl, N, H⟩ ?_
 clear H N
 rintro m' ρ w31 ⟨junk, a_out, XI, c_out, out, i, rfl, rfl, i0, rfl, N, H⟩
 have hn_out := H.QS 0 rfl
 have ll := applL_le s t i
 refine qm (qA ?_)
 refine sp (.bool (decide ((i : Int) < s.qg.length))) ?_
 refine qx (t_n (qm ?_))
 refine qW (decide ((i : Int) < s.qg.length)) rfl (fun h32 => ?_) (fun h32 => ?_)
 ·skip
  replace h32 := of_decide_eq_true h32
  have q := p0.rule (i := i) (by omega)
  have qc := q.1
  have qk := q.cell
  have qr := q.2.1
  have q6 : (s.qg[i]!).qy.toNat < 6 := by omega
  refine xk (t_n (qm (xE (qm (qA ?_)))))
  refine sp (.int .i64 i) ?_
  obtain ⟨b33, o34, rfl⟩ := H.addr 1 rfl (by omega)
  obtain ⟨ae36Need, ce36Need, Fe36Need, ae36Have, ce36Have, Fe36Have, ae36Lack, ce36Lack, Fe36Lack, ae36Here, ce36Here, Fe36Here, ae36Out, ce36Out, Fe36Out, ae36Into, ce36Into, Fe36Into, H⟩ := H.yB 1 rfl i i (by omega) (by omega) (by omega)
  refine sw (xK i Tryz.underlying34 ti110 rfl rfl (by omega) (by omega) ?_)
  refine sw (zg [.int .i64 ((s.qg[i]!).qy), .int .i64 ((s.qg[i]!).zh), .slice ae36Need (((s.qg[i]!).qR).length) ce36Need, .slice ae36Have (((s.qg[i]!).xh).length) ce36Have, .slice ae36Lack (((s.qg[i]!).xm).length) ce36Lack, .slice ae36Here (((s.qg[i]!).xB).length) ce36Here, .slice ae36Out (((s.qg[i]!).zk).length) ce36Out, .slice ae36Into (((s.qg[i]!).qC).length) ce36Into, .bool ((s.qg[i]!).xQ)] Tryz.isAgg110 Tryz.sizeOf110 rfl (qH (H.get 6 rfl) 0 9) ?_)
  refine sw (zn H ti110 [.int .i64 0, .int .i64 0, .slice none 0 0, .slice none 0 0, .slice none 0 0, .slice none 0 0, .slice none 0 0, .slice none 0 0, .bool false] fun b37 w38 H => ?_)
  refine sp (.int .i64 i) ?_
  refine sw (xP H 0 [.int .i64 ((s.qg[i]!).qy), .int .i64 ((s.qg[i]!).zh), .slice ae36Need (((s.qg[i]!).qR).length) ce36Need, .slice ae36Have (((s.qg[i]!).xh).length) ce36Have, .slice ae36Lack (((s.qg[i]!).xm).length) ce36Lack, .slice ae36Here (((s.qg[i]!).xB).length) ce36Here, .slice ae36Out (((s.qg[i]!).zk).length) ce36Out, .slice ae36Into (((s.qg[i]!).qC).length) ce36Into, .bool ((s.qg[i]!).xQ)] Tryz.sizeOf110 fun w39 H => ?_)
  try dsimp only [List.set] at H
  refine qx (t_n (qm ?_))
  refine yw rfl H fun H => ?_
  refine rt 0 (pp b37 (0 + 1)) (xG b37 (0) 1 Tryz.underlying110 rfl rfl Tryz.sizeOf2 rfl) H ?_
  refine rt 1 (.int .i64 ((s.qg[i]!).zh)) (xA Tryz.isAgg2 rfl (fun _ h => h.cell 0 rfl rfl)) H ?_
  refine rt 2 (pp b37 (0 + 0)) (xG b37 (0) 0 Tryz.underlying110 rfl rfl Tryz.sizeOf2 rfl) H ?_
  refine rt 3 (.int .i64 ((s.qg[i]!).qy)) (xA Tryz.isAgg2 rfl (fun _ h => h.cell 0 rfl rfl)) H ?_
  refine rt 4 (pp b5 (0 + ((s.qg[i]!).qy : Int).toNat * 1)) (y_idxArr b5 (0) 6 ((s.qg[i]!).qy) Tryz.underlying134 ti2 rfl rfl (by omega) (by omega)) H ?_
  refine rt 5 (.int .i64 ((bests s t (-1) 6 k)[((s.qg[i]!).qy).toNat]!)) (xA Tryz.isAgg2 rfl (fun _ h => h.cell 2 rfl (ints_at (iv := (s.qg[i]!).qy) (i := (((s.qg[i]!).qy).toNat)) (by omega) (by simp only [List.length_set, List.length_cons, List.length_nil, minus_len, Xv]; omega)))) H ?_
  refine rtp 6 (.bool (((s.qg[i]!).zh : Int) == ((bests s t (-1) 6 k)[((s.qg[i]!).qy).toNat]!))) H ?_
  refine rtp 7 (.bool (((s.qg[i]!).zh : Int) == ((bests s t (-1) 6 k)[((s.qg[i]!).qy).toNat]!))) H ?_
  cases h41 : (((s.qg[i]!).zh : Int) == ((bests s t (-1) 6 k)[((s.qg[i]!).qy).toNat]!))
  ·skip
   replace h41 := ne_of_beq_false h41
   refine zT [8, 9, 10, 11] 4 (H) ?_
   refine rtp 12 (.bool false) H ?_
   refine xN (by kernel_rfl) (t_n ?_)
   refine qW false rfl (fun h => absurd h (by decide)) (fun _ => ?_)
   refine xk (b_n (t_n (qA ?_)))
   refine sw (zZ i 1 rfl rfl (by omega) ?_)
   refine sp (.int .i64 (i + 1)) ?_
   refine qx ?_
   refine xH (m' := (s.qg.length - ((i + 1) : Int)).toNat) (by omega) ⟨_, a_out, XI, c_out, (applL s t i), i + 1, (by exact qj (qj (qj (qj (qj (qj (qj (rfl) rfl) rfl) rfl) rfl) rfl) rfl) rfl), ?_, ?_, rfl, N, H.pick [1, 2, 3, 4] [7, 8, 9, 10, 11]⟩
   · first | exact applL_yes (appl_yes (n := 6) (z := -1) (k := k) (by omega) (by omega) (by omega) q6 ‹_› ‹_›) | exact applL_no (appl_no (n := 6) (z := -1) (k := k) (by omega) (by omega) (by omega) q6 ‹_›) | exact applL_no (fun h => ‹¬ EnOk _ _ _› h.1)
   · omega
  replace h41 := eq_of_beq h41
  refine rg 8 (.agg #[.int .i64 s.qJ, .slice qw s.qf.length qo, .slice (aa b33 o34) s.qg.length qB]) 57 (Qp (cs := [.int .i64 s.qJ, .slice qw s.qf.length qo, .slice (aa b33 o34) s.qg.length qB]) Tryz.isAgg36 Tryz.sizeOf36 rfl (fun _ h => qH (h.cells 4 rfl) 0 3)) H ?_
  refine rg 9 (.agg #[.slice qM t.qh.length qI, .slice xF t.qp.length xn, .slice qL t.ql.length qK]) 57 (Qp (cs := [.slice qM t.qh.length qI, .slice xF t.qp.length xn, .slice qL t.ql.length qK]) Tryz.isAgg38 Tryz.sizeOf38 rfl (fun _ h => qH (h.cells 3 rfl) 0 3)) H ?_
  refine rg 10 (.agg #[.int .i64 ((s.qg[i]!).qy), .int .i64 ((s.qg[i]!).zh), .slice ae36Need (((s.qg[i]!).qR).length) ce36Need, .slice ae36Have (((s.qg[i]!).xh).length) ce36Have, .slice ae36Lack (((s.qg[i]!).xm).length) ce36Lack, .slice ae36Here (((s.qg[i]!).xB).length) ce36Here, .slice ae36Out (((s.qg[i]!).zk).length) ce36Out, .slice ae36Into (((s.qg[i]!).qC).length) ce36Into, .bool ((s.qg[i]!).xQ)]) 57 (Qp (cs := [.int .i64 ((s.qg[i]!).qy), .int .i64 ((s.qg[i]!).zh), .slice ae36Need (((s.qg[i]!).qR).length) ce36Need, .slice ae36Have (((s.qg[i]!).xh).length) ce36Have, .slice ae36Lack (((s.qg[i]!).xm).length) ce36Lack, .slice ae36Here (((s.qg[i]!).xB).length) ce36Here, .slice ae36Out (((s.qg[i]!).zk).length) ce36Out, .slice ae36Into (((s.qg[i]!).qC).length) ce36Into, .bool ((s.qg[i]!).xQ)]) Tryz.isAgg110 Tryz.sizeOf110 rfl (fun _ h => qH (h.cells 0 rfl) 0 9)) H ?_
  refine xq [11] (by kernel_rfl) (by simp) (Xp rfl (e := 57) rfl rfl ?_ xu)
  refine qZ #[.agg #[.int .i64 s.qJ, .slice qw s.qf.length qo, .slice (aa b33 o34) s.qg.length qB], .agg #[.slice qM t.qh.length qI, .slice xF t.qp.length xn, .slice qL t.ql.length qK], .agg #[.int .i64 ((s.qg[i]!).qy), .int .i64 ((s.qg[i]!).zh), .slice ae36Need (((s.qg[i]!).qR).length) ce36Need, .slice ae36Have (((s.qg[i]!).xh).length) ce36Have, .slice ae36Lack (((s.qg[i]!).xm).length) ce36Lack, .slice ae36Here (((s.qg[i]!).xB).length) ce36Here, .slice ae36Out (((s.qg[i]!).zk).length) ce36Out, .slice ae36Into (((s.qg[i]!).qC).length) ce36Into, .bool ((s.qg[i]!).xQ)]] rfl rfl Tryz.call112 (isEnabled_ok w39.drew s t (s.qg[i]!) qw qo qO (aa b33 o34) qB xw qM qI xJ xF xn zq qL qK xI ae36Need ce36Need Fe36Need ae36Have ce36Have Fe36Have ae36Lack ce36Lack Fe36Lack ae36Here ce36Here Fe36Here ae36Out ce36Out Fe36Out ae36Into ce36Into Fe36Into (H.get 7 rfl).1 (H.get 8 rfl).1 (H.get 9 rfl).1 (H.get 10 rfl).1 (H.get 11 rfl).1 (H.get 0 rfl).1 (H.get 1 rfl).1 (H.get 2 rfl).1 (H.get 3 rfl).1 (H.get 4 rfl).1 (H.get 5 rfl).1 (by first | assumption | omega) (by first | assumption | omega) (by first | assumption | omega)) ?_
  rintro _ w43 rfl x44
  replace H := H.ext x44
  refine ⟨H, ?_⟩
  refine rtp 12 (.bool (dec (EnOk s t (s.qg[i]!)))) H ?_
  refine xN (by kernel_rfl) (t_n ?_)
  refine qW (dec (EnOk s t (s.qg[i]!))) rfl (fun h45 => ?_) (fun h45 => ?_)
  ·skip
   replace h45 := jG h45
   refine qA ?_
   refine sps [.slice a_out XI c_out, .int .i64 i] ?_
   refine sw (Xr H Tryz.underlying22 ti2 [.int .i64 i] fun b46 w47 H => ?_)
   refine sw (Xt H 2 rfl 0 rfl Tryz.underlying22 ti2 rfl (by decide) rfl rfl rfl (by simp [Value.oneCell', Value.cells]) (by unfold maxLen; omega) (by omega) fun a48 c49 w50 H => ?_)
   rw [snocI] at H
   try dsimp only [List.set] at H
   refine sp (.slice a48 (XI + 1) c49) ?_
   refine qx (b_n (t_n (qA ?_)))
   refine sw (zZ i 1 rfl rfl (by omega) ?_)
   refine sp (.int .i64 (i + 1)) ?_
   refine qx ?_
   refine xH (m' := (s.qg.length - ((i + 1) : Int)).toNat) (by omega) ⟨_, a48, XI + 1, c49, ((applL s t i) ++ [(i : Int)]), i + 1, (by exact qj (qj (qj (qj (qj (qj (qj (rfl) rfl) rfl) rfl) rfl) rfl) rfl) rfl), ?_, ?_, rfl, N, H.pick [2, 3, 4, 5] [7, 8, 9, 10, 11]⟩
   · first | exact applL_yes (appl_yes (n := 6) (z := -1) (k := k) (by omega) (by omega) (by omega) q6 ‹_› ‹_›) | exact applL_no (appl_no (n := 6) (z := -1) (k := k) (by omega) (by omega) (by omega) q6 ‹_›) | exact applL_no (fun h => ‹¬ EnOk _ _ _› h.1)
   · omega
  replace h45 := xX h45
  refine xk (b_n (t_n (qA ?_)))
  refine sw (zZ i 1 rfl rfl (by omega) ?_)
  refine sp (.int .i64 (i + 1)) ?_
  refine qx ?_
  refine xH (m' := (s.qg.length - ((i + 1) : Int)).toNat) (by omega) ⟨_, a_out, XI, c_out, (applL s t i), i + 1, (by exact qj (qj (qj (qj (qj (qj (qj (rfl) rfl) rfl) rfl) rfl) rfl) rfl) rfl), ?_, ?_, rfl, N, H.pick [1, 2, 3, 4] [7, 8, 9, 10, 11]⟩
  · first | exact applL_yes (appl_yes (n := 6) (z := -1) (k := k) (by omega) (by omega) (by omega) q6 ‹_› ‹_›) | exact applL_no (appl_no (n := 6) (z := -1) (k := k) (by omega) (by omega) (by omega) q6 ‹_›) | exact applL_no (fun h => ‹¬ EnOk _ _ _› h.1)
  · omega
 replace h32 := of_decide_eq_false h32
 refine zK (t_x (t_x (b_x (t_n (qm (qA ?_))))))
 refine sps [.slice a_out XI c_out, .slice a_out XI c_out] ?_
 refine qx (t_n (xC ?_))
 refine ret1 (.slice a_out XI c_out) rfl rfl ⟨_, rfl, ?_, H.base⟩
 obtain rfl : i = s.qg.length := by omega
 exact ⟨a_out, XI, c_out, rfl, N, H.pick [0] []⟩

end Go.Proofs.YtkmlihdacnfhdaaGreat
