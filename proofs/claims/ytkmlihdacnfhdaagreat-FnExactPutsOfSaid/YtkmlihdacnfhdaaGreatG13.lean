/- Walks, printed by program (wip/tools/gv.py): what each function comes to, for all arguments. -/
import Derived.Test.YtkmlihdacnfhdaaGreatG12
import Derived.Test.YtkmlihdacnfhdaaGreatG7
namespace Go.Proofs.YtkmlihdacnfhdaaGreat
open Go.Proofs.YtkmlihdacnfhdaaGreat.Tot (tot)
open Go.Proofs.YtkmlihdacnfhdaaGreat.Mark (cnt mrk mkd mkd_mark cnt_mark)
open Go.RowKit
set_option linter.unusedVariables false
set_option linter.unusedSimpArgs false
set_option maxRecDepth 100000
set_option maxHeartbeats 4000000

theorem ti134 : TI Tryz.prog 134 (.agg #[.int .i64 0, .int .i64 0, .int .i64 0, .int .i64 0, .int .i64 0, .int .i64 0]) 6 48 := by unfold TI; kernel_rfl


theorem isEnabled_ok (w : World) (s : qR) (t : xF) (r : yB) (qm : Option Addr) (ql : Nat) (qL : List Nat) (qE : Option Addr) (qA : Nat) (xk : List Nat) (xu : Option Addr) (qZ : Nat) (xY : List Nat) (xB : Option Addr) (xx : Nat) (zG : List Nat) (qV : Option Addr) (qU : Nat) (xJ : List Nat) (zJ : Option Addr) (zI : Nat) (yV : List Nat) (ve : Option Addr) (zZ : Nat) (Qw : List Nat) (zQ : Option Addr) (zO : Nat) (Qk : List Nat) (vJ : Option Addr) (vI : Nat) (QK : List Nat) (yj : Option Addr) (yh : Nat) (FrOut : List Nat) (zy : Option Addr) (zh : Nat) (FrInto : List Nat) (qY : qM.rep w qL [.slice qm s.qg.length ql] s.qg) (xA : qM.rep w xk [.slice qE s.qf.length qA] s.qf) (zo : qM.rep w xY [.slice xu t.qy.length qZ] t.qy) (zT : qM.rep w zG [.slice xB t.qG.length xx] t.qG) (xR : qM.rep w xJ [.slice qV t.qB.length qU] t.qB) (hrNeed : qM.rep w yV [.slice zJ r.qI.length zI] r.qI) (hrHave : qM.rep w Qw [.slice ve r.qW.length zZ] r.qW) (hrLack : qM.rep w Qk [.slice zQ r.qX.length zO] r.qX) (hrHere : qM.rep w QK [.slice vJ r.xe.length vI] r.xe) (hrOut : qM.rep w FrOut [.slice yj r.xO.length yh] r.xO) (hrInto : qM.rep w FrInto [.slice zy r.qx.length zh] r.qx) (p0 : Qj s) (p1 : zY s t) (p2 : RuleOk s r) : Calls Tryz.prog 112 #[.agg #[.int .i64 s.qF, .slice qm s.qg.length ql, .slice qE s.qf.length qA], .agg #[.slice xu t.qy.length qZ, .slice xB t.qG.length xx, .slice qV t.qB.length qU], .agg #[.int .i64 r.qw, .int .i64 r.xM, .slice zJ r.qI.length zI, .slice ve r.qW.length zZ, .slice zQ r.qX.length zO, .slice vJ r.xe.length vI, .slice yj r.xO.length yh, .slice zy r.qx.length zh, .bool r.xG]] w (Ret (fun v w' => v = .bool (dec (EnOk s t r))) w) := by
 refine enter (n := 50) Tryz.func112 rfl Tryz.ntmps112 (Nat.le_of_ble_eq_true rfl) ?_
 have H := (((((((((((St.start w).arg hrInto).arg hrOut).arg hrHere).arg hrLack).arg hrHave).arg hrNeed).arg xR).arg zT).arg zo).arg xA).arg qY
 have zH := qJ qY
 have vN := qJ xA
 have QB := qJ zo
 have nhtBags := qJ zT
 have yS := qJ xR
 have nhrNeed := qJ hrNeed
 have nhrHave := qJ hrHave
 have nhrLack := qJ hrLack
 have nhrHere := qJ hrHere
 have nhrOut := qJ hrOut
 have nhrInto := qJ hrInto
 clear qY xA zo zT xR hrNeed hrHave hrLack hrHere hrOut hrInto
 have N := Fresh.nil w.heap.size
 have p3 := p2.1
 have p4 := p1.1
 have p5 := p1.2.1
 have p6 := (p1.bagLen (k := r.qw.toNat) (by omega)).len
 have p7 := p2.2.2.2.2.1.len
 have p8 := p2.2.2.2.2.2.1.len
 have p9 := p2.2.2.2.2.2.2.1.len
 have p10 := vG p2.2.2.2.2.2.2.1
 have p11 := p0.1
 have p12 := p2.2.2.2.2.2.2.2.2.2.2
 have p13 := kinds_le p0
 refine qh (qp ?_)
 refine sw (jy H [.int .i64 s.qF, .slice qm s.qg.length ql, .slice qE s.qf.length qA] fun b1 w2 H => ?_)
 refine sw (jy H [.slice xu t.qy.length qZ, .slice xB t.qG.length xx, .slice qV t.qB.length qU] fun b3 w4 H => ?_)
 refine sw (jy H [.int .i64 r.qw, .int .i64 r.xM, .slice zJ r.qI.length zI, .slice ve r.qW.length zZ, .slice zQ r.qX.length zO, .slice vJ r.xe.length vI, .slice yj r.xO.length yh, .slice zy r.qx.length zh, .bool r.xG] fun b5 w6 H => ?_)
 refine sp (.bool false) ?_
 refine qo (t_n (qh (qh (qp ?_))))
 refine sw (qH b3 (0) 0 Tryz.underlying38 rfl rfl Tryz.sizeOf26 rfl ?_)
 refine sw (qC (.slice xu t.qy.length qZ) Tryz.isAgg26 rfl (H.cell 1 rfl rfl) ?_)
 refine sw (qH b5 (0) 0 Tryz.underlying110 rfl rfl Tryz.sizeOf2 rfl ?_)
 refine sw (qC (.int .i64 r.qw) Tryz.isAgg2 rfl (H.cell 0 rfl rfl) ?_)
 obtain ⟨b7, o8, rfl⟩ := H.addr 2 rfl (by omega)
 refine sw (xE r.qw Tryz.underlying26 ti4 rfl rfl (by omega) (by omega) ?_)
 refine sw (qC (.bool (t.qy[r.qw.toNat]!)) Tryz.isAgg4 rfl (H.yU 2 rfl r.qw (by omega) (by omega)) ?_)
 refine sp (.bool (!(t.qy[r.qw.toNat]!))) ?_
 refine qo (t_n ?_)
 refine qP (!(t.qy[r.qw.toNat]!)) rfl (fun h10 => ?_) (fun h10 => ?_)
 ·skip
  replace h10 := qQ h10
  refine qh (qp ?_)
  refine sp (.bool false) ?_
  refine qo (t_n (xh (t_r ?_)))
  refine ret1 (.bool false) rfl rfl ⟨_, rfl, ?_, H.base⟩
  rw [xf (fun h => by obtain ⟨h1, h2, h3, h4, h5⟩ := h; first | exact ft h1 ‹_› | exact ft h2 ‹_› | exact ft h3 ‹_› | exact h4 ⟨‹_›, ‹_›⟩ | (obtain ⟨q1, q2⟩ := h5 i (by omega); first | exact ft q1 ‹_› | exact absurd q2 ‹_›))]
 replace h10 := qN h10
 refine xg (t_n (qh (qp ?_)))
 refine sw (qH b3 (0) 1 Tryz.underlying38 rfl rfl Tryz.sizeOf27 rfl ?_)
 refine sw (qC (.slice xB t.qG.length xx) Tryz.isAgg27 rfl (H.cell 1 rfl rfl) ?_)
 refine sw (qH b5 (0) 0 Tryz.underlying110 rfl rfl Tryz.sizeOf2 rfl ?_)
 refine sw (qC (.int .i64 r.qw) Tryz.isAgg2 rfl (H.cell 0 rfl rfl) ?_)
 obtain ⟨b11, o12, rfl⟩ := H.addr 3 rfl (by omega)
 obtain ⟨ae14, ce14, Fe14, H⟩ := H.Xk 3 rfl r.qw r.qw.toNat (by omega) (by omega) (by omega)
 refine sw (xE r.qw Tryz.underlying27 ti22 rfl rfl (by omega) (by omega) ?_)
 refine sw (qC (.slice ae14 ((t.qG[r.qw.toNat]!).length) ce14) Tryz.isAgg22 rfl (H.xU 1 rfl 0 rfl) ?_)
 refine sp (.slice ae14 ((t.qG[r.qw.toNat]!).length) ce14) ?_
 refine qo (t_n (qh (qh (qp ?_))))
 refine sw (qH b5 (0) 2 Tryz.underlying110 rfl rfl Tryz.sizeOf22 rfl ?_)
 refine sw (qC (.slice zJ r.qI.length zI) Tryz.isAgg22 rfl (H.cell 0 rfl rfl) ?_)
 refine sp (.slice ae14 ((t.qG[r.qw.toNat]!).length) ce14) ?_
 refine sw (xm #[.slice zJ r.qI.length zI, .slice ae14 ((t.qG[r.qw.toNat]!).length) ce14] rfl rfl Tryz.call128 (isWithin_ok w6 r.qI (t.qG[r.qw.toNat]!) zJ zI yV ae14 ce14 Fe14 (H.get 7 rfl).1 (H.get 0 rfl).1 (by first | assumption | omega) (by first | assumption | omega)) ?_)
 rintro _ w15 rfl x16
 replace H := H.ext x16
 refine sps [.bool (!(within r.qI (t.qG[r.qw.toNat]!))), .bool (!(within r.qI (t.qG[r.qw.toNat]!)))] ?_
 cases h17 : (!(within r.qI (t.qG[r.qw.toNat]!)))
 ·skip
  replace h17 := qN h17
  refine qO 26 rfl rfl ?_
  refine sw (qH b5 (0) 3 Tryz.underlying110 rfl rfl Tryz.sizeOf22 rfl ?_)
  refine qO 26 rfl rfl ?_
  refine sw (qC (.slice ve r.qW.length zZ) Tryz.isAgg22 rfl (H.cell 0 rfl rfl) ?_)
  refine qO 26 rfl rfl ?_
  refine sp (.slice ae14 ((t.qG[r.qw.toNat]!).length) ce14) ?_
  refine qO 26 rfl rfl ?_
  refine sw (xm #[.slice ve r.qW.length zZ, .slice ae14 ((t.qG[r.qw.toNat]!).length) ce14] rfl rfl Tryz.call128 (isWithin_ok w15 r.qW (t.qG[r.qw.toNat]!) ve zZ Qw ae14 ce14 Fe14 (H.get 8 rfl).1 (H.get 0 rfl).1 (by first | assumption | omega) (by first | assumption | omega)) ?_)
  rintro _ w18 rfl x19
  replace H := H.ext x19
  refine qO 26 rfl rfl ?_
  refine sps [.bool (!(within r.qW (t.qG[r.qw.toNat]!))), .bool (!(within r.qW (t.qG[r.qw.toNat]!))), .bool (!(within r.qW (t.qG[r.qw.toNat]!)))] ?_
  cases h20 : (!(within r.qW (t.qG[r.qw.toNat]!)))
  ·skip
   replace h20 := qN h20
   refine qO 33 rfl rfl ?_
   refine sw (qH b5 (0) 4 Tryz.underlying110 rfl rfl Tryz.sizeOf22 rfl ?_)
   refine qO 33 rfl rfl ?_
   refine sw (qC (.slice zQ r.qX.length zO) Tryz.isAgg22 rfl (H.cell 0 rfl rfl) ?_)
   refine qO 33 rfl rfl ?_
   refine sw (xm #[.slice zQ r.qX.length zO] rfl rfl Tryz.call124 (bagSize_ok w18 r.qX zQ zO Qk (H.get 9 rfl).1 (by first | assumption | exact vG (by assumption) | exact Qi (by assumption))) ?_)
   rintro _ w21 rfl x22
   replace H := H.ext x22
   refine qO 33 rfl rfl ?_
   refine sp (.bool (decide ((sumL r.qX : Int) > 0))) ?_
   refine qO 33 rfl rfl ?_
   refine sp (.bool (decide ((sumL r.qX : Int) > 0))) ?_
   cases h23 : (decide ((sumL r.qX : Int) > 0))
   ·skip
    replace h23 := of_decide_eq_false h23
    refine xN [39, 40, 41, 42] ?_
    refine qO 33 rfl rfl ?_
    refine sps [.bool false, .bool false] ?_
    refine qo (t_n ?_)
    refine qP false rfl (fun h => absurd h (by decide)) (fun _ => ?_)
    refine xg (t_n (qh (qp ?_)))
    refine sw (qH b5 (0) 7 Tryz.underlying110 rfl rfl Tryz.sizeOf108 rfl ?_)
    refine sw (qC (.slice zy r.qx.length zh) Tryz.isAgg108 rfl (H.cell 0 rfl rfl) ?_)
    refine sp (.func (.func 150) #[] #[pp b3 0, pp b1 0, pp b5 0]) ?_
    refine sw (yw #[.slice zy r.qx.length zh, .func (.func 150) #[] #[pp b3 0, pp b1 0, pp b5 0]] rfl rfl Tryz.call149 ?_)
    refine enter (n := 9) Tryz.func149 rfl Tryz.ntmps149 (Nat.le_of_ble_eq_true rfl) ?_
    refine qh (qp ?_)
    refine sp (.bool false) ?_
    refine qo (t_n (qh (qp ?_)))
    refine sps [.slice zy r.qx.length zh, .func (.func 150) #[] #[pp b3 0, pp b1 0, pp b5 0]] ?_
    refine sw (yw #[.slice zy r.qx.length zh, .func (.func 150) #[] #[pp b3 0, pp b1 0, pp b5 0]] rfl rfl Tryz.call163 ?_)
    refine enter (n := 19) Tryz.func163 rfl Tryz.ntmps163 (Nat.le_of_ble_eq_true rfl) ?_
    refine qh (qp ?_)
    refine sp (.int .i64 0) ?_
    refine qo (t_n (qh (qh (qp ?_))))
    refine sp (.slice zy r.qx.length zh) ?_
    refine sw (zK Tryz.underlying108 zy r.qx.length zh rfl ?_)
    refine sp (.int .i64 0) ?_
    refine qo (t_n (xn ?_))
    refine zC (fun m' ρ w24 => ∃ (junk : Env) (i : Nat), ρ = upd (upd (upd (upd junk 0 (.slice zy r.qx.length zh)) 1 (.func (.func 150) #[] #[pp b3 0, pp b1 0, pp b5 0])) 7 (.int .i64 r.qx.length)) 8 (.int .i64 i) ∧ ((i : Int) ≤ r.qx.length) ∧ (IntoUp s t r i) ∧ m' = (r.qx.length - (i : Int)).toNat ∧ Fresh w.heap.size [] ∧ St w w24 [.box b5 [.int .i64 r.qw, .int .i64 r.xM, .slice zJ r.qI.length zI, .slice ve r.qW.length zZ, .slice zQ r.qX.length zO, .slice vJ r.xe.length vI, .slice yj r.xO.length yh, .slice zy r.qx.length zh, .bool r.xG] 110, .box b3 [.slice (aa b7 o8) t.qy.length qZ, .slice (aa b11 o12) t.qG.length xx, .slice qV t.qB.length qU] 38, .box b1 [.int .i64 s.qF, .slice qm s.qg.length ql, .slice qE s.qf.length qA] 36] [isF false Fe14 (.slice ae14 ((t.qG[r.qw.toNat]!).length) ce14) (t.qG[r.qw.toNat]!), atF b11 (o12 + (r.qw : Int).toNat * 1) [.slice ae14 ((t.qG[r.qw.toNat]!).length) ce14], isF false qL (.slice qm s.qg.length ql) s.qg, isF false xk (.slice qE s.qf.length qA) s.qf, isF false xY (.slice (aa b7 o8) t.qy.length qZ) t.qy, isF false zG (.slice (aa b11 o12) t.qG.length xx) t.qG, isF false xJ (.slice qV t.qB.length qU) t.qB, isF false yV (.slice zJ r.qI.length zI) r.qI, isF false Qw (.slice ve r.qW.length zZ) r.qW, isF false Qk (.slice zQ r.qX.length zO) r.qX, isF false QK (.slice vJ r.xe.length vI) r.xe, isF false FrOut (.slice yj r.xO.length yh) r.xO, isF false FrInto (.slice zy r.qx.length zh) r.qx]) ((r.qx.length - (0 : Int)).toNat) ⟨_, 0, (by exact qj (qj (qj (qj (rfl) rfl) rfl) rfl) rfl), (by omega), (by exact fun j hj => by omega), rfl, N, H⟩ ?_
    clear H N
    rintro m' ρ w25 ⟨junk, i, rfl, i0, i1, rfl, N, H⟩
    refine qh (qp ?_)
    refine sp (.bool (decide ((i : Int) < r.qx.length))) ?_
    refine qo (t_n (qh ?_))
    refine qP (decide ((i : Int) < r.qx.length)) rfl (fun h26 => ?_) (fun h26 => ?_)
    ·skip
     replace h26 := of_decide_eq_true h26
     have q := (p12 i (by omega)).1
     have q1 := q.1
     have q2 := q.2
     refine xg (t_n (qh (xn (qh (qp ?_)))))
     refine sps [.int .i64 i, .int .i64 i] ?_
     refine qo (t_n (qh (qp ?_)))
     refine sps [.func (.func 150) #[] #[pp b3 0, pp b1 0, pp b5 0], .slice zy r.qx.length zh, .int .i64 i] ?_
     obtain ⟨b27, o28, rfl⟩ := H.addr 12 rfl (by omega)
     obtain ⟨ae30Bag, ce30Bag, Fe30Bag, H⟩ := H.vP 12 rfl i i (by omega) (by omega) (by omega)
     refine sw (xE i Tryz.underlying108 ti115 rfl rfl (by omega) (by omega) ?_)
     refine sw (zn [.int .i64 ((r.qx[i]!).qw), .slice ae30Bag (((r.qx[i]!).zF).length) ce30Bag] Tryz.isAgg115 Tryz.sizeOf115 rfl (qK (H.get 1 rfl) 0 2) ?_)
     refine sw (yw #[.agg #[.int .i64 ((r.qx[i]!).qw), .slice ae30Bag (((r.qx[i]!).zF).length) ce30Bag], pp b3 0, pp b1 0, pp b5 0] rfl rfl Tryz.call150 ?_)
     refine enter (n := 23) Tryz.func150 rfl Tryz.ntmps150 (Nat.le_of_ble_eq_true rfl) ?_
     refine qh (qp ?_)
     refine sw (jy H [.int .i64 ((r.qx[i]!).qw), .slice ae30Bag (((r.qx[i]!).zF).length) ce30Bag] fun b31 w32 H => ?_)
     refine sp (.bool false) ?_
     refine qo (t_n (qh ?_))
     refine jf rfl H fun H => ?_
     refine rt 0 (pp b3 (0 + 0)) (xH b3 (0) 0 Tryz.underlying38 rfl rfl Tryz.sizeOf26 rfl) H ?_
     refine rt 1 (.slice (aa b7 o8) t.qy.length qZ) (xw Tryz.isAgg26 rfl (fun _ h => h.cell 2 rfl rfl)) H ?_
     refine rt 2 (pp b31 (0 + 0)) (xH b31 (0) 0 Tryz.underlying115 rfl rfl Tryz.sizeOf2 rfl) H ?_
     refine rt 3 (.int .i64 ((r.qx[i]!).qw)) (xw Tryz.isAgg2 rfl (fun _ h => h.cell 0 rfl rfl)) H ?_
     refine rt 4 (pp b7 (o8 + ((r.qx[i]!).qw : Int).toNat * 1)) (xQ b7 (o8) t.qy.length qZ ((r.qx[i]!).qw) Tryz.underlying26 ti4 rfl rfl (by omega) (by omega)) H ?_
     refine rt 5 (.bool (t.qy[((r.qx[i]!).qw).toNat]!)) (xw Tryz.isAgg4 rfl (fun _ h => h.yU 6 rfl ((r.qx[i]!).qw) (by omega) (by omega))) H ?_
     refine rtp 6 (.bool (!(t.qy[((r.qx[i]!).qw).toNat]!))) H ?_
     refine rtp 7 (.bool (!(t.qy[((r.qx[i]!).qw).toNat]!))) H ?_
     cases h34 : (!(t.qy[((r.qx[i]!).qw).toNat]!))
     ·skip
      replace h34 := qN h34
      refine rg 8 (.agg #[.int .i64 s.qF, .slice qm s.qg.length ql, .slice qE s.qf.length qA]) 13 (yu (cs := [.int .i64 s.qF, .slice qm s.qg.length ql, .slice qE s.qf.length qA]) Tryz.isAgg36 Tryz.sizeOf36 rfl (fun _ h => qK (h.cells 3 rfl) 0 3)) H ?_
      refine rg 9 (.agg #[.slice (aa b7 o8) t.qy.length qZ, .slice (aa b11 o12) t.qG.length xx, .slice qV t.qB.length qU]) 13 (yu (cs := [.slice (aa b7 o8) t.qy.length qZ, .slice (aa b11 o12) t.qG.length xx, .slice qV t.qB.length qU]) Tryz.isAgg38 Tryz.sizeOf38 rfl (fun _ h => qK (h.cells 2 rfl) 0 3)) H ?_
      refine rg 10 (pp b31 (0 + 0)) 13 (xH b31 (0) 0 Tryz.underlying115 rfl rfl Tryz.sizeOf2 rfl) H ?_
      refine rg 11 (.int .i64 ((r.qx[i]!).qw)) 13 (xw Tryz.isAgg2 rfl (fun _ h => h.cell 0 rfl rfl)) H ?_
      refine rg 13 (pp b5 (0 + 0)) 13 (xH b5 (0) 0 Tryz.underlying110 rfl rfl Tryz.sizeOf2 rfl) H ?_
      refine rg 14 (.int .i64 r.qw) 13 (xw Tryz.isAgg2 rfl (fun _ h => h.cell 1 rfl rfl)) H ?_
      refine zt [12] (by kernel_rfl) (by simp) (r_opG rfl (e := 13) rfl rfl ?_ zu)
      refine xm #[.agg #[.int .i64 s.qF, .slice qm s.qg.length ql, .slice qE s.qf.length qA], .agg #[.slice (aa b7 o8) t.qy.length qZ, .slice (aa b11 o12) t.qG.length xx, .slice qV t.qB.length qU], .int .i64 ((r.qx[i]!).qw)] rfl rfl Tryz.call144 (parentNow_ok w32.drew s t ((r.qx[i]!).qw) qm ql qL qE qA xk (aa b7 o8) qZ xY (aa b11 o12) xx zG qV qU xJ (H.get 4 rfl).1 (H.get 5 rfl).1 (H.get 6 rfl).1 (H.get 7 rfl).1 (H.get 8 rfl).1 (by first | assumption | omega) (by first | assumption | omega) (by first | assumption | omega)) ?_
      rintro _ w36 rfl x37
      replace H := H.ext x37
      refine ⟨H, ?_⟩
      refine rgp 15 (.bool ((xK s t ((r.qx[i]!).qw) : Int) != r.qw)) 13 H ?_
      refine rtp 16 (.bool ((xK s t ((r.qx[i]!).qw) : Int) != r.qw)) H ?_
      refine rtp 17 (.bool ((xK s t ((r.qx[i]!).qw) : Int) != r.qw)) H ?_
      refine xZ (by kernel_rfl) (t_n ?_)
      refine xh ?_
      refine ret1 (.bool ((xK s t ((r.qx[i]!).qw) : Int) != r.qw)) rfl rfl ⟨_, rfl, ?_⟩
      replace H := H.erases [0]
      dsimp only [Qr, List.eraseIdx] at H
      refine qo (t_n ?_)
      refine qP ((xK s t ((r.qx[i]!).qw) : Int) != r.qw) rfl (fun h38 => ?_) (fun h38 => ?_)
      ·skip
       replace h38 := bne_iff_ne.1 h38
       refine qh (qp ?_)
       refine sps [.int .i64 i, .int .i64 i] ?_
       refine qo (t_n (xh (b_r (t_r (t_r (b_r (t_r ?_)))))))
       refine ret1 (.int .i64 i) rfl rfl ⟨_, rfl, ?_⟩
       refine sw (o_pure (.bool true) (by show some (Value.bool (decide ((i : Int) ≥ 0))) = some (Value.bool true); rw [decide_eq_true (by omega)]) ?_)
       refine sp (.bool true) ?_
       refine qo (t_n (xh ?_))
       refine ret1 (.bool true) rfl rfl ⟨_, rfl, ?_⟩
       refine sps [.bool false, .bool false] ?_
       refine qo (t_n (xh ?_))
       refine ret1 (.bool false) rfl rfl ⟨_, rfl, ?_, H.base⟩
       rw [xf (fun h => by obtain ⟨h1, h2, h3, h4, h5⟩ := h; first | exact ft h1 ‹_› | exact ft h2 ‹_› | exact ft h3 ‹_› | exact h4 ⟨‹_›, ‹_›⟩ | (obtain ⟨q1, q2⟩ := h5 i (by omega); first | exact ft q1 ‹_› | exact absurd q2 ‹_›))]
      replace h38 := xI h38
      refine xg (b_n (t_n (qp ?_)))
      refine sw (zD i 1 rfl rfl (by omega) ?_)
      refine sp (.int .i64 (i + 1)) ?_
      refine qo ?_
      refine xy (m' := (r.qx.length - ((i + 1) : Int)).toNat) (by omega) ⟨_, i + 1, (by exact qj (qj (qj (qj (rfl) rfl) rfl) rfl) rfl), ?_, ?_, rfl, N, H.pick [0, 1, 2] [2, 3, 4, 5, 6, 7, 8, 9, 10, 11, 12, 13, 14]⟩
      · omega
      · exact i1.succ ‹_› ‹_›
     replace h34 := qQ h34
     refine zq [8, 9, 10, 11, 12, 13, 14, 15] 8 (H) ?_
     refine rtp 16 (.bool true) H ?_
     refine rtp 17 (.bool true) H ?_
     refine xZ (by kernel_rfl) (t_n ?_)
     refine xh ?_
     refine ret1 (.bool true) rfl rfl ⟨_, rfl, ?_⟩
     replace H := H.erases [0]
     dsimp only [Qr, List.eraseIdx] at H
     refine qo (t_n ?_)
     refine qP true rfl (fun _ => ?_) (fun h => absurd h (by decide))
     refine qh (qp ?_)
     refine sps [.int .i64 i, .int .i64 i] ?_
     refine qo (t_n (xh (b_r (t_r (t_r (b_r (t_r ?_)))))))
     refine ret1 (.int .i64 i) rfl rfl ⟨_, rfl, ?_⟩
     refine sw (o_pure (.bool true) (by show some (Value.bool (decide ((i : Int) ≥ 0))) = some (Value.bool true); rw [decide_eq_true (by omega)]) ?_)
     refine sp (.bool true) ?_
     refine qo (t_n (xh ?_))
     refine ret1 (.bool true) rfl rfl ⟨_, rfl, ?_⟩
     refine sps [.bool false, .bool false] ?_
     refine qo (t_n (xh ?_))
     refine ret1 (.bool false) rfl rfl ⟨_, rfl, ?_, H.base⟩
     rw [xf (fun h => by obtain ⟨h1, h2, h3, h4, h5⟩ := h; first | exact ft h1 ‹_› | exact ft h2 ‹_› | exact ft h3 ‹_› | exact h4 ⟨‹_›, ‹_›⟩ | (obtain ⟨q1, q2⟩ := h5 i (by omega); first | exact ft q1 ‹_› | exact absurd q2 ‹_›))]
    replace h26 := of_decide_eq_false h26
    refine zx (t_x (t_x (b_x (t_n (qh (qp ?_))))))
    refine sp (.int .i64 (-1)) ?_
    refine qo (t_n (xh ?_))
    refine ret1 (.int .i64 (-1)) rfl rfl ⟨_, rfl, ?_⟩
    refine sps [.bool false, .bool false] ?_
    refine qo (t_n (xh ?_))
    refine ret1 (.bool false) rfl rfl ⟨_, rfl, ?_⟩
    refine sps [.bool true, .bool true] ?_
    refine qo (t_n (xh ?_))
    refine ret1 (.bool true) rfl rfl ⟨_, rfl, ?_, H.base⟩
    rw [jD ⟨by assumption, by assumption, by assumption, fun ⟨u, v⟩ => by first | omega | exact ft v ‹_›, (show i = r.qx.length by omega) ▸ i1⟩]
   replace h23 := of_decide_eq_true h23
   refine qO 38 rfl rfl ?_
   refine sw (qH b5 (0) 4 Tryz.underlying110 rfl rfl Tryz.sizeOf22 rfl ?_)
   refine qO 38 rfl rfl ?_
   refine sw (qC (.slice zQ r.qX.length zO) Tryz.isAgg22 rfl (H.cell 0 rfl rfl) ?_)
   refine qO 38 rfl rfl ?_
   refine sp (.slice ae14 ((t.qG[r.qw.toNat]!).length) ce14) ?_
   refine qO 38 rfl rfl ?_
   refine sw (xm #[.slice zQ r.qX.length zO, .slice ae14 ((t.qG[r.qw.toNat]!).length) ce14] rfl rfl Tryz.call128 (isWithin_ok w21 r.qX (t.qG[r.qw.toNat]!) zQ zO Qk ae14 ce14 Fe14 (H.get 9 rfl).1 (H.get 0 rfl).1 (by first | assumption | omega) (by first | assumption | omega)) ?_)
   rintro _ w39 rfl x40
   replace H := H.ext x40
   refine qO 33 rfl rfl ?_
   refine sps [.bool (within r.qX (t.qG[r.qw.toNat]!)), .bool (within r.qX (t.qG[r.qw.toNat]!))] ?_
   refine qo (t_n ?_)
   refine qP (within r.qX (t.qG[r.qw.toNat]!)) rfl (fun h41 => ?_) (fun h41 => ?_)
   ·skip
    refine qh (qp ?_)
    refine sp (.bool false) ?_
    refine qo (t_n (xh (t_r ?_)))
    refine ret1 (.bool false) rfl rfl ⟨_, rfl, ?_, H.base⟩
    rw [xf (fun h => by obtain ⟨h1, h2, h3, h4, h5⟩ := h; first | exact ft h1 ‹_› | exact ft h2 ‹_› | exact ft h3 ‹_› | exact h4 ⟨‹_›, ‹_›⟩ | (obtain ⟨q1, q2⟩ := h5 i (by omega); first | exact ft q1 ‹_› | exact absurd q2 ‹_›))]
   refine xg (t_n (qh (qp ?_)))
   refine sw (qH b5 (0) 7 Tryz.underlying110 rfl rfl Tryz.sizeOf108 rfl ?_)
   refine sw (qC (.slice zy r.qx.length zh) Tryz.isAgg108 rfl (H.cell 0 rfl rfl) ?_)
   refine sp (.func (.func 150) #[] #[pp b3 0, pp b1 0, pp b5 0]) ?_
   refine sw (yw #[.slice zy r.qx.length zh, .func (.func 150) #[] #[pp b3 0, pp b1 0, pp b5 0]] rfl rfl Tryz.call149 ?_)
   refine enter (n := 9) Tryz.func149 rfl Tryz.ntmps149 (Nat.le_of_ble_eq_true rfl) ?_
   refine qh (qp ?_)
   refine sp (.bool false) ?_
   refine qo (t_n (qh (qp ?_)))
   refine sps [.slice zy r.qx.length zh, .func (.func 150) #[] #[pp b3 0, pp b1 0, pp b5 0]] ?_
   refine sw (yw #[.slice zy r.qx.length zh, .func (.func 150) #[] #[pp b3 0, pp b1 0, pp b5 0]] rfl rfl Tryz.call163 ?_)
   refine enter (n := 19) Tryz.func163 rfl Tryz.ntmps163 (Nat.le_of_ble_eq_true rfl) ?_
   refine qh (qp ?_)
   refine sp (.int .i64 0) ?_
   refine qo (t_n (qh (qh (qp ?_))))
   refine sp (.slice zy r.qx.length zh) ?_
   refine sw (zK Tryz.underlying108 zy r.qx.length zh rfl ?_)
   refine sp (.int .i64 0) ?_
   refine qo (t_n (xn ?_))
   refine zC (fun m' ρ w42 => ∃ (junk : Env) (i : Nat), ρ = upd (upd (upd (upd junk 0 (.slice zy r.qx.length zh)) 1 (.func (.func 150) #[] #[pp b3 0, pp b1 0, pp b5 0])) 7 (.int .i64 r.qx.length)) 8 (.int .i64 i) ∧ ((i : Int) ≤ r.qx.length) ∧ (IntoUp s t r i) ∧ m' = (r.qx.length - (i : Int)).toNat ∧ Fresh w.heap.size [] ∧ St w w42 [.box b5 [.int .i64 r.qw, .int .i64 r.xM, .slice zJ r.qI.length zI, .slice ve r.qW.length zZ, .slice zQ r.qX.length zO, .slice vJ r.xe.length vI, .slice yj r.xO.length yh, .slice zy r.qx.length zh, .bool r.xG] 110, .box b3 [.slice (aa b7 o8) t.qy.length qZ, .slice (aa b11 o12) t.qG.length xx, .slice qV t.qB.length qU] 38, .box b1 [.int .i64 s.qF, .slice qm s.qg.length ql, .slice qE s.qf.length qA] 36] [isF false Fe14 (.slice ae14 ((t.qG[r.qw.toNat]!).length) ce14) (t.qG[r.qw.toNat]!), atF b11 (o12 + (r.qw : Int).toNat * 1) [.slice ae14 ((t.qG[r.qw.toNat]!).length) ce14], isF false qL (.slice qm s.qg.length ql) s.qg, isF false xk (.slice qE s.qf.length qA) s.qf, isF false xY (.slice (aa b7 o8) t.qy.length qZ) t.qy, isF false zG (.slice (aa b11 o12) t.qG.length xx) t.qG, isF false xJ (.slice qV t.qB.length qU) t.qB, isF false yV (.slice zJ r.qI.length zI) r.qI, isF false Qw (.slice ve r.qW.length zZ) r.qW, isF false Qk (.slice zQ r.qX.length zO) r.qX, isF false QK (.slice vJ r.xe.length vI) r.xe, isF false FrOut (.slice yj r.xO.length yh) r.xO, isF false FrInto (.slice zy r.qx.length zh) r.qx]) ((r.qx.length - (0 : Int)).toNat) ⟨_, 0, (by exact qj (qj (qj (qj (rfl) rfl) rfl) rfl) rfl), (by omega), (by exact fun j hj => by omega), rfl, N, H⟩ ?_
   clear H N
   rintro m' ρ w43 ⟨junk, i, rfl, i0, i1, rfl, N, H⟩
   refine qh (qp ?_)
   refine sp (.bool (decide ((i : Int) < r.qx.length))) ?_
   refine qo (t_n (qh ?_))
   refine qP (decide ((i : Int) < r.qx.length)) rfl (fun h44 => ?_) (fun h44 => ?_)
   ·skip
    replace h44 := of_decide_eq_true h44
    have q := (p12 i (by omega)).1
    have q1 := q.1
    have q2 := q.2
    refine xg (t_n (qh (xn (qh (qp ?_)))))
    refine sps [.int .i64 i, .int .i64 i] ?_
    refine qo (t_n (qh (qp ?_)))
    refine sps [.func (.func 150) #[] #[pp b3 0, pp b1 0, pp b5 0], .slice zy r.qx.length zh, .int .i64 i] ?_
    obtain ⟨b45, o46, rfl⟩ := H.addr 12 rfl (by omega)
    obtain ⟨ae48Bag, ce48Bag, Fe48Bag, H⟩ := H.vP 12 rfl i i (by omega) (by omega) (by omega)
    refine sw (xE i Tryz.underlying108 ti115 rfl rfl (by omega) (by omega) ?_)
    refine sw (zn [.int .i64 ((r.qx[i]!).qw), .slice ae48Bag (((r.qx[i]!).zF).length) ce48Bag] Tryz.isAgg115 Tryz.sizeOf115 rfl (qK (H.get 1 rfl) 0 2) ?_)
    refine sw (yw #[.agg #[.int .i64 ((r.qx[i]!).qw), .slice ae48Bag (((r.qx[i]!).zF).length) ce48Bag], pp b3 0, pp b1 0, pp b5 0] rfl rfl Tryz.call150 ?_)
    refine enter (n := 23) Tryz.func150 rfl Tryz.ntmps150 (Nat.le_of_ble_eq_true rfl) ?_
    refine qh (qp ?_)
    refine sw (jy H [.int .i64 ((r.qx[i]!).qw), .slice ae48Bag (((r.qx[i]!).zF).length) ce48Bag] fun b49 w50 H => ?_)
    refine sp (.bool false) ?_
    refine qo (t_n (qh ?_))
    refine jf rfl H fun H => ?_
    refine rt 0 (pp b3 (0 + 0)) (xH b3 (0) 0 Tryz.underlying38 rfl rfl Tryz.sizeOf26 rfl) H ?_
    refine rt 1 (.slice (aa b7 o8) t.qy.length qZ) (xw Tryz.isAgg26 rfl (fun _ h => h.cell 2 rfl rfl)) H ?_
    refine rt 2 (pp b49 (0 + 0)) (xH b49 (0) 0 Tryz.underlying115 rfl rfl Tryz.sizeOf2 rfl) H ?_
    refine rt 3 (.int .i64 ((r.qx[i]!).qw)) (xw Tryz.isAgg2 rfl (fun _ h => h.cell 0 rfl rfl)) H ?_
    refine rt 4 (pp b7 (o8 + ((r.qx[i]!).qw : Int).toNat * 1)) (xQ b7 (o8) t.qy.length qZ ((r.qx[i]!).qw) Tryz.underlying26 ti4 rfl rfl (by omega) (by omega)) H ?_
    refine rt 5 (.bool (t.qy[((r.qx[i]!).qw).toNat]!)) (xw Tryz.isAgg4 rfl (fun _ h => h.yU 6 rfl ((r.qx[i]!).qw) (by omega) (by omega))) H ?_
    refine rtp 6 (.bool (!(t.qy[((r.qx[i]!).qw).toNat]!))) H ?_
    refine rtp 7 (.bool (!(t.qy[((r.qx[i]!).qw).toNat]!))) H ?_
    cases h52 : (!(t.qy[((r.qx[i]!).qw).toNat]!))
    ·skip
     replace h52 := qN h52
     refine rg 8 (.agg #[.int .i64 s.qF, .slice qm s.qg.length ql, .slice qE s.qf.length qA]) 13 (yu (cs := [.int .i64 s.qF, .slice qm s.qg.length ql, .slice qE s.qf.length qA]) Tryz.isAgg36 Tryz.sizeOf36 rfl (fun _ h => qK (h.cells 3 rfl) 0 3)) H ?_
     refine rg 9 (.agg #[.slice (aa b7 o8) t.qy.length qZ, .slice (aa b11 o12) t.qG.length xx, .slice qV t.qB.length qU]) 13 (yu (cs := [.slice (aa b7 o8) t.qy.length qZ, .slice (aa b11 o12) t.qG.length xx, .slice qV t.qB.length qU]) Tryz.isAgg38 Tryz.sizeOf38 rfl (fun _ h => qK (h.cells 2 rfl) 0 3)) H ?_
     refine rg 10 (pp b49 (0 + 0)) 13 (xH b49 (0) 0 Tryz.underlying115 rfl rfl Tryz.sizeOf2 rfl) H ?_
     refine rg 11 (.int .i64 ((r.qx[i]!).qw)) 13 (xw Tryz.isAgg2 rfl (fun _ h => h.cell 0 rfl rfl)) H ?_
     refine rg 13 (pp b5 (0 + 0)) 13 (xH b5 (0) 0 Tryz.underlying110 rfl rfl Tryz.sizeOf2 rfl) H ?_
     refine rg 14 (.int .i64 r.qw) 13 (xw Tryz.isAgg2 rfl (fun _ h => h.cell 1 rfl rfl)) H ?_
     refine zt [12] (by kernel_rfl) (by simp) (r_opG rfl (e := 13) rfl rfl ?_ zu)
     refine xm #[.agg #[.int .i64 s.qF, .slice qm s.qg.length ql, .slice qE s.qf.length qA], .agg #[.slice (aa b7 o8) t.qy.length qZ, .slice (aa b11 o12) t.qG.length xx, .slice qV t.qB.length qU], .int .i64 ((r.qx[i]!).qw)] rfl rfl Tryz.call144 (parentNow_ok w50.drew s t ((r.qx[i]!).qw) qm ql qL qE qA xk (aa b7 o8) qZ xY (aa b11 o12) xx zG qV qU xJ (H.get 4 rfl).1 (H.get 5 rfl).1 (H.get 6 rfl).1 (H.get 7 rfl).1 (H.get 8 rfl).1 (by first | assumption | omega) (by first | assumption | omega) (by first | assumption | omega)) ?_
     rintro _ w54 rfl x55
     replace H := H.ext x55
     refine ⟨H, ?_⟩
     refine rgp 15 (.bool ((xK s t ((r.qx[i]!).qw) : Int) != r.qw)) 13 H ?_
     refine rtp 16 (.bool ((xK s t ((r.qx[i]!).qw) : Int) != r.qw)) H ?_
     refine rtp 17 (.bool ((xK s t ((r.qx[i]!).qw) : Int) != r.qw)) H ?_
     refine xZ (by kernel_rfl) (t_n ?_)
     refine xh ?_
     refine ret1 (.bool ((xK s t ((r.qx[i]!).qw) : Int) != r.qw)) rfl rfl ⟨_, rfl, ?_⟩
     replace H := H.erases [0]
     dsimp only [Qr, List.eraseIdx] at H
     refine qo (t_n ?_)
     refine qP ((xK s t ((r.qx[i]!).qw) : Int) != r.qw) rfl (fun h56 => ?_) (fun h56 => ?_)
     ·skip
      replace h56 := bne_iff_ne.1 h56
      refine qh (qp ?_)
      refine sps [.int .i64 i, .int .i64 i] ?_
      refine qo (t_n (xh (b_r (t_r (t_r (b_r (t_r ?_)))))))
      refine ret1 (.int .i64 i) rfl rfl ⟨_, rfl, ?_⟩
      refine sw (o_pure (.bool true) (by show some (Value.bool (decide ((i : Int) ≥ 0))) = some (Value.bool true); rw [decide_eq_true (by omega)]) ?_)
      refine sp (.bool true) ?_
      refine qo (t_n (xh ?_))
      refine ret1 (.bool true) rfl rfl ⟨_, rfl, ?_⟩
      refine sps [.bool false, .bool false] ?_
      refine qo (t_n (xh ?_))
      refine ret1 (.bool false) rfl rfl ⟨_, rfl, ?_, H.base⟩
      rw [xf (fun h => by obtain ⟨h1, h2, h3, h4, h5⟩ := h; first | exact ft h1 ‹_› | exact ft h2 ‹_› | exact ft h3 ‹_› | exact h4 ⟨‹_›, ‹_›⟩ | (obtain ⟨q1, q2⟩ := h5 i (by omega); first | exact ft q1 ‹_› | exact absurd q2 ‹_›))]
     replace h56 := xI h56
     refine xg (b_n (t_n (qp ?_)))
     refine sw (zD i 1 rfl rfl (by omega) ?_)
     refine sp (.int .i64 (i + 1)) ?_
     refine qo ?_
     refine xy (m' := (r.qx.length - ((i + 1) : Int)).toNat) (by omega) ⟨_, i + 1, (by exact qj (qj (qj (qj (rfl) rfl) rfl) rfl) rfl), ?_, ?_, rfl, N, H.pick [0, 1, 2] [2, 3, 4, 5, 6, 7, 8, 9, 10, 11, 12, 13, 14]⟩
     · omega
     · exact i1.succ ‹_› ‹_›
    replace h52 := qQ h52
    refine zq [8, 9, 10, 11, 12, 13, 14, 15] 8 (H) ?_
    refine rtp 16 (.bool true) H ?_
    refine rtp 17 (.bool true) H ?_
    refine xZ (by kernel_rfl) (t_n ?_)
    refine xh ?_
    refine ret1 (.bool true) rfl rfl ⟨_, rfl, ?_⟩
    replace H := H.erases [0]
    dsimp only [Qr, List.eraseIdx] at H
    refine qo (t_n ?_)
    refine qP true rfl (fun _ => ?_) (fun h => absurd h (by decide))
    refine qh (qp ?_)
    refine sps [.int .i64 i, .int .i64 i] ?_
    refine qo (t_n (xh (b_r (t_r (t_r (b_r (t_r ?_)))))))
    refine ret1 (.int .i64 i) rfl rfl ⟨_, rfl, ?_⟩
    refine sw (o_pure (.bool true) (by show some (Value.bool (decide ((i : Int) ≥ 0))) = some (Value.bool true); rw [decide_eq_true (by omega)]) ?_)
    refine sp (.bool true) ?_
    refine qo (t_n (xh ?_))
    refine ret1 (.bool true) rfl rfl ⟨_, rfl, ?_⟩
    refine sps [.bool false, .bool false] ?_
    refine qo (t_n (xh ?_))
    refine ret1 (.bool false) rfl rfl ⟨_, rfl, ?_, H.base⟩
    rw [xf (fun h => by obtain ⟨h1, h2, h3, h4, h5⟩ := h; first | exact ft h1 ‹_› | exact ft h2 ‹_› | exact ft h3 ‹_› | exact h4 ⟨‹_›, ‹_›⟩ | (obtain ⟨q1, q2⟩ := h5 i (by omega); first | exact ft q1 ‹_› | exact absurd q2 ‹_›))]
   replace h44 := of_decide_eq_false h44
   refine zx (t_x (t_x (b_x (t_n (qh (qp ?_))))))
   refine sp (.int .i64 (-1)) ?_
   refine qo (t_n (xh ?_))
   refine ret1 (.int .i64 (-1)) rfl rfl ⟨_, rfl, ?_⟩
   refine sps [.bool false, .bool false] ?_
   refine qo (t_n (xh ?_))
   refine ret1 (.bool false) rfl rfl ⟨_, rfl, ?_⟩
   refine sps [.bool true, .bool true] ?_
   refine qo (t_n (xh ?_))
   refine ret1 (.bool true) rfl rfl ⟨_, rfl, ?_, H.base⟩
   rw [jD ⟨by assumption, by assumption, by assumption, fun ⟨u, v⟩ => by first | omega | exact ft v ‹_›, (show i = r.qx.length by omega) ▸ i1⟩]
  replace h20 := qQ h20
  refine xN [34, 35, 36, 37, 38, 39, 40, 41, 42, 43] ?_
  refine sp (.bool true) ?_
  refine qo (t_n ?_)
  refine qP true rfl (fun _ => ?_) (fun h => absurd h (by decide))
  refine qh (qp ?_)
  refine sp (.bool false) ?_
  refine qo (t_n (xh (t_r ?_)))
  refine ret1 (.bool false) rfl rfl ⟨_, rfl, ?_, H.base⟩
  rw [xf (fun h => by obtain ⟨h1, h2, h3, h4, h5⟩ := h; first | exact ft h1 ‹_› | exact ft h2 ‹_› | exact ft h3 ‹_› | exact h4 ⟨‹_›, ‹_›⟩ | (obtain ⟨q1, q2⟩ := h5 i (by omega); first | exact ft q1 ‹_› | exact absurd q2 ‹_›))]
 replace h17 := qQ h17
 refine xN [27, 28, 29, 30, 31] ?_
 refine sps [.bool true, .bool true] ?_
 refine xN [34, 35, 36, 37, 38, 39, 40, 41, 42, 43] ?_
 refine sp (.bool true) ?_
 refine qo (t_n ?_)
 refine qP true rfl (fun _ => ?_) (fun h => absurd h (by decide))
 refine qh (qp ?_)
 refine sp (.bool false) ?_
 refine qo (t_n (xh (t_r ?_)))
 refine ret1 (.bool false) rfl rfl ⟨_, rfl, ?_, H.base⟩
 rw [xf (fun h => by obtain ⟨h1, h2, h3, h4, h5⟩ := h; first | exact ft h1 ‹_› | exact ft h2 ‹_› | exact ft h3 ‹_› | exact h4 ⟨‹_›, ‹_›⟩ | (obtain ⟨q1, q2⟩ := h5 i (by omega); first | exact ft q1 ‹_› | exact absurd q2 ‹_›))]

theorem cloneSS_ok (w : World) (l : List (List Int)) (al : Option Addr) (cl : Nat) (Fl : List Nat) (hl : qM.rep w Fl [.slice al l.length cl] l) (p0 : l.length ≤ 1000000) : Calls Tryz.prog 98 #[.slice al l.length cl] w (Ret (fun v w' => ∃ (ra : Option Addr) (rn : Nat) (rc : Nat) (rx : List Value) (rF : List Nat), v = .slice ra rn rc ∧ (∀ b ∈ rF, b ∈ Fl) ∧ St w w' [.row (.slice ra rn rc) 22 1 rn rx] [jo false rF rx l]) w) := by
 refine enter (n := 8) Tryz.func98 rfl Tryz.ntmps98 (Nat.le_of_ble_eq_true rfl) ?_
 have H := (St.start w).arg hl
 have nhl := qJ hl
 clear hl
 have N := Fresh.nil w.heap.size
 refine qh (qp ?_)
 refine sp (.slice none 0 0) ?_
 refine qo (t_n (qh (qh (qp ?_))))
 refine sp (.slice al l.length cl) ?_
 refine sw (o_eqnil Tryz.underlying27 al l.length cl rfl ?_)
 refine qo (t_n ?_)
 refine qP (al.isNone) rfl (fun h1 => ?_) (fun h1 => ?_)
 ·skip
  refine qh (qp ?_)
  refine sp (.slice none 0 0) ?_
  refine qo (t_n (xh (t_r ?_)))
  replace H := H.nilRow 22 1
  replace H := H.Qp (α := List Int)
  refine ret1 (.slice none 0 0) rfl rfl ⟨_, rfl, ?_, H.base⟩
  obtain rfl := H.nilOf 1 rfl ‹_›
  replace H := H.unfree 0 rfl
  exact ⟨none, 0, 0, [], [], rfl, (by intro b hb; first | (simp at hb; done) | exact id b (by simpa using hb)), H.pick [0] [0]⟩
 refine xg (t_n (qh (qp ?_)))
 refine sw (Qq H Tryz.underlying27 ti22 fun b2 w3 H => ?_)
 refine sp (.slice al l.length cl) ?_
 replace H := H.boxRow 0 rfl 1 0 rfl (by decide)
 try dsimp only [List.set] at H
 replace H := H.Qp (α := List Int)
 refine sw (o_appendFR H 0 rfl 1 rfl Tryz.underlying27 ti22 rfl (by decide) rfl rfl (by unfold maxLen; omega) (by omega) fun a4 c5 w6 us7 G8 H hG9 => ?_)
 try dsimp only [List.set] at H
 replace H := H.repsCat false 1 rfl 0 rfl (by simp)
 refine sp (.slice a4 (0 + l.length) c5) ?_
 refine qo (t_n (xh ?_))
 refine ret1 (.slice a4 (0 + l.length) c5) rfl rfl ⟨_, rfl, ?_, H.base⟩
 exact ⟨a4, 0 + l.length, c5, [] ++ us7, ([] ++ G8), rfl, (by intro b hb; first | (simp at hb; done) | exact hG9 b (by simpa using hb)), H.pick [0] [0]⟩

theorem timesIn_ok (w : World) (l : List Int) (m : List Int) (al : Option Addr) (cl : Nat) (Fl : List Nat) (am : Option Addr) (cm : Nat) (Fm : List Nat) (hl : qM.rep w Fl [.slice al l.length cl] l) (hm : qM.rep w Fm [.slice am m.length cm] m) (p0 : l.length ≤ m.length) (p2 : ∀ q, q < l.length → 0 ≤ m[q]! ∧ m[q]! ≤ 1000) : Calls Tryz.prog 99 #[.slice al l.length cl, .slice am m.length cm] w (Ret (fun v w' => v = .int .i64 (jq l m)) w) := by
 refine enter (n := 27) Tryz.func99 rfl Tryz.ntmps99 (Nat.le_of_ble_eq_true rfl) ?_
 have H := ((St.start w).arg hm).arg hl
 have nhl := qJ hl
 have nhm := qJ hm
 clear hl hm
 have N := Fresh.nil w.heap.size
 refine qh (qp ?_)
 refine sp (.int .i64 0) ?_
 refine qo (t_n (qh (qp ?_)))
 refine sp (.int .i64 1000) ?_
 refine qo (t_n (qh (qh (qp ?_))))
 refine sp (.slice al l.length cl) ?_
 refine sw (zK Tryz.underlying22 al l.length cl rfl ?_)
 refine sp (.int .i64 0) ?_
 refine qo (t_n (xn ?_))
 refine zC (fun m' ρ w1 => ∃ (junk : Env) (most : Int) (k : Nat), ρ = upd (upd (upd (upd (upd junk 1 (.slice am m.length cm)) 5 (.int .i64 most)) 8 (.slice al l.length cl)) 9 (.int .i64 l.length)) 10 (.int .i64 k) ∧ most = jA l m k ∧ ((k : Int) ≤ l.length) ∧ m' = (l.length - (k : Int)).toNat ∧ Fresh w.heap.size [] ∧ St w w1 [] [isF false Fl (.slice al l.length cl) l, isF false Fm (.slice am m.length cm) m]) ((l.length - (0 : Int)).toNat) ⟨_, 1000, 0, (by exact qj (qj (qj (qj (qj (rfl) rfl) rfl) rfl) rfl) rfl), (by rfl), (by omega), rfl, N, H⟩ ?_
 clear H N
 rintro m' ρ w2 ⟨junk, most, k, rfl, rfl, i0, rfl, N, H⟩
 refine qh (qp ?_)
 refine sp (.bool (decide ((k : Int) < l.length))) ?_
 refine qo (t_n (qh ?_))
 refine qP (decide ((k : Int) < l.length)) rfl (fun h3 => ?_) (fun h3 => ?_)
 ·skip
  replace h3 := of_decide_eq_true h3
  refine xg (t_n (qh (xn (qh (qp ?_)))))
  refine sp (.int .i64 k) ?_
  obtain ⟨b4, o5, rfl⟩ := H.addr 0 rfl (by omega)
  refine sw (xE k Tryz.underlying22 ti2 rfl rfl (by omega) (by omega) ?_)
  refine sw (qC (.int .i64 (l[k]!)) Tryz.isAgg2 rfl (H.vH 0 rfl k (by omega) (by omega)) ?_)
  refine sps [.int .i64 k, .int .i64 (l[k]!)] ?_
  refine qo (t_n (qh (qp ?_)))
  refine sps [.int .i64 (l[k]!), .bool (decide ((l[k]! : Int) > 0))] ?_
  refine qo (t_n ?_)
  refine qP (decide ((l[k]! : Int) > 0)) rfl (fun h7 => ?_) (fun h7 => ?_)
  ·skip
   replace h7 := of_decide_eq_true h7
   refine qp ?_
   refine sps [.int .i64 (jA l m k), .slice am m.length cm, .int .i64 k] ?_
   obtain ⟨b8, o9, rfl⟩ := H.addr 1 rfl (by omega)
   refine sw (xE k Tryz.underlying22 ti2 rfl rfl (by omega) (by omega) ?_)
   refine sw (qC (.int .i64 (m[k]!)) Tryz.isAgg2 rfl (H.vH 1 rfl k (by omega) (by omega)) ?_)
   refine sp (.int .i64 (l[k]!)) ?_
   refine sw (o_quo (m[k]!) (l[k]!) rfl rfl (by (have := p2 k (by omega); omega)) (by (have := p2 k (by omega); omega)) ?_)
   refine sw (o_min (jA l m k) ((m[k]!) / (l[k]!)) rfl rfl ?_)
   refine sp (.int .i64 (min (jA l m k) ((m[k]!) / (l[k]!)))) ?_
   refine qo (b_n (t_n (qp ?_)))
   refine sw (zD k 1 rfl rfl (by (have := p2 k (by omega); omega)) ?_)
   refine sp (.int .i64 (k + 1)) ?_
   refine qo ?_
   refine xy (m' := (l.length - ((k + 1) : Int)).toNat) (by omega) ⟨_, min (jA l m k) ((m[k]!) / (l[k]!)), k + 1, (by exact qj (qj (qj (qj (qj (rfl) rfl) rfl) rfl) rfl) rfl), ?_, ?_, rfl, N, H⟩
   · first | exact (timesTo_pos (by omega)).symm | exact (timesTo_skip (by omega)).symm
   · omega
  replace h7 := of_decide_eq_false h7
  refine xg (b_n (t_n (qp ?_)))
  refine sw (zD k 1 rfl rfl (by (have := p2 k (by omega); omega)) ?_)
  refine sp (.int .i64 (k + 1)) ?_
  refine qo ?_
  refine xy (m' := (l.length - ((k + 1) : Int)).toNat) (by omega) ⟨_, (jA l m k), k + 1, (by exact qj (qj (qj (qj (qj (rfl) rfl) rfl) rfl) rfl) rfl), ?_, ?_, rfl, N, H⟩
  · first | exact (timesTo_pos (by omega)).symm | exact (timesTo_skip (by omega)).symm
  · omega
 replace h3 := of_decide_eq_false h3
 refine zx (t_x (t_x (b_x (t_n (qh (qp ?_))))))
 refine sps [.int .i64 (jA l m k), .int .i64 (jA l m k)] ?_
 refine qo (t_n (xh ?_))
 refine ret1 (.int .i64 (jA l m k)) rfl rfl ⟨_, rfl, ?_, H.base⟩
 obtain rfl : k = l.length := by omega
 rfl

theorem applicable_ok (w : World) (s : qR) (t : xF) (qm : Option Addr) (ql : Nat) (qL : List Nat) (qE : Option Addr) (qA : Nat) (xk : List Nat) (xu : Option Addr) (qZ : Nat) (xY : List Nat) (xB : Option Addr) (xx : Nat) (zG : List Nat) (qV : Option Addr) (qU : Nat) (xJ : List Nat) (qY : qM.rep w qL [.slice qm s.qg.length ql] s.qg) (xA : qM.rep w xk [.slice qE s.qf.length qA] s.qf) (zo : qM.rep w xY [.slice xu t.qy.length qZ] t.qy) (zT : qM.rep w zG [.slice xB t.qG.length xx] t.qG) (xR : qM.rep w xJ [.slice qV t.qB.length qU] t.qB) (p0 : Qj s) (p1 : zY s t) : Calls Tryz.prog 65 #[.agg #[.int .i64 s.qF, .slice qm s.qg.length ql, .slice qE s.qf.length qA], .agg #[.slice xu t.qy.length qZ, .slice xB t.qG.length xx, .slice qV t.qB.length qU]] w (Ret (fun v w' => ∃ (ra : Option Addr) (rn : Nat) (rc : Nat), v = .slice ra rn rc ∧ Fresh w.heap.size [] ∧ St w w' [.row (.slice ra rn rc) 2 1 rn ((appls s t).map (Value.int .i64))] []) w) := by
 refine enter (n := 69) Tryz.func65 rfl Tryz.ntmps65 (Nat.le_of_ble_eq_true rfl) ?_
 have H := (((((St.start w).arg xR).arg zT).arg zo).arg xA).arg qY
 have zH := qJ qY
 have vN := qJ xA
 have QB := qJ zo
 have nhtBags := qJ zT
 have yS := qJ xR
 clear qY xA zo zT xR
 have N := Fresh.nil w.heap.size
 have p2 := p0.2.1
 have p3 := p0.1.2.1
 refine qh (qp ?_)
 refine sw (jy H [.int .i64 s.qF, .slice qm s.qg.length ql, .slice qE s.qf.length qA] fun b1 w2 H => ?_)
 refine sw (jy H [.slice xu t.qy.length qZ, .slice xB t.qG.length xx, .slice qV t.qB.length qU] fun b3 w4 H => ?_)
 refine sp (.slice none 0 0) ?_
 refine qo (t_n (qh (qp ?_)))
 refine sw (o_build [.int .i64 0, .int .i64 0, .int .i64 0, .int .i64 0, .int .i64 0, .int .i64 0] [] ?_)
 refine sw (QP H ti134 [.int .i64 0, .int .i64 0, .int .i64 0, .int .i64 0, .int .i64 0, .int .i64 0] fun b5 w6 H => ?_)
 refine sw (QO H 0 [.int .i64 0, .int .i64 0, .int .i64 0, .int .i64 0, .int .i64 0, .int .i64 0] Tryz.sizeOf134 fun w7 H => ?_)
 try dsimp only [List.set] at H
 refine qo (t_n (qh (qh (qp ?_))))
 refine sp (.int .i64 0) ?_
 refine qo (t_n (xn ?_))
 try dsimp only [List.set] at H
 refine zC (fun m' ρ w8 => ∃ (junk : Env) (c : Nat) (top : List Int), ρ = upd (upd (upd (upd junk 2 (pp b1 0)) 3 (pp b3 0)) 5 (pp b5 0)) 13 (.int .i64 c) ∧ top = minus c ∧ ((c : Int) ≤ 6) ∧ m' = (6 - (c : Int)).toNat ∧ Fresh w.heap.size [] ∧ St w w8 [.box b5 (top.map (Value.int .i64)) 134, .box b3 [.slice xu t.qy.length qZ, .slice xB t.qG.length xx, .slice qV t.qB.length qU] 38, .box b1 [.int .i64 s.qF, .slice qm s.qg.length ql, .slice qE s.qf.length qA] 36] [isF false qL (.slice qm s.qg.length ql) s.qg, isF false xk (.slice qE s.qf.length qA) s.qf, isF false xY (.slice xu t.qy.length qZ) t.qy, isF false zG (.slice xB t.qG.length xx) t.qG, isF false xJ (.slice qV t.qB.length qU) t.qB]) ((6 - (0 : Int)).toNat) ⟨_, 0, [0, 0, 0, 0, 0, 0], (by exact qj (qj (qj (qj (rfl) rfl) rfl) rfl) rfl), (by rfl), (by omega), rfl, N, H⟩ ?_
 clear H N
 rintro m' ρ w9 ⟨junk, c, top, rfl, rfl, i0, rfl, N, H⟩
 refine qh (qp ?_)
 refine sp (.bool (decide ((c : Int) < 6))) ?_
 refine qo (t_n (qh ?_))
 refine qP (decide ((c : Int) < 6)) rfl (fun h10 => ?_) (fun h10 => ?_)
 ·skip
  replace h10 := of_decide_eq_true h10
  refine xg (t_n (qh (xn (qh (qp ?_)))))
  refine sps [.int .i64 c, .int .i64 c] ?_
  refine qo (t_n (qp ?_))
  refine sp (.int .i64 c) ?_
  refine sw (o_idxArr c Tryz.underlying134 ti2 rfl rfl (by omega) (by omega) ?_)
  refine sw (o_storeArr H 0 rfl (-1) Tryz.sizeOf2 rfl rfl (i := c) (by omega) (by simp only [List.length_set, List.length_cons, List.length_nil, minus_len, Qv]; omega) fun w11 H => ?_)
  try dsimp only [List.set] at H
  refine qo (b_n (t_n (qp ?_)))
  refine sw (zD c 1 rfl rfl (by omega) ?_)
  refine sp (.int .i64 (c + 1)) ?_
  refine qo ?_
  refine xy (m' := (6 - ((c + 1) : Int)).toNat) (by omega) ⟨_, c + 1, ((minus c).set c (-1)), (by exact qj (qj (qj (qj (rfl) rfl) rfl) rfl) rfl), ?_, ?_, rfl, N, H⟩
  · exact minus_set (by omega)
  · omega
 replace h10 := of_decide_eq_false h10
 refine zx (t_x (t_x (b_x (t_n (qh (qh (qp ?_)))))))
 refine sw (qH b1 (0) 2 Tryz.underlying36 rfl rfl Tryz.sizeOf34 rfl ?_)
 refine sw (qC (.slice qE s.qf.length qA) Tryz.isAgg34 rfl (H.cell 2 rfl rfl) ?_)
 refine sw (zK Tryz.underlying34 qE s.qf.length qA rfl ?_)
 refine sp (.int .i64 0) ?_
 refine qo (t_n (xn ?_))
 refine zC (fun m' ρ w12 => ∃ (junk : Env) (k : Nat) (top_1 : List Int), ρ = upd (upd (upd (upd (upd (upd junk 2 (pp b1 0)) 3 (pp b3 0)) 5 (pp b5 0)) 20 (.slice qE s.qf.length qA)) 21 (.int .i64 s.qf.length)) 22 (.int .i64 k) ∧ top_1 = bests s t (-1) 6 k ∧ ((k : Int) ≤ s.qf.length) ∧ m' = (s.qf.length - (k : Int)).toNat ∧ Fresh w.heap.size [] ∧ St w w12 [.box b5 (top_1.map (Value.int .i64)) 134, .box b3 [.slice xu t.qy.length qZ, .slice xB t.qG.length xx, .slice qV t.qB.length qU] 38, .box b1 [.int .i64 s.qF, .slice qm s.qg.length ql, .slice qE s.qf.length qA] 36] [isF false qL (.slice qm s.qg.length ql) s.qg, isF false xk (.slice qE s.qf.length qA) s.qf, isF false xY (.slice xu t.qy.length qZ) t.qy, isF false zG (.slice xB t.qG.length xx) t.qG, isF false xJ (.slice qV t.qB.length qU) t.qB]) ((s.qf.length - (0 : Int)).toNat) ⟨_, 0, (minus c), (by exact qj (qj (qj (qj (qj (qj (rfl) rfl) rfl) rfl) rfl) rfl) rfl), (by exact minus_six (by omega) s t), (by omega), rfl, N, H⟩ ?_
 clear H N
 rintro m' ρ w13 ⟨junk, k, top_1, rfl, rfl, i0, rfl, N, H⟩
 refine qh (qp ?_)
 refine sp (.bool (decide ((k : Int) < s.qf.length))) ?_
 refine qo (t_n (qh ?_))
 refine qP (decide ((k : Int) < s.qf.length)) rfl (fun h14 => ?_) (fun h14 => ?_)
 ·skip
  replace h14 := of_decide_eq_true h14
  have q := p0.rule (i := k) (by omega)
  have qc := q.1
  have qk := q.cell
  have qr := q.2.1
  have q6 : (s.qf[k]!).qw.toNat < 6 := by omega
  refine xg (t_n (qh (xn (qh (qp ?_)))))
  obtain ⟨b15, o16, rfl⟩ := H.addr 1 rfl (by omega)
  obtain ⟨ae18Need, ce18Need, Fe18Need, ae18Have, ce18Have, Fe18Have, ae18Lack, ce18Lack, Fe18Lack, ae18Here, ce18Here, Fe18Here, ae18Out, ce18Out, Fe18Out, ae18Into, ce18Into, Fe18Into, H⟩ := H.jv 1 rfl k k (by omega) (by omega) (by omega)
  refine sw (xE k Tryz.underlying34 ti110 rfl rfl (by omega) (by omega) ?_)
  refine sw (zn [.int .i64 ((s.qf[k]!).qw), .int .i64 ((s.qf[k]!).xM), .slice ae18Need (((s.qf[k]!).qI).length) ce18Need, .slice ae18Have (((s.qf[k]!).qW).length) ce18Have, .slice ae18Lack (((s.qf[k]!).qX).length) ce18Lack, .slice ae18Here (((s.qf[k]!).xe).length) ce18Here, .slice ae18Out (((s.qf[k]!).xO).length) ce18Out, .slice ae18Into (((s.qf[k]!).qx).length) ce18Into, .bool ((s.qf[k]!).xG)] Tryz.isAgg110 Tryz.sizeOf110 rfl (qK (H.get 6 rfl) 0 9) ?_)
  refine sw (QP H ti110 [.int .i64 0, .int .i64 0, .slice none 0 0, .slice none 0 0, .slice none 0 0, .slice none 0 0, .slice none 0 0, .slice none 0 0, .bool false] fun b19 w20 H => ?_)
  refine sw (QO H 0 [.int .i64 ((s.qf[k]!).qw), .int .i64 ((s.qf[k]!).xM), .slice ae18Need (((s.qf[k]!).qI).length) ce18Need, .slice ae18Have (((s.qf[k]!).qW).length) ce18Have, .slice ae18Lack (((s.qf[k]!).qX).length) ce18Lack, .slice ae18Here (((s.qf[k]!).xe).length) ce18Here, .slice ae18Out (((s.qf[k]!).xO).length) ce18Out, .slice ae18Into (((s.qf[k]!).qx).length) ce18Into, .bool ((s.qf[k]!).xG)] Tryz.sizeOf110 fun w21 H => ?_)
  try dsimp only [List.set] at H
  refine qo (t_n (qh (qp ?_)))
  refine sw (zn [.int .i64 s.qF, .slice qm s.qg.length ql, .slice (aa b15 o16) s.qf.length qA] Tryz.isAgg36 Tryz.sizeOf36 rfl (qK (H.cells 3 rfl) 0 3) ?_)
  refine sw (zn [.slice xu t.qy.length qZ, .slice xB t.qG.length xx, .slice qV t.qB.length qU] Tryz.isAgg38 Tryz.sizeOf38 rfl (qK (H.cells 2 rfl) 0 3) ?_)
  refine sw (zn [.int .i64 ((s.qf[k]!).qw), .int .i64 ((s.qf[k]!).xM), .slice ae18Need (((s.qf[k]!).qI).length) ce18Need, .slice ae18Have (((s.qf[k]!).qW).length) ce18Have, .slice ae18Lack (((s.qf[k]!).qX).length) ce18Lack, .slice ae18Here (((s.qf[k]!).xe).length) ce18Here, .slice ae18Out (((s.qf[k]!).xO).length) ce18Out, .slice ae18Into (((s.qf[k]!).qx).length) ce18Into, .bool ((s.qf[k]!).xG)] Tryz.isAgg110 Tryz.sizeOf110 rfl (qK (H.cells 0 rfl) 0 9) ?_)
  refine sw (xm #[.agg #[.int .i64 s.qF, .slice qm s.qg.length ql, .slice (aa b15 o16) s.qf.length qA], .agg #[.slice xu t.qy.length qZ, .slice xB t.qG.length xx, .slice qV t.qB.length qU], .agg #[.int .i64 ((s.qf[k]!).qw), .int .i64 ((s.qf[k]!).xM), .slice ae18Need (((s.qf[k]!).qI).length) ce18Need, .slice ae18Have (((s.qf[k]!).qW).length) ce18Have, .slice ae18Lack (((s.qf[k]!).qX).length) ce18Lack, .slice ae18Here (((s.qf[k]!).xe).length) ce18Here, .slice ae18Out (((s.qf[k]!).xO).length) ce18Out, .slice ae18Into (((s.qf[k]!).qx).length) ce18Into, .bool ((s.qf[k]!).xG)]] rfl rfl Tryz.call112 (isEnabled_ok w21 s t (s.qf[k]!) qm ql qL (aa b15 o16) qA xk xu qZ xY xB xx zG qV qU xJ ae18Need ce18Need Fe18Need ae18Have ce18Have Fe18Have ae18Lack ce18Lack Fe18Lack ae18Here ce18Here Fe18Here ae18Out ce18Out Fe18Out ae18Into ce18Into Fe18Into (H.get 7 rfl).1 (H.get 8 rfl).1 (H.get 9 rfl).1 (H.get 10 rfl).1 (H.get 11 rfl).1 (H.get 0 rfl).1 (H.get 1 rfl).1 (H.get 2 rfl).1 (H.get 3 rfl).1 (H.get 4 rfl).1 (H.get 5 rfl).1 (by first | assumption | omega) (by first | assumption | omega) (by first | assumption | omega)) ?_)
  rintro _ w23 rfl x24
  replace H := H.ext x24
  refine qo (t_n ?_)
  refine qP (dec (EnOk s t (s.qf[k]!))) rfl (fun h25 => ?_) (fun h25 => ?_)
  ·skip
   replace h25 := vT h25
   refine QI rfl H [0, 2, 3] fun H => ?_
   have S := H.QN [0, 2, 3] [0, 1, 2, 3, 4, 5, 6, 7, 8, 9, 10, 11]
   refine rt 0 (pp b19 (0 + 0)) (xH b19 (0) 0 Tryz.underlying110 rfl rfl Tryz.sizeOf2 rfl) S ?_
   refine rt 1 (.int .i64 ((s.qf[k]!).qw)) (xw Tryz.isAgg2 rfl (fun _ h => h.cell 0 rfl rfl)) S ?_
   refine rt 2 (pp b19 (0 + 0)) (xH b19 (0) 0 Tryz.underlying110 rfl rfl Tryz.sizeOf2 rfl) S ?_
   refine rt 3 (.int .i64 ((s.qf[k]!).qw)) (xw Tryz.isAgg2 rfl (fun _ h => h.cell 0 rfl rfl)) S ?_
   refine rt 4 (pp b5 (0 + ((s.qf[k]!).qw : Int).toNat * 1)) (y_idxArr b5 (0) 6 ((s.qf[k]!).qw) Tryz.underlying134 ti2 rfl rfl (by omega) (by omega)) S ?_
   refine rt 6 (pp b19 (0 + 1)) (xH b19 (0) 1 Tryz.underlying110 rfl rfl Tryz.sizeOf2 rfl) S ?_
   refine rt 7 (.int .i64 ((s.qf[k]!).xM)) (xw Tryz.isAgg2 rfl (fun _ h => h.cell 0 rfl rfl)) S ?_
   refine zt [5] (by kernel_rfl) (by simp) (yF rfl ?_ zu)
   refine qC (.int .i64 ((bests s t (-1) 6 k)[((s.qf[k]!).qw).toNat]!)) Tryz.isAgg2 rfl (H.cell 1 rfl (ints_at (iv := (s.qf[k]!).qw) (i := (((s.qf[k]!).qw).toNat)) (by omega) (by simp only [List.length_set, List.length_cons, List.length_nil, minus_len, Qv]; omega))) ?_
   refine ⟨H.pick [0, 2, 3] [0, 1, 2, 3, 4, 5, 6, 7, 8, 9, 10, 11], ?_⟩
   have S := H.QN [0, 2, 3] [0, 1, 2, 3, 4, 5, 6, 7, 8, 9, 10, 11]
   refine rt 8 (.int .i64 (max ((bests s t (-1) 6 k)[((s.qf[k]!).qw).toNat]!) ((s.qf[k]!).xM))) (y_max ((bests s t (-1) 6 k)[((s.qf[k]!).qw).toNat]!) ((s.qf[k]!).xM) rfl rfl) S ?_
   refine rt 9 (pp b5 (0 + ((s.qf[k]!).qw : Int).toNat * 1)) (y_idxArr b5 (0) 6 ((s.qf[k]!).qw) Tryz.underlying134 ti2 rfl rfl (by omega) (by omega)) S ?_
   refine zt [10] (by kernel_rfl) (by simp) (yF rfl ?_ zu)
   refine o_storeArr H 1 rfl (max ((bests s t (-1) 6 k)[((s.qf[k]!).qw).toNat]!) ((s.qf[k]!).xM)) Tryz.sizeOf2 rfl rfl (i := (((s.qf[k]!).qw).toNat)) (by omega) (by simp only [List.length_set, List.length_cons, List.length_nil, minus_len, Qv]; omega) fun w27 H => ?_
   try dsimp only [List.set] at H
   refine ⟨H.pick [0, 2, 3] [0, 1, 2, 3, 4, 5, 6, 7, 8, 9, 10, 11], ?_⟩
   refine xZ (by kernel_rfl) (b_n (t_n ?_))
   refine qp ?_
   refine sw (zD k 1 rfl rfl (by omega) ?_)
   refine sp (.int .i64 (k + 1)) ?_
   refine qo ?_
   refine xy (m' := (s.qf.length - ((k + 1) : Int)).toNat) (by omega) ⟨_, k + 1, ((bests s t (-1) 6 k).set (((s.qf[k]!).qw).toNat) (max ((bests s t (-1) 6 k)[((s.qf[k]!).qw).toNat]!) ((s.qf[k]!).xM))), (by exact qj (qj (qj (qj (qj (qj (rfl) rfl) rfl) rfl) rfl) rfl) rfl), ?_, ?_, rfl, N, H.pick [1, 2, 3] [7, 8, 9, 10, 11]⟩
   · first | exact bests_set ‹_› (by omega) | exact bests_skip ‹_›
   · omega
  replace h25 := xP h25
  refine xg (b_n (t_n (qp ?_)))
  refine sw (zD k 1 rfl rfl (by omega) ?_)
  refine sp (.int .i64 (k + 1)) ?_
  refine qo ?_
  refine xy (m' := (s.qf.length - ((k + 1) : Int)).toNat) (by omega) ⟨_, k + 1, (bests s t (-1) 6 k), (by exact qj (qj (qj (qj (qj (qj (rfl) rfl) rfl) rfl) rfl) rfl) rfl), ?_, ?_, rfl, N, H.pick [1, 2, 3] [7, 8, 9, 10, 11]⟩
  · first | exact bests_set ‹_› (by omega) | exact bests_skip ‹_›
  · omega
 replace h14 := of_decide_eq_false h14
 refine zx (t_x (t_x (b_x (t_n (qh (qp ?_))))))
 refine sw (Qq H Tryz.underlying22 ti2 fun b28 w29 H => ?_)
 refine sp (.slice (aa b28 0) 0 0) ?_
 refine qo (t_n (qh (qh (qp ?_))))
 refine sw (qH b1 (0) 2 Tryz.underlying36 rfl rfl Tryz.sizeOf34 rfl ?_)
 refine sw (qC (.slice qE s.qf.length qA) Tryz.isAgg34 rfl (H.cell 3 rfl rfl) ?_)
 refine sw (zK Tryz.underlying34 qE s.qf.length qA rfl ?_)
 refine sp (.int .i64 0) ?_
 refine qo (t_n (xn ?_))
 replace H := H.boxRowI 0 [] 0
 try dsimp only [List.set] at H
 refine zC (fun m' ρ w30 => ∃ (junk : Env) (yl : Option Addr) (vO : Nat) (jK : Nat) (out : List Int) (i : Nat), ρ = upd (upd (upd (upd (upd (upd (upd junk 2 (pp b1 0)) 3 (pp b3 0)) 5 (pp b5 0)) 9 (.slice yl vO jK)) 43 (.slice qE s.qf.length qA)) 44 (.int .i64 s.qf.length)) 45 (.int .i64 i) ∧ out = applL s t i ∧ ((i : Int) ≤ s.qf.length) ∧ m' = (s.qf.length - (i : Int)).toNat ∧ Fresh w.heap.size [] ∧ St w w30 [.row (.slice yl vO jK) 2 1 vO (out.map (Value.int .i64)), .box b5 ((bests s t (-1) 6 k).map (Value.int .i64)) 134, .box b3 [.slice xu t.qy.length qZ, .slice xB t.qG.length xx, .slice qV t.qB.length qU] 38, .box b1 [.int .i64 s.qF, .slice qm s.qg.length ql, .slice qE s.qf.length qA] 36] [isF false qL (.slice qm s.qg.length ql) s.qg, isF false xk (.slice qE s.qf.length qA) s.qf, isF false xY (.slice xu t.qy.length qZ) t.qy, isF false zG (.slice xB t.qG.length xx) t.qG, isF false xJ (.slice qV t.qB.length qU) t.qB]) ((s.qf.length - (0 : Int)).toNat) ⟨_, (aa b28 0), 0, 0, ([] : List Int), 0, (by exact qj (qj (qj (qj (qj (qj (qj (rfl) rfl) rfl) rfl) rfl) rfl) rfl) rfl), (by rfl), (by omega), rfl, N, H⟩ ?_
 clear H N
 rintro m' ρ w31 ⟨junk, yl, vO, jK, out, i, rfl, rfl, i0, rfl, N, H⟩
 have hn_out := H.rowNI 0 rfl
 have ll := applL_le s t i
 refine qh (qp ?_)
 refine sp (.bool (decide ((i : Int) < s.qf.length))) ?_
 refine qo (t_n (qh ?_))
 refine qP (decide ((i : Int) < s.qf.length)) rfl (fun h32 => ?_) (fun h32 => ?_)
 ·skip
  replace h32 := of_decide_eq_true h32
  have q := p0.rule (i := i) (by omega)
  have qc := q.1
  have qk := q.cell
  have qr := q.2.1
  have q6 : (s.qf[i]!).qw.toNat < 6 := by omega
  refine xg (t_n (qh (xn (qh (qp ?_)))))
  refine sp (.int .i64 i) ?_
  obtain ⟨b33, o34, rfl⟩ := H.addr 1 rfl (by omega)
  obtain ⟨ae36Need, ce36Need, Fe36Need, ae36Have, ce36Have, Fe36Have, ae36Lack, ce36Lack, Fe36Lack, ae36Here, ce36Here, Fe36Here, ae36Out, ce36Out, Fe36Out, ae36Into, ce36Into, Fe36Into, H⟩ := H.jv 1 rfl i i (by omega) (by omega) (by omega)
  refine sw (xE i Tryz.underlying34 ti110 rfl rfl (by omega) (by omega) ?_)
  refine sw (zn [.int .i64 ((s.qf[i]!).qw), .int .i64 ((s.qf[i]!).xM), .slice ae36Need (((s.qf[i]!).qI).length) ce36Need, .slice ae36Have (((s.qf[i]!).qW).length) ce36Have, .slice ae36Lack (((s.qf[i]!).qX).length) ce36Lack, .slice ae36Here (((s.qf[i]!).xe).length) ce36Here, .slice ae36Out (((s.qf[i]!).xO).length) ce36Out, .slice ae36Into (((s.qf[i]!).qx).length) ce36Into, .bool ((s.qf[i]!).xG)] Tryz.isAgg110 Tryz.sizeOf110 rfl (qK (H.get 6 rfl) 0 9) ?_)
  refine sw (QP H ti110 [.int .i64 0, .int .i64 0, .slice none 0 0, .slice none 0 0, .slice none 0 0, .slice none 0 0, .slice none 0 0, .slice none 0 0, .bool false] fun b37 w38 H => ?_)
  refine sp (.int .i64 i) ?_
  refine sw (QO H 0 [.int .i64 ((s.qf[i]!).qw), .int .i64 ((s.qf[i]!).xM), .slice ae36Need (((s.qf[i]!).qI).length) ce36Need, .slice ae36Have (((s.qf[i]!).qW).length) ce36Have, .slice ae36Lack (((s.qf[i]!).qX).length) ce36Lack, .slice ae36Here (((s.qf[i]!).xe).length) ce36Here, .slice ae36Out (((s.qf[i]!).xO).length) ce36Out, .slice ae36Into (((s.qf[i]!).qx).length) ce36Into, .bool ((s.qf[i]!).xG)] Tryz.sizeOf110 fun w39 H => ?_)
  try dsimp only [List.set] at H
  refine qo (t_n (qh ?_))
  refine jf rfl H fun H => ?_
  refine rt 0 (pp b37 (0 + 1)) (xH b37 (0) 1 Tryz.underlying110 rfl rfl Tryz.sizeOf2 rfl) H ?_
  refine rt 1 (.int .i64 ((s.qf[i]!).xM)) (xw Tryz.isAgg2 rfl (fun _ h => h.cell 0 rfl rfl)) H ?_
  refine rt 2 (pp b37 (0 + 0)) (xH b37 (0) 0 Tryz.underlying110 rfl rfl Tryz.sizeOf2 rfl) H ?_
  refine rt 3 (.int .i64 ((s.qf[i]!).qw)) (xw Tryz.isAgg2 rfl (fun _ h => h.cell 0 rfl rfl)) H ?_
  refine rt 4 (pp b5 (0 + ((s.qf[i]!).qw : Int).toNat * 1)) (y_idxArr b5 (0) 6 ((s.qf[i]!).qw) Tryz.underlying134 ti2 rfl rfl (by omega) (by omega)) H ?_
  refine rt 5 (.int .i64 ((bests s t (-1) 6 k)[((s.qf[i]!).qw).toNat]!)) (xw Tryz.isAgg2 rfl (fun _ h => h.cell 2 rfl (ints_at (iv := (s.qf[i]!).qw) (i := (((s.qf[i]!).qw).toNat)) (by omega) (by simp only [List.length_set, List.length_cons, List.length_nil, minus_len, Qv]; omega)))) H ?_
  refine rtp 6 (.bool (((s.qf[i]!).xM : Int) == ((bests s t (-1) 6 k)[((s.qf[i]!).qw).toNat]!))) H ?_
  refine rtp 7 (.bool (((s.qf[i]!).xM : Int) == ((bests s t (-1) 6 k)[((s.qf[i]!).qw).toNat]!))) H ?_
  cases h41 : (((s.qf[i]!).xM : Int) == ((bests s t (-1) 6 k)[((s.qf[i]!).qw).toNat]!))
  ·skip
   replace h41 := ne_of_beq_false h41
   refine zq [8, 9, 10, 11] 4 (H) ?_
   refine rtp 12 (.bool false) H ?_
   refine xZ (by kernel_rfl) (t_n ?_)
   refine qP false rfl (fun h => absurd h (by decide)) (fun _ => ?_)
   refine xg (b_n (t_n (qp ?_)))
   refine sw (zD i 1 rfl rfl (by omega) ?_)
   refine sp (.int .i64 (i + 1)) ?_
   refine qo ?_
   refine xy (m' := (s.qf.length - ((i + 1) : Int)).toNat) (by omega) ⟨_, yl, vO, jK, (applL s t i), i + 1, (by exact qj (qj (qj (qj (qj (qj (qj (rfl) rfl) rfl) rfl) rfl) rfl) rfl) rfl), ?_, ?_, rfl, N, H.pick [1, 2, 3, 4] [7, 8, 9, 10, 11]⟩
   · first | exact applL_yes (appl_yes (n := 6) (z := -1) (k := k) (by omega) (by omega) (by omega) q6 ‹_› ‹_›) | exact applL_no (appl_no (n := 6) (z := -1) (k := k) (by omega) (by omega) (by omega) q6 ‹_›) | exact applL_no (fun h => ‹¬ EnOk _ _ _› h.1)
   · omega
  replace h41 := eq_of_beq h41
  refine rg 8 (.agg #[.int .i64 s.qF, .slice qm s.qg.length ql, .slice (aa b33 o34) s.qf.length qA]) 57 (yu (cs := [.int .i64 s.qF, .slice qm s.qg.length ql, .slice (aa b33 o34) s.qf.length qA]) Tryz.isAgg36 Tryz.sizeOf36 rfl (fun _ h => qK (h.cells 4 rfl) 0 3)) H ?_
  refine rg 9 (.agg #[.slice xu t.qy.length qZ, .slice xB t.qG.length xx, .slice qV t.qB.length qU]) 57 (yu (cs := [.slice xu t.qy.length qZ, .slice xB t.qG.length xx, .slice qV t.qB.length qU]) Tryz.isAgg38 Tryz.sizeOf38 rfl (fun _ h => qK (h.cells 3 rfl) 0 3)) H ?_
  refine rg 10 (.agg #[.int .i64 ((s.qf[i]!).qw), .int .i64 ((s.qf[i]!).xM), .slice ae36Need (((s.qf[i]!).qI).length) ce36Need, .slice ae36Have (((s.qf[i]!).qW).length) ce36Have, .slice ae36Lack (((s.qf[i]!).qX).length) ce36Lack, .slice ae36Here (((s.qf[i]!).xe).length) ce36Here, .slice ae36Out (((s.qf[i]!).xO).length) ce36Out, .slice ae36Into (((s.qf[i]!).qx).length) ce36Into, .bool ((s.qf[i]!).xG)]) 57 (yu (cs := [.int .i64 ((s.qf[i]!).qw), .int .i64 ((s.qf[i]!).xM), .slice ae36Need (((s.qf[i]!).qI).length) ce36Need, .slice ae36Have (((s.qf[i]!).qW).length) ce36Have, .slice ae36Lack (((s.qf[i]!).qX).length) ce36Lack, .slice ae36Here (((s.qf[i]!).xe).length) ce36Here, .slice ae36Out (((s.qf[i]!).xO).length) ce36Out, .slice ae36Into (((s.qf[i]!).qx).length) ce36Into, .bool ((s.qf[i]!).xG)]) Tryz.isAgg110 Tryz.sizeOf110 rfl (fun _ h => qK (h.cells 0 rfl) 0 9)) H ?_
  refine zt [11] (by kernel_rfl) (by simp) (r_opG rfl (e := 57) rfl rfl ?_ zu)
  refine xm #[.agg #[.int .i64 s.qF, .slice qm s.qg.length ql, .slice (aa b33 o34) s.qf.length qA], .agg #[.slice xu t.qy.length qZ, .slice xB t.qG.length xx, .slice qV t.qB.length qU], .agg #[.int .i64 ((s.qf[i]!).qw), .int .i64 ((s.qf[i]!).xM), .slice ae36Need (((s.qf[i]!).qI).length) ce36Need, .slice ae36Have (((s.qf[i]!).qW).length) ce36Have, .slice ae36Lack (((s.qf[i]!).qX).length) ce36Lack, .slice ae36Here (((s.qf[i]!).xe).length) ce36Here, .slice ae36Out (((s.qf[i]!).xO).length) ce36Out, .slice ae36Into (((s.qf[i]!).qx).length) ce36Into, .bool ((s.qf[i]!).xG)]] rfl rfl Tryz.call112 (isEnabled_ok w39.drew s t (s.qf[i]!) qm ql qL (aa b33 o34) qA xk xu qZ xY xB xx zG qV qU xJ ae36Need ce36Need Fe36Need ae36Have ce36Have Fe36Have ae36Lack ce36Lack Fe36Lack ae36Here ce36Here Fe36Here ae36Out ce36Out Fe36Out ae36Into ce36Into Fe36Into (H.get 7 rfl).1 (H.get 8 rfl).1 (H.get 9 rfl).1 (H.get 10 rfl).1 (H.get 11 rfl).1 (H.get 0 rfl).1 (H.get 1 rfl).1 (H.get 2 rfl).1 (H.get 3 rfl).1 (H.get 4 rfl).1 (H.get 5 rfl).1 (by first | assumption | omega) (by first | assumption | omega) (by first | assumption | omega)) ?_
  rintro _ w43 rfl x44
  replace H := H.ext x44
  refine ⟨H, ?_⟩
  refine rtp 12 (.bool (dec (EnOk s t (s.qf[i]!)))) H ?_
  refine xZ (by kernel_rfl) (t_n ?_)
  refine qP (dec (EnOk s t (s.qf[i]!))) rfl (fun h45 => ?_) (fun h45 => ?_)
  ·skip
   replace h45 := vT h45
   refine qp ?_
   refine sps [.slice yl vO jK, .int .i64 i] ?_
   refine sw (o_build1C H Tryz.underlying22 ti2 [.int .i64 i] fun b46 w47 H => ?_)
   refine sw (o_appendR H 2 rfl 0 rfl Tryz.underlying22 ti2 rfl (by decide) rfl rfl rfl (by simp [Value.oneCell', Value.cells]) (by unfold maxLen; omega) (by omega) fun a48 c49 w50 H => ?_)
   rw [snocI] at H
   try dsimp only [List.set] at H
   refine sp (.slice a48 (vO + 1) c49) ?_
   refine qo (b_n (t_n (qp ?_)))
   refine sw (zD i 1 rfl rfl (by omega) ?_)
   refine sp (.int .i64 (i + 1)) ?_
   refine qo ?_
   refine xy (m' := (s.qf.length - ((i + 1) : Int)).toNat) (by omega) ⟨_, a48, vO + 1, c49, ((applL s t i) ++ [(i : Int)]), i + 1, (by exact qj (qj (qj (qj (qj (qj (qj (rfl) rfl) rfl) rfl) rfl) rfl) rfl) rfl), ?_, ?_, rfl, N, H.pick [2, 3, 4, 5] [7, 8, 9, 10, 11]⟩
   · first | exact applL_yes (appl_yes (n := 6) (z := -1) (k := k) (by omega) (by omega) (by omega) q6 ‹_› ‹_›) | exact applL_no (appl_no (n := 6) (z := -1) (k := k) (by omega) (by omega) (by omega) q6 ‹_›) | exact applL_no (fun h => ‹¬ EnOk _ _ _› h.1)
   · omega
  replace h45 := xP h45
  refine xg (b_n (t_n (qp ?_)))
  refine sw (zD i 1 rfl rfl (by omega) ?_)
  refine sp (.int .i64 (i + 1)) ?_
  refine qo ?_
  refine xy (m' := (s.qf.length - ((i + 1) : Int)).toNat) (by omega) ⟨_, yl, vO, jK, (applL s t i), i + 1, (by exact qj (qj (qj (qj (qj (qj (qj (rfl) rfl) rfl) rfl) rfl) rfl) rfl) rfl), ?_, ?_, rfl, N, H.pick [1, 2, 3, 4] [7, 8, 9, 10, 11]⟩
  · first | exact applL_yes (appl_yes (n := 6) (z := -1) (k := k) (by omega) (by omega) (by omega) q6 ‹_› ‹_›) | exact applL_no (appl_no (n := 6) (z := -1) (k := k) (by omega) (by omega) (by omega) q6 ‹_›) | exact applL_no (fun h => ‹¬ EnOk _ _ _› h.1)
  · omega
 replace h32 := of_decide_eq_false h32
 refine zx (t_x (t_x (b_x (t_n (qh (qp ?_))))))
 refine sps [.slice yl vO jK, .slice yl vO jK] ?_
 refine qo (t_n (xh ?_))
 refine ret1 (.slice yl vO jK) rfl rfl ⟨_, rfl, ?_, H.base⟩
 obtain rfl : i = s.qf.length := by omega
 exact ⟨yl, vO, jK, rfl, N, H.pick [0] []⟩

end Go.Proofs.YtkmlihdacnfhdaaGreat
