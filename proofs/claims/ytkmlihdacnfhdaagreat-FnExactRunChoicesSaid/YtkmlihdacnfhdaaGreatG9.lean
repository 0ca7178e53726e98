/- Walks, printed by program (wip/tools/gv.py): what each function comes to, for all arguments. -/
import Derived.Test.YtkmlihdacnfhdaaGreatG5
import Derived.Test.YtkmlihdacnfhdaaGreatP6
namespace Go.Proofs.YtkmlihdacnfhdaaGreat
open Go.Proofs.YtkmlihdacnfhdaaGreat.Tot (tot)
open Go.Proofs.YtkmlihdacnfhdaaGreat.Mark (cnt mrk mkd mkd_mark cnt_mark)
open Go.RowKit
set_option linter.unusedVariables false
set_option linter.unusedSimpArgs false
set_option maxRecDepth 100000
set_option maxHeartbeats 4000000



theorem l00Max_ok (w : World) (a : Int) (b : Int) : Calls Tryz.prog 130 #[.int .i64 a, .int .i64 b] w (Ret (fun v w' => v = .int .i64 (max a b)) w) := by
 refine enter (n := 10) Tryz.func130 rfl Tryz.ntmps130 (Nat.le_of_ble_eq_true rfl) ?_
 have H := St.start w
 have N := Fresh.nil w.heap.size
 refine qm (qA ?_)
 refine sp (.int .i64 0) ?_
 refine qx (t_n (qm (qm (qA ?_))))
 refine sps [.int .i64 a, .int .i64 b, .bool (decide ((a : Int) > b))] ?_
 refine qx (t_n ?_)
 refine qW (decide ((a : Int) > b)) rfl (fun h1 => ?_) (fun h1 => ?_)
 ·skip
  replace h1 := of_decide_eq_true h1
  refine qm (qA ?_)
  refine sps [.int .i64 a, .int .i64 a] ?_
  refine qx (t_n (xC (t_r ?_)))
  refine ret1 (.int .i64 a) rfl rfl ⟨_, rfl, ?_, H.base⟩
  refine congrArg (Value.int .i64) ?_
  omega
 replace h1 := of_decide_eq_false h1
 refine xk (t_n (qm (qA ?_)))
 refine sps [.int .i64 b, .int .i64 b] ?_
 refine qx (t_n (xC ?_))
 refine ret1 (.int .i64 b) rfl rfl ⟨_, rfl, ?_, H.base⟩
 refine congrArg (Value.int .i64) ?_
 omega

theorem Vx (w : World) (l : List Int) (m : List Int) (al : Option Addr) (cl : Nat) (Fl : List Nat) (am : Option Addr) (cm : Nat) (Fm : List Nat) (hl : qV.rep w Fl [.slice al l.length cl] l) (hm : qV.rep w Fm [.slice am m.length cm] m) (p0 : l.length ≤ m.length) : Calls Tryz.prog 121 #[.slice al l.length cl, .slice am m.length cm] w (Ret (fun v w' => v = .bool (within l m)) w) := by
 refine enter (n := 21) Tryz.func121 rfl Tryz.ntmps121 (Nat.le_of_ble_eq_true rfl) ?_
 have H := ((St.start w).arg hm).arg hl
 have nhl := qN hl
 have nhm := qN hm
 clear hl hm
 have N := Fresh.nil w.heap.size
 refine qm (qA ?_)
 refine sp (.bool false) ?_
 refine qx (t_n (qm (qm (qA ?_))))
 refine sp (.int .i64 0) ?_
 refine qx (t_n (xE ?_))
 refine zU (fun m' ρ w1 => ∃ (junk : Env) (i : Nat), ρ = upd (upd (upd junk 0 (.slice al l.length cl)) 1 (.slice am m.length cm)) 5 (.int .i64 i) ∧ ((i : Int) ≤ l.length) ∧ (withinTo l m i) ∧ m' = (l.length - (i : Int)).toNat ∧ Fresh w.heap.size [] ∧ St w w1 [] [isF false Fl (.slice al l.length cl) l, isF false Fm (.slice am m.length cm) m]) ((l.length - (0 : Int)).toNat) ⟨_, 0, (by exact qj (qj (qj (rfl) rfl) rfl) rfl), (by omega), (by exact withinTo_zero l m), rfl, N, H⟩ ?_
 clear H N
 rintro m' ρ w2 ⟨junk, i, rfl, i0, i1, rfl, N, H⟩
 refine qm (qm (qA ?_))
 refine sps [.int .i64 i, .slice al l.length cl] ?_
 refine sw (zX Tryz.underlying22 al l.length cl rfl ?_)
 refine sp (.bool (decide ((i : Int) < l.length))) ?_
 refine qx (t_n ?_)
 refine qW (decide ((i : Int) < l.length)) rfl (fun h3 => ?_) (fun h3 => ?_)
 ·skip
  replace h3 := of_decide_eq_true h3
  refine xk (t_n (qm (xE (qm ?_))))
  refine yw rfl H fun H => ?_
  refine rtp 0 (.slice al l.length cl) H ?_
  refine rtp 1 (.int .i64 i) H ?_
  obtain ⟨b5, o6, rfl⟩ := H.addr 0 rfl (by omega)
  refine rt 2 (pp b5 (o6 + (i : Int).toNat * 1)) (xO b5 (o6) l.length cl i Tryz.underlying22 ti2 rfl rfl (by omega) (by omega)) H ?_
  refine rt 3 (.int .i64 (l[i]!)) (xA Tryz.isAgg2 rfl (fun _ h => h.jq 0 rfl i (by omega) (by omega))) H ?_
  refine rtp 4 (.slice am m.length cm) H ?_
  refine rtp 5 (.int .i64 i) H ?_
  obtain ⟨b8, o9, rfl⟩ := H.addr 1 rfl (by omega)
  refine rt 6 (pp b8 (o9 + (i : Int).toNat * 1)) (xO b8 (o9) m.length cm i Tryz.underlying22 ti2 rfl rfl (by omega) (by omega)) H ?_
  refine rt 7 (.int .i64 (m[i]!)) (xA Tryz.isAgg2 rfl (fun _ h => h.jq 1 rfl i (by omega) (by omega))) H ?_
  refine rtp 8 (.bool (decide ((l[i]! : Int) > (m[i]!)))) H ?_
  refine xN (by kernel_rfl) (t_n ?_)
  refine qW (decide ((l[i]! : Int) > (m[i]!))) rfl (fun h11 => ?_) (fun h11 => ?_)
  ·skip
   replace h11 := of_decide_eq_true h11
   refine qm (qA ?_)
   refine sp (.bool false) ?_
   refine qx (t_n (xC (b_r (t_r (t_r (b_r (t_r ?_)))))))
   refine ret1 (.bool false) rfl rfl ⟨_, rfl, ?_, H.base⟩
   rw [within_no (k := i) ‹_› (by omega)]
  replace h11 := of_decide_eq_false h11
  refine xk (b_n (t_n (qA ?_)))
  refine sp (.int .i64 i) ?_
  refine sw (zZ i 1 rfl rfl (by omega) ?_)
  refine sp (.int .i64 (i + 1)) ?_
  refine qx ?_
  refine xH (m' := (l.length - ((i + 1) : Int)).toNat) (by omega) ⟨_, i + 1, (by exact qj (qj (qj (rfl) rfl) rfl) rfl), ?_, ?_, rfl, N, H⟩
  · omega
  · exact withinTo_succ ‹_› (by omega)
 replace h3 := of_decide_eq_false h3
 refine zK (t_x (t_x (b_x (t_n (qm (qA ?_))))))
 refine sp (.bool true) ?_
 refine qx (t_n (xC ?_))
 refine ret1 (.bool true) rfl rfl ⟨_, rfl, ?_, H.base⟩
 rw [within_yes ‹_› (by omega)]

theorem l03Both_ok (w : World) (s : qX) (t : qU) (bs os : Nat) (qw : Option Addr) (qo : Nat) (qO : List Nat) (qF : Option Addr) (qB : Nat) (xw : List Nat) (bt ot : Nat) (qM : Option Addr) (qI : Nat) (xJ : List Nat) (xF : Option Addr) (xn : Nat) (zq : List Nat) (qL : Option Addr) (qK : Nat) (xI : List Nat) (hs : jb w bs os [.int .i64 s.qJ, .slice qw s.qf.length qo, .slice qF s.qg.length qB]) (xx : qV.rep w qO [.slice qw s.qf.length qo] s.qf) (xM : qV.rep w xw [.slice qF s.qg.length qB] s.qg) (ht : jb w bt ot [.slice qM t.qh.length qI, .slice xF t.qp.length xn, .slice qL t.ql.length qK]) (zo : qV.rep w xJ [.slice qM t.qh.length qI] t.qh) (zY : qV.rep w zq [.slice xF t.qp.length xn] t.qp) (xW : qV.rep w xI [.slice qL t.ql.length qK] t.ql) : Calls Tryz.prog 60 #[pp bs os, pp bt ot] w (Ret (fun v w' => v = .bool (dec (yI s ∧ zu s t))) w) := by
 refine enter (n := 12) Tryz.func60 rfl Tryz.ntmps60 (Nat.le_of_ble_eq_true rfl) ?_
 have H := (((((((St.start w).arg xW).arg zY).arg zo).argAt ht).arg xM).arg xx).argAt hs
 have vU := qN xx
 have jW := qN xM
 have QB := qN zo
 have Xn := qN zY
 have yT := qN xW
 clear hs xx xM ht zo zY xW
 have N := Fresh.nil w.heap.size
 refine qm (qA ?_)
 refine sp (.bool false) ?_
 refine qx (t_n (qm (qA ?_)))
 refine sp (pp bs os) ?_
 refine sw (qZ #[pp bs os] rfl rfl Tryz.call41 (l02Ok_ok w s bs os qw qo qO qF qB xw (qH (H.get 0 rfl) 0 3) (H.get 1 rfl).1 (H.get 2 rfl).1) ?_)
 rintro _ w1 rfl x2
 replace H := H.ext x2
 refine sp (.bool (dec (yI s))) ?_
 cases h3 : (dec (yI s))
 ·skip
  replace h3 := xX h3
  refine zf [8, 9, 10] ?_
  refine sps [.bool false, .bool false] ?_
  refine qx (t_n (xC ?_))
  refine ret1 (.bool false) rfl rfl ⟨_, rfl, ?_, H.base⟩
  rw [xy (fun h => ‹¬ yI s› h.1)]
 replace h3 := jG h3
 refine qQ 7 rfl rfl ?_
 refine sp (pp bs os) ?_
 refine qQ 7 rfl rfl ?_
 refine sp (pp bt ot) ?_
 refine qQ 7 rfl rfl ?_
 refine sw (qZ #[pp bs os, pp bt ot] rfl rfl Tryz.call85 (l02State_ok w1 s t bs os qw qo qO qF qB xw bt ot qM qI xJ xF xn zq qL qK xI (qH (H.get 0 rfl) 0 3) (H.get 1 rfl).1 (H.get 2 rfl).1 (qH (H.get 3 rfl) 0 3) (H.get 4 rfl).1 (H.get 5 rfl).1 (H.get 6 rfl).1 (by first | assumption | exact (And.left (by assumption : yI _)))) ?_)
 rintro _ w4 rfl x5
 replace H := H.ext x5
 refine sps [.bool (dec (zu s t)), .bool (dec (zu s t))] ?_
 refine qx (t_n (xC ?_))
 refine ret1 (.bool (dec (zu s t))) rfl rfl ⟨_, rfl, ?_, H.base⟩
 refine congrArg Value.bool (dec_eq ?_)
 first | exact ⟨fun h => ⟨‹_›, jG h⟩, fun h => yP h.2⟩ | (simp_all; done)

theorem l03Enabled_ok (w : World) (s : qX) (t : qU) (r : QG) (bs os : Nat) (qw : Option Addr) (qo : Nat) (qO : List Nat) (qF : Option Addr) (qB : Nat) (xw : List Nat) (bt ot : Nat) (qM : Option Addr) (qI : Nat) (xJ : List Nat) (xF : Option Addr) (xn : Nat) (zq : List Nat) (qL : Option Addr) (qK : Nat) (xI : List Nat) (br or : Nat) (vN : Option Addr) (vK : Nat) (QZ : List Nat) (jC : Option Addr) (jB : Nat) (Xz : List Nat) (vZ : Option Addr) (vY : Nat) (Xg : List Nat) (jP : Option Addr) (jO : Nat) (XM : List Nat) (Qy : Option Addr) (Qx : Nat) (FrOut : List Nat) (vw : Option Addr) (zN : Nat) (FrInto : List Nat) (hs : jb w bs os [.int .i64 s.qJ, .slice qw s.qf.length qo, .slice qF s.qg.length qB]) (xx : qV.rep w qO [.slice qw s.qf.length qo] s.qf) (xM : qV.rep w xw [.slice qF s.qg.length qB] s.qg) (ht : jb w bt ot [.slice qM t.qh.length qI, .slice xF t.qp.length xn, .slice qL t.ql.length qK]) (zo : qV.rep w xJ [.slice qM t.qh.length qI] t.qh) (zY : qV.rep w zq [.slice xF t.qp.length xn] t.qp) (xW : qV.rep w xI [.slice qL t.ql.length qK] t.ql) (hr : jb w br or [.int .i64 r.qy, .int .i64 r.zh, .slice vN r.qR.length vK, .slice jC r.xh.length jB, .slice vZ r.xm.length vY, .slice jP r.xB.length jO, .slice Qy r.zk.length Qx, .slice vw r.qC.length zN, .bool r.xQ]) (hrNeed : qV.rep w QZ [.slice vN r.qR.length vK] r.qR) (hrHave : qV.rep w Xz [.slice jC r.xh.length jB] r.xh) (hrLack : qV.rep w Xg [.slice vZ r.xm.length vY] r.xm) (hrHere : qV.rep w XM [.slice jP r.xB.length jO] r.xB) (hrOut : qV.rep w FrOut [.slice Qy r.zk.length Qx] r.zk) (hrInto : qV.rep w FrInto [.slice vw r.qC.length zN] r.qC) (p0 : yI s) (p1 : zu s t) (p2 : RuleOk s r) : Calls Tryz.prog 129 #[pp bs os, pp bt ot, pp br or] w (Ret (fun v w' => v = .bool (dec (EnOk s t r))) w) := by
 refine enter (n := 99) Tryz.func129 rfl Tryz.ntmps129 (Nat.le_of_ble_eq_true rfl) ?_
 have H := ((((((((((((((St.start w).arg hrInto).arg hrOut).arg hrHere).arg hrLack).arg hrHave).arg hrNeed).argAt hr).arg xW).arg zY).arg zo).argAt ht).arg xM).arg xx).argAt hs
 have vU := qN xx
 have jW := qN xM
 have QB := qN zo
 have Xn := qN zY
 have yT := qN xW
 have nhrNeed := qN hrNeed
 have nhrHave := qN hrHave
 have nhrLack := qN hrLack
 have nhrHere := qN hrHere
 have nhrOut := qN hrOut
 have nhrInto := qN hrInto
 clear hs xx xM ht zo zY xW hr hrNeed hrHave hrLack hrHere hrOut hrInto
 have N := Fresh.nil w.heap.size
 have p3 := p2.1
 have p4 := p1.1
 have p5 := p1.2.1
 have p6 := (p1.bagLen (k := r.qy.toNat) (by omega)).len
 have p7 := p2.2.2.2.2.1.len
 have p8 := p2.2.2.2.2.2.1.len
 have p9 := p2.2.2.2.2.2.2.1.len
 have p10 := jK p2.2.2.2.2.2.2.1
 have p11 := p0.1
 have p12 := p2.2.2.2.2.2.2.2.2.2.2
 refine qm (qA ?_)
 refine sp (.bool false) ?_
 refine qx (t_n (qm (qm ?_)))
 refine yw rfl H fun H => ?_
 refine rtp 0 (pp bt ot) H ?_
 refine rtp 1 (pp bt ot) H ?_
 refine rt 2 (pp bt (ot + 0)) (xG bt (ot) 0 Tryz.underlying38 rfl rfl Tryz.sizeOf26 rfl) H ?_
 refine rt 3 (.slice qM t.qh.length qI) (xA Tryz.isAgg26 rfl (fun _ h => h.xY 3 rfl 0 rfl)) H ?_
 refine rtp 4 (pp br or) H ?_
 refine rtp 5 (pp br or) H ?_
 refine rt 6 (pp br (or + 0)) (xG br (or) 0 Tryz.underlying110 rfl rfl Tryz.sizeOf2 rfl) H ?_
 refine rt 7 (.int .i64 r.qy) (xA Tryz.isAgg2 rfl (fun _ h => h.xY 7 rfl 0 rfl)) H ?_
 obtain ⟨b2, o3, rfl⟩ := H.addr 4 rfl (by omega)
 refine rt 8 (pp b2 (o3 + (r.qy : Int).toNat * 1)) (xO b2 (o3) t.qh.length qI r.qy Tryz.underlying26 ti4 rfl rfl (by omega) (by omega)) H ?_
 refine rt 9 (.bool (t.qh[r.qy.toNat]!)) (xA Tryz.isAgg4 rfl (fun _ h => h.Q7 4 rfl r.qy (by omega) (by omega))) H ?_
 refine rtp 10 (.bool (!(t.qh[r.qy.toNat]!))) H ?_
 refine xN (by kernel_rfl) (t_n ?_)
 refine qW (!(t.qh[r.qy.toNat]!)) rfl (fun h5 => ?_) (fun h5 => ?_)
 ·skip
  replace h5 := xg h5
  refine qm (qA ?_)
  refine sp (.bool false) ?_
  refine qx (t_n (xC (t_r ?_)))
  refine ret1 (.bool false) rfl rfl ⟨_, rfl, ?_, H.base⟩
  rw [xy (fun h => by obtain ⟨h1, h2, h3, h4, h5⟩ := h; first | exact ft h1 ‹_› | exact ft h2 ‹_› | exact ft h3 ‹_› | exact h4 ⟨‹_›, ‹_›⟩ | (obtain ⟨q1, q2⟩ := h5 i (by omega); first | exact ft q1 ‹_› | exact absurd q2 ‹_›))]
 replace h5 := qY h5
 refine xk (t_n (qm ?_))
 refine yw rfl H fun H => ?_
 refine rtp 0 (pp bt ot) H ?_
 refine rtp 1 (pp bt ot) H ?_
 refine rt 2 (pp bt (ot + 1)) (xG bt (ot) 1 Tryz.underlying38 rfl rfl Tryz.sizeOf27 rfl) H ?_
 refine rt 3 (.slice xF t.qp.length xn) (xA Tryz.isAgg27 rfl (fun _ h => h.xY 3 rfl 1 rfl)) H ?_
 refine rtp 4 (pp br or) H ?_
 refine rtp 5 (pp br or) H ?_
 refine rt 6 (pp br (or + 0)) (xG br (or) 0 Tryz.underlying110 rfl rfl Tryz.sizeOf2 rfl) H ?_
 refine rt 7 (.int .i64 r.qy) (xA Tryz.isAgg2 rfl (fun _ h => h.xY 7 rfl 0 rfl)) H ?_
 obtain ⟨b7, o8, rfl⟩ := H.addr 5 rfl (by omega)
 obtain ⟨ae10, ce10, Fe10, H⟩ := H.yH 5 rfl r.qy r.qy.toNat (by omega) (by omega) (by omega)
 refine rt 8 (pp b7 (o8 + (r.qy : Int).toNat * 1)) (xO b7 (o8) t.qp.length xn r.qy Tryz.underlying27 ti22 rfl rfl (by omega) (by omega)) (H.pick [] [2, 3, 4, 5, 6, 7, 8, 9, 10, 11, 12, 13, 14, 15]) ?_
 refine xq [9] (by kernel_rfl) (by simp) (xZ rfl ?_ xu)
 refine qE (.slice ae10 ((t.qp[r.qy.toNat]!).length) ce10) Tryz.isAgg22 rfl (H.xY 1 rfl 0 rfl) ?_
 refine ⟨H.pick [] [2, 3, 4, 5, 6, 7, 8, 9, 10, 11, 12, 13, 14, 15], ?_⟩
 refine rtp 10 (.slice ae10 ((t.qp[r.qy.toNat]!).length) ce10) (H.pick [] [2, 3, 4, 5, 6, 7, 8, 9, 10, 11, 12, 13, 14, 15]) ?_
 refine xN (by kernel_rfl) (t_n ?_)
 refine qm (qm (qA ?_))
 refine sps [pp br or, pp br or] ?_
 refine sw (qP br (or) 2 Tryz.underlying110 rfl rfl Tryz.sizeOf22 rfl ?_)
 refine sw (qE (.slice vN r.qR.length vK) Tryz.isAgg22 rfl (H.xY 9 rfl 2 rfl) ?_)
 refine sp (.slice ae10 ((t.qp[r.qy.toNat]!).length) ce10) ?_
 refine sw (qZ #[.slice vN r.qR.length vK, .slice ae10 ((t.qp[r.qy.toNat]!).length) ce10] rfl rfl Tryz.call121 (Vx w.drew.drew r.qR (t.qp[r.qy.toNat]!) vN vK QZ ae10 ce10 Fe10 (H.get 10 rfl).1 (H.get 0 rfl).1 (by first | assumption | omega)) ?_)
 rintro _ w12 rfl x13
 replace H := H.ext x13
 refine sps [.bool (!(within r.qR (t.qp[r.qy.toNat]!))), .bool (!(within r.qR (t.qp[r.qy.toNat]!)))] ?_
 cases h14 : (!(within r.qR (t.qp[r.qy.toNat]!)))
 ·skip
  replace h14 := qY h14
  refine qQ 38 rfl rfl ?_
  refine sp (pp br or) ?_
  refine qQ 38 rfl rfl ?_
  refine sp (pp br or) ?_
  refine qQ 38 rfl rfl ?_
  refine sw (qP br (or) 3 Tryz.underlying110 rfl rfl Tryz.sizeOf22 rfl ?_)
  refine qQ 38 rfl rfl ?_
  refine sw (qE (.slice jC r.xh.length jB) Tryz.isAgg22 rfl (H.xY 9 rfl 3 rfl) ?_)
  refine qQ 38 rfl rfl ?_
  refine sp (.slice ae10 ((t.qp[r.qy.toNat]!).length) ce10) ?_
  refine qQ 38 rfl rfl ?_
  refine sw (qZ #[.slice jC r.xh.length jB, .slice ae10 ((t.qp[r.qy.toNat]!).length) ce10] rfl rfl Tryz.call121 (Vx w12 r.xh (t.qp[r.qy.toNat]!) jC jB Xz ae10 ce10 Fe10 (H.get 11 rfl).1 (H.get 0 rfl).1 (by first | assumption | omega)) ?_)
  rintro _ w16 rfl x17
  replace H := H.ext x17
  refine qQ 38 rfl rfl ?_
  refine sps [.bool (!(within r.xh (t.qp[r.qy.toNat]!))), .bool (!(within r.xh (t.qp[r.qy.toNat]!))), .bool (!(within r.xh (t.qp[r.qy.toNat]!)))] ?_
  cases h18 : (!(within r.xh (t.qp[r.qy.toNat]!)))
  ·skip
   replace h18 := qY h18
   refine qQ 47 rfl rfl ?_
   refine sp (pp br or) ?_
   refine qQ 47 rfl rfl ?_
   refine sp (pp br or) ?_
   refine qQ 47 rfl rfl ?_
   refine sw (qP br (or) 4 Tryz.underlying110 rfl rfl Tryz.sizeOf22 rfl ?_)
   refine qQ 47 rfl rfl ?_
   refine sw (qE (.slice vZ r.xm.length vY) Tryz.isAgg22 rfl (H.xY 9 rfl 4 rfl) ?_)
   refine qQ 47 rfl rfl ?_
   refine sw (qZ #[.slice vZ r.xm.length vY] rfl rfl Tryz.call137 (l01Size_ok w16 r.xm vZ vY Xg (H.get 12 rfl).1 (by first | assumption | exact jK (by assumption) | exact Xf (by assumption))) ?_)
   rintro _ w19 rfl x20
   replace H := H.ext x20
   refine qQ 47 rfl rfl ?_
   refine sp (.bool (decide ((sumL r.xm : Int) > 0))) ?_
   refine qQ 47 rfl rfl ?_
   refine sp (.bool (decide ((sumL r.xm : Int) > 0))) ?_
   cases h21 : (decide ((sumL r.xm : Int) > 0))
   ·skip
    replace h21 := of_decide_eq_false h21
    refine zf [55, 56, 57, 58, 59, 60] ?_
    refine qQ 47 rfl rfl ?_
    refine sps [.bool false, .bool false] ?_
    refine qx (t_n ?_)
    refine qW false rfl (fun h => absurd h (by decide)) (fun _ => ?_)
    refine xk (t_n (qm (qm (qA ?_))))
    refine sp (.int .i64 0) ?_
    refine qx (t_n (xE ?_))
    refine zU (fun m' ρ w22 => ∃ (junk : Env) (i : Nat), ρ = upd (upd (upd (upd junk 0 (pp bs os)) 1 (pp bt ot)) 2 (pp br or)) 8 (.int .i64 i) ∧ ((i : Int) ≤ r.qC.length) ∧ (IntoUp s t r i) ∧ m' = (r.qC.length - (i : Int)).toNat ∧ Fresh w.heap.size [] ∧ St w w22 [] [isF false Fe10 (.slice ae10 ((t.qp[r.qy.toNat]!).length) ce10) (t.qp[r.qy.toNat]!), atF b7 (o8 + (r.qy : Int).toNat * 1) [.slice ae10 ((t.qp[r.qy.toNat]!).length) ce10], atF bs os [.int .i64 s.qJ, .slice qw s.qf.length qo, .slice qF s.qg.length qB], isF false qO (.slice qw s.qf.length qo) s.qf, isF false xw (.slice qF s.qg.length qB) s.qg, atF bt ot [.slice (aa b2 o3) t.qh.length qI, .slice (aa b7 o8) t.qp.length xn, .slice qL t.ql.length qK], isF false xJ (.slice (aa b2 o3) t.qh.length qI) t.qh, isF false zq (.slice (aa b7 o8) t.qp.length xn) t.qp, isF false xI (.slice qL t.ql.length qK) t.ql, atF br or [.int .i64 r.qy, .int .i64 r.zh, .slice vN r.qR.length vK, .slice jC r.xh.length jB, .slice vZ r.xm.length vY, .slice jP r.xB.length jO, .slice Qy r.zk.length Qx, .slice vw r.qC.length zN, .bool r.xQ], isF false QZ (.slice vN r.qR.length vK) r.qR, isF false Xz (.slice jC r.xh.length jB) r.xh, isF false Xg (.slice vZ r.xm.length vY) r.xm, isF false XM (.slice jP r.xB.length jO) r.xB, isF false FrOut (.slice Qy r.zk.length Qx) r.zk, isF false FrInto (.slice vw r.qC.length zN) r.qC]) ((r.qC.length - (0 : Int)).toNat) ⟨_, 0, (by exact qj (qj (qj (qj (rfl) rfl) rfl) rfl) rfl), (by omega), (by exact fun j hj => by omega), rfl, N, H⟩ ?_
    clear H N
    rintro m' ρ w23 ⟨junk, i, rfl, i0, i1, rfl, N, H⟩
    refine qm (qm (qA ?_))
    refine sps [.int .i64 i, pp br or, pp br or] ?_
    refine sw (qP br (or) 7 Tryz.underlying110 rfl rfl Tryz.sizeOf108 rfl ?_)
    refine sw (qE (.slice vw r.qC.length zN) Tryz.isAgg108 rfl (H.xY 9 rfl 7 rfl) ?_)
    refine sw (zX Tryz.underlying108 vw r.qC.length zN rfl ?_)
    refine sp (.bool (decide ((i : Int) < r.qC.length))) ?_
    refine qx (t_n ?_)
    refine qW (decide ((i : Int) < r.qC.length)) rfl (fun h24 => ?_) (fun h24 => ?_)
    ·skip
     replace h24 := of_decide_eq_true h24
     have q := (p12 i (by omega)).1
     have q1 := q.1
     have q2 := q.2
     refine xk (t_n (qm (xE (qm (qA ?_)))))
     refine sps [pp br or, pp br or] ?_
     refine sw (qP br (or) 7 Tryz.underlying110 rfl rfl Tryz.sizeOf108 rfl ?_)
     refine sw (qE (.slice vw r.qC.length zN) Tryz.isAgg108 rfl (H.xY 9 rfl 7 rfl) ?_)
     refine sp (.int .i64 i) ?_
     obtain ⟨b25, o26, rfl⟩ := H.addr 15 rfl (by omega)
     obtain ⟨ae28Bag, ce28Bag, Fe28Bag, H⟩ := H.jT 15 rfl i i (by omega) (by omega) (by omega)
     refine sw (xK i Tryz.underlying108 ti115 rfl rfl (by omega) (by omega) ?_)
     refine sw (qP b25 (o26 + (i : Int).toNat * 2) 0 Tryz.underlying115 rfl rfl Tryz.sizeOf2 rfl ?_)
     refine sw (qE (.int .i64 ((r.qC[i]!).qy)) Tryz.isAgg2 rfl (H.xY 1 rfl 0 rfl) ?_)
     refine sp (.int .i64 ((r.qC[i]!).qy)) ?_
     refine qx (t_n (qm ?_))
     refine yw rfl H fun H => ?_
     refine rtp 0 (pp bt ot) H ?_
     refine rtp 1 (pp bt ot) H ?_
     refine rt 2 (pp bt (ot + 0)) (xG bt (ot) 0 Tryz.underlying38 rfl rfl Tryz.sizeOf26 rfl) H ?_
     refine rt 3 (.slice (aa b2 o3) t.qh.length qI) (xA Tryz.isAgg26 rfl (fun _ h => h.xY 7 rfl 0 rfl)) H ?_
     refine rtp 4 (.int .i64 ((r.qC[i]!).qy)) H ?_
     refine rt 5 (pp b2 (o3 + ((r.qC[i]!).qy : Int).toNat * 1)) (xO b2 (o3) t.qh.length qI ((r.qC[i]!).qy) Tryz.underlying26 ti4 rfl rfl (by omega) (by omega)) H ?_
     refine rt 6 (.bool (t.qh[((r.qC[i]!).qy).toNat]!)) (xA Tryz.isAgg4 rfl (fun _ h => h.Q7 8 rfl ((r.qC[i]!).qy) (by omega) (by omega))) H ?_
     refine rtp 7 (.bool (!(t.qh[((r.qC[i]!).qy).toNat]!))) H ?_
     refine rtp 8 (.bool (!(t.qh[((r.qC[i]!).qy).toNat]!))) H ?_
     cases h30 : (!(t.qh[((r.qC[i]!).qy).toNat]!))
     ·skip
      replace h30 := qY h30
      refine rgp 9 (pp bs os) 88 H ?_
      refine rgp 10 (pp bt ot) 88 H ?_
      refine rgp 11 (.int .i64 ((r.qC[i]!).qy)) 88 H ?_
      refine rgp 13 (pp br or) 88 H ?_
      refine rgp 14 (pp br or) 88 H ?_
      refine rg 15 (pp br (or + 0)) 88 (xG br (or) 0 Tryz.underlying110 rfl rfl Tryz.sizeOf2 rfl) H ?_
      refine rg 16 (.int .i64 r.qy) 88 (xA Tryz.isAgg2 rfl (fun _ h => h.xY 11 rfl 0 rfl)) H ?_
      refine xq [12] (by kernel_rfl) (by simp) (Xp rfl (e := 88) rfl rfl ?_ xu)
      refine qZ #[pp bs os, pp bt ot, .int .i64 ((r.qC[i]!).qy)] rfl rfl Tryz.call107 (l02Parent_ok w23.drew s t ((r.qC[i]!).qy) bs os qw qo qO qF qB xw bt ot (aa b2 o3) qI xJ (aa b7 o8) xn zq qL qK xI (qH (H.get 4 rfl) 0 3) (H.get 5 rfl).1 (H.get 6 rfl).1 (qH (H.get 7 rfl) 0 3) (H.get 8 rfl).1 (H.get 9 rfl).1 (H.get 10 rfl).1 (by assumption) (by assumption) (by assumption)) ?_
      rintro _ w31 rfl x32
      replace H := H.ext x32
      refine ⟨H, ?_⟩
      refine rgp 17 (.bool ((xf s t ((r.qC[i]!).qy) : Int) != r.qy)) 88 H ?_
      refine rtp 18 (.bool ((xf s t ((r.qC[i]!).qy) : Int) != r.qy)) H ?_
      refine xN (by kernel_rfl) (t_n ?_)
      refine qW ((xf s t ((r.qC[i]!).qy) : Int) != r.qy) rfl (fun h33 => ?_) (fun h33 => ?_)
      ·skip
       replace h33 := bne_iff_ne.1 h33
       refine qm (qA ?_)
       refine sp (.bool false) ?_
       refine qx (t_n (xC (b_r (t_r (t_r (b_r (t_r ?_)))))))
       refine ret1 (.bool false) rfl rfl ⟨_, rfl, ?_, H.base⟩
       rw [xy (fun h => by obtain ⟨h1, h2, h3, h4, h5⟩ := h; first | exact ft h1 ‹_› | exact ft h2 ‹_› | exact ft h3 ‹_› | exact h4 ⟨‹_›, ‹_›⟩ | (obtain ⟨q1, q2⟩ := h5 i (by omega); first | exact ft q1 ‹_› | exact absurd q2 ‹_›))]
      replace h33 := xR h33
      refine xk (b_n (t_n (qA ?_)))
      refine sp (.int .i64 i) ?_
      refine sw (zZ i 1 rfl rfl (by omega) ?_)
      refine sp (.int .i64 (i + 1)) ?_
      refine qx ?_
      refine xH (m' := (r.qC.length - ((i + 1) : Int)).toNat) (by omega) ⟨_, i + 1, (by exact qj (qj (qj (qj (rfl) rfl) rfl) rfl) rfl), ?_, ?_, rfl, N, H.pick [] [2, 3, 4, 5, 6, 7, 8, 9, 10, 11, 12, 13, 14, 15, 16, 17]⟩
      · omega
      · exact i1.succ ‹_› ‹_›
     replace h30 := xg h30
     refine zT [9, 10, 11, 12, 13, 14, 15, 16, 17] 9 (H) ?_
     refine rtp 18 (.bool true) H ?_
     refine xN (by kernel_rfl) (t_n ?_)
     refine qW true rfl (fun _ => ?_) (fun h => absurd h (by decide))
     refine qm (qA ?_)
     refine sp (.bool false) ?_
     refine qx (t_n (xC (b_r (t_r (t_r (b_r (t_r ?_)))))))
     refine ret1 (.bool false) rfl rfl ⟨_, rfl, ?_, H.base⟩
     rw [xy (fun h => by obtain ⟨h1, h2, h3, h4, h5⟩ := h; first | exact ft h1 ‹_› | exact ft h2 ‹_› | exact ft h3 ‹_› | exact h4 ⟨‹_›, ‹_›⟩ | (obtain ⟨q1, q2⟩ := h5 i (by omega); first | exact ft q1 ‹_› | exact absurd q2 ‹_›))]
    replace h24 := of_decide_eq_false h24
    refine zK (t_x (t_x (b_x (t_n (qm (qA ?_))))))
    refine sp (.bool true) ?_
    refine qx (t_n (xC ?_))
    refine ret1 (.bool true) rfl rfl ⟨_, rfl, ?_, H.base⟩
    rw [yP ⟨by assumption, by assumption, by assumption, fun ⟨u, v⟩ => by first | omega | exact ft v ‹_›, (show i = r.qC.length by omega) ▸ i1⟩]
   replace h21 := of_decide_eq_true h21
   refine qQ 54 rfl rfl ?_
   refine sp (pp br or) ?_
   refine qQ 54 rfl rfl ?_
   refine sp (pp br or) ?_
   refine qQ 54 rfl rfl ?_
   refine sw (qP br (or) 4 Tryz.underlying110 rfl rfl Tryz.sizeOf22 rfl ?_)
   refine qQ 54 rfl rfl ?_
   refine sw (qE (.slice vZ r.xm.length vY) Tryz.isAgg22 rfl (H.xY 9 rfl 4 rfl) ?_)
   refine qQ 54 rfl rfl ?_
   refine sp (.slice ae10 ((t.qp[r.qy.toNat]!).length) ce10) ?_
   refine qQ 54 rfl rfl ?_
   refine sw (qZ #[.slice vZ r.xm.length vY, .slice ae10 ((t.qp[r.qy.toNat]!).length) ce10] rfl rfl Tryz.call121 (Vx w19 r.xm (t.qp[r.qy.toNat]!) vZ vY Xg ae10 ce10 Fe10 (H.get 12 rfl).1 (H.get 0 rfl).1 (by first | assumption | omega)) ?_)
   rintro _ w35 rfl x36
   replace H := H.ext x36
   refine qQ 47 rfl rfl ?_
   refine sps [.bool (within r.xm (t.qp[r.qy.toNat]!)), .bool (within r.xm (t.qp[r.qy.toNat]!))] ?_
   refine qx (t_n ?_)
   refine qW (within r.xm (t.qp[r.qy.toNat]!)) rfl (fun h37 => ?_) (fun h37 => ?_)
   ·skip
    refine qm (qA ?_)
    refine sp (.bool false) ?_
    refine qx (t_n (xC (t_r ?_)))
    refine ret1 (.bool false) rfl rfl ⟨_, rfl, ?_, H.base⟩
    rw [xy (fun h => by obtain ⟨h1, h2, h3, h4, h5⟩ := h; first | exact ft h1 ‹_› | exact ft h2 ‹_› | exact ft h3 ‹_› | exact h4 ⟨‹_›, ‹_›⟩ | (obtain ⟨q1, q2⟩ := h5 i (by omega); first | exact ft q1 ‹_› | exact absurd q2 ‹_›))]
   refine xk (t_n (qm (qm (qA ?_))))
   refine sp (.int .i64 0) ?_
   refine qx (t_n (xE ?_))
   refine zU (fun m' ρ w38 => ∃ (junk : Env) (i : Nat), ρ = upd (upd (upd (upd junk 0 (pp bs os)) 1 (pp bt ot)) 2 (pp br or)) 8 (.int .i64 i) ∧ ((i : Int) ≤ r.qC.length) ∧ (IntoUp s t r i) ∧ m' = (r.qC.length - (i : Int)).toNat ∧ Fresh w.heap.size [] ∧ St w w38 [] [isF false Fe10 (.slice ae10 ((t.qp[r.qy.toNat]!).length) ce10) (t.qp[r.qy.toNat]!), atF b7 (o8 + (r.qy : Int).toNat * 1) [.slice ae10 ((t.qp[r.qy.toNat]!).length) ce10], atF bs os [.int .i64 s.qJ, .slice qw s.qf.length qo, .slice qF s.qg.length qB], isF false qO (.slice qw s.qf.length qo) s.qf, isF false xw (.slice qF s.qg.length qB) s.qg, atF bt ot [.slice (aa b2 o3) t.qh.length qI, .slice (aa b7 o8) t.qp.length xn, .slice qL t.ql.length qK], isF false xJ (.slice (aa b2 o3) t.qh.length qI) t.qh, isF false zq (.slice (aa b7 o8) t.qp.length xn) t.qp, isF false xI (.slice qL t.ql.length qK) t.ql, atF br or [.int .i64 r.qy, .int .i64 r.zh, .slice vN r.qR.length vK, .slice jC r.xh.length jB, .slice vZ r.xm.length vY, .slice jP r.xB.length jO, .slice Qy r.zk.length Qx, .slice vw r.qC.length zN, .bool r.xQ], isF false QZ (.slice vN r.qR.length vK) r.qR, isF false Xz (.slice jC r.xh.length jB) r.xh, isF false Xg (.slice vZ r.xm.length vY) r.xm, isF false XM (.slice jP r.xB.length jO) r.xB, isF false FrOut (.slice Qy r.zk.length Qx) r.zk, isF false FrInto (.slice vw r.qC.length zN) r.qC]) ((r.qC.length - (0 : Int)).toNat) ⟨_, 0, (by exact qj (qj (qj (qj (rfl) rfl) rfl) rfl) rfl), (by omega), (by exact fun j hj => by omega), rfl, N, H⟩ ?_
   clear H N
   rintro m' ρ w39 ⟨junk, i, rfl, i0, i1, rfl, N, H⟩
   refine qm (qm (qA ?_))
   refine sps [.int .i64 i, pp br or, pp br or] ?_
   refine sw (qP br (or) 7 Tryz.underlying110 rfl rfl Tryz.sizeOf108 rfl ?_)
   refine sw (qE (.slice vw r.qC.length zN) Tryz.isAgg108 rfl (H.xY 9 rfl 7 rfl) ?_)
   refine sw (zX Tryz.underlying108 vw r.qC.length zN rfl ?_)
   refine sp (.bool (decide ((i : Int) < r.qC.length))) ?_
   refine qx (t_n ?_)
   refine qW (decide ((i : Int) < r.qC.length)) rfl (fun h40 => ?_) (fun h40 => ?_)
   ·skip
    replace h40 := of_decide_eq_true h40
    have q := (p12 i (by omega)).1
    have q1 := q.1
    have q2 := q.2
    refine xk (t_n (qm (xE (qm (qA ?_)))))
    refine sps [pp br or, pp br or] ?_
    refine sw (qP br (or) 7 Tryz.underlying110 rfl rfl Tryz.sizeOf108 rfl ?_)
    refine sw (qE (.slice vw r.qC.length zN) Tryz.isAgg108 rfl (H.xY 9 rfl 7 rfl) ?_)
    refine sp (.int .i64 i) ?_
    obtain ⟨b41, o42, rfl⟩ := H.addr 15 rfl (by omega)
    obtain ⟨ae44Bag, ce44Bag, Fe44Bag, H⟩ := H.jT 15 rfl i i (by omega) (by omega) (by omega)
    refine sw (xK i Tryz.underlying108 ti115 rfl rfl (by omega) (by omega) ?_)
    refine sw (qP b41 (o42 + (i : Int).toNat * 2) 0 Tryz.underlying115 rfl rfl Tryz.sizeOf2 rfl ?_)
    refine sw (qE (.int .i64 ((r.qC[i]!).qy)) Tryz.isAgg2 rfl (H.xY 1 rfl 0 rfl) ?_)
    refine sp (.int .i64 ((r.qC[i]!).qy)) ?_
    refine qx (t_n (qm ?_))
    refine yw rfl H fun H => ?_
    refine rtp 0 (pp bt ot) H ?_
    refine rtp 1 (pp bt ot) H ?_
    refine rt 2 (pp bt (ot + 0)) (xG bt (ot) 0 Tryz.underlying38 rfl rfl Tryz.sizeOf26 rfl) H ?_
    refine rt 3 (.slice (aa b2 o3) t.qh.length qI) (xA Tryz.isAgg26 rfl (fun _ h => h.xY 7 rfl 0 rfl)) H ?_
    refine rtp 4 (.int .i64 ((r.qC[i]!).qy)) H ?_
    refine rt 5 (pp b2 (o3 + ((r.qC[i]!).qy : Int).toNat * 1)) (xO b2 (o3) t.qh.length qI ((r.qC[i]!).qy) Tryz.underlying26 ti4 rfl rfl (by omega) (by omega)) H ?_
    refine rt 6 (.bool (t.qh[((r.qC[i]!).qy).toNat]!)) (xA Tryz.isAgg4 rfl (fun _ h => h.Q7 8 rfl ((r.qC[i]!).qy) (by omega) (by omega))) H ?_
    refine rtp 7 (.bool (!(t.qh[((r.qC[i]!).qy).toNat]!))) H ?_
    refine rtp 8 (.bool (!(t.qh[((r.qC[i]!).qy).toNat]!))) H ?_
    cases h46 : (!(t.qh[((r.qC[i]!).qy).toNat]!))
    ·skip
     replace h46 := qY h46
     refine rgp 9 (pp bs os) 88 H ?_
     refine rgp 10 (pp bt ot) 88 H ?_
     refine rgp 11 (.int .i64 ((r.qC[i]!).qy)) 88 H ?_
     refine rgp 13 (pp br or) 88 H ?_
     refine rgp 14 (pp br or) 88 H ?_
     refine rg 15 (pp br (or + 0)) 88 (xG br (or) 0 Tryz.underlying110 rfl rfl Tryz.sizeOf2 rfl) H ?_
     refine rg 16 (.int .i64 r.qy) 88 (xA Tryz.isAgg2 rfl (fun _ h => h.xY 11 rfl 0 rfl)) H ?_
     refine xq [12] (by kernel_rfl) (by simp) (Xp rfl (e := 88) rfl rfl ?_ xu)
     refine qZ #[pp bs os, pp bt ot, .int .i64 ((r.qC[i]!).qy)] rfl rfl Tryz.call107 (l02Parent_ok w39.drew s t ((r.qC[i]!).qy) bs os qw qo qO qF qB xw bt ot (aa b2 o3) qI xJ (aa b7 o8) xn zq qL qK xI (qH (H.get 4 rfl) 0 3) (H.get 5 rfl).1 (H.get 6 rfl).1 (qH (H.get 7 rfl) 0 3) (H.get 8 rfl).1 (H.get 9 rfl).1 (H.get 10 rfl).1 (by assumption) (by assumption) (by assumption)) ?_
     rintro _ w47 rfl x48
     replace H := H.ext x48
     refine ⟨H, ?_⟩
     refine rgp 17 (.bool ((xf s t ((r.qC[i]!).qy) : Int) != r.qy)) 88 H ?_
     refine rtp 18 (.bool ((xf s t ((r.qC[i]!).qy) : Int) != r.qy)) H ?_
     refine xN (by kernel_rfl) (t_n ?_)
     refine qW ((xf s t ((r.qC[i]!).qy) : Int) != r.qy) rfl (fun h49 => ?_) (fun h49 => ?_)
     ·skip
      replace h49 := bne_iff_ne.1 h49
      refine qm (qA ?_)
      refine sp (.bool false) ?_
      refine qx (t_n (xC (b_r (t_r (t_r (b_r (t_r ?_)))))))
      refine ret1 (.bool false) rfl rfl ⟨_, rfl, ?_, H.base⟩
      rw [xy (fun h => by obtain ⟨h1, h2, h3, h4, h5⟩ := h; first | exact ft h1 ‹_› | exact ft h2 ‹_› | exact ft h3 ‹_› | exact h4 ⟨‹_›, ‹_›⟩ | (obtain ⟨q1, q2⟩ := h5 i (by omega); first | exact ft q1 ‹_› | exact absurd q2 ‹_›))]
     replace h49 := xR h49
     refine xk (b_n (t_n (qA ?_)))
     refine sp (.int .i64 i) ?_
     refine sw (zZ i 1 rfl rfl (by omega) ?_)
     refine sp (.int .i64 (i + 1)) ?_
     refine qx ?_
     refine xH (m' := (r.qC.length - ((i + 1) : Int)).toNat) (by omega) ⟨_, i + 1, (by exact qj (qj (qj (qj (rfl) rfl) rfl) rfl) rfl), ?_, ?_, rfl, N, H.pick [] [2, 3, 4, 5, 6, 7, 8, 9, 10, 11, 12, 13, 14, 15, 16, 17]⟩
     · omega
     · exact i1.succ ‹_› ‹_›
    replace h46 := xg h46
    refine zT [9, 10, 11, 12, 13, 14, 15, 16, 17] 9 (H) ?_
    refine rtp 18 (.bool true) H ?_
    refine xN (by kernel_rfl) (t_n ?_)
    refine qW true rfl (fun _ => ?_) (fun h => absurd h (by decide))
    refine qm (qA ?_)
    refine sp (.bool false) ?_
    refine qx (t_n (xC (b_r (t_r (t_r (b_r (t_r ?_)))))))
    refine ret1 (.bool false) rfl rfl ⟨_, rfl, ?_, H.base⟩
    rw [xy (fun h => by obtain ⟨h1, h2, h3, h4, h5⟩ := h; first | exact ft h1 ‹_› | exact ft h2 ‹_› | exact ft h3 ‹_› | exact h4 ⟨‹_›, ‹_›⟩ | (obtain ⟨q1, q2⟩ := h5 i (by omega); first | exact ft q1 ‹_› | exact absurd q2 ‹_›))]
   replace h40 := of_decide_eq_false h40
   refine zK (t_x (t_x (b_x (t_n (qm (qA ?_))))))
   refine sp (.bool true) ?_
   refine qx (t_n (xC ?_))
   refine ret1 (.bool true) rfl rfl ⟨_, rfl, ?_, H.base⟩
   rw [yP ⟨by assumption, by assumption, by assumption, fun ⟨u, v⟩ => by first | omega | exact ft v ‹_›, (show i = r.qC.length by omega) ▸ i1⟩]
  replace h18 := xg h18
  refine zf [48, 49, 50, 51, 52, 53, 54, 55, 56, 57, 58, 59, 60, 61] ?_
  refine sp (.bool true) ?_
  refine qx (t_n ?_)
  refine qW true rfl (fun _ => ?_) (fun h => absurd h (by decide))
  refine qm (qA ?_)
  refine sp (.bool false) ?_
  refine qx (t_n (xC (t_r ?_)))
  refine ret1 (.bool false) rfl rfl ⟨_, rfl, ?_, H.base⟩
  rw [xy (fun h => by obtain ⟨h1, h2, h3, h4, h5⟩ := h; first | exact ft h1 ‹_› | exact ft h2 ‹_› | exact ft h3 ‹_› | exact h4 ⟨‹_›, ‹_›⟩ | (obtain ⟨q1, q2⟩ := h5 i (by omega); first | exact ft q1 ‹_› | exact absurd q2 ‹_›))]
 replace h14 := xg h14
 refine zf [39, 40, 41, 42, 43, 44, 45] ?_
 refine sps [.bool true, .bool true] ?_
 refine zf [48, 49, 50, 51, 52, 53, 54, 55, 56, 57, 58, 59, 60, 61] ?_
 refine sp (.bool true) ?_
 refine qx (t_n ?_)
 refine qW true rfl (fun _ => ?_) (fun h => absurd h (by decide))
 refine qm (qA ?_)
 refine sp (.bool false) ?_
 refine qx (t_n (xC (t_r ?_)))
 refine ret1 (.bool false) rfl rfl ⟨_, rfl, ?_, H.base⟩
 rw [xy (fun h => by obtain ⟨h1, h2, h3, h4, h5⟩ := h; first | exact ft h1 ‹_› | exact ft h2 ‹_› | exact ft h3 ‹_› | exact h4 ⟨‹_›, ‹_›⟩ | (obtain ⟨q1, q2⟩ := h5 i (by omega); first | exact ft q1 ‹_› | exact absurd q2 ‹_›))]

theorem l03Applicable_ok (w : World) (s : qX) (t : qU) (bs os : Nat) (qw : Option Addr) (qo : Nat) (qO : List Nat) (qF : Option Addr) (qB : Nat) (xw : List Nat) (bt ot : Nat) (qM : Option Addr) (qI : Nat) (xJ : List Nat) (xF : Option Addr) (xn : Nat) (zq : List Nat) (qL : Option Addr) (qK : Nat) (xI : List Nat) (hs : jb w bs os [.int .i64 s.qJ, .slice qw s.qf.length qo, .slice qF s.qg.length qB]) (xx : qV.rep w qO [.slice qw s.qf.length qo] s.qf) (xM : qV.rep w xw [.slice qF s.qg.length qB] s.qg) (ht : jb w bt ot [.slice qM t.qh.length qI, .slice xF t.qp.length xn, .slice qL t.ql.length qK]) (zo : qV.rep w xJ [.slice qM t.qh.length qI] t.qh) (zY : qV.rep w zq [.slice xF t.qp.length xn] t.qp) (xW : qV.rep w xI [.slice qL t.ql.length qK] t.ql) (p0 : yI s) (p1 : zu s t) : Calls Tryz.prog 79 #[pp bs os, pp bt ot] w (Ret (fun v w' => ∃ (ra : Option Addr) (rn : Nat) (rc : Nat), v = .slice ra rn rc ∧ Fresh w.heap.size [] ∧ St w w' [.row (.slice ra rn rc) 4 1 rn ((appl s t).map (Value.bool))] []) w) := by
 refine enter (n := 99) Tryz.func79 rfl Tryz.ntmps79 (Nat.le_of_ble_eq_true rfl) ?_
 have H := (((((((St.start w).arg xW).arg zY).arg zo).argAt ht).arg xM).arg xx).argAt hs
 have vU := qN xx
 have jW := qN xM
 have QB := qN zo
 have Xn := qN zY
 have yT := qN xW
 clear hs xx xM ht zo zY xW
 have N := Fresh.nil w.heap.size
 have p2 := p0.2.1
 have p3 := p0.1.2.1
 refine qm (qA ?_)
 refine sp (.slice none 0 0) ?_
 refine qx (t_n (qm (qA ?_)))
 refine sps [pp bs os, pp bs os] ?_
 refine sw (qP bs (os) 1 Tryz.underlying36 rfl rfl Tryz.sizeOf22 rfl ?_)
 refine sw (qE (.slice qw s.qf.length qo) Tryz.isAgg22 rfl (H.xY 0 rfl 1 rfl) ?_)
 refine sw (zX Tryz.underlying22 qw s.qf.length qo rfl ?_)
 refine sw (o_makeI H Tryz.underlying22 ti2 s.qf.length rfl rfl (by omega) (by omega) (by omega) fun b1 w2 H => ?_)
 refine sp (.slice (aa b1 0) s.qf.length s.qf.length) ?_
 refine qx (t_n (qm (qA ?_)))
 refine sw (o_build0 H Tryz.underlying26 ti4 fun b3 w4 H => ?_)
 refine sp (.slice (aa b3 0) 0 0) ?_
 refine qx (t_n (qm (qm (qA ?_))))
 refine sp (.int .i64 0) ?_
 refine qx (t_n (xE ?_))
 replace H := H.boxRowB 0 [] 0
 try dsimp only [List.set] at H
 refine zU (fun m' ρ w5 => ∃ (junk : Env) (a_out : Option Addr) (XI : Nat) (c_out : Nat) (out : List Bool) (i : Nat) (best : List Int), ρ = upd (upd (upd (upd (upd junk 0 (pp bs os)) 1 (pp bt ot)) 5 (.slice (aa b1 0) s.qf.length s.qf.length)) 6 (.slice a_out XI c_out)) 7 (.int .i64 i) ∧ out = applB s t 0 i ∧ best = bests s t 0 s.qf.length i ∧ ((i : Int) ≤ s.qg.length) ∧ m' = (s.qg.length - (i : Int)).toNat ∧ Fresh w.heap.size [] ∧ St w w5 [.row (.slice a_out XI c_out) 4 1 XI (out.map (Value.bool)), .row (.slice (aa b1 0) s.qf.length s.qf.length) 2 1 s.qf.length (best.map (Value.int .i64))] [atF bs os [.int .i64 s.qJ, .slice qw s.qf.length qo, .slice qF s.qg.length qB], isF false qO (.slice qw s.qf.length qo) s.qf, isF false xw (.slice qF s.qg.length qB) s.qg, atF bt ot [.slice qM t.qh.length qI, .slice xF t.qp.length xn, .slice qL t.ql.length qK], isF false xJ (.slice qM t.qh.length qI) t.qh, isF false zq (.slice xF t.qp.length xn) t.qp, isF false xI (.slice qL t.ql.length qK) t.ql]) ((s.qg.length - (0 : Int)).toNat) ⟨_, (aa b3 0), 0, 0, ([] : List Bool), 0, (List.replicate s.qf.length (0 : Int)), (by exact qj (qj (qj (qj (qj (rfl) rfl) rfl) rfl) rfl) rfl), (by rfl), (by exact bests_zero s t 0 _), (by omega), rfl, N, H⟩ ?_
 clear H N
 rintro m' ρ w6 ⟨junk, a_out, XI, c_out, out, i, best, rfl, rfl, rfl, i0, rfl, N, H⟩
 have hn_out := H.QA 0 rfl
 have hn_best := H.QS 1 rfl
 have bl := Xv s t 0 s.qf.length i
 have al := applB_len s t 0 i
 refine qm (qm (qA ?_))
 refine sps [.int .i64 i, pp bs os, pp bs os] ?_
 refine sw (qP bs (os) 2 Tryz.underlying36 rfl rfl Tryz.sizeOf34 rfl ?_)
 refine sw (qE (.slice qF s.qg.length qB) Tryz.isAgg34 rfl (H.xY 0 rfl 2 rfl) ?_)
 refine sw (zX Tryz.underlying34 qF s.qg.length qB rfl ?_)
 refine sp (.bool (decide ((i : Int) < s.qg.length))) ?_
 refine qx (t_n ?_)
 refine qW (decide ((i : Int) < s.qg.length)) rfl (fun h7 => ?_) (fun h7 => ?_)
 ·skip
  replace h7 := of_decide_eq_true h7
  have q := p0.rule (i := i) (by omega)
  have qc := q.1
  have qk := q.cell
  have qr := q.2.1
  refine xk (t_n (qm (xE (qm (qA ?_)))))
  refine sps [pp bs os, pp bs os] ?_
  refine sw (qP bs (os) 2 Tryz.underlying36 rfl rfl Tryz.sizeOf34 rfl ?_)
  refine sw (qE (.slice qF s.qg.length qB) Tryz.isAgg34 rfl (H.xY 0 rfl 2 rfl) ?_)
  refine sp (.int .i64 i) ?_
  obtain ⟨b8, o9, rfl⟩ := H.addr 2 rfl (by omega)
  obtain ⟨ae11Need, ce11Need, Fe11Need, ae11Have, ce11Have, Fe11Have, ae11Lack, ce11Lack, Fe11Lack, ae11Here, ce11Here, Fe11Here, ae11Out, ce11Out, Fe11Out, ae11Into, ce11Into, Fe11Into, H⟩ := H.yB 2 rfl i i (by omega) (by omega) (by omega)
  refine sw (xK i Tryz.underlying34 ti110 rfl rfl (by omega) (by omega) ?_)
  refine sp (pp b8 (o9 + (i : Int).toNat * 9)) ?_
  refine qx (t_n (qm (qA ?_)))
  refine sps [pp bs os, pp bt ot, pp b8 (o9 + (i : Int).toNat * 9)] ?_
  refine sw (qZ #[pp bs os, pp bt ot, pp b8 (o9 + (i : Int).toNat * 9)] rfl rfl Tryz.call129 (l03Enabled_ok w6 s t (s.qg[i]!) bs os qw qo qO (aa b8 o9) qB xw bt ot qM qI xJ xF xn zq qL qK xI b8 (o9 + (i : Int).toNat * 9) ae11Need ce11Need Fe11Need ae11Have ce11Have Fe11Have ae11Lack ce11Lack Fe11Lack ae11Here ce11Here Fe11Here ae11Out ce11Out Fe11Out ae11Into ce11Into Fe11Into (qH (H.get 7 rfl) 0 3) (H.get 8 rfl).1 (H.get 9 rfl).1 (qH (H.get 10 rfl) 0 3) (H.get 11 rfl).1 (H.get 12 rfl).1 (H.get 13 rfl).1 (qH (H.get 6 rfl) 0 9) (H.get 0 rfl).1 (H.get 1 rfl).1 (H.get 2 rfl).1 (H.get 3 rfl).1 (H.get 4 rfl).1 (H.get 5 rfl).1 (by first | assumption | omega) (by first | assumption | omega) (by first | assumption | omega)) ?_)
  rintro _ w13 rfl x14
  replace H := H.ext x14
  refine sp (.bool (dec (EnOk s t (s.qg[i]!)))) ?_
  refine qx (t_n (qm (qA ?_)))
  refine sps [.slice a_out XI c_out, .bool (dec (EnOk s t (s.qg[i]!)))] ?_
  refine sw (Xr H Tryz.underlying26 ti4 [.bool (dec (EnOk s t (s.qg[i]!)))] fun b15 w16 H => ?_)
  refine sw (Xt H 1 rfl 0 rfl Tryz.underlying26 ti4 rfl (by decide) rfl rfl rfl (by simp [Value.oneCell', Value.cells]) (by unfold maxLen; omega) (by omega) fun a17 c18 w19 H => ?_)
  rw [snocB] at H
  try dsimp only [List.set] at H
  refine sp (.slice a17 (XI + 1) c18) ?_
  refine qx (t_n (qm (qA ?_)))
  refine sp (.bool (dec (EnOk s t (s.qg[i]!)))) ?_
  refine qx (t_n ?_)
  refine qW (dec (EnOk s t (s.qg[i]!))) rfl (fun h20 => ?_) (fun h20 => ?_)
  ·skip
   replace h20 := jG h20
   refine Qa rfl H [0, 1] fun H => ?_
   have S := H.yG [0, 1] [0, 1, 2, 3, 4, 5, 6, 7, 8, 9, 10, 11, 12, 13]
   refine rtp 0 (.slice (aa b1 0) s.qf.length s.qf.length) S ?_
   refine rtp 1 (pp b8 (o9 + (i : Int).toNat * 9)) S ?_
   refine rtp 2 (pp b8 (o9 + (i : Int).toNat * 9)) S ?_
   refine rt 3 (pp b8 (o9 + (i : Int).toNat * 9 + 0)) (xG b8 (o9 + (i : Int).toNat * 9) 0 Tryz.underlying110 rfl rfl Tryz.sizeOf2 rfl) S ?_
   refine rt 4 (.int .i64 ((s.qg[i]!).qy)) (xA Tryz.isAgg2 rfl (fun _ h => h.xY 6 rfl 0 rfl)) S ?_
   refine rtp 5 (.slice (aa b1 0) s.qf.length s.qf.length) S ?_
   refine rtp 6 (pp b8 (o9 + (i : Int).toNat * 9)) S ?_
   refine rtp 7 (pp b8 (o9 + (i : Int).toNat * 9)) S ?_
   refine rt 8 (pp b8 (o9 + (i : Int).toNat * 9 + 0)) (xG b8 (o9 + (i : Int).toNat * 9) 0 Tryz.underlying110 rfl rfl Tryz.sizeOf2 rfl) S ?_
   refine rt 9 (.int .i64 ((s.qg[i]!).qy)) (xA Tryz.isAgg2 rfl (fun _ h => h.xY 6 rfl 0 rfl)) S ?_
   refine rt 10 (pp b1 (0 + ((s.qg[i]!).qy : Int).toNat * 1)) (xO b1 (0) s.qf.length s.qf.length ((s.qg[i]!).qy) Tryz.underlying22 ti2 rfl rfl (by omega) (by omega)) S ?_
   refine rtp 12 (pp b8 (o9 + (i : Int).toNat * 9)) S ?_
   refine rtp 13 (pp b8 (o9 + (i : Int).toNat * 9)) S ?_
   refine rt 14 (pp b8 (o9 + (i : Int).toNat * 9 + 1)) (xG b8 (o9 + (i : Int).toNat * 9) 1 Tryz.underlying110 rfl rfl Tryz.sizeOf2 rfl) S ?_
   refine rt 15 (.int .i64 ((s.qg[i]!).zh)) (xA Tryz.isAgg2 rfl (fun _ h => h.xY 6 rfl 1 rfl)) S ?_
   refine xq [11] (by kernel_rfl) (by simp) (xZ rfl ?_ xu)
   refine qE (.int .i64 ((bests s t 0 s.qf.length i)[((s.qg[i]!).qy).toNat]!)) Tryz.isAgg2 rfl (H.rowInt 2 rfl (iv := (s.qg[i]!).qy) (i := (((s.qg[i]!).qy).toNat)) (by omega) (by omega)) ?_
   refine ⟨H.pick [0, 1] [0, 1, 2, 3, 4, 5, 6, 7, 8, 9, 10, 11, 12, 13], ?_⟩
   refine xq [16] (by kernel_rfl) (by simp) (xZ rfl ?_ xu)
   refine qZ #[.int .i64 ((bests s t 0 s.qf.length i)[((s.qg[i]!).qy).toNat]!), .int .i64 ((s.qg[i]!).zh)] rfl rfl Tryz.call130 (l00Max_ok w19.drew ((bests s t 0 s.qf.length i)[((s.qg[i]!).qy).toNat]!) ((s.qg[i]!).zh)) ?_
   rintro _ w23 rfl x24
   replace H := H.ext x24
   refine ⟨H.pick [0, 1] [0, 1, 2, 3, 4, 5, 6, 7, 8, 9, 10, 11, 12, 13], ?_⟩
   refine rt 17 (pp b1 (0 + ((s.qg[i]!).qy : Int).toNat * 1)) (xO b1 (0) s.qf.length s.qf.length ((s.qg[i]!).qy) Tryz.underlying22 ti2 rfl rfl (by omega) (by omega)) (H.pick [0, 1] [0, 1, 2, 3, 4, 5, 6, 7, 8, 9, 10, 11, 12, 13]) ?_
   refine xq [18] (by kernel_rfl) (by simp) (xZ rfl ?_ xu)
   refine o_storeInt H 2 rfl (max ((bests s t 0 s.qf.length i)[((s.qg[i]!).qy).toNat]!) ((s.qg[i]!).zh)) Tryz.sizeOf2 rfl rfl (i := (((s.qg[i]!).qy).toNat)) (by omega) (by omega) fun w25 H => ?_
   try dsimp only [List.set] at H
   refine ⟨H.pick [0, 1] [0, 1, 2, 3, 4, 5, 6, 7, 8, 9, 10, 11, 12, 13], ?_⟩
   refine xN (by kernel_rfl) (b_n (t_n ?_))
   refine qA ?_
   refine sp (.int .i64 i) ?_
   refine sw (zZ i 1 rfl rfl (by omega) ?_)
   refine sp (.int .i64 (i + 1)) ?_
   refine qx ?_
   refine xH (m' := (s.qg.length - ((i + 1) : Int)).toNat) (by omega) ⟨_, a17, XI + 1, c18, ((applB s t 0 i) ++ [dec (EnOk s t (s.qg[i]!))]), i + 1, ((bests s t 0 s.qf.length i).set (((s.qg[i]!).qy).toNat) (max ((bests s t 0 s.qf.length i)[((s.qg[i]!).qy).toNat]!) ((s.qg[i]!).zh))), (by exact qj (qj (qj (qj (qj (rfl) rfl) rfl) rfl) rfl) rfl), ?_, ?_, ?_, rfl, N, H.pick [1, 2] [7, 8, 9, 10, 11, 12, 13]⟩
   · exact applB_snoc s t i
   · first | exact bests_set ‹_› (by omega) | exact bests_skip ‹_›
   · omega
  replace h20 := xX h20
  refine xk (b_n (t_n (qA ?_)))
  refine sp (.int .i64 i) ?_
  refine sw (zZ i 1 rfl rfl (by omega) ?_)
  refine sp (.int .i64 (i + 1)) ?_
  refine qx ?_
  refine xH (m' := (s.qg.length - ((i + 1) : Int)).toNat) (by omega) ⟨_, a17, XI + 1, c18, ((applB s t 0 i) ++ [dec (EnOk s t (s.qg[i]!))]), i + 1, (bests s t 0 s.qf.length i), (by exact qj (qj (qj (qj (qj (rfl) rfl) rfl) rfl) rfl) rfl), ?_, ?_, ?_, rfl, N, H.pick [1, 2] [7, 8, 9, 10, 11, 12, 13]⟩
  · exact applB_snoc s t i
  · first | exact bests_set ‹_› (by omega) | exact bests_skip ‹_›
  · omega
 replace h7 := of_decide_eq_false h7
 refine zK (t_x (t_x (b_x (t_n (qm (qm (qA ?_)))))))
 refine sp (.int .i64 0) ?_
 refine qx (t_n (xE ?_))
 refine zU (fun m' ρ w26 => ∃ (junk : Env) (i_1 : Nat) (out_1 : List Bool), ρ = upd (upd (upd (upd junk 0 (pp bs os)) 5 (.slice (aa b1 0) s.qf.length s.qf.length)) 6 (.slice a_out XI c_out)) 10 (.int .i64 i_1) ∧ out_1 = applB s t i_1 s.qg.length ∧ ((i_1 : Int) ≤ s.qg.length) ∧ m' = (s.qg.length - (i_1 : Int)).toNat ∧ Fresh w.heap.size [] ∧ St w w26 [.row (.slice a_out XI c_out) 4 1 XI (out_1.map (Value.bool)), .row (.slice (aa b1 0) s.qf.length s.qf.length) 2 1 s.qf.length ((bests s t 0 s.qf.length i).map (Value.int .i64))] [atF bs os [.int .i64 s.qJ, .slice qw s.qf.length qo, .slice qF s.qg.length qB], isF false qO (.slice qw s.qf.length qo) s.qf, isF false xw (.slice qF s.qg.length qB) s.qg]) ((s.qg.length - (0 : Int)).toNat) ⟨_, 0, (applB s t 0 i), (by exact qj (qj (qj (qj (rfl) rfl) rfl) rfl) rfl), (by rw [show i = s.qg.length by omega]), (by omega), rfl, N, H.pick [0, 1] [0, 1, 2]⟩ ?_
 clear H N
 rintro m' ρ w27 ⟨junk, i_1, out_1, rfl, rfl, i0, rfl, N, H⟩
 have hn_out := H.QA 0 rfl
 have bl := Xv s t 0 s.qf.length i
 have al := applB_len s t i_1 s.qg.length
 refine qm (qm (qA ?_))
 refine sps [.int .i64 i_1, pp bs os, pp bs os] ?_
 refine sw (qP bs (os) 2 Tryz.underlying36 rfl rfl Tryz.sizeOf34 rfl ?_)
 refine sw (qE (.slice qF s.qg.length qB) Tryz.isAgg34 rfl (H.xY 0 rfl 2 rfl) ?_)
 refine sw (zX Tryz.underlying34 qF s.qg.length qB rfl ?_)
 refine sp (.bool (decide ((i_1 : Int) < s.qg.length))) ?_
 refine qx (t_n ?_)
 refine qW (decide ((i_1 : Int) < s.qg.length)) rfl (fun h28 => ?_) (fun h28 => ?_)
 ·skip
  replace h28 := of_decide_eq_true h28
  have q := p0.rule (i := i_1) (by omega)
  have qc := q.1
  have qk := q.cell
  have qr := q.2.1
  refine xk (t_n (qm (xE ?_)))
  refine Qa rfl H [1] fun H => ?_
  have S := H.yG [1] [0, 1, 2]
  refine rtp 0 (.slice a_out XI c_out) S ?_
  refine rtp 1 (.int .i64 i_1) S ?_
  refine rtp 2 (.slice a_out XI c_out) S ?_
  refine rtp 3 (.int .i64 i_1) S ?_
  obtain ⟨b30, rfl⟩ := H.Xa 0 rfl (by omega)
  refine rt 4 (pp b30 (0 + (i_1 : Int).toNat * 1)) (xO b30 (0) XI c_out i_1 Tryz.underlying26 ti4 rfl rfl (by omega) (by omega)) (H.pick [1] [0, 1, 2]) ?_
  refine xq [5] (by kernel_rfl) (by simp) (xZ rfl ?_ xu)
  refine qE (.bool ((applB s t i_1 s.qg.length)[i_1]!)) Tryz.isAgg4 rfl (H.rowBool 0 rfl (iv := i_1) (i := i_1) (by omega) (by omega)) ?_
  refine ⟨H.pick [1] [0, 1, 2], ?_⟩
  refine rtp 6 (.bool ((applB s t i_1 s.qg.length)[i_1]!)) (H.pick [1] [0, 1, 2]) ?_
  cases h31 : ((applB s t i_1 s.qg.length)[i_1]!)
  ·skip
   refine zT [7, 8, 9, 10, 11, 12, 13, 14, 15, 16, 17, 18, 19, 20, 21, 22, 23, 24, 25, 26] 20 (H.pick [1] [0, 1, 2]) ?_
   have S := H.yG [1] [0, 1, 2]
   refine rtp 27 (.bool false) S ?_
   refine rt 28 (pp b30 (0 + (i_1 : Int).toNat * 1)) (xO b30 (0) XI c_out i_1 Tryz.underlying26 ti4 rfl rfl (by omega) (by omega)) S ?_
   refine xq [29] (by kernel_rfl) (by simp) (xZ rfl ?_ xu)
   refine QM H 0 rfl false Tryz.sizeOf4 rfl rfl (i := i_1) (by omega) (by omega) fun w32 H => ?_
   try dsimp only [List.set] at H
   refine ⟨H.pick [1] [0, 1, 2], ?_⟩
   refine xN (by kernel_rfl) (b_n (t_n ?_))
   refine qA ?_
   refine sp (.int .i64 i_1) ?_
   refine sw (zZ i_1 1 rfl rfl (by omega) ?_)
   refine sp (.int .i64 (i_1 + 1)) ?_
   refine qx ?_
   refine xH (m' := (s.qg.length - ((i_1 + 1) : Int)).toNat) (by omega) ⟨_, i_1 + 1, ((applB s t i_1 s.qg.length).set i_1 false), (by exact qj (qj (qj (qj (rfl) rfl) rfl) rfl) rfl), ?_, ?_, rfl, N, H⟩
   · first | exact applB_set (by omega) (applB_step0 (m := s.qg.length) (by omega) ‹_›) | exact applB_set (by omega) (applB_step1 (m := s.qg.length) (n := s.qf.length) (z := 0) (i := i) (by omega) ‹_› rfl (by omega) (by omega) (by omega))
   · omega
  have S := H.yG [1] [0, 1, 2]
  refine rgp 7 (pp bs os) 75 S ?_
  refine rgp 8 (pp bs os) 75 S ?_
  refine rg 9 (pp bs (os + 2)) 75 (xG bs (os) 2 Tryz.underlying36 rfl rfl Tryz.sizeOf34 rfl) S ?_
  refine rg 10 (.slice qF s.qg.length qB) 75 (xA Tryz.isAgg34 rfl (fun _ h => h.xY 0 rfl 2 rfl)) S ?_
  refine rgp 11 (.int .i64 i_1) 75 S ?_
  obtain ⟨b33, o34, rfl⟩ := H.addr 2 rfl (by omega)
  obtain ⟨ae36Need, ce36Need, Fe36Need, ae36Have, ce36Have, Fe36Have, ae36Lack, ce36Lack, Fe36Lack, ae36Here, ce36Here, Fe36Here, ae36Out, ce36Out, Fe36Out, ae36Into, ce36Into, Fe36Into, H⟩ := H.yB 2 rfl i_1 i_1 (by omega) (by omega) (by omega)
  have S := H.yG [1] [7, 8, 9]
  refine rg 12 (pp b33 (o34 + (i_1 : Int).toNat * 9)) 75 (xO b33 (o34) s.qg.length qB i_1 Tryz.underlying34 ti110 rfl rfl (by omega) (by omega)) S ?_
  refine rg 13 (pp b33 (o34 + (i_1 : Int).toNat * 9 + 1)) 75 (xG b33 (o34 + (i_1 : Int).toNat * 9) 1 Tryz.underlying110 rfl rfl Tryz.sizeOf2 rfl) S ?_
  refine rgp 15 (.slice (aa b1 0) s.qf.length s.qf.length) 75 S ?_
  refine rgp 16 (pp bs os) 75 S ?_
  refine rgp 17 (pp bs os) 75 S ?_
  refine rg 18 (pp bs (os + 2)) 75 (xG bs (os) 2 Tryz.underlying36 rfl rfl Tryz.sizeOf34 rfl) S ?_
  refine rg 19 (.slice (aa b33 o34) s.qg.length qB) 75 (xA Tryz.isAgg34 rfl (fun _ h => h.xY 0 rfl 2 rfl)) S ?_
  refine rgp 20 (.int .i64 i_1) 75 S ?_
  refine rg 21 (pp b33 (o34 + (i_1 : Int).toNat * 9)) 75 (xO b33 (o34) s.qg.length qB i_1 Tryz.underlying34 ti110 rfl rfl (by omega) (by omega)) S ?_
  refine rg 22 (pp b33 (o34 + (i_1 : Int).toNat * 9 + 0)) 75 (xG b33 (o34 + (i_1 : Int).toNat * 9) 0 Tryz.underlying110 rfl rfl Tryz.sizeOf2 rfl) S ?_
  refine xq [14, 23] (by kernel_rfl) (by simp) (Xp rfl (e := 75) rfl rfl ?_ (Xp rfl (e := 75) rfl rfl ?_ xu))
  ·skip
   refine qE (.int .i64 ((s.qg[i_1]!).zh)) Tryz.isAgg2 rfl (H.xY 6 rfl 1 rfl) ?_
   refine ⟨H.pick [1] [7, 8, 9], ?_⟩
   refine xq [23] (by kernel_rfl) (by simp) (Xp rfl (e := 75) rfl rfl ?_ xu)
   refine qE (.int .i64 ((s.qg[i_1]!).qy)) Tryz.isAgg2 rfl (H.xY 6 rfl 0 rfl) ?_
   refine ⟨H.pick [1] [7, 8, 9], ?_⟩
   have S := H.yG [1] [7, 8, 9]
   refine rg 24 (pp b1 (0 + ((s.qg[i_1]!).qy : Int).toNat * 1)) 75 (xO b1 (0) s.qf.length s.qf.length ((s.qg[i_1]!).qy) Tryz.underlying22 ti2 rfl rfl (by omega) (by omega)) S ?_
   refine rg 25 (.int .i64 ((bests s t 0 s.qf.length i)[((s.qg[i_1]!).qy).toNat]!)) 75 (xA Tryz.isAgg2 rfl (fun _ h => h.rowInt 0 rfl (iv := (s.qg[i_1]!).qy) (i := (((s.qg[i_1]!).qy).toNat)) (by omega) (by omega))) S ?_
   refine rgp 26 (.bool (((s.qg[i_1]!).zh : Int) == ((bests s t 0 s.qf.length i)[((s.qg[i_1]!).qy).toNat]!))) 75 S ?_
   refine rtp 27 (.bool (((s.qg[i_1]!).zh : Int) == ((bests s t 0 s.qf.length i)[((s.qg[i_1]!).qy).toNat]!))) S ?_
   refine rt 28 (pp b30 (0 + (i_1 : Int).toNat * 1)) (xO b30 (0) XI c_out i_1 Tryz.underlying26 ti4 rfl rfl (by omega) (by omega)) S ?_
   refine xq [29] (by kernel_rfl) (by simp) (xZ rfl ?_ xu)
   refine QM H 0 rfl (((s.qg[i_1]!).zh : Int) == ((bests s t 0 s.qf.length i)[((s.qg[i_1]!).qy).toNat]!)) Tryz.sizeOf4 rfl rfl (i := i_1) (by omega) (by omega) fun w37 H => ?_
   try dsimp only [List.set] at H
   refine ⟨H.pick [1] [7, 8, 9], ?_⟩
   refine xN (by kernel_rfl) (b_n (t_n ?_))
   refine qA ?_
   refine sp (.int .i64 i_1) ?_
   refine sw (zZ i_1 1 rfl rfl (by omega) ?_)
   refine sp (.int .i64 (i_1 + 1)) ?_
   refine qx ?_
   refine xH (m' := (s.qg.length - ((i_1 + 1) : Int)).toNat) (by omega) ⟨_, i_1 + 1, ((applB s t i_1 s.qg.length).set i_1 (((s.qg[i_1]!).zh : Int) == ((bests s t 0 s.qf.length i)[((s.qg[i_1]!).qy).toNat]!))), (by exact qj (qj (qj (qj (rfl) rfl) rfl) rfl) rfl), ?_, ?_, rfl, N, H.pick [0, 1] [7, 8, 9]⟩
   · first | exact applB_set (by omega) (applB_step0 (m := s.qg.length) (by omega) ‹_›) | exact applB_set (by omega) (applB_step1 (m := s.qg.length) (n := s.qf.length) (z := 0) (i := i) (by omega) ‹_› rfl (by omega) (by omega) (by omega))
   · omega
  refine qE (.int .i64 ((s.qg[i_1]!).qy)) Tryz.isAgg2 rfl (H.xY 6 rfl 0 rfl) ?_
  refine ⟨H.pick [1] [7, 8, 9], ?_⟩
  have S := H.yG [1] [7, 8, 9]
  refine rg 24 (pp b1 (0 + ((s.qg[i_1]!).qy : Int).toNat * 1)) 75 (xO b1 (0) s.qf.length s.qf.length ((s.qg[i_1]!).qy) Tryz.underlying22 ti2 rfl rfl (by omega) (by omega)) S ?_
  refine rg 25 (.int .i64 ((bests s t 0 s.qf.length i)[((s.qg[i_1]!).qy).toNat]!)) 75 (xA Tryz.isAgg2 rfl (fun _ h => h.rowInt 0 rfl (iv := (s.qg[i_1]!).qy) (i := (((s.qg[i_1]!).qy).toNat)) (by omega) (by omega))) S ?_
  refine xq [14] (by kernel_rfl) (by simp) (Xp rfl (e := 75) rfl rfl ?_ xu)
  refine qE (.int .i64 ((s.qg[i_1]!).zh)) Tryz.isAgg2 rfl (H.xY 6 rfl 1 rfl) ?_
  refine ⟨H.pick [1] [7, 8, 9], ?_⟩
  have S := H.yG [1] [7, 8, 9]
  refine rgp 26 (.bool (((s.qg[i_1]!).zh : Int) == ((bests s t 0 s.qf.length i)[((s.qg[i_1]!).qy).toNat]!))) 75 S ?_
  refine rtp 27 (.bool (((s.qg[i_1]!).zh : Int) == ((bests s t 0 s.qf.length i)[((s.qg[i_1]!).qy).toNat]!))) S ?_
  refine rt 28 (pp b30 (0 + (i_1 : Int).toNat * 1)) (xO b30 (0) XI c_out i_1 Tryz.underlying26 ti4 rfl rfl (by omega) (by omega)) S ?_
  refine xq [29] (by kernel_rfl) (by simp) (xZ rfl ?_ xu)
  refine QM H 0 rfl (((s.qg[i_1]!).zh : Int) == ((bests s t 0 s.qf.length i)[((s.qg[i_1]!).qy).toNat]!)) Tryz.sizeOf4 rfl rfl (i := i_1) (by omega) (by omega) fun w38 H => ?_
  try dsimp only [List.set] at H
  refine ⟨H.pick [1] [7, 8, 9], ?_⟩
  refine xN (by kernel_rfl) (b_n (t_n ?_))
  refine qA ?_
  refine sp (.int .i64 i_1) ?_
  refine sw (zZ i_1 1 rfl rfl (by omega) ?_)
  refine sp (.int .i64 (i_1 + 1)) ?_
  refine qx ?_
  refine xH (m' := (s.qg.length - ((i_1 + 1) : Int)).toNat) (by omega) ⟨_, i_1 + 1, ((applB s t i_1 s.qg.length).set i_1 (((s.qg[i_1]!).zh : Int) == ((bests s t 0 s.qf.length i)[((s.qg[i_1]!).qy).toNat]!))), (by exact qj (qj (qj (qj (rfl) rfl) rfl) rfl) rfl), ?_, ?_, rfl, N, H.pick [0, 1] [7, 8, 9]⟩
  · first | exact applB_set (by omega) (applB_step0 (m := s.qg.length) (by omega) ‹_›) | exact applB_set (by omega) (applB_step1 (m := s.qg.length) (n := s.qf.length) (z := 0) (i := i) (by omega) ‹_› rfl (by omega) (by omega) (by omega))
  · omega
 replace h28 := of_decide_eq_false h28
 refine zK (t_x (t_x (b_x (t_n (qm (qA ?_))))))
 refine sps [.slice a_out XI c_out, .slice a_out XI c_out] ?_
 refine qx (t_n (xC ?_))
 refine ret1 (.slice a_out XI c_out) rfl rfl ⟨_, rfl, ?_, H.base⟩
 obtain rfl : i_1 = s.qg.length := by omega
 exact ⟨a_out, XI, c_out, rfl, N, H.pick [0] []⟩

theorem l03Halted_ok (w : World) (s : qX) (t : qU) (bs os : Nat) (qw : Option Addr) (qo : Nat) (qO : List Nat) (qF : Option Addr) (qB : Nat) (xw : List Nat) (bt ot : Nat) (qM : Option Addr) (qI : Nat) (xJ : List Nat) (xF : Option Addr) (xn : Nat) (zq : List Nat) (qL : Option Addr) (qK : Nat) (xI : List Nat) (hs : jb w bs os [.int .i64 s.qJ, .slice qw s.qf.length qo, .slice qF s.qg.length qB]) (xx : qV.rep w qO [.slice qw s.qf.length qo] s.qf) (xM : qV.rep w xw [.slice qF s.qg.length qB] s.qg) (ht : jb w bt ot [.slice qM t.qh.length qI, .slice xF t.qp.length xn, .slice qL t.ql.length qK]) (zo : qV.rep w xJ [.slice qM t.qh.length qI] t.qh) (zY : qV.rep w zq [.slice xF t.qp.length xn] t.qp) (xW : qV.rep w xI [.slice qL t.ql.length qK] t.ql) (p0 : yI s) (p1 : zu s t) : Calls Tryz.prog 74 #[pp bs os, pp bt ot] w (Ret (fun v w' => v = .bool (dec (Halted s t))) w) := by
 refine enter (n := 20) Tryz.func74 rfl Tryz.ntmps74 (Nat.le_of_ble_eq_true rfl) ?_
 have H := (((((((St.start w).arg xW).arg zY).arg zo).argAt ht).arg xM).arg xx).argAt hs
 have vU := qN xx
 have jW := qN xM
 have QB := qN zo
 have Xn := qN zY
 have yT := qN xW
 clear hs xx xM ht zo zY xW
 have N := Fresh.nil w.heap.size
 have p2 := p0.2.1
 refine qm (qA ?_)
 refine sp (.bool false) ?_
 refine qx (t_n (qm (qA ?_)))
 refine sps [pp bs os, pp bt ot] ?_
 have sz4 := H.base.size
 refine sw (qZ #[pp bs os, pp bt ot] rfl rfl Tryz.call79 (l03Applicable_ok w s t bs os qw qo qO qF qB xw bt ot qM qI xJ xF xn zq qL qK xI (qH (H.get 0 rfl) 0 3) (H.get 1 rfl).1 (H.get 2 rfl).1 (qH (H.get 3 rfl) 0 3) (H.get 4 rfl).1 (H.get 5 rfl).1 (H.get 6 rfl).1 (by first | assumption | omega) (by first | assumption | omega)) ?_)
 rintro _ w2 ⟨ra1, rn1, rc1, rfl, M, K⟩ _
 replace H := H.merge K M
 dsimp only [List.cons_append, List.nil_append] at H
 obtain rfl := H.QA 0 rfl
 have al := appl_len s t
 refine sp (.slice ra1 ((appl s t).length) rc1) ?_
 refine qx (t_n (qm (qm (qA ?_))))
 refine sp (.int .i64 0) ?_
 refine qx (t_n (xE ?_))
 refine zU (fun m' ρ w7 => ∃ (junk : Env) (i : Nat), ρ = upd (upd junk 5 (.slice ra1 ((appl s t).length) rc1)) 6 (.int .i64 i) ∧ ((i : Int) ≤ ((appl s t).length)) ∧ (HaltTo s t i) ∧ m' = (((appl s t).length) - (i : Int)).toNat ∧ Fresh w.heap.size [] ∧ St w w7 [.row (.slice ra1 ((appl s t).length) rc1) 4 1 ((appl s t).length) ((appl s t).map (Value.bool))] []) ((((appl s t).length) - (0 : Int)).toNat) ⟨_, 0, (by exact qj (qj (rfl) rfl) rfl), (by omega), (by exact fun j hj => by omega), rfl, N, H.pick [0] []⟩ ?_
 clear H N
 rintro m' ρ w8 ⟨junk, i, rfl, i0, i1, rfl, N, H⟩
 refine qm (qm (qA ?_))
 refine sps [.int .i64 i, .slice ra1 ((appl s t).length) rc1] ?_
 refine sw (zX Tryz.underlying26 ra1 ((appl s t).length) rc1 rfl ?_)
 refine sp (.bool (decide ((i : Int) < ((appl s t).length)))) ?_
 refine qx (t_n ?_)
 refine qW (decide ((i : Int) < ((appl s t).length))) rfl (fun h9 => ?_) (fun h9 => ?_)
 ·skip
  replace h9 := of_decide_eq_true h9
  refine xk (t_n (qm (xE (qm (qA ?_)))))
  refine sps [.slice ra1 ((appl s t).length) rc1, .int .i64 i] ?_
  obtain ⟨b10, rfl⟩ := H.Xa 0 rfl (by omega)
  refine sw (xK i Tryz.underlying26 ti4 rfl rfl (by omega) (by omega) ?_)
  refine sw (qE (.bool ((appl s t)[i]!)) Tryz.isAgg4 rfl (H.rowBool 0 rfl (iv := i) (i := i) (by omega) (by omega)) ?_)
  refine qx (t_n ?_)
  refine qW ((appl s t)[i]!) rfl (fun h11 => ?_) (fun h11 => ?_)
  ·skip
   refine qm (qA ?_)
   refine sp (.bool false) ?_
   refine qx (t_n (xC (b_r (t_r (t_r (b_r (t_r ?_)))))))
   refine ret1 (.bool false) rfl rfl ⟨_, rfl, ?_, H.base⟩
   rw [xy (fun h => h i (by omega) (appl_true (by omega) ‹_›))]
  refine xk (b_n (t_n (qA ?_)))
  refine sp (.int .i64 i) ?_
  refine sw (zZ i 1 rfl rfl (by omega) ?_)
  refine sp (.int .i64 (i + 1)) ?_
  refine qx ?_
  refine xH (m' := (((appl s t).length) - ((i + 1) : Int)).toNat) (by omega) ⟨_, i + 1, (by exact qj (qj (rfl) rfl) rfl), ?_, ?_, rfl, N, H⟩
  · omega
  · exact i1.succ (appl_false (by omega) ‹_›)
 replace h9 := of_decide_eq_false h9
 refine zK (t_x (t_x (b_x (t_n (qm (qA ?_))))))
 refine sp (.bool true) ?_
 refine qx (t_n (xC ?_))
 refine ret1 (.bool true) rfl rfl ⟨_, rfl, ?_, H.base⟩
 obtain rfl : i = s.qg.length := by omega
 rw [yP i1]

theorem l03Rest_ok (w : World) (s : qX) (t : qU) (counts : List Int) (bs os : Nat) (qw : Option Addr) (qo : Nat) (qO : List Nat) (qF : Option Addr) (qB : Nat) (xw : List Nat) (bt ot : Nat) (qM : Option Addr) (qI : Nat) (xJ : List Nat) (xF : Option Addr) (xn : Nat) (zq : List Nat) (qL : Option Addr) (qK : Nat) (xI : List Nat) (acounts : Option Addr) (ccounts : Nat) (Fcounts : List Nat) (hs : jb w bs os [.int .i64 s.qJ, .slice qw s.qf.length qo, .slice qF s.qg.length qB]) (xx : qV.rep w qO [.slice qw s.qf.length qo] s.qf) (xM : qV.rep w xw [.slice qF s.qg.length qB] s.qg) (ht : jb w bt ot [.slice qM t.qh.length qI, .slice xF t.qp.length xn, .slice qL t.ql.length qK]) (zo : qV.rep w xJ [.slice qM t.qh.length qI] t.qh) (zY : qV.rep w zq [.slice xF t.qp.length xn] t.qp) (xW : qV.rep w xI [.slice qL t.ql.length qK] t.ql) (hcounts : qV.rep w Fcounts [.slice acounts counts.length ccounts] counts) (p0 : yI s) (p1 : zu s t) (p2 : CntOk s counts) : Calls Tryz.prog 106 #[pp bs os, pp bt ot, .slice acounts counts.length ccounts] w (Ret (fun v w' => ∃ (ra0 : Option Addr) (rn0 : Nat) (rc0 : Nat) (rx0 : List Value) (rF0 : List Nat), v = .tuple #[.slice ra0 rn0 rc0, .bool (dec (IsCh s t counts))] ∧ Fresh w.heap.size [rF0] ∧ St w w' [.row (.slice ra0 rn0 rc0) 22 1 rn0 rx0] [vX true rF0 rx0 (zi s t counts (vV (yJ s t counts) counts.length))]) w) := by
 refine enter (n := 112) Tryz.func106 rfl Tryz.ntmps106 (Nat.le_of_ble_eq_true rfl) ?_
 have H := ((((((((St.start w).arg hcounts).arg xW).arg zY).arg zo).argAt ht).arg xM).arg xx).argAt hs
 have vU := qN xx
 have jW := qN xM
 have QB := qN zo
 have Xn := qN zY
 have yT := qN xW
 have nhcounts := qN hcounts
 clear hs xx xM ht zo zY xW hcounts
 have N := Fresh.nil w.heap.size
 have p3 := p0.2.1
 have p6 := p2.1
 have p7 := p1.2.1
 have p8 := kinds_le p0
 have p9 := p0.1.2.1
 have p11 : jr s = s.qf.length := rfl
 refine qm (qA ?_)
 refine sps [.slice none 0 0, .bool false] ?_
 refine qx (t_n (qm (qA ?_)))
 refine sps [pp bs os, pp bt ot] ?_
 have sz4 := H.base.size
 refine sw (qZ #[pp bs os, pp bt ot] rfl rfl Tryz.call79 (l03Applicable_ok w s t bs os qw qo qO qF qB xw bt ot qM qI xJ xF xn zq qL qK xI (qH (H.get 0 rfl) 0 3) (H.get 1 rfl).1 (H.get 2 rfl).1 (qH (H.get 3 rfl) 0 3) (H.get 4 rfl).1 (H.get 5 rfl).1 (H.get 6 rfl).1 (by first | assumption | omega) (by first | assumption | omega)) ?_)
 rintro _ w2 ⟨ra1, rn1, rc1, rfl, M, K⟩ _
 replace H := H.merge K M
 dsimp only [List.cons_append, List.nil_append] at H
 obtain rfl := H.QA 0 rfl
 have al := appl_len s t
 refine sp (.slice ra1 ((appl s t).length) rc1) ?_
 refine qx (t_n (qm (qA ?_)))
 refine sw (o_build0 H Tryz.underlying27 ti22 fun b7 w8 H => ?_)
 refine sp (.slice (aa b7 0) 0 0) ?_
 refine qx (t_n (qm (qm (qA ?_))))
 refine sp (.int .i64 0) ?_
 refine qx (t_n (xE ?_))
 replace H := H.boxRow 0 rfl 1 0 rfl (by decide)
 try dsimp only [List.set] at H
 replace H := H.Qw (α := List Int)
 refine zU (fun m' ρ w9 => ∃ (junk : Env) (Xx : Option Addr) (yc : Nat) (Qv : Nat) (rest : List (List Int)) (XX : List Value) (Vj : List Nat) (c : Nat), ρ = upd (upd (upd (upd (upd (upd junk 0 (pp bs os)) 1 (pp bt ot)) 2 (.slice acounts counts.length ccounts)) 8 (.slice ra1 ((appl s t).length) rc1)) 9 (.slice Xx yc Qv)) 10 (.int .i64 c) ∧ rest = t.qp.take c ∧ ((c : Int) ≤ t.qp.length) ∧ m' = (t.qp.length - (c : Int)).toNat ∧ Fresh w.heap.size [Vj] ∧ St w w9 [.row (.slice Xx yc Qv) 22 1 yc XX, .row (.slice ra1 ((appl s t).length) rc1) 4 1 ((appl s t).length) ((appl s t).map (Value.bool))] [vX true Vj XX rest, atF bs os [.int .i64 s.qJ, .slice qw s.qf.length qo, .slice qF s.qg.length qB], isF false qO (.slice qw s.qf.length qo) s.qf, isF false xw (.slice qF s.qg.length qB) s.qg, atF bt ot [.slice qM t.qh.length qI, .slice xF t.qp.length xn, .slice qL t.ql.length qK], isF false xJ (.slice qM t.qh.length qI) t.qh, isF false zq (.slice xF t.qp.length xn) t.qp, isF false xI (.slice qL t.ql.length qK) t.ql, isF false Fcounts (.slice acounts counts.length ccounts) counts]) ((t.qp.length - (0 : Int)).toNat) ⟨_, (aa b7 0), 0, 0, ([] : List (List Int)), [], [], 0, (by exact qj (qj (qj (qj (qj (qj (rfl) rfl) rfl) rfl) rfl) rfl) rfl), (by rfl), (by omega), rfl, N.emp, H⟩ ?_
 clear H N
 rintro m' ρ w10 ⟨junk, Xx, yc, Qv, rest, XX, Vj, c, rfl, rfl, i0, rfl, N, H⟩
 have hn_rest := H.zt (α := List Int) 0 rfl 0 rfl (by decide)
 have p4 := (p1.bagLen (k := c))
 rw [List.length_take_of_le (by omega)] at hn_rest
 refine qm (qm (qA ?_))
 refine sps [.int .i64 c, pp bt ot, pp bt ot] ?_
 refine sw (qP bt (ot) 1 Tryz.underlying38 rfl rfl Tryz.sizeOf27 rfl ?_)
 refine sw (qE (.slice xF t.qp.length xn) Tryz.isAgg27 rfl (H.xY 4 rfl 1 rfl) ?_)
 refine sw (zX Tryz.underlying27 xF t.qp.length xn rfl ?_)
 refine sp (.bool (decide ((c : Int) < t.qp.length))) ?_
 refine qx (t_n ?_)
 refine qW (decide ((c : Int) < t.qp.length)) rfl (fun h11 => ?_) (fun h11 => ?_)
 ·skip
  replace h11 := of_decide_eq_true h11
  refine xk (t_n (qm (xE (qA ?_))))
  refine sps [.slice Xx yc Qv, pp bt ot, pp bt ot] ?_
  refine sw (qP bt (ot) 1 Tryz.underlying38 rfl rfl Tryz.sizeOf27 rfl ?_)
  refine sw (qE (.slice xF t.qp.length xn) Tryz.isAgg27 rfl (H.xY 4 rfl 1 rfl) ?_)
  refine sp (.int .i64 c) ?_
  obtain ⟨b12, o13, rfl⟩ := H.addr 6 rfl (by omega)
  obtain ⟨ae15, ce15, Fe15, H⟩ := H.yH 6 rfl c c (by omega) (by omega) (by omega)
  refine sw (xK c Tryz.underlying27 ti22 rfl rfl (by omega) (by omega) ?_)
  refine sw (qE (.slice ae15 ((t.qp[c]!).length) ce15) Tryz.isAgg22 rfl (H.xY 1 rfl 0 rfl) ?_)
  have p5 := (p1.bagLen (k := c) (by omega)).len
  have sz16 := H.base.size
  have lt17 := H.ltN (L := [Vj]) [2]
  refine sw (qZ #[.slice ae15 ((t.qp[c]!).length) ce15] rfl rfl Tryz.call120 (l00Own_ok w10 (t.qp[c]!) ae15 ce15 Fe15 (H.get 0 rfl).1 (by first | assumption | omega)) ?_)
  rintro v21 w19 r21 x20
  replace H := H.zJ x20 r21
  obtain ⟨a22, c23, rfl, hc24, hm25⟩ := H.jv 0 rfl
  refine sw (Xr H Tryz.underlying27 ti22 [.slice a22 ((t.qp[c]!).length) c23] fun b26 w27 H => ?_)
  obtain ⟨G31, N, hn32, H⟩ := H.yU 1 rfl N (H.Vg [2])
  try dsimp only [List.set] at H
  refine sw (Xt H 2 rfl 0 rfl Tryz.underlying27 ti22 rfl (by decide) rfl rfl rfl (by simp [Value.oneCell', Value.cells]) (by unfold maxLen; omega) (by omega) fun a28 c29 w30 H => ?_)
  try dsimp only [List.set] at H
  replace H := H.repsSnoc 3 rfl 0 rfl
  replace N : Fresh w.heap.size [(Vj ++ G31)] := (N.pick [1, 0]).join
  refine sp (.slice a28 (yc + 1) c29) ?_
  refine qx (b_n (t_n (qA ?_)))
  refine sp (.int .i64 c) ?_
  refine sw (zZ c 1 rfl rfl (by omega) ?_)
  refine sp (.int .i64 (c + 1)) ?_
  refine qx ?_
  refine xH (m' := (t.qp.length - ((c + 1) : Int)).toNat) (by omega) ⟨_, a28, yc + 1, c29, ((t.qp.take c) ++ [(t.qp[c]!)]), XX ++ [.slice a22 ((t.qp[c]!).length) c23], (Vj ++ G31), c + 1, (by exact qj (qj (qj (qj (qj (qj (rfl) rfl) rfl) rfl) rfl) rfl) rfl), ?_, ?_, rfl, N, H.pick [2, 3] [0, 5, 6, 7, 8, 9, 10, 11, 12]⟩
  · exact take_snoc (by omega)
  · omega
 replace h11 := of_decide_eq_false h11
 refine zK (t_x (t_x (b_x (t_n (qm (qm (qA ?_)))))))
 refine sp (.int .i64 0) ?_
 refine qx (t_n (xE ?_))
 refine zU (fun m' ρ w33 => ∃ (junk : Env) (i : Nat) (rest_1 : List (List Int)) (x_rest_1 : List Value) (Vl : List Nat), ρ = upd (upd (upd (upd (upd junk 0 (pp bs os)) 2 (.slice acounts counts.length ccounts)) 8 (.slice ra1 ((appl s t).length) rc1)) 9 (.slice Xx yc Qv)) 11 (.int .i64 i) ∧ rest_1 = zi s t counts i ∧ ((i : Int) ≤ counts.length) ∧ (GoodTo s t counts i) ∧ m' = (counts.length - (i : Int)).toNat ∧ Fresh w.heap.size [Vl] ∧ St w w33 [.row (.slice Xx yc Qv) 22 1 yc x_rest_1, .row (.slice ra1 ((appl s t).length) rc1) 4 1 ((appl s t).length) ((appl s t).map (Value.bool))] [vX true Vl x_rest_1 rest_1, atF bs os [.int .i64 s.qJ, .slice qw s.qf.length qo, .slice qF s.qg.length qB], isF false qO (.slice qw s.qf.length qo) s.qf, isF false xw (.slice qF s.qg.length qB) s.qg, isF false Fcounts (.slice acounts counts.length ccounts) counts]) ((counts.length - (0 : Int)).toNat) ⟨_, 0, (t.qp.take c), XX, Vj, (by exact qj (qj (qj (qj (qj (rfl) rfl) rfl) rfl) rfl) rfl), (by rw [List.take_of_length_le (by omega)]; rfl), (by omega), (by exact fun j hj => by omega), rfl, N, H.pick [0, 1] [0, 1, 2, 3, 8]⟩ ?_
 clear H N
 rintro m' ρ w34 ⟨junk, i, rest_1, x_rest_1, Vl, rfl, rfl, i0, i1, rfl, N, H⟩
 have hn_rest := H.zt (α := List Int) 0 rfl 0 rfl (by decide)
 have rl := restR_len (s := s) (t := t) (counts := counts) i
 refine qm (qm (qA ?_))
 refine sps [.int .i64 i, .slice acounts counts.length ccounts] ?_
 refine sw (zX Tryz.underlying22 acounts counts.length ccounts rfl ?_)
 refine sp (.bool (decide ((i : Int) < counts.length))) ?_
 refine qx (t_n ?_)
 refine qW (decide ((i : Int) < counts.length)) rfl (fun h35 => ?_) (fun h35 => ?_)
 ·skip
  replace h35 := of_decide_eq_true h35
  have q := p0.rule (i := i) (by omega)
  have qc := q.1
  have qk := q.cell
  have qr := q.2.1
  have b1 := q.2.2.2.2.1
  have p10 := p2.bd (i := i) (by omega)
  refine xk (t_n (qm (xE (qm (qm (qA ?_))))))
  refine sps [.slice acounts counts.length ccounts, .int .i64 i] ?_
  obtain ⟨b36, o37, rfl⟩ := H.addr 4 rfl (by omega)
  refine sw (xK i Tryz.underlying22 ti2 rfl rfl (by omega) (by omega) ?_)
  refine sw (qE (.int .i64 (counts[i]!)) Tryz.isAgg2 rfl (H.jq 4 rfl i (by omega) (by omega)) ?_)
  refine sps [.bool (decide ((counts[i]! : Int) > 0)), .bool (decide ((counts[i]! : Int) > 0))] ?_
  cases h39 : (decide ((counts[i]! : Int) > 0))
  ·skip
   replace h39 := of_decide_eq_false h39
   refine zf [51, 52, 53, 54, 55] ?_
   refine sp (.bool false) ?_
   refine qx (t_n ?_)
   refine qW false rfl (fun h => absurd h (by decide)) (fun _ => ?_)
   refine xk (t_n (qm (qA ?_)))
   refine sps [pp bs os, pp bs os] ?_
   refine sw (qP bs (os) 2 Tryz.underlying36 rfl rfl Tryz.sizeOf34 rfl ?_)
   refine sw (qE (.slice qF s.qg.length qB) Tryz.isAgg34 rfl (H.xY 1 rfl 2 rfl) ?_)
   refine sp (.int .i64 i) ?_
   obtain ⟨b40, o41, rfl⟩ := H.addr 3 rfl (by omega)
   obtain ⟨ae43Need, ce43Need, Fe43Need, ae43Have, ce43Have, Fe43Have, ae43Lack, ce43Lack, Fe43Lack, ae43Here, ce43Here, Fe43Here, ae43Out, ce43Out, Fe43Out, ae43Into, ce43Into, Fe43Into, H⟩ := H.yB 3 rfl i i (by omega) (by omega) (by omega)
   refine sw (xK i Tryz.underlying34 ti110 rfl rfl (by omega) (by omega) ?_)
   refine sw (qP b40 (o41 + (i : Int).toNat * 9) 0 Tryz.underlying110 rfl rfl Tryz.sizeOf2 rfl ?_)
   refine sw (qE (.int .i64 ((s.qg[i]!).qy)) Tryz.isAgg2 rfl (H.xY 6 rfl 0 rfl) ?_)
   refine sp (.int .i64 ((s.qg[i]!).qy)) ?_
   refine qx (t_n ?_)
   refine Qa rfl H [1] fun H => ?_
   have S := H.yG [1] [0, 1, 2, 3, 4, 5, 6, 7, 8, 9, 10, 11]
   refine rtp 0 (.slice Xx yc Qv) S ?_
   refine rtp 1 (.int .i64 ((s.qg[i]!).qy)) S ?_
   refine rtp 2 (.slice Xx yc Qv) S ?_
   refine rtp 3 (.int .i64 ((s.qg[i]!).qy)) S ?_
   obtain ⟨b45, rfl⟩ := H.Xa 0 rfl (by omega)
   have S := H.yG [1] [0, 1, 2, 3, 4, 5, 6, 7, 8, 9, 10, 11]
   refine rt 4 (pp b45 (0 + ((s.qg[i]!).qy : Int).toNat * 1)) (xO b45 (0) yc Qv ((s.qg[i]!).qy) Tryz.underlying27 ti22 rfl rfl (by omega) (by omega)) S ?_
   refine rtp 6 (pp bs os) S ?_
   refine rtp 7 (pp bs os) S ?_
   refine rt 8 (pp bs (os + 2)) (xG bs (os) 2 Tryz.underlying36 rfl rfl Tryz.sizeOf34 rfl) S ?_
   refine rt 9 (.slice (aa b40 o41) s.qg.length qB) (xA Tryz.isAgg34 rfl (fun _ h => h.xY 8 rfl 2 rfl)) S ?_
   refine rtp 10 (.int .i64 i) S ?_
   refine rt 11 (pp b40 (o41 + (i : Int).toNat * 9)) (xO b40 (o41) s.qg.length qB i Tryz.underlying34 ti110 rfl rfl (by omega) (by omega)) S ?_
   refine rt 12 (pp b40 (o41 + (i : Int).toNat * 9 + 2)) (xG b40 (o41 + (i : Int).toNat * 9) 2 Tryz.underlying110 rfl rfl Tryz.sizeOf22 rfl) S ?_
   refine rt 13 (.slice ae43Need (((s.qg[i]!).qR).length) ce43Need) (xA Tryz.isAgg22 rfl (fun _ h => h.xY 6 rfl 2 rfl)) S ?_
   refine rtp 14 (.slice (aa b36 o37) counts.length ccounts) S ?_
   refine rtp 15 (.int .i64 i) S ?_
   refine rt 16 (pp b36 (o37 + (i : Int).toNat * 1)) (xO b36 (o37) counts.length ccounts i Tryz.underlying22 ti2 rfl rfl (by omega) (by omega)) S ?_
   refine rt 17 (.int .i64 (counts[i]!)) (xA Tryz.isAgg2 rfl (fun _ h => h.jq 11 rfl i (by omega) (by omega))) S ?_
   refine rt 18 (.int .i64 (-(counts[i]!))) (y_neg (counts[i]!) rfl (by omega)) S ?_
   refine xq [5] (by kernel_rfl) (by simp) (xZ rfl ?_ xu)
   obtain ⟨a46, c47, G48, s49, h50, H⟩ := H.jg 0 rfl 7 rfl (iv := (s.qg[i]!).qy) (((s.qg[i]!).qy).toNat) (by omega) (by omega)
   refine qE (.slice a46 (((zi s t counts i)[((s.qg[i]!).qy).toNat]!).length) c47) Tryz.isAgg22 rfl (h50) ?_
   refine ⟨H.pick [1] [1, 2, 3, 4, 5, 6, 7, 8, 9, 10, 11, 12], ?_⟩
   refine xq [19] (by kernel_rfl) (by simp) (xZ rfl ?_ xu)
   obtain ⟨u1, u2⟩ := restR_row (c := (s.qg[i]!).qy.toNat) p0 p1 p2 (show i ≤ _ by omega) qk
   have u3 := b1.len
   have u4 := b1.yK (t := -(counts[i]!)) (by omega)
   have sz51 := H.base.size
   have lt52 := H.ltN (L := [Vl]) [8]
   refine qZ #[.slice a46 (((zi s t counts i)[((s.qg[i]!).qy).toNat]!).length) c47, .slice ae43Need (((s.qg[i]!).qR).length) ce43Need, .int .i64 (-(counts[i]!))] rfl rfl Tryz.call88 (XQ w34.drew ((zi s t counts i)[((s.qg[i]!).qy).toNat]!) ((s.qg[i]!).qR) (-(counts[i]!)) a46 c47 G48 ae43Need ce43Need Fe43Need (H.get 0 rfl).1 (H.get 1 rfl).1 (by first | assumption | omega) (by first | assumption | omega) (by first | assumption | omega)) ?_
   rintro v56 w54 r56 x55
   replace H := H.zJ x55 r56
   obtain ⟨a57, c58, rfl, hc59, hm60⟩ := H.jv 0 rfl
   refine ⟨H.pick [2] [1, 2, 3, 4, 5, 6, 7, 8, 9, 10, 11, 12], ?_⟩
   refine rt 20 (pp b45 (0 + ((s.qg[i]!).qy : Int).toNat * 1)) (xO b45 (0) yc Qv ((s.qg[i]!).qy) Tryz.underlying27 ti22 rfl rfl (by omega) (by omega)) (H.pick [2] [1, 2, 3, 4, 5, 6, 7, 8, 9, 10, 11, 12]) ?_
   refine xq [21] (by kernel_rfl) (by simp) (xZ rfl ?_ xu)
   obtain ⟨G62, N, hn63, H⟩ := H.yU 0 rfl N (H.Vg [8])
   try dsimp only [List.set] at H
   refine jJ true H 1 rfl 9 rfl (.slice a57 ((yM ((zi s t counts i)[((s.qg[i]!).qy).toNat]!) ((s.qg[i]!).qR) (-(counts[i]!))).length) c58) 0 rfl rfl Tryz.sizeOf22 rfl rfl (i := (((s.qg[i]!).qy).toNat)) (by omega) (by omega) (by simp) fun w61 xs64 F65 hs66 H => ?_
   replace N : Fresh w.heap.size [F65] := (N.pick [1, 0]).repl hs66
   try dsimp only [List.set] at H
   refine ⟨H.pick [2] [3, 4, 5, 6, 7, 8, 9, 10, 11, 12, 13, 14], ?_⟩
   refine xN (by kernel_rfl) (b_n (t_n ?_))
   refine qA ?_
   refine sp (.int .i64 i) ?_
   refine sw (zZ i 1 rfl rfl (by omega) ?_)
   refine sp (.int .i64 (i + 1)) ?_
   refine qx ?_
   refine xH (m' := (counts.length - ((i + 1) : Int)).toNat) (by omega) ⟨_, i + 1, ((zi s t counts i).set (((s.qg[i]!).qy).toNat) (yM ((zi s t counts i)[((s.qg[i]!).qy).toNat]!) ((s.qg[i]!).qR) (-(counts[i]!)))), xs64, F65, (by exact qj (qj (qj (qj (qj (rfl) rfl) rfl) rfl) rfl) rfl), ?_, ?_, ?_, rfl, N, H.pick [1, 2] [0, 11, 12, 13, 14]⟩
   · rfl
   · omega
   · exact i1.succ (fun h => by obtain ⟨u, v⟩ := h; first | omega | exact v (appl_true (by omega) ‹_›))
  replace h39 := of_decide_eq_true h39
  refine qQ 50 rfl rfl ?_
  refine sp (.slice ra1 ((appl s t).length) rc1) ?_
  refine qQ 50 rfl rfl ?_
  refine sp (.int .i64 i) ?_
  refine qQ 50 rfl rfl ?_
  obtain ⟨b67, rfl⟩ := H.Xa 1 rfl (by omega)
  refine sw (xK i Tryz.underlying26 ti4 rfl rfl (by omega) (by omega) ?_)
  refine qQ 50 rfl rfl ?_
  refine sw (qE (.bool ((appl s t)[i]!)) Tryz.isAgg4 rfl (H.rowBool 1 rfl (iv := i) (i := i) (by omega) (by omega)) ?_)
  refine qQ 50 rfl rfl ?_
  refine sps [.bool (!((appl s t)[i]!)), .bool (!((appl s t)[i]!))] ?_
  refine qx (t_n ?_)
  refine qW (!((appl s t)[i]!)) rfl (fun h68 => ?_) (fun h68 => ?_)
  ·skip
   replace h68 := xg h68
   refine qm (qA ?_)
   refine sps [.slice Xx yc Qv, .slice Xx yc Qv, .bool false] ?_
   refine qx (t_n (xC (t_r (b_r (t_r (t_r (b_r (t_r ?_))))))))
   refine ret2 (.slice Xx yc Qv) (.bool false) rfl rfl rfl ⟨_, rfl, ?_, H.base⟩
   rw [stop_first (k := i) i1 (by omega) ⟨by omega, appl_false (by omega) ‹_›⟩, xy (fun h => h.1 i (by omega) ⟨by omega, appl_false (by omega) ‹_›⟩)]
   exact ⟨Xx, yc, Qv, x_rest_1, Vl, rfl, N, H.pick [0] [0]⟩
  replace h68 := qY h68
  refine xk (t_n (qm (qA ?_)))
  refine sps [pp bs os, pp bs os] ?_
  refine sw (qP bs (os) 2 Tryz.underlying36 rfl rfl Tryz.sizeOf34 rfl ?_)
  refine sw (qE (.slice qF s.qg.length qB) Tryz.isAgg34 rfl (H.xY 1 rfl 2 rfl) ?_)
  refine sp (.int .i64 i) ?_
  obtain ⟨b69, o70, rfl⟩ := H.addr 3 rfl (by omega)
  obtain ⟨ae72Need, ce72Need, Fe72Need, ae72Have, ce72Have, Fe72Have, ae72Lack, ce72Lack, Fe72Lack, ae72Here, ce72Here, Fe72Here, ae72Out, ce72Out, Fe72Out, ae72Into, ce72Into, Fe72Into, H⟩ := H.yB 3 rfl i i (by omega) (by omega) (by omega)
  refine sw (xK i Tryz.underlying34 ti110 rfl rfl (by omega) (by omega) ?_)
  refine sw (qP b69 (o70 + (i : Int).toNat * 9) 0 Tryz.underlying110 rfl rfl Tryz.sizeOf2 rfl ?_)
  refine sw (qE (.int .i64 ((s.qg[i]!).qy)) Tryz.isAgg2 rfl (H.xY 6 rfl 0 rfl) ?_)
  refine sp (.int .i64 ((s.qg[i]!).qy)) ?_
  refine qx (t_n ?_)
  refine Qa rfl H [1] fun H => ?_
  have S := H.yG [1] [0, 1, 2, 3, 4, 5, 6, 7, 8, 9, 10, 11]
  refine rtp 0 (.slice Xx yc Qv) S ?_
  refine rtp 1 (.int .i64 ((s.qg[i]!).qy)) S ?_
  refine rtp 2 (.slice Xx yc Qv) S ?_
  refine rtp 3 (.int .i64 ((s.qg[i]!).qy)) S ?_
  obtain ⟨b74, rfl⟩ := H.Xa 0 rfl (by omega)
  have S := H.yG [1] [0, 1, 2, 3, 4, 5, 6, 7, 8, 9, 10, 11]
  refine rt 4 (pp b74 (0 + ((s.qg[i]!).qy : Int).toNat * 1)) (xO b74 (0) yc Qv ((s.qg[i]!).qy) Tryz.underlying27 ti22 rfl rfl (by omega) (by omega)) S ?_
  refine rtp 6 (pp bs os) S ?_
  refine rtp 7 (pp bs os) S ?_
  refine rt 8 (pp bs (os + 2)) (xG bs (os) 2 Tryz.underlying36 rfl rfl Tryz.sizeOf34 rfl) S ?_
  refine rt 9 (.slice (aa b69 o70) s.qg.length qB) (xA Tryz.isAgg34 rfl (fun _ h => h.xY 8 rfl 2 rfl)) S ?_
  refine rtp 10 (.int .i64 i) S ?_
  refine rt 11 (pp b69 (o70 + (i : Int).toNat * 9)) (xO b69 (o70) s.qg.length qB i Tryz.underlying34 ti110 rfl rfl (by omega) (by omega)) S ?_
  refine rt 12 (pp b69 (o70 + (i : Int).toNat * 9 + 2)) (xG b69 (o70 + (i : Int).toNat * 9) 2 Tryz.underlying110 rfl rfl Tryz.sizeOf22 rfl) S ?_
  refine rt 13 (.slice ae72Need (((s.qg[i]!).qR).length) ce72Need) (xA Tryz.isAgg22 rfl (fun _ h => h.xY 6 rfl 2 rfl)) S ?_
  refine rtp 14 (.slice (aa b36 o37) counts.length ccounts) S ?_
  refine rtp 15 (.int .i64 i) S ?_
  refine rt 16 (pp b36 (o37 + (i : Int).toNat * 1)) (xO b36 (o37) counts.length ccounts i Tryz.underlying22 ti2 rfl rfl (by omega) (by omega)) S ?_
  refine rt 17 (.int .i64 (counts[i]!)) (xA Tryz.isAgg2 rfl (fun _ h => h.jq 11 rfl i (by omega) (by omega))) S ?_
  refine rt 18 (.int .i64 (-(counts[i]!))) (y_neg (counts[i]!) rfl (by omega)) S ?_
  refine xq [5] (by kernel_rfl) (by simp) (xZ rfl ?_ xu)
  obtain ⟨a75, c76, G77, s78, h79, H⟩ := H.jg 0 rfl 7 rfl (iv := (s.qg[i]!).qy) (((s.qg[i]!).qy).toNat) (by omega) (by omega)
  refine qE (.slice a75 (((zi s t counts i)[((s.qg[i]!).qy).toNat]!).length) c76) Tryz.isAgg22 rfl (h79) ?_
  refine ⟨H.pick [1] [1, 2, 3, 4, 5, 6, 7, 8, 9, 10, 11, 12], ?_⟩
  refine xq [19] (by kernel_rfl) (by simp) (xZ rfl ?_ xu)
  obtain ⟨u1, u2⟩ := restR_row (c := (s.qg[i]!).qy.toNat) p0 p1 p2 (show i ≤ _ by omega) qk
  have u3 := b1.len
  have u4 := b1.yK (t := -(counts[i]!)) (by omega)
  have sz80 := H.base.size
  have lt81 := H.ltN (L := [Vl]) [8]
  refine qZ #[.slice a75 (((zi s t counts i)[((s.qg[i]!).qy).toNat]!).length) c76, .slice ae72Need (((s.qg[i]!).qR).length) ce72Need, .int .i64 (-(counts[i]!))] rfl rfl Tryz.call88 (XQ w34.drew ((zi s t counts i)[((s.qg[i]!).qy).toNat]!) ((s.qg[i]!).qR) (-(counts[i]!)) a75 c76 G77 ae72Need ce72Need Fe72Need (H.get 0 rfl).1 (H.get 1 rfl).1 (by first | assumption | omega) (by first | assumption | omega) (by first | assumption | omega)) ?_
  rintro v85 w83 r85 x84
  replace H := H.zJ x84 r85
  obtain ⟨a86, c87, rfl, hc88, hm89⟩ := H.jv 0 rfl
  refine ⟨H.pick [2] [1, 2, 3, 4, 5, 6, 7, 8, 9, 10, 11, 12], ?_⟩
  refine rt 20 (pp b74 (0 + ((s.qg[i]!).qy : Int).toNat * 1)) (xO b74 (0) yc Qv ((s.qg[i]!).qy) Tryz.underlying27 ti22 rfl rfl (by omega) (by omega)) (H.pick [2] [1, 2, 3, 4, 5, 6, 7, 8, 9, 10, 11, 12]) ?_
  refine xq [21] (by kernel_rfl) (by simp) (xZ rfl ?_ xu)
  obtain ⟨G91, N, hn92, H⟩ := H.yU 0 rfl N (H.Vg [8])
  try dsimp only [List.set] at H
  refine jJ true H 1 rfl 9 rfl (.slice a86 ((yM ((zi s t counts i)[((s.qg[i]!).qy).toNat]!) ((s.qg[i]!).qR) (-(counts[i]!))).length) c87) 0 rfl rfl Tryz.sizeOf22 rfl rfl (i := (((s.qg[i]!).qy).toNat)) (by omega) (by omega) (by simp) fun w90 xs93 F94 hs95 H => ?_
  replace N : Fresh w.heap.size [F94] := (N.pick [1, 0]).repl hs95
  try dsimp only [List.set] at H
  refine ⟨H.pick [2] [3, 4, 5, 6, 7, 8, 9, 10, 11, 12, 13, 14], ?_⟩
  refine xN (by kernel_rfl) (b_n (t_n ?_))
  refine qA ?_
  refine sp (.int .i64 i) ?_
  refine sw (zZ i 1 rfl rfl (by omega) ?_)
  refine sp (.int .i64 (i + 1)) ?_
  refine qx ?_
  refine xH (m' := (counts.length - ((i + 1) : Int)).toNat) (by omega) ⟨_, i + 1, ((zi s t counts i).set (((s.qg[i]!).qy).toNat) (yM ((zi s t counts i)[((s.qg[i]!).qy).toNat]!) ((s.qg[i]!).qR) (-(counts[i]!)))), xs93, F94, (by exact qj (qj (qj (qj (qj (rfl) rfl) rfl) rfl) rfl) rfl), ?_, ?_, ?_, rfl, N, H.pick [1, 2] [0, 11, 12, 13, 14]⟩
  · rfl
  · omega
  · exact i1.succ (fun h => by obtain ⟨u, v⟩ := h; first | omega | exact v (appl_true (by omega) ‹_›))
 replace h35 := of_decide_eq_false h35
 refine zK (t_x (t_x (b_x (t_n (qm (qm (qA ?_)))))))
 refine sp (.int .i64 0) ?_
 refine qx (t_n (xE ?_))
 refine zU (fun m' ρ w96 => ∃ (junk : Env) (c_1 : Nat), ρ = upd (upd junk 9 (.slice Xx yc Qv)) 13 (.int .i64 c_1) ∧ ((c_1 : Int) ≤ yc) ∧ (NonNeg (zi s t counts i) c_1) ∧ m' = (yc - (c_1 : Int)).toNat ∧ Fresh w.heap.size [Vl] ∧ St w w96 [.row (.slice Xx yc Qv) 22 1 yc x_rest_1, .row (.slice ra1 ((appl s t).length) rc1) 4 1 ((appl s t).length) ((appl s t).map (Value.bool))] [vX true Vl x_rest_1 (zi s t counts i)]) ((yc - (0 : Int)).toNat) ⟨_, 0, (by exact qj (qj (rfl) rfl) rfl), (by omega), (by exact fun j hj => by omega), rfl, N, H.pick [0, 1] [0]⟩ ?_
 clear H N
 rintro m' ρ w97 ⟨junk, c_1, rfl, i0, i2, rfl, N, H⟩
 refine qm (qm (qA ?_))
 refine sps [.int .i64 c_1, .slice Xx yc Qv] ?_
 refine sw (zX Tryz.underlying27 Xx yc Qv rfl ?_)
 refine sp (.bool (decide ((c_1 : Int) < yc))) ?_
 refine qx (t_n ?_)
 refine qW (decide ((c_1 : Int) < yc)) rfl (fun h98 => ?_) (fun h98 => ?_)
 ·skip
  replace h98 := of_decide_eq_true h98
  have r1 := (restR_row (c := c_1) p0 p1 p2 (show i ≤ _ by omega) (show c_1 < jr s by omega)).1
  refine xk (t_n (qm (xE (qm (qA ?_)))))
  refine sp (.int .i64 0) ?_
  refine qx (t_n (xE ?_))
  refine zU (fun m' ρ w99 => ∃ (junk : Env) (k : Nat), ρ = upd (upd (upd junk 9 (.slice Xx yc Qv)) 13 (.int .i64 c_1)) 14 (.int .i64 k) ∧ ((k : Int) ≤ (((zi s t counts i)[c_1]!).length)) ∧ (∀ j, j < k → 0 ≤ ((zi s t counts i)[c_1]!)[j]!) ∧ m' = ((((zi s t counts i)[c_1]!).length) - (k : Int)).toNat ∧ Fresh w.heap.size [Vl] ∧ St w w99 [.row (.slice Xx yc Qv) 22 1 yc x_rest_1, .row (.slice ra1 ((appl s t).length) rc1) 4 1 ((appl s t).length) ((appl s t).map (Value.bool))] [vX true Vl x_rest_1 (zi s t counts i)]) (((((zi s t counts i)[c_1]!).length) - (0 : Int)).toNat) ⟨_, 0, (by exact qj (qj (qj (rfl) rfl) rfl) rfl), (by omega), (by exact fun j hj => by omega), rfl, N, H⟩ ?_
  clear H N
  rintro m' ρ w100 ⟨junk, k, rfl, i0, i3, rfl, N, H⟩
  refine qm (qm (qA ?_))
  refine sps [.int .i64 k, .slice Xx yc Qv, .int .i64 c_1] ?_
  obtain ⟨b101, rfl⟩ := H.Xa 0 rfl (by omega)
  refine sw (xK c_1 Tryz.underlying27 ti22 rfl rfl (by omega) (by omega) ?_)
  obtain ⟨a102, c103, G104, s105, h106, H⟩ := H.jg 0 rfl 0 rfl (iv := c_1) c_1 (by omega) (by omega)
  refine sw (qE (.slice a102 (((zi s t counts i)[c_1]!).length) c103) Tryz.isAgg22 rfl (h106) ?_)
  refine sw (zX Tryz.underlying22 a102 (((zi s t counts i)[c_1]!).length) c103 rfl ?_)
  refine sp (.bool (decide ((k : Int) < (((zi s t counts i)[c_1]!).length)))) ?_
  refine qx (t_n ?_)
  refine qW (decide ((k : Int) < (((zi s t counts i)[c_1]!).length))) rfl (fun h107 => ?_) (fun h107 => ?_)
  ·skip
   replace h107 := of_decide_eq_true h107
   refine xk (t_n (qm (xE (qm (qA ?_)))))
   refine sps [.slice (aa b101 0) yc Qv, .int .i64 c_1] ?_
   refine sw (xK c_1 Tryz.underlying27 ti22 rfl rfl (by omega) (by omega) ?_)
   obtain ⟨a108, c109, G110, s111, h112, H⟩ := H.jg 0 rfl 1 rfl (iv := c_1) c_1 (by omega) (by omega)
   refine sw (qE (.slice a108 (((zi s t counts i)[c_1]!).length) c109) Tryz.isAgg22 rfl (h112) ?_)
   refine sp (.int .i64 k) ?_
   obtain ⟨b113, o114, rfl⟩ := H.addr 0 rfl (by omega)
   refine sw (xK k Tryz.underlying22 ti2 rfl rfl (by omega) (by omega) ?_)
   refine sw (qE (.int .i64 (((zi s t counts i)[c_1]!)[k]!)) Tryz.isAgg2 rfl (H.jq 0 rfl k (by omega) (by omega)) ?_)
   refine sp (.bool (decide ((((zi s t counts i)[c_1]!)[k]! : Int) < 0))) ?_
   refine qx (t_n ?_)
   refine qW (decide ((((zi s t counts i)[c_1]!)[k]! : Int) < 0)) rfl (fun h116 => ?_) (fun h116 => ?_)
   ·skip
    replace h116 := of_decide_eq_true h116
    refine qm (qA ?_)
    refine sps [.slice (aa b101 0) yc Qv, .slice (aa b101 0) yc Qv, .bool false] ?_
    refine qx (t_n (xC (b_r (t_r (t_r (b_r (b_r (t_r (t_r (b_r (t_r ?_)))))))))))
    refine ret2 (.slice (aa b101 0) yc Qv) (.bool false) rfl rfl rfl ⟨_, rfl, ?_, H.base⟩
    obtain rfl : i = counts.length := by omega
    rw [stop_none (n := counts.length) i1, xy (fun h => by have := h.2 c_1 (by omega) k (by omega); omega)]
    exact ⟨(aa b101 0), yc, Qv, x_rest_1, Vl, rfl, N, H.pick [0] [2]⟩
   replace h116 := of_decide_eq_false h116
   refine xk (b_n (t_n (qA ?_)))
   refine sp (.int .i64 k) ?_
   refine sw (zZ k 1 rfl rfl (by omega) ?_)
   refine sp (.int .i64 (k + 1)) ?_
   refine qx ?_
   refine xH (m' := ((((zi s t counts i)[c_1]!).length) - ((k + 1) : Int)).toNat) (by omega) ⟨_, k + 1, (by exact qj (qj (qj (rfl) rfl) rfl) rfl), ?_, ?_, rfl, N, H.pick [0, 1] [2]⟩
   · omega
   · exact fun j hj => by (by_cases e : j = k; (subst e; omega); exact i3 j (by omega))
  replace h107 := of_decide_eq_false h107
  refine zK (t_x (t_x (b_x (b_n (t_n (qA ?_))))))
  refine sp (.int .i64 c_1) ?_
  refine sw (zZ c_1 1 rfl rfl (by omega) ?_)
  refine sp (.int .i64 (c_1 + 1)) ?_
  refine qx ?_
  refine xH (m' := (yc - ((c_1 + 1) : Int)).toNat) (by omega) ⟨_, c_1 + 1, (by exact qj (qj (rfl) rfl) rfl), ?_, ?_, rfl, N, H.pick [0, 1] [1]⟩
  · omega
  · exact i2.succ (fun j hj => i3 j (by omega))
 replace h98 := of_decide_eq_false h98
 refine zK (t_x (t_x (b_x (t_n (qm (qA ?_))))))
 refine sps [.slice Xx yc Qv, .slice Xx yc Qv, .bool true] ?_
 refine qx (t_n (xC ?_))
 refine ret2 (.slice Xx yc Qv) (.bool true) rfl rfl rfl ⟨_, rfl, ?_, H.base⟩
 obtain rfl : i = counts.length := by omega
 rw [stop_none (n := counts.length) i1, yP ⟨i1, (show c_1 = t.qp.length by omega) ▸ i2⟩]
 exact ⟨Xx, yc, Qv, x_rest_1, Vl, rfl, N, H.pick [0] [0]⟩

end Go.Proofs.YtkmlihdacnfhdaaGreat
