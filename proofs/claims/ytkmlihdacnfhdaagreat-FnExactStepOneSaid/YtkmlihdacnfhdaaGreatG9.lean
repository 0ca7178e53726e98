/- Walks, printed by program (wip/tools/gv.py): what each function comes to, for all arguments. -/
import Derived.Test.YtkmlihdacnfhdaaGreatG5
import Derived.Test.YtkmlihdacnfhdaaGreatP6
namespace Go.Proofs.YtkmlihdacnfhdaaGreat
open Go.Proofs.YtkmlihdacnfhdaaGreat.Tot (tot)
open Go.Proofs.YtkmlihdacnfhdaaGreat.Mark (cnt mrk mkd mkd_mark cnt_mark)
open Go.RowKit
set_option linter.unusedVariables false
set_option linter.unusedSimpArgs false
set_option maxRecDepth 100000
set_option maxHeartbeats 4000000



theorem l00Max_ok (w : World) (a : Int) (b : Int) : Calls Tryz.prog 130 #[.int .i64 a, .int .i64 b] w (Ret (fun v w' => v = .int .i64 (max a b)) w) := by
 refine enter (n := 10) Tryz.func130 rfl Tryz.ntmps130 (Nat.le_of_ble_eq_true rfl) ?_
 have H := St.start w
 have N := Fresh.nil w.heap.size
 refine qm (qB ?_)
 refine sp (.int .i64 0) ?_
 refine qy (t_n (qm (qm (qB ?_))))
 refine sps [.int .i64 a, .int .i64 b, .bool (decide ((a : Int) > b))] ?_
 refine qy (t_n ?_)
 refine qZ (decide ((a : Int) > b)) rfl (fun h1 => ?_) (fun h1 => ?_)
 ·skip
  replace h1 := of_decide_eq_true h1
  refine qm (qB ?_)
  refine sps [.int .i64 a, .int .i64 a] ?_
  refine qy (t_n (xB (t_r ?_)))
  refine ret1 (.int .i64 a) rfl rfl ⟨_, rfl, ?_, H.base⟩
  refine congrArg (Value.int .i64) ?_
  omega
 replace h1 := of_decide_eq_false h1
 refine xx (t_n (qm (qB ?_)))
 refine sps [.int .i64 b, .int .i64 b] ?_
 refine qy (t_n (xB ?_))
 refine ret1 (.int .i64 b) rfl rfl ⟨_, rfl, ?_, H.base⟩
 refine congrArg (Value.int .i64) ?_
 omega

theorem l01Within_ok (w : World) (l : List Int) (m : List Int) (al : Option Addr) (cl : Nat) (Fl : List Nat) (am : Option Addr) (cm : Nat) (Fm : List Nat) (hl : qR.rep w Fl [.slice al l.length cl] l) (hm : qR.rep w Fm [.slice am m.length cm] m) (p0 : l.length ≤ m.length) : Calls Tryz.prog 121 #[.slice al l.length cl, .slice am m.length cm] w (Ret (fun v w' => v = .bool (within l m)) w) := by
 refine enter (n := 21) Tryz.func121 rfl Tryz.ntmps121 (Nat.le_of_ble_eq_true rfl) ?_
 have H := ((St.start w).arg hm).arg hl
 have nhl := qL hl
 have nhm := qL hm
 clear hl hm
 have N := Fresh.nil w.heap.size
 refine qm (qB ?_)
 refine sp (.bool false) ?_
 refine qy (t_n (qm (qm (qB ?_))))
 refine sp (.int .i64 0) ?_
 refine qy (t_n (xE ?_))
 refine zW (fun m' ρ w1 => ∃ (junk : Env) (i : Nat), ρ = upd (upd (upd junk 0 (.slice al l.length cl)) 1 (.slice am m.length cm)) 5 (.int .i64 i) ∧ ((i : Int) ≤ l.length) ∧ (withinTo l m i) ∧ m' = (l.length - (i : Int)).toNat ∧ Fresh w.heap.size [] ∧ St w w1 [] [isF false Fl (.slice al l.length cl) l, isF false Fm (.slice am m.length cm) m]) ((l.length - (0 : Int)).toNat) ⟨_, 0, (by exact qj (qj (qj (rfl) rfl) rfl) rfl), (by omega), (by exact withinTo_zero l m), rfl, N, H⟩ ?_
 clear H N
 rintro m' ρ w2 ⟨junk, i, rfl, i0, i1, rfl, N, H⟩
 refine qm (qm (qB ?_))
 refine sps [.int .i64 i, .slice al l.length cl] ?_
 refine sw (zX Tryz.underlying22 al l.length cl rfl ?_)
 refine sp (.bool (decide ((i : Int) < l.length))) ?_
 refine qy (t_n ?_)
 refine qZ (decide ((i : Int) < l.length)) rfl (fun h3 => ?_) (fun h3 => ?_)
 ·skip
  replace h3 := of_decide_eq_true h3
  refine xx (t_n (qm (xE (qm ?_))))
  refine yA rfl H fun H => ?_
  refine rtp 0 (.slice al l.length cl) H ?_
  refine rtp 1 (.int .i64 i) H ?_
  obtain ⟨b5, o6, rfl⟩ := H.addr 0 rfl (by omega)
  refine rt 2 (pp b5 (o6 + (i : Int).toNat * 1)) (xQ b5 (o6) l.length cl i Tryz.underlying22 ti2 rfl rfl (by omega) (by omega)) H ?_
  refine rt 3 (.int .i64 (l[i]!)) (xw Tryz.isAgg2 rfl (fun _ h => h.je 0 rfl i (by omega) (by omega))) H ?_
  refine rtp 4 (.slice am m.length cm) H ?_
  refine rtp 5 (.int .i64 i) H ?_
  obtain ⟨b8, o9, rfl⟩ := H.addr 1 rfl (by omega)
  refine rt 6 (pp b8 (o9 + (i : Int).toNat * 1)) (xQ b8 (o9) m.length cm i Tryz.underlying22 ti2 rfl rfl (by omega) (by omega)) H ?_
  refine rt 7 (.int .i64 (m[i]!)) (xw Tryz.isAgg2 rfl (fun _ h => h.je 1 rfl i (by omega) (by omega))) H ?_
  refine rtp 8 (.bool (decide ((l[i]! : Int) > (m[i]!)))) H ?_
  refine xM (by kernel_rfl) (t_n ?_)
  refine qZ (decide ((l[i]! : Int) > (m[i]!))) rfl (fun h11 => ?_) (fun h11 => ?_)
  ·skip
   replace h11 := of_decide_eq_true h11
   refine qm (qB ?_)
   refine sp (.bool false) ?_
   refine qy (t_n (xB (b_r (t_r (t_r (b_r (t_r ?_)))))))
   refine ret1 (.bool false) rfl rfl ⟨_, rfl, ?_, H.base⟩
   rw [within_no (k := i) ‹_› (by omega)]
  replace h11 := of_decide_eq_false h11
  refine xx (b_n (t_n (qB ?_)))
  refine sp (.int .i64 i) ?_
  refine sw (vw i 1 rfl rfl (by omega) ?_)
  refine sp (.int .i64 (i + 1)) ?_
  refine qy ?_
  refine xG (m' := (l.length - ((i + 1) : Int)).toNat) (by omega) ⟨_, i + 1, (by exact qj (qj (qj (rfl) rfl) rfl) rfl), ?_, ?_, rfl, N, H⟩
  · omega
  · exact withinTo_succ ‹_› (by omega)
 replace h3 := of_decide_eq_false h3
 refine zT (t_x (t_x (b_x (t_n (qm (qB ?_))))))
 refine sp (.bool true) ?_
 refine qy (t_n (xB ?_))
 refine ret1 (.bool true) rfl rfl ⟨_, rfl, ?_, H.base⟩
 rw [within_yes ‹_› (by omega)]

theorem l03Both_ok (w : World) (s : qW) (t : qU) (bs os : Nat) (qw : Option Addr) (qo : Nat) (qO : List Nat) (qG : Option Addr) (qE : Nat) (xA : List Nat) (bt ot : Nat) (qP : Option Addr) (qJ : Nat) (xO : List Nat) (xH : Option Addr) (xC : Nat) (zL : List Nat) (qN : Option Addr) (qM : Nat) (xI : List Nat) (hs : vT w bs os [.int .i64 s.qH, .slice qw s.qf.length qo, .slice qG s.qg.length qE]) (xn : qR.rep w qO [.slice qw s.qf.length qo] s.qf) (xJ : qR.rep w xA [.slice qG s.qg.length qE] s.qg) (ht : vT w bt ot [.slice qP t.qh.length qJ, .slice xH t.qp.length xC, .slice qN t.ql.length qM]) (zA : qR.rep w xO [.slice qP t.qh.length qJ] t.qh) (vH : qR.rep w zL [.slice xH t.qp.length xC] t.qp) (zh : qR.rep w xI [.slice qN t.ql.length qM] t.ql) : Calls Tryz.prog 60 #[pp bs os, pp bt ot] w (Ret (fun v w' => v = .bool (dec (yC s ∧ zH s t))) w) := by
 refine enter (n := 12) Tryz.func60 rfl Tryz.ntmps60 (Nat.le_of_ble_eq_true rfl) ?_
 have H := (((((((St.start w).arg zh).arg vH).arg zA).argAt ht).arg xJ).arg xn).argAt hs
 have vK := qL xn
 have jP := qL xJ
 have QZ := qL zA
 have XN := qL vH
 have Qu := qL zh
 clear hs xn xJ ht zA vH zh
 have N := Fresh.nil w.heap.size
 refine qm (qB ?_)
 refine sp (.bool false) ?_
 refine qy (t_n (qm (qB ?_)))
 refine sp (pp bs os) ?_
 refine sw (xf #[pp bs os] rfl rfl Tryz.call41 (l02Ok_ok w s bs os qw qo qO qG qE xA (qI (H.get 0 rfl) 0 3) (H.get 1 rfl).1 (H.get 2 rfl).1) ?_)
 rintro _ w1 rfl x2
 replace H := H.ext x2
 refine sp (.bool (dec (yC s))) ?_
 cases h3 : (dec (yC s))
 ·skip
  replace h3 := zg h3
  refine xW [8, 9, 10] ?_
  refine sps [.bool false, .bool false] ?_
  refine qy (t_n (xB ?_))
  refine ret1 (.bool false) rfl rfl ⟨_, rfl, ?_, H.base⟩
  rw [xy (fun h => ‹¬ yC s› h.1)]
 replace h3 := jI h3
 refine qQ 7 rfl rfl ?_
 refine sp (pp bs os) ?_
 refine qQ 7 rfl rfl ?_
 refine sp (pp bt ot) ?_
 refine qQ 7 rfl rfl ?_
 refine sw (xf #[pp bs os, pp bt ot] rfl rfl Tryz.call85 (l02State_ok w1 s t bs os qw qo qO qG qE xA bt ot qP qJ xO xH xC zL qN qM xI (qI (H.get 0 rfl) 0 3) (H.get 1 rfl).1 (H.get 2 rfl).1 (qI (H.get 3 rfl) 0 3) (H.get 4 rfl).1 (H.get 5 rfl).1 (H.get 6 rfl).1 (by first | assumption | exact (And.left (by assumption : yC _)))) ?_)
 rintro _ w4 rfl x5
 replace H := H.ext x5
 refine sps [.bool (dec (zH s t)), .bool (dec (zH s t))] ?_
 refine qy (t_n (xB ?_))
 refine ret1 (.bool (dec (zH s t))) rfl rfl ⟨_, rfl, ?_, H.base⟩
 refine congrArg Value.bool (dec_eq ?_)
 first | exact ⟨fun h => ⟨‹_›, jI h⟩, fun h => yY h.2⟩ | (simp_all; done)

theorem l03Enabled_ok (w : World) (s : qW) (t : qU) (r : Qk) (bs os : Nat) (qw : Option Addr) (qo : Nat) (qO : List Nat) (qG : Option Addr) (qE : Nat) (xA : List Nat) (bt ot : Nat) (qP : Option Addr) (qJ : Nat) (xO : List Nat) (xH : Option Addr) (xC : Nat) (zL : List Nat) (qN : Option Addr) (qM : Nat) (xI : List Nat) (br or : Nat) (vg : Option Addr) (ve : Nat) (QF : List Nat) (vY : Option Addr) (vX : Nat) (Q9 : List Nat) (vJ : Option Addr) (vI : Nat) (QT : List Nat) (jo : Option Addr) (jm : Nat) (Xj : List Nat) (Qi : Option Addr) (Qh : Nat) (FrOut : List Nat) (zO : Option Addr) (zD : Nat) (FrInto : List Nat) (hs : vT w bs os [.int .i64 s.qH, .slice qw s.qf.length qo, .slice qG s.qg.length qE]) (xn : qR.rep w qO [.slice qw s.qf.length qo] s.qf) (xJ : qR.rep w xA [.slice qG s.qg.length qE] s.qg) (ht : vT w bt ot [.slice qP t.qh.length qJ, .slice xH t.qp.length xC, .slice qN t.ql.length qM]) (zA : qR.rep w xO [.slice qP t.qh.length qJ] t.qh) (vH : qR.rep w zL [.slice xH t.qp.length xC] t.qp) (zh : qR.rep w xI [.slice qN t.ql.length qM] t.ql) (hr : vT w br or [.int .i64 r.qA, .int .i64 r.xY, .slice vg r.qV.length ve, .slice vY r.xh.length vX, .slice vJ r.xk.length vI, .slice jo r.xm.length jm, .slice Qi r.zf.length Qh, .slice zO r.qC.length zD, .bool r.xN]) (hrNeed : qR.rep w QF [.slice vg r.qV.length ve] r.qV) (hrHave : qR.rep w Q9 [.slice vY r.xh.length vX] r.xh) (hrLack : qR.rep w QT [.slice vJ r.xk.length vI] r.xk) (hrHere : qR.rep w Xj [.slice jo r.xm.length jm] r.xm) (hrOut : qR.rep w FrOut [.slice Qi r.zf.length Qh] r.zf) (hrInto : qR.rep w FrInto [.slice zO r.qC.length zD] r.qC) (p0 : yC s) (p1 : zH s t) (p2 : RuleOk s r) : Calls Tryz.prog 129 #[pp bs os, pp bt ot, pp br or] w (Ret (fun v w' => v = .bool (dec (EnOk s t r))) w) := by
 refine enter (n := 99) Tryz.func129 rfl Tryz.ntmps129 (Nat.le_of_ble_eq_true rfl) ?_
 have H := ((((((((((((((St.start w).arg hrInto).arg hrOut).arg hrHere).arg hrLack).arg hrHave).arg hrNeed).argAt hr).arg zh).arg vH).arg zA).argAt ht).arg xJ).arg xn).argAt hs
 have vK := qL xn
 have jP := qL xJ
 have QZ := qL zA
 have XN := qL vH
 have Qu := qL zh
 have nhrNeed := qL hrNeed
 have nhrHave := qL hrHave
 have nhrLack := qL hrLack
 have nhrHere := qL hrHere
 have nhrOut := qL hrOut
 have nhrInto := qL hrInto
 clear hs xn xJ ht zA vH zh hr hrNeed hrHave hrLack hrHere hrOut hrInto
 have N := Fresh.nil w.heap.size
 have p3 := p2.1
 have p4 := p1.1
 have p5 := p1.2.1
 have p6 := (p1.bagLen (k := r.qA.toNat) (by omega)).len
 have p7 := p2.2.2.2.2.1.len
 have p8 := p2.2.2.2.2.2.1.len
 have p9 := p2.2.2.2.2.2.2.1.len
 have p10 := jh p2.2.2.2.2.2.2.1
 have p11 := p0.1
 have p12 := p2.2.2.2.2.2.2.2.2.2.2
 refine qm (qB ?_)
 refine sp (.bool false) ?_
 refine qy (t_n (qm (qm ?_)))
 refine yA rfl H fun H => ?_
 refine rtp 0 (pp bt ot) H ?_
 refine rtp 1 (pp bt ot) H ?_
 refine rt 2 (pp bt (ot + 0)) (xF bt (ot) 0 Tryz.underlying38 rfl rfl Tryz.sizeOf26 rfl) H ?_
 refine rt 3 (.slice qP t.qh.length qJ) (xw Tryz.isAgg26 rfl (fun _ h => h.xZ 3 rfl 0 rfl)) H ?_
 refine rtp 4 (pp br or) H ?_
 refine rtp 5 (pp br or) H ?_
 refine rt 6 (pp br (or + 0)) (xF br (or) 0 Tryz.underlying110 rfl rfl Tryz.sizeOf2 rfl) H ?_
 refine rt 7 (.int .i64 r.qA) (xw Tryz.isAgg2 rfl (fun _ h => h.xZ 7 rfl 0 rfl)) H ?_
 obtain ⟨b2, o3, rfl⟩ := H.addr 4 rfl (by omega)
 refine rt 8 (pp b2 (o3 + (r.qA : Int).toNat * 1)) (xQ b2 (o3) t.qh.length qJ r.qA Tryz.underlying26 ti4 rfl rfl (by omega) (by omega)) H ?_
 refine rt 9 (.bool (t.qh[r.qA.toNat]!)) (xw Tryz.isAgg4 rfl (fun _ h => h.QK 4 rfl r.qA (by omega) (by omega))) H ?_
 refine rtp 10 (.bool (!(t.qh[r.qA.toNat]!))) H ?_
 refine xM (by kernel_rfl) (t_n ?_)
 refine qZ (!(t.qh[r.qA.toNat]!)) rfl (fun h5 => ?_) (fun h5 => ?_)
 ·skip
  replace h5 := xg h5
  refine qm (qB ?_)
  refine sp (.bool false) ?_
  refine qy (t_n (xB (t_r ?_)))
  refine ret1 (.bool false) rfl rfl ⟨_, rfl, ?_, H.base⟩
  rw [xy (fun h => by obtain ⟨h1, h2, h3, h4, h5⟩ := h; first | exact ft h1 ‹_› | exact ft h2 ‹_› | exact ft h3 ‹_› | exact h4 ⟨‹_›, ‹_›⟩ | (obtain ⟨q1, q2⟩ := h5 i (by omega); first | exact ft q1 ‹_› | exact absurd q2 ‹_›))]
 replace h5 := qX h5
 refine xx (t_n (qm ?_))
 refine yA rfl H fun H => ?_
 refine rtp 0 (pp bt ot) H ?_
 refine rtp 1 (pp bt ot) H ?_
 refine rt 2 (pp bt (ot + 1)) (xF bt (ot) 1 Tryz.underlying38 rfl rfl Tryz.sizeOf27 rfl) H ?_
 refine rt 3 (.slice xH t.qp.length xC) (xw Tryz.isAgg27 rfl (fun _ h => h.xZ 3 rfl 1 rfl)) H ?_
 refine rtp 4 (pp br or) H ?_
 refine rtp 5 (pp br or) H ?_
 refine rt 6 (pp br (or + 0)) (xF br (or) 0 Tryz.underlying110 rfl rfl Tryz.sizeOf2 rfl) H ?_
 refine rt 7 (.int .i64 r.qA) (xw Tryz.isAgg2 rfl (fun _ h => h.xZ 7 rfl 0 rfl)) H ?_
 obtain ⟨b7, o8, rfl⟩ := H.addr 5 rfl (by omega)
 obtain ⟨ae10, ce10, Fe10, H⟩ := H.yX 5 rfl r.qA r.qA.toNat (by omega) (by omega) (by omega)
 refine rt 8 (pp b7 (o8 + (r.qA : Int).toNat * 1)) (xQ b7 (o8) t.qp.length xC r.qA Tryz.underlying27 ti22 rfl rfl (by omega) (by omega)) (H.pick [] [2, 3, 4, 5, 6, 7, 8, 9, 10, 11, 12, 13, 14, 15]) ?_
 refine xq [9] (by kernel_rfl) (by simp) (xX rfl ?_ xu)
 refine qF (.slice ae10 ((t.qp[r.qA.toNat]!).length) ce10) Tryz.isAgg22 rfl (H.xZ 1 rfl 0 rfl) ?_
 refine ⟨H.pick [] [2, 3, 4, 5, 6, 7, 8, 9, 10, 11, 12, 13, 14, 15], ?_⟩
 refine rtp 10 (.slice ae10 ((t.qp[r.qA.toNat]!).length) ce10) (H.pick [] [2, 3, 4, 5, 6, 7, 8, 9, 10, 11, 12, 13, 14, 15]) ?_
 refine xM (by kernel_rfl) (t_n ?_)
 refine qm (qm (qB ?_))
 refine sps [pp br or, pp br or] ?_
 refine sw (qK br (or) 2 Tryz.underlying110 rfl rfl Tryz.sizeOf22 rfl ?_)
 refine sw (qF (.slice vg r.qV.length ve) Tryz.isAgg22 rfl (H.xZ 9 rfl 2 rfl) ?_)
 refine sp (.slice ae10 ((t.qp[r.qA.toNat]!).length) ce10) ?_
 refine sw (xf #[.slice vg r.qV.length ve, .slice ae10 ((t.qp[r.qA.toNat]!).length) ce10] rfl rfl Tryz.call121 (l01Within_ok w.drew.drew r.qV (t.qp[r.qA.toNat]!) vg ve QF ae10 ce10 Fe10 (H.get 10 rfl).1 (H.get 0 rfl).1 (by first | assumption | omega)) ?_)
 rintro _ w12 rfl x13
 replace H := H.ext x13
 refine sps [.bool (!(within r.qV (t.qp[r.qA.toNat]!))), .bool (!(within r.qV (t.qp[r.qA.toNat]!)))] ?_
 cases h14 : (!(within r.qV (t.qp[r.qA.toNat]!)))
 ·skip
  replace h14 := qX h14
  refine qQ 38 rfl rfl ?_
  refine sp (pp br or) ?_
  refine qQ 38 rfl rfl ?_
  refine sp (pp br or) ?_
  refine qQ 38 rfl rfl ?_
  refine sw (qK br (or) 3 Tryz.underlying110 rfl rfl Tryz.sizeOf22 rfl ?_)
  refine qQ 38 rfl rfl ?_
  refine sw (qF (.slice vY r.xh.length vX) Tryz.isAgg22 rfl (H.xZ 9 rfl 3 rfl) ?_)
  refine qQ 38 rfl rfl ?_
  refine sp (.slice ae10 ((t.qp[r.qA.toNat]!).length) ce10) ?_
  refine qQ 38 rfl rfl ?_
  refine sw (xf #[.slice vY r.xh.length vX, .slice ae10 ((t.qp[r.qA.toNat]!).length) ce10] rfl rfl Tryz.call121 (l01Within_ok w12 r.xh (t.qp[r.qA.toNat]!) vY vX Q9 ae10 ce10 Fe10 (H.get 11 rfl).1 (H.get 0 rfl).1 (by first | assumption | omega)) ?_)
  rintro _ w16 rfl x17
  replace H := H.ext x17
  refine qQ 38 rfl rfl ?_
  refine sps [.bool (!(within r.xh (t.qp[r.qA.toNat]!))), .bool (!(within r.xh (t.qp[r.qA.toNat]!))), .bool (!(within r.xh (t.qp[r.qA.toNat]!)))] ?_
  cases h18 : (!(within r.xh (t.qp[r.qA.toNat]!)))
  ·skip
   replace h18 := qX h18
   refine qQ 47 rfl rfl ?_
   refine sp (pp br or) ?_
   refine qQ 47 rfl rfl ?_
   refine sp (pp br or) ?_
   refine qQ 47 rfl rfl ?_
   refine sw (qK br (or) 4 Tryz.underlying110 rfl rfl Tryz.sizeOf22 rfl ?_)
   refine qQ 47 rfl rfl ?_
   refine sw (qF (.slice vJ r.xk.length vI) Tryz.isAgg22 rfl (H.xZ 9 rfl 4 rfl) ?_)
   refine qQ 47 rfl rfl ?_
   refine sw (xf #[.slice vJ r.xk.length vI] rfl rfl Tryz.call137 (l01Size_ok w16 r.xk vJ vI QT (H.get 12 rfl).1 (by first | assumption | exact jh (by assumption) | exact QS (by assumption))) ?_)
   rintro _ w19 rfl x20
   replace H := H.ext x20
   refine qQ 47 rfl rfl ?_
   refine sp (.bool (decide ((sumL r.xk : Int) > 0))) ?_
   refine qQ 47 rfl rfl ?_
   refine sp (.bool (decide ((sumL r.xk : Int) > 0))) ?_
   cases h21 : (decide ((sumL r.xk : Int) > 0))
   ·skip
    replace h21 := of_decide_eq_false h21
    refine xW [55, 56, 57, 58, 59, 60] ?_
    refine qQ 47 rfl rfl ?_
    refine sps [.bool false, .bool false] ?_
    refine qy (t_n ?_)
    refine qZ false rfl (fun h => absurd h (by decide)) (fun _ => ?_)
    refine xx (t_n (qm (qm (qB ?_))))
    refine sp (.int .i64 0) ?_
    refine qy (t_n (xE ?_))
    refine zW (fun m' ρ w22 => ∃ (junk : Env) (i : Nat), ρ = upd (upd (upd (upd junk 0 (pp bs os)) 1 (pp bt ot)) 2 (pp br or)) 8 (.int .i64 i) ∧ ((i : Int) ≤ r.qC.length) ∧ (IntoUp s t r i) ∧ m' = (r.qC.length - (i : Int)).toNat ∧ Fresh w.heap.size [] ∧ St w w22 [] [isF false Fe10 (.slice ae10 ((t.qp[r.qA.toNat]!).length) ce10) (t.qp[r.qA.toNat]!), atF b7 (o8 + (r.qA : Int).toNat * 1) [.slice ae10 ((t.qp[r.qA.toNat]!).length) ce10], atF bs os [.int .i64 s.qH, .slice qw s.qf.length qo, .slice qG s.qg.length qE], isF false qO (.slice qw s.qf.length qo) s.qf, isF false xA (.slice qG s.qg.length qE) s.qg, atF bt ot [.slice (aa b2 o3) t.qh.length qJ, .slice (aa b7 o8) t.qp.length xC, .slice qN t.ql.length qM], isF false xO (.slice (aa b2 o3) t.qh.length qJ) t.qh, isF false zL (.slice (aa b7 o8) t.qp.length xC) t.qp, isF false xI (.slice qN t.ql.length qM) t.ql, atF br or [.int .i64 r.qA, .int .i64 r.xY, .slice vg r.qV.length ve, .slice vY r.xh.length vX, .slice vJ r.xk.length vI, .slice jo r.xm.length jm, .slice Qi r.zf.length Qh, .slice zO r.qC.length zD, .bool r.xN], isF false QF (.slice vg r.qV.length ve) r.qV, isF false Q9 (.slice vY r.xh.length vX) r.xh, isF false QT (.slice vJ r.xk.length vI) r.xk, isF false Xj (.slice jo r.xm.length jm) r.xm, isF false FrOut (.slice Qi r.zf.length Qh) r.zf, isF false FrInto (.slice zO r.qC.length zD) r.qC]) ((r.qC.length - (0 : Int)).toNat) ⟨_, 0, (by exact qj (qj (qj (qj (rfl) rfl) rfl) rfl) rfl), (by omega), (by exact fun j hj => by omega), rfl, N, H⟩ ?_
    clear H N
    rintro m' ρ w23 ⟨junk, i, rfl, i0, i1, rfl, N, H⟩
    refine qm (qm (qB ?_))
    refine sps [.int .i64 i, pp br or, pp br or] ?_
    refine sw (qK br (or) 7 Tryz.underlying110 rfl rfl Tryz.sizeOf108 rfl ?_)
    refine sw (qF (.slice zO r.qC.length zD) Tryz.isAgg108 rfl (H.xZ 9 rfl 7 rfl) ?_)
    refine sw (zX Tryz.underlying108 zO r.qC.length zD rfl ?_)
    refine sp (.bool (decide ((i : Int) < r.qC.length))) ?_
    refine qy (t_n ?_)
    refine qZ (decide ((i : Int) < r.qC.length)) rfl (fun h24 => ?_) (fun h24 => ?_)
    ·skip
     replace h24 := of_decide_eq_true h24
     have q := (p12 i (by omega)).1
     have q1 := q.1
     have q2 := q.2
     refine xx (t_n (qm (xE (qm (qB ?_)))))
     refine sps [pp br or, pp br or] ?_
     refine sw (qK br (or) 7 Tryz.underlying110 rfl rfl Tryz.sizeOf108 rfl ?_)
     refine sw (qF (.slice zO r.qC.length zD) Tryz.isAgg108 rfl (H.xZ 9 rfl 7 rfl) ?_)
     refine sp (.int .i64 i) ?_
     obtain ⟨b25, o26, rfl⟩ := H.addr 15 rfl (by omega)
     obtain ⟨ae28Bag, ce28Bag, Fe28Bag, H⟩ := H.jy 15 rfl i i (by omega) (by omega) (by omega)
     refine sw (xK i Tryz.underlying108 ti115 rfl rfl (by omega) (by omega) ?_)
     refine sw (qK b25 (o26 + (i : Int).toNat * 2) 0 Tryz.underlying115 rfl rfl Tryz.sizeOf2 rfl ?_)
     refine sw (qF (.int .i64 ((r.qC[i]!).qA)) Tryz.isAgg2 rfl (H.xZ 1 rfl 0 rfl) ?_)
     refine sp (.int .i64 ((r.qC[i]!).qA)) ?_
     refine qy (t_n (qm ?_))
     refine yA rfl H fun H => ?_
     refine rtp 0 (pp bt ot) H ?_
     refine rtp 1 (pp bt ot) H ?_
     refine rt 2 (pp bt (ot + 0)) (xF bt (ot) 0 Tryz.underlying38 rfl rfl Tryz.sizeOf26 rfl) H ?_
     refine rt 3 (.slice (aa b2 o3) t.qh.length qJ) (xw Tryz.isAgg26 rfl (fun _ h => h.xZ 7 rfl 0 rfl)) H ?_
     refine rtp 4 (.int .i64 ((r.qC[i]!).qA)) H ?_
     refine rt 5 (pp b2 (o3 + ((r.qC[i]!).qA : Int).toNat * 1)) (xQ b2 (o3) t.qh.length qJ ((r.qC[i]!).qA) Tryz.underlying26 ti4 rfl rfl (by omega) (by omega)) H ?_
     refine rt 6 (.bool (t.qh[((r.qC[i]!).qA).toNat]!)) (xw Tryz.isAgg4 rfl (fun _ h => h.QK 8 rfl ((r.qC[i]!).qA) (by omega) (by omega))) H ?_
     refine rtp 7 (.bool (!(t.qh[((r.qC[i]!).qA).toNat]!))) H ?_
     refine rtp 8 (.bool (!(t.qh[((r.qC[i]!).qA).toNat]!))) H ?_
     cases h30 : (!(t.qh[((r.qC[i]!).qA).toNat]!))
     ·skip
      replace h30 := qX h30
      refine rgp 9 (pp bs os) 88 H ?_
      refine rgp 10 (pp bt ot) 88 H ?_
      refine rgp 11 (.int .i64 ((r.qC[i]!).qA)) 88 H ?_
      refine rgp 13 (pp br or) 88 H ?_
      refine rgp 14 (pp br or) 88 H ?_
      refine rg 15 (pp br (or + 0)) 88 (xF br (or) 0 Tryz.underlying110 rfl rfl Tryz.sizeOf2 rfl) H ?_
      refine rg 16 (.int .i64 r.qA) 88 (xw Tryz.isAgg2 rfl (fun _ h => h.xZ 11 rfl 0 rfl)) H ?_
      refine xq [12] (by kernel_rfl) (by simp) (r_opG rfl (e := 88) rfl rfl ?_ xu)
      refine xf #[pp bs os, pp bt ot, .int .i64 ((r.qC[i]!).qA)] rfl rfl Tryz.call107 (l02Parent_ok w23.drew s t ((r.qC[i]!).qA) bs os qw qo qO qG qE xA bt ot (aa b2 o3) qJ xO (aa b7 o8) xC zL qN qM xI (qI (H.get 4 rfl) 0 3) (H.get 5 rfl).1 (H.get 6 rfl).1 (qI (H.get 7 rfl) 0 3) (H.get 8 rfl).1 (H.get 9 rfl).1 (H.get 10 rfl).1 (by assumption) (by assumption) (by assumption)) ?_
      rintro _ w31 rfl x32
      replace H := H.ext x32
      refine ⟨H, ?_⟩
      refine rgp 17 (.bool ((xe s t ((r.qC[i]!).qA) : Int) != r.qA)) 88 H ?_
      refine rtp 18 (.bool ((xe s t ((r.qC[i]!).qA) : Int) != r.qA)) H ?_
      refine xM (by kernel_rfl) (t_n ?_)
      refine qZ ((xe s t ((r.qC[i]!).qA) : Int) != r.qA) rfl (fun h33 => ?_) (fun h33 => ?_)
      ·skip
       replace h33 := bne_iff_ne.1 h33
       refine qm (qB ?_)
       refine sp (.bool false) ?_
       refine qy (t_n (xB (b_r (t_r (t_r (b_r (t_r ?_)))))))
       refine ret1 (.bool false) rfl rfl ⟨_, rfl, ?_, H.base⟩
       rw [xy (fun h => by obtain ⟨h1, h2, h3, h4, h5⟩ := h; first | exact ft h1 ‹_› | exact ft h2 ‹_› | exact ft h3 ‹_› | exact h4 ⟨‹_›, ‹_›⟩ | (obtain ⟨q1, q2⟩ := h5 i (by omega); first | exact ft q1 ‹_› | exact absurd q2 ‹_›))]
      replace h33 := xR h33
      refine xx (b_n (t_n (qB ?_)))
      refine sp (.int .i64 i) ?_
      refine sw (vw i 1 rfl rfl (by omega) ?_)
      refine sp (.int .i64 (i + 1)) ?_
      refine qy ?_
      refine xG (m' := (r.qC.length - ((i + 1) : Int)).toNat) (by omega) ⟨_, i + 1, (by exact qj (qj (qj (qj (rfl) rfl) rfl) rfl) rfl), ?_, ?_, rfl, N, H.pick [] [2, 3, 4, 5, 6, 7, 8, 9, 10, 11, 12, 13, 14, 15, 16, 17]⟩
      · omega
      · exact i1.succ ‹_› ‹_›
     replace h30 := xg h30
     refine zJ [9, 10, 11, 12, 13, 14, 15, 16, 17] 9 (H) ?_
     refine rtp 18 (.bool true) H ?_
     refine xM (by kernel_rfl) (t_n ?_)
     refine qZ true rfl (fun _ => ?_) (fun h => absurd h (by decide))
     refine qm (qB ?_)
     refine sp (.bool false) ?_
     refine qy (t_n (xB (b_r (t_r (t_r (b_r (t_r ?_)))))))
     refine ret1 (.bool false) rfl rfl ⟨_, rfl, ?_, H.base⟩
     rw [xy (fun h => by obtain ⟨h1, h2, h3, h4, h5⟩ := h; first | exact ft h1 ‹_› | exact ft h2 ‹_› | exact ft h3 ‹_› | exact h4 ⟨‹_›, ‹_›⟩ | (obtain ⟨q1, q2⟩ := h5 i (by omega); first | exact ft q1 ‹_› | exact absurd q2 ‹_›))]
    replace h24 := of_decide_eq_false h24
    refine zT (t_x (t_x (b_x (t_n (qm (qB ?_))))))
    refine sp (.bool true) ?_
    refine qy (t_n (xB ?_))
    refine ret1 (.bool true) rfl rfl ⟨_, rfl, ?_, H.base⟩
    rw [yY ⟨by assumption, by assumption, by assumption, fun ⟨u, v⟩ => by first | omega | exact ft v ‹_›, (show i = r.qC.length by omega) ▸ i1⟩]
   replace h21 := of_decide_eq_true h21
   refine qQ 54 rfl rfl ?_
   refine sp (pp br or) ?_
   refine qQ 54 rfl rfl ?_
   refine sp (pp br or) ?_
   refine qQ 54 rfl rfl ?_
   refine sw (qK br (or) 4 Tryz.underlying110 rfl rfl Tryz.sizeOf22 rfl ?_)
   refine qQ 54 rfl rfl ?_
   refine sw (qF (.slice vJ r.xk.length vI) Tryz.isAgg22 rfl (H.xZ 9 rfl 4 rfl) ?_)
   refine qQ 54 rfl rfl ?_
   refine sp (.slice ae10 ((t.qp[r.qA.toNat]!).length) ce10) ?_
   refine qQ 54 rfl rfl ?_
   refine sw (xf #[.slice vJ r.xk.length vI, .slice ae10 ((t.qp[r.qA.toNat]!).length) ce10] rfl rfl Tryz.call121 (l01Within_ok w19 r.xk (t.qp[r.qA.toNat]!) vJ vI QT ae10 ce10 Fe10 (H.get 12 rfl).1 (H.get 0 rfl).1 (by first | assumption | omega)) ?_)
   rintro _ w35 rfl x36
   replace H := H.ext x36
   refine qQ 47 rfl rfl ?_
   refine sps [.bool (within r.xk (t.qp[r.qA.toNat]!)), .bool (within r.xk (t.qp[r.qA.toNat]!))] ?_
   refine qy (t_n ?_)
   refine qZ (within r.xk (t.qp[r.qA.toNat]!)) rfl (fun h37 => ?_) (fun h37 => ?_)
   ·skip
    refine qm (qB ?_)
    refine sp (.bool false) ?_
    refine qy (t_n (xB (t_r ?_)))
    refine ret1 (.bool false) rfl rfl ⟨_, rfl, ?_, H.base⟩
    rw [xy (fun h => by obtain ⟨h1, h2, h3, h4, h5⟩ := h; first | exact ft h1 ‹_› | exact ft h2 ‹_› | exact ft h3 ‹_› | exact h4 ⟨‹_›, ‹_›⟩ | (obtain ⟨q1, q2⟩ := h5 i (by omega); first | exact ft q1 ‹_› | exact absurd q2 ‹_›))]
   refine xx (t_n (qm (qm (qB ?_))))
   refine sp (.int .i64 0) ?_
   refine qy (t_n (xE ?_))
   refine zW (fun m' ρ w38 => ∃ (junk : Env) (i : Nat), ρ = upd (upd (upd (upd junk 0 (pp bs os)) 1 (pp bt ot)) 2 (pp br or)) 8 (.int .i64 i) ∧ ((i : Int) ≤ r.qC.length) ∧ (IntoUp s t r i) ∧ m' = (r.qC.length - (i : Int)).toNat ∧ Fresh w.heap.size [] ∧ St w w38 [] [isF false Fe10 (.slice ae10 ((t.qp[r.qA.toNat]!).length) ce10) (t.qp[r.qA.toNat]!), atF b7 (o8 + (r.qA : Int).toNat * 1) [.slice ae10 ((t.qp[r.qA.toNat]!).length) ce10], atF bs os [.int .i64 s.qH, .slice qw s.qf.length qo, .slice qG s.qg.length qE], isF false qO (.slice qw s.qf.length qo) s.qf, isF false xA (.slice qG s.qg.length qE) s.qg, atF bt ot [.slice (aa b2 o3) t.qh.length qJ, .slice (aa b7 o8) t.qp.length xC, .slice qN t.ql.length qM], isF false xO (.slice (aa b2 o3) t.qh.length qJ) t.qh, isF false zL (.slice (aa b7 o8) t.qp.length xC) t.qp, isF false xI (.slice qN t.ql.length qM) t.ql, atF br or [.int .i64 r.qA, .int .i64 r.xY, .slice vg r.qV.length ve, .slice vY r.xh.length vX, .slice vJ r.xk.length vI, .slice jo r.xm.length jm, .slice Qi r.zf.length Qh, .slice zO r.qC.length zD, .bool r.xN], isF false QF (.slice vg r.qV.length ve) r.qV, isF false Q9 (.slice vY r.xh.length vX) r.xh, isF false QT (.slice vJ r.xk.length vI) r.xk, isF false Xj (.slice jo r.xm.length jm) r.xm, isF false FrOut (.slice Qi r.zf.length Qh) r.zf, isF false FrInto (.slice zO r.qC.length zD) r.qC]) ((r.qC.length - (0 : Int)).toNat) ⟨_, 0, (by exact qj (qj (qj (qj (rfl) rfl) rfl) rfl) rfl), (by omega), (by exact fun j hj => by omega), rfl, N, H⟩ ?_
   clear H N
   rintro m' ρ w39 ⟨junk, i, rfl, i0, i1, rfl, N, H⟩
   refine qm (qm (qB ?_))
   refine sps [.int .i64 i, pp br or, pp br or] ?_
   refine sw (qK br (or) 7 Tryz.underlying110 rfl rfl Tryz.sizeOf108 rfl ?_)
   refine sw (qF (.slice zO r.qC.length zD) Tryz.isAgg108 rfl (H.xZ 9 rfl 7 rfl) ?_)
   refine sw (zX Tryz.underlying108 zO r.qC.length zD rfl ?_)
   refine sp (.bool (decide ((i : Int) < r.qC.length))) ?_
   refine qy (t_n ?_)
   refine qZ (decide ((i : Int) < r.qC.length)) rfl (fun h40 => ?_) (fun h40 => ?_)
   ·skip
    replace h40 := of_decide_eq_true h40
    have q := (p12 i (by omega)).1
    have q1 := q.1
    have q2 := q.2
    refine xx (t_n (qm (xE (qm (qB ?_)))))
    refine sps [pp br or, pp br or] ?_
    refine sw (qK br (or) 7 Tryz.underlying110 rfl rfl Tryz.sizeOf108 rfl ?_)
    refine sw (qF (.slice zO r.qC.length zD) Tryz.isAgg108 rfl (H.xZ 9 rfl 7 rfl) ?_)
    refine sp (.int .i64 i) ?_
    obtain ⟨b41, o42, rfl⟩ := H.addr 15 rfl (by omega)
    obtain ⟨ae44Bag, ce44Bag, Fe44Bag, H⟩ := H.jy 15 rfl i i (by omega) (by omega) (by omega)
    refine sw (xK i Tryz.underlying108 ti115 rfl rfl (by omega) (by omega) ?_)
    refine sw (qK b41 (o42 + (i : Int).toNat * 2) 0 Tryz.underlying115 rfl rfl Tryz.sizeOf2 rfl ?_)
    refine sw (qF (.int .i64 ((r.qC[i]!).qA)) Tryz.isAgg2 rfl (H.xZ 1 rfl 0 rfl) ?_)
    refine sp (.int .i64 ((r.qC[i]!).qA)) ?_
    refine qy (t_n (qm ?_))
    refine yA rfl H fun H => ?_
    refine rtp 0 (pp bt ot) H ?_
    refine rtp 1 (pp bt ot) H ?_
    refine rt 2 (pp bt (ot + 0)) (xF bt (ot) 0 Tryz.underlying38 rfl rfl Tryz.sizeOf26 rfl) H ?_
    refine rt 3 (.slice (aa b2 o3) t.qh.length qJ) (xw Tryz.isAgg26 rfl (fun _ h => h.xZ 7 rfl 0 rfl)) H ?_
    refine rtp 4 (.int .i64 ((r.qC[i]!).qA)) H ?_
    refine rt 5 (pp b2 (o3 + ((r.qC[i]!).qA : Int).toNat * 1)) (xQ b2 (o3) t.qh.length qJ ((r.qC[i]!).qA) Tryz.underlying26 ti4 rfl rfl (by omega) (by omega)) H ?_
    refine rt 6 (.bool (t.qh[((r.qC[i]!).qA).toNat]!)) (xw Tryz.isAgg4 rfl (fun _ h => h.QK 8 rfl ((r.qC[i]!).qA) (by omega) (by omega))) H ?_
    refine rtp 7 (.bool (!(t.qh[((r.qC[i]!).qA).toNat]!))) H ?_
    refine rtp 8 (.bool (!(t.qh[((r.qC[i]!).qA).toNat]!))) H ?_
    cases h46 : (!(t.qh[((r.qC[i]!).qA).toNat]!))
    ·skip
     replace h46 := qX h46
     refine rgp 9 (pp bs os) 88 H ?_
     refine rgp 10 (pp bt ot) 88 H ?_
     refine rgp 11 (.int .i64 ((r.qC[i]!).qA)) 88 H ?_
     refine rgp 13 (pp br or) 88 H ?_
     refine rgp 14 (pp br or) 88 H ?_
     refine rg 15 (pp br (or + 0)) 88 (xF br (or) 0 Tryz.underlying110 rfl rfl Tryz.sizeOf2 rfl) H ?_
     refine rg 16 (.int .i64 r.qA) 88 (xw Tryz.isAgg2 rfl (fun _ h => h.xZ 11 rfl 0 rfl)) H ?_
     refine xq [12] (by kernel_rfl) (by simp) (r_opG rfl (e := 88) rfl rfl ?_ xu)
     refine xf #[pp bs os, pp bt ot, .int .i64 ((r.qC[i]!).qA)] rfl rfl Tryz.call107 (l02Parent_ok w39.drew s t ((r.qC[i]!).qA) bs os qw qo qO qG qE xA bt ot (aa b2 o3) qJ xO (aa b7 o8) xC zL qN qM xI (qI (H.get 4 rfl) 0 3) (H.get 5 rfl).1 (H.get 6 rfl).1 (qI (H.get 7 rfl) 0 3) (H.get 8 rfl).1 (H.get 9 rfl).1 (H.get 10 rfl).1 (by assumption) (by assumption) (by assumption)) ?_
     rintro _ w47 rfl x48
     replace H := H.ext x48
     refine ⟨H, ?_⟩
     refine rgp 17 (.bool ((xe s t ((r.qC[i]!).qA) : Int) != r.qA)) 88 H ?_
     refine rtp 18 (.bool ((xe s t ((r.qC[i]!).qA) : Int) != r.qA)) H ?_
     refine xM (by kernel_rfl) (t_n ?_)
     refine qZ ((xe s t ((r.qC[i]!).qA) : Int) != r.qA) rfl (fun h49 => ?_) (fun h49 => ?_)
     ·skip
      replace h49 := bne_iff_ne.1 h49
      refine qm (qB ?_)
      refine sp (.bool false) ?_
      refine qy (t_n (xB (b_r (t_r (t_r (b_r (t_r ?_)))))))
      refine ret1 (.bool false) rfl rfl ⟨_, rfl, ?_, H.base⟩
      rw [xy (fun h => by obtain ⟨h1, h2, h3, h4, h5⟩ := h; first | exact ft h1 ‹_› | exact ft h2 ‹_› | exact ft h3 ‹_› | exact h4 ⟨‹_›, ‹_›⟩ | (obtain ⟨q1, q2⟩ := h5 i (by omega); first | exact ft q1 ‹_› | exact absurd q2 ‹_›))]
     replace h49 := xR h49
     refine xx (b_n (t_n (qB ?_)))
     refine sp (.int .i64 i) ?_
     refine sw (vw i 1 rfl rfl (by omega) ?_)
     refine sp (.int .i64 (i + 1)) ?_
     refine qy ?_
     refine xG (m' := (r.qC.length - ((i + 1) : Int)).toNat) (by omega) ⟨_, i + 1, (by exact qj (qj (qj (qj (rfl) rfl) rfl) rfl) rfl), ?_, ?_, rfl, N, H.pick [] [2, 3, 4, 5, 6, 7, 8, 9, 10, 11, 12, 13, 14, 15, 16, 17]⟩
     · omega
     · exact i1.succ ‹_› ‹_›
    replace h46 := xg h46
    refine zJ [9, 10, 11, 12, 13, 14, 15, 16, 17] 9 (H) ?_
    refine rtp 18 (.bool true) H ?_
    refine xM (by kernel_rfl) (t_n ?_)
    refine qZ true rfl (fun _ => ?_) (fun h => absurd h (by decide))
    refine qm (qB ?_)
    refine sp (.bool false) ?_
    refine qy (t_n (xB (b_r (t_r (t_r (b_r (t_r ?_)))))))
    refine ret1 (.bool false) rfl rfl ⟨_, rfl, ?_, H.base⟩
    rw [xy (fun h => by obtain ⟨h1, h2, h3, h4, h5⟩ := h; first | exact ft h1 ‹_› | exact ft h2 ‹_› | exact ft h3 ‹_› | exact h4 ⟨‹_›, ‹_›⟩ | (obtain ⟨q1, q2⟩ := h5 i (by omega); first | exact ft q1 ‹_› | exact absurd q2 ‹_›))]
   replace h40 := of_decide_eq_false h40
   refine zT (t_x (t_x (b_x (t_n (qm (qB ?_))))))
   refine sp (.bool true) ?_
   refine qy (t_n (xB ?_))
   refine ret1 (.bool true) rfl rfl ⟨_, rfl, ?_, H.base⟩
   rw [yY ⟨by assumption, by assumption, by assumption, fun ⟨u, v⟩ => by first | omega | exact ft v ‹_›, (show i = r.qC.length by omega) ▸ i1⟩]
  replace h18 := xg h18
  refine xW [48, 49, 50, 51, 52, 53, 54, 55, 56, 57, 58, 59, 60, 61] ?_
  refine sp (.bool true) ?_
  refine qy (t_n ?_)
  refine qZ true rfl (fun _ => ?_) (fun h => absurd h (by decide))
  refine qm (qB ?_)
  refine sp (.bool false) ?_
  refine qy (t_n (xB (t_r ?_)))
  refine ret1 (.bool false) rfl rfl ⟨_, rfl, ?_, H.base⟩
  rw [xy (fun h => by obtain ⟨h1, h2, h3, h4, h5⟩ := h; first | exact ft h1 ‹_› | exact ft h2 ‹_› | exact ft h3 ‹_› | exact h4 ⟨‹_›, ‹_›⟩ | (obtain ⟨q1, q2⟩ := h5 i (by omega); first | exact ft q1 ‹_› | exact absurd q2 ‹_›))]
 replace h14 := xg h14
 refine xW [39, 40, 41, 42, 43, 44, 45] ?_
 refine sps [.bool true, .bool true] ?_
 refine xW [48, 49, 50, 51, 52, 53, 54, 55, 56, 57, 58, 59, 60, 61] ?_
 refine sp (.bool true) ?_
 refine qy (t_n ?_)
 refine qZ true rfl (fun _ => ?_) (fun h => absurd h (by decide))
 refine qm (qB ?_)
 refine sp (.bool false) ?_
 refine qy (t_n (xB (t_r ?_)))
 refine ret1 (.bool false) rfl rfl ⟨_, rfl, ?_, H.base⟩
 rw [xy (fun h => by obtain ⟨h1, h2, h3, h4, h5⟩ := h; first | exact ft h1 ‹_› | exact ft h2 ‹_› | exact ft h3 ‹_› | exact h4 ⟨‹_›, ‹_›⟩ | (obtain ⟨q1, q2⟩ := h5 i (by omega); first | exact ft q1 ‹_› | exact absurd q2 ‹_›))]

theorem l03Applicable_ok (w : World) (s : qW) (t : qU) (bs os : Nat) (qw : Option Addr) (qo : Nat) (qO : List Nat) (qG : Option Addr) (qE : Nat) (xA : List Nat) (bt ot : Nat) (qP : Option Addr) (qJ : Nat) (xO : List Nat) (xH : Option Addr) (xC : Nat) (zL : List Nat) (qN : Option Addr) (qM : Nat) (xI : List Nat) (hs : vT w bs os [.int .i64 s.qH, .slice qw s.qf.length qo, .slice qG s.qg.length qE]) (xn : qR.rep w qO [.slice qw s.qf.length qo] s.qf) (xJ : qR.rep w xA [.slice qG s.qg.length qE] s.qg) (ht : vT w bt ot [.slice qP t.qh.length qJ, .slice xH t.qp.length xC, .slice qN t.ql.length qM]) (zA : qR.rep w xO [.slice qP t.qh.length qJ] t.qh) (vH : qR.rep w zL [.slice xH t.qp.length xC] t.qp) (zh : qR.rep w xI [.slice qN t.ql.length qM] t.ql) (p0 : yC s) (p1 : zH s t) : Calls Tryz.prog 79 #[pp bs os, pp bt ot] w (Ret (fun v w' => ∃ (ra : Option Addr) (rn : Nat) (rc : Nat), v = .slice ra rn rc ∧ Fresh w.heap.size [] ∧ St w w' [.row (.slice ra rn rc) 4 1 rn ((appl s t).map (Value.bool))] []) w) := by
 refine enter (n := 99) Tryz.func79 rfl Tryz.ntmps79 (Nat.le_of_ble_eq_true rfl) ?_
 have H := (((((((St.start w).arg zh).arg vH).arg zA).argAt ht).arg xJ).arg xn).argAt hs
 have vK := qL xn
 have jP := qL xJ
 have QZ := qL zA
 have XN := qL vH
 have Qu := qL zh
 clear hs xn xJ ht zA vH zh
 have N := Fresh.nil w.heap.size
 have p2 := p0.2.1
 have p3 := p0.1.2.1
 refine qm (qB ?_)
 refine sp (.slice none 0 0) ?_
 refine qy (t_n (qm (qB ?_)))
 refine sps [pp bs os, pp bs os] ?_
 refine sw (qK bs (os) 1 Tryz.underlying36 rfl rfl Tryz.sizeOf22 rfl ?_)
 refine sw (qF (.slice qw s.qf.length qo) Tryz.isAgg22 rfl (H.xZ 0 rfl 1 rfl) ?_)
 refine sw (zX Tryz.underlying22 qw s.qf.length qo rfl ?_)
 refine sw (o_makeI H Tryz.underlying22 ti2 s.qf.length rfl rfl (by omega) (by omega) (by omega) fun b1 w2 H => ?_)
 refine sp (.slice (aa b1 0) s.qf.length s.qf.length) ?_
 refine qy (t_n (qm (qB ?_)))
 refine sw (o_build0 H Tryz.underlying26 ti4 fun b3 w4 H => ?_)
 refine sp (.slice (aa b3 0) 0 0) ?_
 refine qy (t_n (qm (qm (qB ?_))))
 refine sp (.int .i64 0) ?_
 refine qy (t_n (xE ?_))
 replace H := H.boxRowB 0 [] 0
 try dsimp only [List.set] at H
 refine zW (fun m' ρ w5 => ∃ (junk : Env) (a_out : Option Addr) (Xi : Nat) (c_out : Nat) (out : List Bool) (i : Nat) (best : List Int), ρ = upd (upd (upd (upd (upd junk 0 (pp bs os)) 1 (pp bt ot)) 5 (.slice (aa b1 0) s.qf.length s.qf.length)) 6 (.slice a_out Xi c_out)) 7 (.int .i64 i) ∧ out = applB s t 0 i ∧ best = bests s t 0 s.qf.length i ∧ ((i : Int) ≤ s.qg.length) ∧ m' = (s.qg.length - (i : Int)).toNat ∧ Fresh w.heap.size [] ∧ St w w5 [.row (.slice a_out Xi c_out) 4 1 Xi (out.map (Value.bool)), .row (.slice (aa b1 0) s.qf.length s.qf.length) 2 1 s.qf.length (best.map (Value.int .i64))] [atF bs os [.int .i64 s.qH, .slice qw s.qf.length qo, .slice qG s.qg.length qE], isF false qO (.slice qw s.qf.length qo) s.qf, isF false xA (.slice qG s.qg.length qE) s.qg, atF bt ot [.slice qP t.qh.length qJ, .slice xH t.qp.length xC, .slice qN t.ql.length qM], isF false xO (.slice qP t.qh.length qJ) t.qh, isF false zL (.slice xH t.qp.length xC) t.qp, isF false xI (.slice qN t.ql.length qM) t.ql]) ((s.qg.length - (0 : Int)).toNat) ⟨_, (aa b3 0), 0, 0, ([] : List Bool), 0, (List.replicate s.qf.length (0 : Int)), (by exact qj (qj (qj (qj (qj (rfl) rfl) rfl) rfl) rfl) rfl), (by rfl), (by exact bests_zero s t 0 _), (by omega), rfl, N, H⟩ ?_
 clear H N
 rintro m' ρ w6 ⟨junk, a_out, Xi, c_out, out, i, best, rfl, rfl, rfl, i0, rfl, N, H⟩
 have hn_out := H.QN 0 rfl
 have hn_best := H.QX 1 rfl
 have bl := Q7 s t 0 s.qf.length i
 have al := applB_len s t 0 i
 refine qm (qm (qB ?_))
 refine sps [.int .i64 i, pp bs os, pp bs os] ?_
 refine sw (qK bs (os) 2 Tryz.underlying36 rfl rfl Tryz.sizeOf34 rfl ?_)
 refine sw (qF (.slice qG s.qg.length qE) Tryz.isAgg34 rfl (H.xZ 0 rfl 2 rfl) ?_)
 refine sw (zX Tryz.underlying34 qG s.qg.length qE rfl ?_)
 refine sp (.bool (decide ((i : Int) < s.qg.length))) ?_
 refine qy (t_n ?_)
 refine qZ (decide ((i : Int) < s.qg.length)) rfl (fun h7 => ?_) (fun h7 => ?_)
 ·skip
  replace h7 := of_decide_eq_true h7
  have q := p0.rule (i := i) (by omega)
  have qc := q.1
  have qk := q.cell
  have qr := q.2.1
  refine xx (t_n (qm (xE (qm (qB ?_)))))
  refine sps [pp bs os, pp bs os] ?_
  refine sw (qK bs (os) 2 Tryz.underlying36 rfl rfl Tryz.sizeOf34 rfl ?_)
  refine sw (qF (.slice qG s.qg.length qE) Tryz.isAgg34 rfl (H.xZ 0 rfl 2 rfl) ?_)
  refine sp (.int .i64 i) ?_
  obtain ⟨b8, o9, rfl⟩ := H.addr 2 rfl (by omega)
  obtain ⟨ae11Need, ce11Need, Fe11Need, ae11Have, ce11Have, Fe11Have, ae11Lack, ce11Lack, Fe11Lack, ae11Here, ce11Here, Fe11Here, ae11Out, ce11Out, Fe11Out, ae11Into, ce11Into, Fe11Into, H⟩ := H.yJ 2 rfl i i (by omega) (by omega) (by omega)
  refine sw (xK i Tryz.underlying34 ti110 rfl rfl (by omega) (by omega) ?_)
  refine sp (pp b8 (o9 + (i : Int).toNat * 9)) ?_
  refine qy (t_n (qm (qB ?_)))
  refine sps [pp bs os, pp bt ot, pp b8 (o9 + (i : Int).toNat * 9)] ?_
  refine sw (xf #[pp bs os, pp bt ot, pp b8 (o9 + (i : Int).toNat * 9)] rfl rfl Tryz.call129 (l03Enabled_ok w6 s t (s.qg[i]!) bs os qw qo qO (aa b8 o9) qE xA bt ot qP qJ xO xH xC zL qN qM xI b8 (o9 + (i : Int).toNat * 9) ae11Need ce11Need Fe11Need ae11Have ce11Have Fe11Have ae11Lack ce11Lack Fe11Lack ae11Here ce11Here Fe11Here ae11Out ce11Out Fe11Out ae11Into ce11Into Fe11Into (qI (H.get 7 rfl) 0 3) (H.get 8 rfl).1 (H.get 9 rfl).1 (qI (H.get 10 rfl) 0 3) (H.get 11 rfl).1 (H.get 12 rfl).1 (H.get 13 rfl).1 (qI (H.get 6 rfl) 0 9) (H.get 0 rfl).1 (H.get 1 rfl).1 (H.get 2 rfl).1 (H.get 3 rfl).1 (H.get 4 rfl).1 (H.get 5 rfl).1 (by first | assumption | omega) (by first | assumption | omega) (by first | assumption | omega)) ?_)
  rintro _ w13 rfl x14
  replace H := H.ext x14
  refine sp (.bool (dec (EnOk s t (s.qg[i]!)))) ?_
  refine qy (t_n (qm (qB ?_)))
  refine sps [.slice a_out Xi c_out, .bool (dec (EnOk s t (s.qg[i]!)))] ?_
  refine sw (Q4 H Tryz.underlying26 ti4 [.bool (dec (EnOk s t (s.qg[i]!)))] fun b15 w16 H => ?_)
  refine sw (Q5 H 1 rfl 0 rfl Tryz.underlying26 ti4 rfl (by decide) rfl rfl rfl (by simp [Value.oneCell', Value.cells]) (by unfold maxLen; omega) (by omega) fun a17 c18 w19 H => ?_)
  rw [snocB] at H
  try dsimp only [List.set] at H
  refine sp (.slice a17 (Xi + 1) c18) ?_
  refine qy (t_n (qm (qB ?_)))
  refine sp (.bool (dec (EnOk s t (s.qg[i]!)))) ?_
  refine qy (t_n ?_)
  refine qZ (dec (EnOk s t (s.qg[i]!))) rfl (fun h20 => ?_) (fun h20 => ?_)
  ·skip
   replace h20 := jI h20
   refine yL rfl H [0, 1] fun H => ?_
   have S := H.yx [0, 1] [0, 1, 2, 3, 4, 5, 6, 7, 8, 9, 10, 11, 12, 13]
   refine rtp 0 (.slice (aa b1 0) s.qf.length s.qf.length) S ?_
   refine rtp 1 (pp b8 (o9 + (i : Int).toNat * 9)) S ?_
   refine rtp 2 (pp b8 (o9 + (i : Int).toNat * 9)) S ?_
   refine rt 3 (pp b8 (o9 + (i : Int).toNat * 9 + 0)) (xF b8 (o9 + (i : Int).toNat * 9) 0 Tryz.underlying110 rfl rfl Tryz.sizeOf2 rfl) S ?_
   refine rt 4 (.int .i64 ((s.qg[i]!).qA)) (xw Tryz.isAgg2 rfl (fun _ h => h.xZ 6 rfl 0 rfl)) S ?_
   refine rtp 5 (.slice (aa b1 0) s.qf.length s.qf.length) S ?_
   refine rtp 6 (pp b8 (o9 + (i : Int).toNat * 9)) S ?_
   refine rtp 7 (pp b8 (o9 + (i : Int).toNat * 9)) S ?_
   refine rt 8 (pp b8 (o9 + (i : Int).toNat * 9 + 0)) (xF b8 (o9 + (i : Int).toNat * 9) 0 Tryz.underlying110 rfl rfl Tryz.sizeOf2 rfl) S ?_
   refine rt 9 (.int .i64 ((s.qg[i]!).qA)) (xw Tryz.isAgg2 rfl (fun _ h => h.xZ 6 rfl 0 rfl)) S ?_
   refine rt 10 (pp b1 (0 + ((s.qg[i]!).qA : Int).toNat * 1)) (xQ b1 (0) s.qf.length s.qf.length ((s.qg[i]!).qA) Tryz.underlying22 ti2 rfl rfl (by omega) (by omega)) S ?_
   refine rtp 12 (pp b8 (o9 + (i : Int).toNat * 9)) S ?_
   refine rtp 13 (pp b8 (o9 + (i : Int).toNat * 9)) S ?_
   refine rt 14 (pp b8 (o9 + (i : Int).toNat * 9 + 1)) (xF b8 (o9 + (i : Int).toNat * 9) 1 Tryz.underlying110 rfl rfl Tryz.sizeOf2 rfl) S ?_
   refine rt 15 (.int .i64 ((s.qg[i]!).xY)) (xw Tryz.isAgg2 rfl (fun _ h => h.xZ 6 rfl 1 rfl)) S ?_
   refine xq [11] (by kernel_rfl) (by simp) (xX rfl ?_ xu)
   refine qF (.int .i64 ((bests s t 0 s.qf.length i)[((s.qg[i]!).qA).toNat]!)) Tryz.isAgg2 rfl (H.rowInt 2 rfl (iv := (s.qg[i]!).qA) (i := (((s.qg[i]!).qA).toNat)) (by omega) (by omega)) ?_
   refine ⟨H.pick [0, 1] [0, 1, 2, 3, 4, 5, 6, 7, 8, 9, 10, 11, 12, 13], ?_⟩
   refine xq [16] (by kernel_rfl) (by simp) (xX rfl ?_ xu)
   refine xf #[.int .i64 ((bests s t 0 s.qf.length i)[((s.qg[i]!).qA).toNat]!), .int .i64 ((s.qg[i]!).xY)] rfl rfl Tryz.call130 (l00Max_ok w19.drew ((bests s t 0 s.qf.length i)[((s.qg[i]!).qA).toNat]!) ((s.qg[i]!).xY)) ?_
   rintro _ w23 rfl x24
   replace H := H.ext x24
   refine ⟨H.pick [0, 1] [0, 1, 2, 3, 4, 5, 6, 7, 8, 9, 10, 11, 12, 13], ?_⟩
   refine rt 17 (pp b1 (0 + ((s.qg[i]!).qA : Int).toNat * 1)) (xQ b1 (0) s.qf.length s.qf.length ((s.qg[i]!).qA) Tryz.underlying22 ti2 rfl rfl (by omega) (by omega)) (H.pick [0, 1] [0, 1, 2, 3, 4, 5, 6, 7, 8, 9, 10, 11, 12, 13]) ?_
   refine xq [18] (by kernel_rfl) (by simp) (xX rfl ?_ xu)
   refine o_storeInt H 2 rfl (max ((bests s t 0 s.qf.length i)[((s.qg[i]!).qA).toNat]!) ((s.qg[i]!).xY)) Tryz.sizeOf2 rfl rfl (i := (((s.qg[i]!).qA).toNat)) (by omega) (by omega) fun w25 H => ?_
   try dsimp only [List.set] at H
   refine ⟨H.pick [0, 1] [0, 1, 2, 3, 4, 5, 6, 7, 8, 9, 10, 11, 12, 13], ?_⟩
   refine xM (by kernel_rfl) (b_n (t_n ?_))
   refine qB ?_
   refine sp (.int .i64 i) ?_
   refine sw (vw i 1 rfl rfl (by omega) ?_)
   refine sp (.int .i64 (i + 1)) ?_
   refine qy ?_
   refine xG (m' := (s.qg.length - ((i + 1) : Int)).toNat) (by omega) ⟨_, a17, Xi + 1, c18, ((applB s t 0 i) ++ [dec (EnOk s t (s.qg[i]!))]), i + 1, ((bests s t 0 s.qf.length i).set (((s.qg[i]!).qA).toNat) (max ((bests s t 0 s.qf.length i)[((s.qg[i]!).qA).toNat]!) ((s.qg[i]!).xY))), (by exact qj (qj (qj (qj (qj (rfl) rfl) rfl) rfl) rfl) rfl), ?_, ?_, ?_, rfl, N, H.pick [1, 2] [7, 8, 9, 10, 11, 12, 13]⟩
   · exact applB_snoc s t i
   · first | exact bests_set ‹_› (by omega) | exact bests_skip ‹_›
   · omega
  replace h20 := zg h20
  refine xx (b_n (t_n (qB ?_)))
  refine sp (.int .i64 i) ?_
  refine sw (vw i 1 rfl rfl (by omega) ?_)
  refine sp (.int .i64 (i + 1)) ?_
  refine qy ?_
  refine xG (m' := (s.qg.length - ((i + 1) : Int)).toNat) (by omega) ⟨_, a17, Xi + 1, c18, ((applB s t 0 i) ++ [dec (EnOk s t (s.qg[i]!))]), i + 1, (bests s t 0 s.qf.length i), (by exact qj (qj (qj (qj (qj (rfl) rfl) rfl) rfl) rfl) rfl), ?_, ?_, ?_, rfl, N, H.pick [1, 2] [7, 8, 9, 10, 11, 12, 13]⟩
  · exact applB_snoc s t i
  · first | exact bests_set ‹_› (by omega) | exact bests_skip ‹_›
  · omega
 replace h7 := of_decide_eq_false h7
 refine zT (t_x (t_x (b_x (t_n (qm (qm (qB ?_)))))))
 refine sp (.int .i64 0) ?_
 refine qy (t_n (xE ?_))
 refine zW (fun m' ρ w26 => ∃ (junk : Env) (i_1 : Nat) (out_1 : List Bool), ρ = upd (upd (upd (upd junk 0 (pp bs os)) 5 (.slice (aa b1 0) s.qf.length s.qf.length)) 6 (.slice a_out Xi c_out)) 10 (.int .i64 i_1) ∧ out_1 = applB s t i_1 s.qg.length ∧ ((i_1 : Int) ≤ s.qg.length) ∧ m' = (s.qg.length - (i_1 : Int)).toNat ∧ Fresh w.heap.size [] ∧ St w w26 [.row (.slice a_out Xi c_out) 4 1 Xi (out_1.map (Value.bool)), .row (.slice (aa b1 0) s.qf.length s.qf.length) 2 1 s.qf.length ((bests s t 0 s.qf.length i).map (Value.int .i64))] [atF bs os [.int .i64 s.qH, .slice qw s.qf.length qo, .slice qG s.qg.length qE], isF false qO (.slice qw s.qf.length qo) s.qf, isF false xA (.slice qG s.qg.length qE) s.qg]) ((s.qg.length - (0 : Int)).toNat) ⟨_, 0, (applB s t 0 i), (by exact qj (qj (qj (qj (rfl) rfl) rfl) rfl) rfl), (by rw [show i = s.qg.length by omega]), (by omega), rfl, N, H.pick [0, 1] [0, 1, 2]⟩ ?_
 clear H N
 rintro m' ρ w27 ⟨junk, i_1, out_1, rfl, rfl, i0, rfl, N, H⟩
 have hn_out := H.QN 0 rfl
 have bl := Q7 s t 0 s.qf.length i
 have al := applB_len s t i_1 s.qg.length
 refine qm (qm (qB ?_))
 refine sps [.int .i64 i_1, pp bs os, pp bs os] ?_
 refine sw (qK bs (os) 2 Tryz.underlying36 rfl rfl Tryz.sizeOf34 rfl ?_)
 refine sw (qF (.slice qG s.qg.length qE) Tryz.isAgg34 rfl (H.xZ 0 rfl 2 rfl) ?_)
 refine sw (zX Tryz.underlying34 qG s.qg.length qE rfl ?_)
 refine sp (.bool (decide ((i_1 : Int) < s.qg.length))) ?_
 refine qy (t_n ?_)
 refine qZ (decide ((i_1 : Int) < s.qg.length)) rfl (fun h28 => ?_) (fun h28 => ?_)
 ·skip
  replace h28 := of_decide_eq_true h28
  have q := p0.rule (i := i_1) (by omega)
  have qc := q.1
  have qk := q.cell
  have qr := q.2.1
  refine xx (t_n (qm (xE ?_)))
  refine yL rfl H [1] fun H => ?_
  have S := H.yx [1] [0, 1, 2]
  refine rtp 0 (.slice a_out Xi c_out) S ?_
  refine rtp 1 (.int .i64 i_1) S ?_
  refine rtp 2 (.slice a_out Xi c_out) S ?_
  refine rtp 3 (.int .i64 i_1) S ?_
  obtain ⟨b30, rfl⟩ := H.rowAddr 0 rfl (by omega)
  refine rt 4 (pp b30 (0 + (i_1 : Int).toNat * 1)) (xQ b30 (0) Xi c_out i_1 Tryz.underlying26 ti4 rfl rfl (by omega) (by omega)) (H.pick [1] [0, 1, 2]) ?_
  refine xq [5] (by kernel_rfl) (by simp) (xX rfl ?_ xu)
  refine qF (.bool ((applB s t i_1 s.qg.length)[i_1]!)) Tryz.isAgg4 rfl (H.rowBool 0 rfl (iv := i_1) (i := i_1) (by omega) (by omega)) ?_
  refine ⟨H.pick [1] [0, 1, 2], ?_⟩
  refine rtp 6 (.bool ((applB s t i_1 s.qg.length)[i_1]!)) (H.pick [1] [0, 1, 2]) ?_
  cases h31 : ((applB s t i_1 s.qg.length)[i_1]!)
  ·skip
   refine zJ [7, 8, 9, 10, 11, 12, 13, 14, 15, 16, 17, 18, 19, 20, 21, 22, 23, 24, 25, 26] 20 (H.pick [1] [0, 1, 2]) ?_
   have S := H.yx [1] [0, 1, 2]
   refine rtp 27 (.bool false) S ?_
   refine rt 28 (pp b30 (0 + (i_1 : Int).toNat * 1)) (xQ b30 (0) Xi c_out i_1 Tryz.underlying26 ti4 rfl rfl (by omega) (by omega)) S ?_
   refine xq [29] (by kernel_rfl) (by simp) (xX rfl ?_ xu)
   refine Qs H 0 rfl false Tryz.sizeOf4 rfl rfl (i := i_1) (by omega) (by omega) fun w32 H => ?_
   try dsimp only [List.set] at H
   refine ⟨H.pick [1] [0, 1, 2], ?_⟩
   refine xM (by kernel_rfl) (b_n (t_n ?_))
   refine qB ?_
   refine sp (.int .i64 i_1) ?_
   refine sw (vw i_1 1 rfl rfl (by omega) ?_)
   refine sp (.int .i64 (i_1 + 1)) ?_
   refine qy ?_
   refine xG (m' := (s.qg.length - ((i_1 + 1) : Int)).toNat) (by omega) ⟨_, i_1 + 1, ((applB s t i_1 s.qg.length).set i_1 false), (by exact qj (qj (qj (qj (rfl) rfl) rfl) rfl) rfl), ?_, ?_, rfl, N, H⟩
   · first | exact applB_set (by omega) (applB_step0 (m := s.qg.length) (by omega) ‹_›) | exact applB_set (by omega) (applB_step1 (m := s.qg.length) (n := s.qf.length) (z := 0) (i := i) (by omega) ‹_› rfl (by omega) (by omega) (by omega))
   · omega
  have S := H.yx [1] [0, 1, 2]
  refine rgp 7 (pp bs os) 75 S ?_
  refine rgp 8 (pp bs os) 75 S ?_
  refine rg 9 (pp bs (os + 2)) 75 (xF bs (os) 2 Tryz.underlying36 rfl rfl Tryz.sizeOf34 rfl) S ?_
  refine rg 10 (.slice qG s.qg.length qE) 75 (xw Tryz.isAgg34 rfl (fun _ h => h.xZ 0 rfl 2 rfl)) S ?_
  refine rgp 11 (.int .i64 i_1) 75 S ?_
  obtain ⟨b33, o34, rfl⟩ := H.addr 2 rfl (by omega)
  obtain ⟨ae36Need, ce36Need, Fe36Need, ae36Have, ce36Have, Fe36Have, ae36Lack, ce36Lack, Fe36Lack, ae36Here, ce36Here, Fe36Here, ae36Out, ce36Out, Fe36Out, ae36Into, ce36Into, Fe36Into, H⟩ := H.yJ 2 rfl i_1 i_1 (by omega) (by omega) (by omega)
  have S := H.yx [1] [7, 8, 9]
  refine rg 12 (pp b33 (o34 + (i_1 : Int).toNat * 9)) 75 (xQ b33 (o34) s.qg.length qE i_1 Tryz.underlying34 ti110 rfl rfl (by omega) (by omega)) S ?_
  refine rg 13 (pp b33 (o34 + (i_1 : Int).toNat * 9 + 1)) 75 (xF b33 (o34 + (i_1 : Int).toNat * 9) 1 Tryz.underlying110 rfl rfl Tryz.sizeOf2 rfl) S ?_
  refine rgp 15 (.slice (aa b1 0) s.qf.length s.qf.length) 75 S ?_
  refine rgp 16 (pp bs os) 75 S ?_
  refine rgp 17 (pp bs os) 75 S ?_
  refine rg 18 (pp bs (os + 2)) 75 (xF bs (os) 2 Tryz.underlying36 rfl rfl Tryz.sizeOf34 rfl) S ?_
  refine rg 19 (.slice (aa b33 o34) s.qg.length qE) 75 (xw Tryz.isAgg34 rfl (fun _ h => h.xZ 0 rfl 2 rfl)) S ?_
  refine rgp 20 (.int .i64 i_1) 75 S ?_
  refine rg 21 (pp b33 (o34 + (i_1 : Int).toNat * 9)) 75 (xQ b33 (o34) s.qg.length qE i_1 Tryz.underlying34 ti110 rfl rfl (by omega) (by omega)) S ?_
  refine rg 22 (pp b33 (o34 + (i_1 : Int).toNat * 9 + 0)) 75 (xF b33 (o34 + (i_1 : Int).toNat * 9) 0 Tryz.underlying110 rfl rfl Tryz.sizeOf2 rfl) S ?_
  refine xq [14, 23] (by kernel_rfl) (by simp) (r_opG rfl (e := 75) rfl rfl ?_ (r_opG rfl (e := 75) rfl rfl ?_ xu))
  ·skip
   refine qF (.int .i64 ((s.qg[i_1]!).xY)) Tryz.isAgg2 rfl (H.xZ 6 rfl 1 rfl) ?_
   refine ⟨H.pick [1] [7, 8, 9], ?_⟩
   refine xq [23] (by kernel_rfl) (by simp) (r_opG rfl (e := 75) rfl rfl ?_ xu)
   refine qF (.int .i64 ((s.qg[i_1]!).qA)) Tryz.isAgg2 rfl (H.xZ 6 rfl 0 rfl) ?_
   refine ⟨H.pick [1] [7, 8, 9], ?_⟩
   have S := H.yx [1] [7, 8, 9]
   refine rg 24 (pp b1 (0 + ((s.qg[i_1]!).qA : Int).toNat * 1)) 75 (xQ b1 (0) s.qf.length s.qf.length ((s.qg[i_1]!).qA) Tryz.underlying22 ti2 rfl rfl (by omega) (by omega)) S ?_
   refine rg 25 (.int .i64 ((bests s t 0 s.qf.length i)[((s.qg[i_1]!).qA).toNat]!)) 75 (xw Tryz.isAgg2 rfl (fun _ h => h.rowInt 0 rfl (iv := (s.qg[i_1]!).qA) (i := (((s.qg[i_1]!).qA).toNat)) (by omega) (by omega))) S ?_
   refine rgp 26 (.bool (((s.qg[i_1]!).xY : Int) == ((bests s t 0 s.qf.length i)[((s.qg[i_1]!).qA).toNat]!))) 75 S ?_
   refine rtp 27 (.bool (((s.qg[i_1]!).xY : Int) == ((bests s t 0 s.qf.length i)[((s.qg[i_1]!).qA).toNat]!))) S ?_
   refine rt 28 (pp b30 (0 + (i_1 : Int).toNat * 1)) (xQ b30 (0) Xi c_out i_1 Tryz.underlying26 ti4 rfl rfl (by omega) (by omega)) S ?_
   refine xq [29] (by kernel_rfl) (by simp) (xX rfl ?_ xu)
   refine Qs H 0 rfl (((s.qg[i_1]!).xY : Int) == ((bests s t 0 s.qf.length i)[((s.qg[i_1]!).qA).toNat]!)) Tryz.sizeOf4 rfl rfl (i := i_1) (by omega) (by omega) fun w37 H => ?_
   try dsimp only [List.set] at H
   refine ⟨H.pick [1] [7, 8, 9], ?_⟩
   refine xM (by kernel_rfl) (b_n (t_n ?_))
   refine qB ?_
   refine sp (.int .i64 i_1) ?_
   refine sw (vw i_1 1 rfl rfl (by omega) ?_)
   refine sp (.int .i64 (i_1 + 1)) ?_
   refine qy ?_
   refine xG (m' := (s.qg.length - ((i_1 + 1) : Int)).toNat) (by omega) ⟨_, i_1 + 1, ((applB s t i_1 s.qg.length).set i_1 (((s.qg[i_1]!).xY : Int) == ((bests s t 0 s.qf.length i)[((s.qg[i_1]!).qA).toNat]!))), (by exact qj (qj (qj (qj (rfl) rfl) rfl) rfl) rfl), ?_, ?_, rfl, N, H.pick [0, 1] [7, 8, 9]⟩
   · first | exact applB_set (by omega) (applB_step0 (m := s.qg.length) (by omega) ‹_›) | exact applB_set (by omega) (applB_step1 (m := s.qg.length) (n := s.qf.length) (z := 0) (i := i) (by omega) ‹_› rfl (by omega) (by omega) (by omega))
   · omega
  refine qF (.int .i64 ((s.qg[i_1]!).qA)) Tryz.isAgg2 rfl (H.xZ 6 rfl 0 rfl) ?_
  refine ⟨H.pick [1] [7, 8, 9], ?_⟩
  have S := H.yx [1] [7, 8, 9]
  refine rg 24 (pp b1 (0 + ((s.qg[i_1]!).qA : Int).toNat * 1)) 75 (xQ b1 (0) s.qf.length s.qf.length ((s.qg[i_1]!).qA) Tryz.underlying22 ti2 rfl rfl (by omega) (by omega)) S ?_
  refine rg 25 (.int .i64 ((bests s t 0 s.qf.length i)[((s.qg[i_1]!).qA).toNat]!)) 75 (xw Tryz.isAgg2 rfl (fun _ h => h.rowInt 0 rfl (iv := (s.qg[i_1]!).qA) (i := (((s.qg[i_1]!).qA).toNat)) (by omega) (by omega))) S ?_
  refine xq [14] (by kernel_rfl) (by simp) (r_opG rfl (e := 75) rfl rfl ?_ xu)
  refine qF (.int .i64 ((s.qg[i_1]!).xY)) Tryz.isAgg2 rfl (H.xZ 6 rfl 1 rfl) ?_
  refine ⟨H.pick [1] [7, 8, 9], ?_⟩
  have S := H.yx [1] [7, 8, 9]
  refine rgp 26 (.bool (((s.qg[i_1]!).xY : Int) == ((bests s t 0 s.qf.length i)[((s.qg[i_1]!).qA).toNat]!))) 75 S ?_
  refine rtp 27 (.bool (((s.qg[i_1]!).xY : Int) == ((bests s t 0 s.qf.length i)[((s.qg[i_1]!).qA).toNat]!))) S ?_
  refine rt 28 (pp b30 (0 + (i_1 : Int).toNat * 1)) (xQ b30 (0) Xi c_out i_1 Tryz.underlying26 ti4 rfl rfl (by omega) (by omega)) S ?_
  refine xq [29] (by kernel_rfl) (by simp) (xX rfl ?_ xu)
  refine Qs H 0 rfl (((s.qg[i_1]!).xY : Int) == ((bests s t 0 s.qf.length i)[((s.qg[i_1]!).qA).toNat]!)) Tryz.sizeOf4 rfl rfl (i := i_1) (by omega) (by omega) fun w38 H => ?_
  try dsimp only [List.set] at H
  refine ⟨H.pick [1] [7, 8, 9], ?_⟩
  refine xM (by kernel_rfl) (b_n (t_n ?_))
  refine qB ?_
  refine sp (.int .i64 i_1) ?_
  refine sw (vw i_1 1 rfl rfl (by omega) ?_)
  refine sp (.int .i64 (i_1 + 1)) ?_
  refine qy ?_
  refine xG (m' := (s.qg.length - ((i_1 + 1) : Int)).toNat) (by omega) ⟨_, i_1 + 1, ((applB s t i_1 s.qg.length).set i_1 (((s.qg[i_1]!).xY : Int) == ((bests s t 0 s.qf.length i)[((s.qg[i_1]!).qA).toNat]!))), (by exact qj (qj (qj (qj (rfl) rfl) rfl) rfl) rfl), ?_, ?_, rfl, N, H.pick [0, 1] [7, 8, 9]⟩
  · first | exact applB_set (by omega) (applB_step0 (m := s.qg.length) (by omega) ‹_›) | exact applB_set (by omega) (applB_step1 (m := s.qg.length) (n := s.qf.length) (z := 0) (i := i) (by omega) ‹_› rfl (by omega) (by omega) (by omega))
  · omega
 replace h28 := of_decide_eq_false h28
 refine zT (t_x (t_x (b_x (t_n (qm (qB ?_))))))
 refine sps [.slice a_out Xi c_out, .slice a_out Xi c_out] ?_
 refine qy (t_n (xB ?_))
 refine ret1 (.slice a_out Xi c_out) rfl rfl ⟨_, rfl, ?_, H.base⟩
 obtain rfl : i_1 = s.qg.length := by omega
 exact ⟨a_out, Xi, c_out, rfl, N, H.pick [0] []⟩

theorem l03Rest_ok (w : World) (s : qW) (t : qU) (counts : List Int) (bs os : Nat) (qw : Option Addr) (qo : Nat) (qO : List Nat) (qG : Option Addr) (qE : Nat) (xA : List Nat) (bt ot : Nat) (qP : Option Addr) (qJ : Nat) (xO : List Nat) (xH : Option Addr) (xC : Nat) (zL : List Nat) (qN : Option Addr) (qM : Nat) (xI : List Nat) (acounts : Option Addr) (ccounts : Nat) (Fcounts : List Nat) (hs : vT w bs os [.int .i64 s.qH, .slice qw s.qf.length qo, .slice qG s.qg.length qE]) (xn : qR.rep w qO [.slice qw s.qf.length qo] s.qf) (xJ : qR.rep w xA [.slice qG s.qg.length qE] s.qg) (ht : vT w bt ot [.slice qP t.qh.length qJ, .slice xH t.qp.length xC, .slice qN t.ql.length qM]) (zA : qR.rep w xO [.slice qP t.qh.length qJ] t.qh) (vH : qR.rep w zL [.slice xH t.qp.length xC] t.qp) (zh : qR.rep w xI [.slice qN t.ql.length qM] t.ql) (hcounts : qR.rep w Fcounts [.slice acounts counts.length ccounts] counts) (p0 : yC s) (p1 : zH s t) (p2 : CntOk s counts) : Calls Tryz.prog 106 #[pp bs os, pp bt ot, .slice acounts counts.length ccounts] w (Ret (fun v w' => ∃ (ra0 : Option Addr) (rn0 : Nat) (rc0 : Nat) (rx0 : List Value) (rF0 : List Nat), v = .tuple #[.slice ra0 rn0 rc0, .bool (dec (IsCh s t counts))] ∧ Fresh w.heap.size [rF0] ∧ St w w' [.row (.slice ra0 rn0 rc0) 22 1 rn0 rx0] [jf true rF0 rx0 (vz s t counts (vG (yu s t counts) counts.length))]) w) := by
 refine enter (n := 112) Tryz.func106 rfl Tryz.ntmps106 (Nat.le_of_ble_eq_true rfl) ?_
 have H := ((((((((St.start w).arg hcounts).arg zh).arg vH).arg zA).argAt ht).arg xJ).arg xn).argAt hs
 have vK := qL xn
 have jP := qL xJ
 have QZ := qL zA
 have XN := qL vH
 have Qu := qL zh
 have nhcounts := qL hcounts
 clear hs xn xJ ht zA vH zh hcounts
 have N := Fresh.nil w.heap.size
 have p3 := p0.2.1
 have p6 := p2.1
 have p7 := p1.2.1
 have p8 := kinds_le p0
 have p9 := p0.1.2.1
 have p11 : jd s = s.qf.length := rfl
 refine qm (qB ?_)
 refine sps [.slice none 0 0, .bool false] ?_
 refine qy (t_n (qm (qB ?_)))
 refine sps [pp bs os, pp bt ot] ?_
 have sz4 := H.base.size
 refine sw (xf #[pp bs os, pp bt ot] rfl rfl Tryz.call79 (l03Applicable_ok w s t bs os qw qo qO qG qE xA bt ot qP qJ xO xH xC zL qN qM xI (qI (H.get 0 rfl) 0 3) (H.get 1 rfl).1 (H.get 2 rfl).1 (qI (H.get 3 rfl) 0 3) (H.get 4 rfl).1 (H.get 5 rfl).1 (H.get 6 rfl).1 (by first | assumption | omega) (by first | assumption | omega)) ?_)
 rintro _ w2 ⟨ra1, rn1, rc1, rfl, M, K⟩ _
 replace H := H.merge K M
 dsimp only [List.cons_append, List.nil_append] at H
 obtain rfl := H.QN 0 rfl
 have al := appl_len s t
 refine sp (.slice ra1 ((appl s t).length) rc1) ?_
 refine qy (t_n (qm (qB ?_)))
 refine sw (o_build0 H Tryz.underlying27 ti22 fun b7 w8 H => ?_)
 refine sp (.slice (aa b7 0) 0 0) ?_
 refine qy (t_n (qm (qm (qB ?_))))
 refine sp (.int .i64 0) ?_
 refine qy (t_n (xE ?_))
 replace H := H.boxRow 0 rfl 1 0 rfl (by decide)
 try dsimp only [List.set] at H
 replace H := H.Xa (α := List Int)
 refine zW (fun m' ρ w9 => ∃ (junk : Env) (Q8 : Option Addr) (jK : Nat) (Qc : Nat) (rest : List (List Int)) (x_rest : List Value) (F_rest : List Nat) (c : Nat), ρ = upd (upd (upd (upd (upd (upd junk 0 (pp bs os)) 1 (pp bt ot)) 2 (.slice acounts counts.length ccounts)) 8 (.slice ra1 ((appl s t).length) rc1)) 9 (.slice Q8 jK Qc)) 10 (.int .i64 c) ∧ rest = t.qp.take c ∧ ((c : Int) ≤ t.qp.length) ∧ m' = (t.qp.length - (c : Int)).toNat ∧ Fresh w.heap.size [F_rest] ∧ St w w9 [.row (.slice Q8 jK Qc) 22 1 jK x_rest, .row (.slice ra1 ((appl s t).length) rc1) 4 1 ((appl s t).length) ((appl s t).map (Value.bool))] [jf true F_rest x_rest rest, atF bs os [.int .i64 s.qH, .slice qw s.qf.length qo, .slice qG s.qg.length qE], isF false qO (.slice qw s.qf.length qo) s.qf, isF false xA (.slice qG s.qg.length qE) s.qg, atF bt ot [.slice qP t.qh.length qJ, .slice xH t.qp.length xC, .slice qN t.ql.length qM], isF false xO (.slice qP t.qh.length qJ) t.qh, isF false zL (.slice xH t.qp.length xC) t.qp, isF false xI (.slice qN t.ql.length qM) t.ql, isF false Fcounts (.slice acounts counts.length ccounts) counts]) ((t.qp.length - (0 : Int)).toNat) ⟨_, (aa b7 0), 0, 0, ([] : List (List Int)), [], [], 0, (by exact qj (qj (qj (qj (qj (qj (rfl) rfl) rfl) rfl) rfl) rfl) rfl), (by rfl), (by omega), rfl, N.emp, H⟩ ?_
 clear H N
 rintro m' ρ w10 ⟨junk, Q8, jK, Qc, rest, x_rest, F_rest, c, rfl, rfl, i0, rfl, N, H⟩
 have hn_rest := H.zy (α := List Int) 0 rfl 0 rfl (by decide)
 have p4 := (p1.bagLen (k := c))
 rw [List.length_take_of_le (by omega)] at hn_rest
 refine qm (qm (qB ?_))
 refine sps [.int .i64 c, pp bt ot, pp bt ot] ?_
 refine sw (qK bt (ot) 1 Tryz.underlying38 rfl rfl Tryz.sizeOf27 rfl ?_)
 refine sw (qF (.slice xH t.qp.length xC) Tryz.isAgg27 rfl (H.xZ 4 rfl 1 rfl) ?_)
 refine sw (zX Tryz.underlying27 xH t.qp.length xC rfl ?_)
 refine sp (.bool (decide ((c : Int) < t.qp.length))) ?_
 refine qy (t_n ?_)
 refine qZ (decide ((c : Int) < t.qp.length)) rfl (fun h11 => ?_) (fun h11 => ?_)
 ·skip
  replace h11 := of_decide_eq_true h11
  refine xx (t_n (qm (xE (qB ?_))))
  refine sps [.slice Q8 jK Qc, pp bt ot, pp bt ot] ?_
  refine sw (qK bt (ot) 1 Tryz.underlying38 rfl rfl Tryz.sizeOf27 rfl ?_)
  refine sw (qF (.slice xH t.qp.length xC) Tryz.isAgg27 rfl (H.xZ 4 rfl 1 rfl) ?_)
  refine sp (.int .i64 c) ?_
  obtain ⟨b12, o13, rfl⟩ := H.addr 6 rfl (by omega)
  obtain ⟨ae15, ce15, Fe15, H⟩ := H.yX 6 rfl c c (by omega) (by omega) (by omega)
  refine sw (xK c Tryz.underlying27 ti22 rfl rfl (by omega) (by omega) ?_)
  refine sw (qF (.slice ae15 ((t.qp[c]!).length) ce15) Tryz.isAgg22 rfl (H.xZ 1 rfl 0 rfl) ?_)
  have p5 := (p1.bagLen (k := c) (by omega)).len
  have sz16 := H.base.size
  have lt17 := H.ltN (L := [F_rest]) [2]
  refine sw (xf #[.slice ae15 ((t.qp[c]!).length) ce15] rfl rfl Tryz.call120 (l00Own_ok w10 (t.qp[c]!) ae15 ce15 Fe15 (H.get 0 rfl).1 (by first | assumption | omega)) ?_)
  rintro v21 w19 r21 x20
  replace H := H.zB x20 r21
  obtain ⟨a22, c23, rfl, hc24, hm25⟩ := H.jS 0 rfl
  refine sw (Q4 H Tryz.underlying27 ti22 [.slice a22 ((t.qp[c]!).length) c23] fun b26 w27 H => ?_)
  obtain ⟨G31, N, hn32, H⟩ := H.yI 1 rfl N (H.X3 [2])
  try dsimp only [List.set] at H
  refine sw (Q5 H 2 rfl 0 rfl Tryz.underlying27 ti22 rfl (by decide) rfl rfl rfl (by simp [Value.oneCell', Value.cells]) (by unfold maxLen; omega) (by omega) fun a28 c29 w30 H => ?_)
  try dsimp only [List.set] at H
  replace H := H.repsSnoc 3 rfl 0 rfl
  replace N : Fresh w.heap.size [(F_rest ++ G31)] := (N.pick [1, 0]).join
  refine sp (.slice a28 (jK + 1) c29) ?_
  refine qy (b_n (t_n (qB ?_)))
  refine sp (.int .i64 c) ?_
  refine sw (vw c 1 rfl rfl (by omega) ?_)
  refine sp (.int .i64 (c + 1)) ?_
  refine qy ?_
  refine xG (m' := (t.qp.length - ((c + 1) : Int)).toNat) (by omega) ⟨_, a28, jK + 1, c29, ((t.qp.take c) ++ [(t.qp[c]!)]), x_rest ++ [.slice a22 ((t.qp[c]!).length) c23], (F_rest ++ G31), c + 1, (by exact qj (qj (qj (qj (qj (qj (rfl) rfl) rfl) rfl) rfl) rfl) rfl), ?_, ?_, rfl, N, H.pick [2, 3] [0, 5, 6, 7, 8, 9, 10, 11, 12]⟩
  · exact take_snoc (by omega)
  · omega
 replace h11 := of_decide_eq_false h11
 refine zT (t_x (t_x (b_x (t_n (qm (qm (qB ?_)))))))
 refine sp (.int .i64 0) ?_
 refine qy (t_n (xE ?_))
 refine zW (fun m' ρ w33 => ∃ (junk : Env) (i : Nat) (rest_1 : List (List Int)) (x_rest_1 : List Value) (XL : List Nat), ρ = upd (upd (upd (upd (upd junk 0 (pp bs os)) 2 (.slice acounts counts.length ccounts)) 8 (.slice ra1 ((appl s t).length) rc1)) 9 (.slice Q8 jK Qc)) 11 (.int .i64 i) ∧ rest_1 = vz s t counts i ∧ ((i : Int) ≤ counts.length) ∧ (GoodTo s t counts i) ∧ m' = (counts.length - (i : Int)).toNat ∧ Fresh w.heap.size [XL] ∧ St w w33 [.row (.slice Q8 jK Qc) 22 1 jK x_rest_1, .row (.slice ra1 ((appl s t).length) rc1) 4 1 ((appl s t).length) ((appl s t).map (Value.bool))] [jf true XL x_rest_1 rest_1, atF bs os [.int .i64 s.qH, .slice qw s.qf.length qo, .slice qG s.qg.length qE], isF false qO (.slice qw s.qf.length qo) s.qf, isF false xA (.slice qG s.qg.length qE) s.qg, isF false Fcounts (.slice acounts counts.length ccounts) counts]) ((counts.length - (0 : Int)).toNat) ⟨_, 0, (t.qp.take c), x_rest, F_rest, (by exact qj (qj (qj (qj (qj (rfl) rfl) rfl) rfl) rfl) rfl), (by rw [List.take_of_length_le (by omega)]; rfl), (by omega), (by exact fun j hj => by omega), rfl, N, H.pick [0, 1] [0, 1, 2, 3, 8]⟩ ?_
 clear H N
 rintro m' ρ w34 ⟨junk, i, rest_1, x_rest_1, XL, rfl, rfl, i0, i1, rfl, N, H⟩
 have hn_rest := H.zy (α := List Int) 0 rfl 0 rfl (by decide)
 have rl := restR_len (s := s) (t := t) (counts := counts) i
 refine qm (qm (qB ?_))
 refine sps [.int .i64 i, .slice acounts counts.length ccounts] ?_
 refine sw (zX Tryz.underlying22 acounts counts.length ccounts rfl ?_)
 refine sp (.bool (decide ((i : Int) < counts.length))) ?_
 refine qy (t_n ?_)
 refine qZ (decide ((i : Int) < counts.length)) rfl (fun h35 => ?_) (fun h35 => ?_)
 ·skip
  replace h35 := of_decide_eq_true h35
  have q := p0.rule (i := i) (by omega)
  have qc := q.1
  have qk := q.cell
  have qr := q.2.1
  have b1 := q.2.2.2.2.1
  have p10 := p2.bd (i := i) (by omega)
  refine xx (t_n (qm (xE (qm (qm (qB ?_))))))
  refine sps [.slice acounts counts.length ccounts, .int .i64 i] ?_
  obtain ⟨b36, o37, rfl⟩ := H.addr 4 rfl (by omega)
  refine sw (xK i Tryz.underlying22 ti2 rfl rfl (by omega) (by omega) ?_)
  refine sw (qF (.int .i64 (counts[i]!)) Tryz.isAgg2 rfl (H.je 4 rfl i (by omega) (by omega)) ?_)
  refine sps [.bool (decide ((counts[i]! : Int) > 0)), .bool (decide ((counts[i]! : Int) > 0))] ?_
  cases h39 : (decide ((counts[i]! : Int) > 0))
  ·skip
   replace h39 := of_decide_eq_false h39
   refine xW [51, 52, 53, 54, 55] ?_
   refine sp (.bool false) ?_
   refine qy (t_n ?_)
   refine qZ false rfl (fun h => absurd h (by decide)) (fun _ => ?_)
   refine xx (t_n (qm (qB ?_)))
   refine sps [pp bs os, pp bs os] ?_
   refine sw (qK bs (os) 2 Tryz.underlying36 rfl rfl Tryz.sizeOf34 rfl ?_)
   refine sw (qF (.slice qG s.qg.length qE) Tryz.isAgg34 rfl (H.xZ 1 rfl 2 rfl) ?_)
   refine sp (.int .i64 i) ?_
   obtain ⟨b40, o41, rfl⟩ := H.addr 3 rfl (by omega)
   obtain ⟨ae43Need, ce43Need, Fe43Need, ae43Have, ce43Have, Fe43Have, ae43Lack, ce43Lack, Fe43Lack, ae43Here, ce43Here, Fe43Here, ae43Out, ce43Out, Fe43Out, ae43Into, ce43Into, Fe43Into, H⟩ := H.yJ 3 rfl i i (by omega) (by omega) (by omega)
   refine sw (xK i Tryz.underlying34 ti110 rfl rfl (by omega) (by omega) ?_)
   refine sw (qK b40 (o41 + (i : Int).toNat * 9) 0 Tryz.underlying110 rfl rfl Tryz.sizeOf2 rfl ?_)
   refine sw (qF (.int .i64 ((s.qg[i]!).qA)) Tryz.isAgg2 rfl (H.xZ 6 rfl 0 rfl) ?_)
   refine sp (.int .i64 ((s.qg[i]!).qA)) ?_
   refine qy (t_n ?_)
   refine yL rfl H [1] fun H => ?_
   have S := H.yx [1] [0, 1, 2, 3, 4, 5, 6, 7, 8, 9, 10, 11]
   refine rtp 0 (.slice Q8 jK Qc) S ?_
   refine rtp 1 (.int .i64 ((s.qg[i]!).qA)) S ?_
   refine rtp 2 (.slice Q8 jK Qc) S ?_
   refine rtp 3 (.int .i64 ((s.qg[i]!).qA)) S ?_
   obtain ⟨b45, rfl⟩ := H.rowAddr 0 rfl (by omega)
   have S := H.yx [1] [0, 1, 2, 3, 4, 5, 6, 7, 8, 9, 10, 11]
   refine rt 4 (pp b45 (0 + ((s.qg[i]!).qA : Int).toNat * 1)) (xQ b45 (0) jK Qc ((s.qg[i]!).qA) Tryz.underlying27 ti22 rfl rfl (by omega) (by omega)) S ?_
   refine rtp 6 (pp bs os) S ?_
   refine rtp 7 (pp bs os) S ?_
   refine rt 8 (pp bs (os + 2)) (xF bs (os) 2 Tryz.underlying36 rfl rfl Tryz.sizeOf34 rfl) S ?_
   refine rt 9 (.slice (aa b40 o41) s.qg.length qE) (xw Tryz.isAgg34 rfl (fun _ h => h.xZ 8 rfl 2 rfl)) S ?_
   refine rtp 10 (.int .i64 i) S ?_
   refine rt 11 (pp b40 (o41 + (i : Int).toNat * 9)) (xQ b40 (o41) s.qg.length qE i Tryz.underlying34 ti110 rfl rfl (by omega) (by omega)) S ?_
   refine rt 12 (pp b40 (o41 + (i : Int).toNat * 9 + 2)) (xF b40 (o41 + (i : Int).toNat * 9) 2 Tryz.underlying110 rfl rfl Tryz.sizeOf22 rfl) S ?_
   refine rt 13 (.slice ae43Need (((s.qg[i]!).qV).length) ce43Need) (xw Tryz.isAgg22 rfl (fun _ h => h.xZ 6 rfl 2 rfl)) S ?_
   refine rtp 14 (.slice (aa b36 o37) counts.length ccounts) S ?_
   refine rtp 15 (.int .i64 i) S ?_
   refine rt 16 (pp b36 (o37 + (i : Int).toNat * 1)) (xQ b36 (o37) counts.length ccounts i Tryz.underlying22 ti2 rfl rfl (by omega) (by omega)) S ?_
   refine rt 17 (.int .i64 (counts[i]!)) (xw Tryz.isAgg2 rfl (fun _ h => h.je 11 rfl i (by omega) (by omega))) S ?_
   refine rt 18 (.int .i64 (-(counts[i]!))) (y_neg (counts[i]!) rfl (by omega)) S ?_
   refine xq [5] (by kernel_rfl) (by simp) (xX rfl ?_ xu)
   obtain ⟨a46, c47, G48, s49, h50, H⟩ := H.jF 0 rfl 7 rfl (iv := (s.qg[i]!).qA) (((s.qg[i]!).qA).toNat) (by omega) (by omega)
   refine qF (.slice a46 (((vz s t counts i)[((s.qg[i]!).qA).toNat]!).length) c47) Tryz.isAgg22 rfl (h50) ?_
   refine ⟨H.pick [1] [1, 2, 3, 4, 5, 6, 7, 8, 9, 10, 11, 12], ?_⟩
   refine xq [19] (by kernel_rfl) (by simp) (xX rfl ?_ xu)
   obtain ⟨u1, u2⟩ := restR_row (c := (s.qg[i]!).qA.toNat) p0 p1 p2 (show i ≤ _ by omega) qk
   have u3 := b1.len
   have u4 := b1.jW (t := -(counts[i]!)) (by omega)
   have sz51 := H.base.size
   have lt52 := H.ltN (L := [XL]) [8]
   refine xf #[.slice a46 (((vz s t counts i)[((s.qg[i]!).qA).toNat]!).length) c47, .slice ae43Need (((s.qg[i]!).qV).length) ce43Need, .int .i64 (-(counts[i]!))] rfl rfl Tryz.call88 (Xn w34.drew ((vz s t counts i)[((s.qg[i]!).qA).toNat]!) ((s.qg[i]!).qV) (-(counts[i]!)) a46 c47 G48 ae43Need ce43Need Fe43Need (H.get 0 rfl).1 (H.get 1 rfl).1 (by first | assumption | omega) (by first | assumption | omega) (by first | assumption | omega)) ?_
   rintro v56 w54 r56 x55
   replace H := H.zB x55 r56
   obtain ⟨a57, c58, rfl, hc59, hm60⟩ := H.jS 0 rfl
   refine ⟨H.pick [2] [1, 2, 3, 4, 5, 6, 7, 8, 9, 10, 11, 12], ?_⟩
   refine rt 20 (pp b45 (0 + ((s.qg[i]!).qA : Int).toNat * 1)) (xQ b45 (0) jK Qc ((s.qg[i]!).qA) Tryz.underlying27 ti22 rfl rfl (by omega) (by omega)) (H.pick [2] [1, 2, 3, 4, 5, 6, 7, 8, 9, 10, 11, 12]) ?_
   refine xq [21] (by kernel_rfl) (by simp) (xX rfl ?_ xu)
   obtain ⟨G62, N, hn63, H⟩ := H.yI 0 rfl N (H.X3 [8])
   try dsimp only [List.set] at H
   refine jq true H 1 rfl 9 rfl (.slice a57 ((jX ((vz s t counts i)[((s.qg[i]!).qA).toNat]!) ((s.qg[i]!).qV) (-(counts[i]!))).length) c58) 0 rfl rfl Tryz.sizeOf22 rfl rfl (i := (((s.qg[i]!).qA).toNat)) (by omega) (by omega) (by simp) fun w61 xs64 F65 hs66 H => ?_
   replace N : Fresh w.heap.size [F65] := (N.pick [1, 0]).repl hs66
   try dsimp only [List.set] at H
   refine ⟨H.pick [2] [3, 4, 5, 6, 7, 8, 9, 10, 11, 12, 13, 14], ?_⟩
   refine xM (by kernel_rfl) (b_n (t_n ?_))
   refine qB ?_
   refine sp (.int .i64 i) ?_
   refine sw (vw i 1 rfl rfl (by omega) ?_)
   refine sp (.int .i64 (i + 1)) ?_
   refine qy ?_
   refine xG (m' := (counts.length - ((i + 1) : Int)).toNat) (by omega) ⟨_, i + 1, ((vz s t counts i).set (((s.qg[i]!).qA).toNat) (jX ((vz s t counts i)[((s.qg[i]!).qA).toNat]!) ((s.qg[i]!).qV) (-(counts[i]!)))), xs64, F65, (by exact qj (qj (qj (qj (qj (rfl) rfl) rfl) rfl) rfl) rfl), ?_, ?_, ?_, rfl, N, H.pick [1, 2] [0, 11, 12, 13, 14]⟩
   · rfl
   · omega
   · exact i1.succ (fun h => by obtain ⟨u, v⟩ := h; first | omega | exact v (appl_true (by omega) ‹_›))
  replace h39 := of_decide_eq_true h39
  refine qQ 50 rfl rfl ?_
  refine sp (.slice ra1 ((appl s t).length) rc1) ?_
  refine qQ 50 rfl rfl ?_
  refine sp (.int .i64 i) ?_
  refine qQ 50 rfl rfl ?_
  obtain ⟨b67, rfl⟩ := H.rowAddr 1 rfl (by omega)
  refine sw (xK i Tryz.underlying26 ti4 rfl rfl (by omega) (by omega) ?_)
  refine qQ 50 rfl rfl ?_
  refine sw (qF (.bool ((appl s t)[i]!)) Tryz.isAgg4 rfl (H.rowBool 1 rfl (iv := i) (i := i) (by omega) (by omega)) ?_)
  refine qQ 50 rfl rfl ?_
  refine sps [.bool (!((appl s t)[i]!)), .bool (!((appl s t)[i]!))] ?_
  refine qy (t_n ?_)
  refine qZ (!((appl s t)[i]!)) rfl (fun h68 => ?_) (fun h68 => ?_)
  ·skip
   replace h68 := xg h68
   refine qm (qB ?_)
   refine sps [.slice Q8 jK Qc, .slice Q8 jK Qc, .bool false] ?_
   refine qy (t_n (xB (t_r (b_r (t_r (t_r (b_r (t_r ?_))))))))
   refine ret2 (.slice Q8 jK Qc) (.bool false) rfl rfl rfl ⟨_, rfl, ?_, H.base⟩
   rw [stop_first (k := i) i1 (by omega) ⟨by omega, appl_false (by omega) ‹_›⟩, xy (fun h => h.1 i (by omega) ⟨by omega, appl_false (by omega) ‹_›⟩)]
   exact ⟨Q8, jK, Qc, x_rest_1, XL, rfl, N, H.pick [0] [0]⟩
  replace h68 := qX h68
  refine xx (t_n (qm (qB ?_)))
  refine sps [pp bs os, pp bs os] ?_
  refine sw (qK bs (os) 2 Tryz.underlying36 rfl rfl Tryz.sizeOf34 rfl ?_)
  refine sw (qF (.slice qG s.qg.length qE) Tryz.isAgg34 rfl (H.xZ 1 rfl 2 rfl) ?_)
  refine sp (.int .i64 i) ?_
  obtain ⟨b69, o70, rfl⟩ := H.addr 3 rfl (by omega)
  obtain ⟨ae72Need, ce72Need, Fe72Need, ae72Have, ce72Have, Fe72Have, ae72Lack, ce72Lack, Fe72Lack, ae72Here, ce72Here, Fe72Here, ae72Out, ce72Out, Fe72Out, ae72Into, ce72Into, Fe72Into, H⟩ := H.yJ 3 rfl i i (by omega) (by omega) (by omega)
  refine sw (xK i Tryz.underlying34 ti110 rfl rfl (by omega) (by omega) ?_)
  refine sw (qK b69 (o70 + (i : Int).toNat * 9) 0 Tryz.underlying110 rfl rfl Tryz.sizeOf2 rfl ?_)
  refine sw (qF (.int .i64 ((s.qg[i]!).qA)) Tryz.isAgg2 rfl (H.xZ 6 rfl 0 rfl) ?_)
  refine sp (.int .i64 ((s.qg[i]!).qA)) ?_
  refine qy (t_n ?_)
  refine yL rfl H [1] fun H => ?_
  have S := H.yx [1] [0, 1, 2, 3, 4, 5, 6, 7, 8, 9, 10, 11]
  refine rtp 0 (.slice Q8 jK Qc) S ?_
  refine rtp 1 (.int .i64 ((s.qg[i]!).qA)) S ?_
  refine rtp 2 (.slice Q8 jK Qc) S ?_
  refine rtp 3 (.int .i64 ((s.qg[i]!).qA)) S ?_
  obtain ⟨b74, rfl⟩ := H.rowAddr 0 rfl (by omega)
  have S := H.yx [1] [0, 1, 2, 3, 4, 5, 6, 7, 8, 9, 10, 11]
  refine rt 4 (pp b74 (0 + ((s.qg[i]!).qA : Int).toNat * 1)) (xQ b74 (0) jK Qc ((s.qg[i]!).qA) Tryz.underlying27 ti22 rfl rfl (by omega) (by omega)) S ?_
  refine rtp 6 (pp bs os) S ?_
  refine rtp 7 (pp bs os) S ?_
  refine rt 8 (pp bs (os + 2)) (xF bs (os) 2 Tryz.underlying36 rfl rfl Tryz.sizeOf34 rfl) S ?_
  refine rt 9 (.slice (aa b69 o70) s.qg.length qE) (xw Tryz.isAgg34 rfl (fun _ h => h.xZ 8 rfl 2 rfl)) S ?_
  refine rtp 10 (.int .i64 i) S ?_
  refine rt 11 (pp b69 (o70 + (i : Int).toNat * 9)) (xQ b69 (o70) s.qg.length qE i Tryz.underlying34 ti110 rfl rfl (by omega) (by omega)) S ?_
  refine rt 12 (pp b69 (o70 + (i : Int).toNat * 9 + 2)) (xF b69 (o70 + (i : Int).toNat * 9) 2 Tryz.underlying110 rfl rfl Tryz.sizeOf22 rfl) S ?_
  refine rt 13 (.slice ae72Need (((s.qg[i]!).qV).length) ce72Need) (xw Tryz.isAgg22 rfl (fun _ h => h.xZ 6 rfl 2 rfl)) S ?_
  refine rtp 14 (.slice (aa b36 o37) counts.length ccounts) S ?_
  refine rtp 15 (.int .i64 i) S ?_
  refine rt 16 (pp b36 (o37 + (i : Int).toNat * 1)) (xQ b36 (o37) counts.length ccounts i Tryz.underlying22 ti2 rfl rfl (by omega) (by omega)) S ?_
  refine rt 17 (.int .i64 (counts[i]!)) (xw Tryz.isAgg2 rfl (fun _ h => h.je 11 rfl i (by omega) (by omega))) S ?_
  refine rt 18 (.int .i64 (-(counts[i]!))) (y_neg (counts[i]!) rfl (by omega)) S ?_
  refine xq [5] (by kernel_rfl) (by simp) (xX rfl ?_ xu)
  obtain ⟨a75, c76, G77, s78, h79, H⟩ := H.jF 0 rfl 7 rfl (iv := (s.qg[i]!).qA) (((s.qg[i]!).qA).toNat) (by omega) (by omega)
  refine qF (.slice a75 (((vz s t counts i)[((s.qg[i]!).qA).toNat]!).length) c76) Tryz.isAgg22 rfl (h79) ?_
  refine ⟨H.pick [1] [1, 2, 3, 4, 5, 6, 7, 8, 9, 10, 11, 12], ?_⟩
  refine xq [19] (by kernel_rfl) (by simp) (xX rfl ?_ xu)
  obtain ⟨u1, u2⟩ := restR_row (c := (s.qg[i]!).qA.toNat) p0 p1 p2 (show i ≤ _ by omega) qk
  have u3 := b1.len
  have u4 := b1.jW (t := -(counts[i]!)) (by omega)
  have sz80 := H.base.size
  have lt81 := H.ltN (L := [XL]) [8]
  refine xf #[.slice a75 (((vz s t counts i)[((s.qg[i]!).qA).toNat]!).length) c76, .slice ae72Need (((s.qg[i]!).qV).length) ce72Need, .int .i64 (-(counts[i]!))] rfl rfl Tryz.call88 (Xn w34.drew ((vz s t counts i)[((s.qg[i]!).qA).toNat]!) ((s.qg[i]!).qV) (-(counts[i]!)) a75 c76 G77 ae72Need ce72Need Fe72Need (H.get 0 rfl).1 (H.get 1 rfl).1 (by first | assumption | omega) (by first | assumption | omega) (by first | assumption | omega)) ?_
  rintro v85 w83 r85 x84
  replace H := H.zB x84 r85
  obtain ⟨a86, c87, rfl, hc88, hm89⟩ := H.jS 0 rfl
  refine ⟨H.pick [2] [1, 2, 3, 4, 5, 6, 7, 8, 9, 10, 11, 12], ?_⟩
  refine rt 20 (pp b74 (0 + ((s.qg[i]!).qA : Int).toNat * 1)) (xQ b74 (0) jK Qc ((s.qg[i]!).qA) Tryz.underlying27 ti22 rfl rfl (by omega) (by omega)) (H.pick [2] [1, 2, 3, 4, 5, 6, 7, 8, 9, 10, 11, 12]) ?_
  refine xq [21] (by kernel_rfl) (by simp) (xX rfl ?_ xu)
  obtain ⟨G91, N, hn92, H⟩ := H.yI 0 rfl N (H.X3 [8])
  try dsimp only [List.set] at H
  refine jq true H 1 rfl 9 rfl (.slice a86 ((jX ((vz s t counts i)[((s.qg[i]!).qA).toNat]!) ((s.qg[i]!).qV) (-(counts[i]!))).length) c87) 0 rfl rfl Tryz.sizeOf22 rfl rfl (i := (((s.qg[i]!).qA).toNat)) (by omega) (by omega) (by simp) fun w90 xs93 F94 hs95 H => ?_
  replace N : Fresh w.heap.size [F94] := (N.pick [1, 0]).repl hs95
  try dsimp only [List.set] at H
  refine ⟨H.pick [2] [3, 4, 5, 6, 7, 8, 9, 10, 11, 12, 13, 14], ?_⟩
  refine xM (by kernel_rfl) (b_n (t_n ?_))
  refine qB ?_
  refine sp (.int .i64 i) ?_
  refine sw (vw i 1 rfl rfl (by omega) ?_)
  refine sp (.int .i64 (i + 1)) ?_
  refine qy ?_
  refine xG (m' := (counts.length - ((i + 1) : Int)).toNat) (by omega) ⟨_, i + 1, ((vz s t counts i).set (((s.qg[i]!).qA).toNat) (jX ((vz s t counts i)[((s.qg[i]!).qA).toNat]!) ((s.qg[i]!).qV) (-(counts[i]!)))), xs93, F94, (by exact qj (qj (qj (qj (qj (rfl) rfl) rfl) rfl) rfl) rfl), ?_, ?_, ?_, rfl, N, H.pick [1, 2] [0, 11, 12, 13, 14]⟩
  · rfl
  · omega
  · exact i1.succ (fun h => by obtain ⟨u, v⟩ := h; first | omega | exact v (appl_true (by omega) ‹_›))
 replace h35 := of_decide_eq_false h35
 refine zT (t_x (t_x (b_x (t_n (qm (qm (qB ?_)))))))
 refine sp (.int .i64 0) ?_
 refine qy (t_n (xE ?_))
 refine zW (fun m' ρ w96 => ∃ (junk : Env) (c_1 : Nat), ρ = upd (upd junk 9 (.slice Q8 jK Qc)) 13 (.int .i64 c_1) ∧ ((c_1 : Int) ≤ jK) ∧ (NonNeg (vz s t counts i) c_1) ∧ m' = (jK - (c_1 : Int)).toNat ∧ Fresh w.heap.size [XL] ∧ St w w96 [.row (.slice Q8 jK Qc) 22 1 jK x_rest_1, .row (.slice ra1 ((appl s t).length) rc1) 4 1 ((appl s t).length) ((appl s t).map (Value.bool))] [jf true XL x_rest_1 (vz s t counts i)]) ((jK - (0 : Int)).toNat) ⟨_, 0, (by exact qj (qj (rfl) rfl) rfl), (by omega), (by exact fun j hj => by omega), rfl, N, H.pick [0, 1] [0]⟩ ?_
 clear H N
 rintro m' ρ w97 ⟨junk, c_1, rfl, i0, i2, rfl, N, H⟩
 refine qm (qm (qB ?_))
 refine sps [.int .i64 c_1, .slice Q8 jK Qc] ?_
 refine sw (zX Tryz.underlying27 Q8 jK Qc rfl ?_)
 refine sp (.bool (decide ((c_1 : Int) < jK))) ?_
 refine qy (t_n ?_)
 refine qZ (decide ((c_1 : Int) < jK)) rfl (fun h98 => ?_) (fun h98 => ?_)
 ·skip
  replace h98 := of_decide_eq_true h98
  have r1 := (restR_row (c := c_1) p0 p1 p2 (show i ≤ _ by omega) (show c_1 < jd s by omega)).1
  refine xx (t_n (qm (xE (qm (qB ?_)))))
  refine sp (.int .i64 0) ?_
  refine qy (t_n (xE ?_))
  refine zW (fun m' ρ w99 => ∃ (junk : Env) (k : Nat), ρ = upd (upd (upd junk 9 (.slice Q8 jK Qc)) 13 (.int .i64 c_1)) 14 (.int .i64 k) ∧ ((k : Int) ≤ (((vz s t counts i)[c_1]!).length)) ∧ (∀ j, j < k → 0 ≤ ((vz s t counts i)[c_1]!)[j]!) ∧ m' = ((((vz s t counts i)[c_1]!).length) - (k : Int)).toNat ∧ Fresh w.heap.size [XL] ∧ St w w99 [.row (.slice Q8 jK Qc) 22 1 jK x_rest_1, .row (.slice ra1 ((appl s t).length) rc1) 4 1 ((appl s t).length) ((appl s t).map (Value.bool))] [jf true XL x_rest_1 (vz s t counts i)]) (((((vz s t counts i)[c_1]!).length) - (0 : Int)).toNat) ⟨_, 0, (by exact qj (qj (qj (rfl) rfl) rfl) rfl), (by omega), (by exact fun j hj => by omega), rfl, N, H⟩ ?_
  clear H N
  rintro m' ρ w100 ⟨junk, k, rfl, i0, i3, rfl, N, H⟩
  refine qm (qm (qB ?_))
  refine sps [.int .i64 k, .slice Q8 jK Qc, .int .i64 c_1] ?_
  obtain ⟨b101, rfl⟩ := H.rowAddr 0 rfl (by omega)
  refine sw (xK c_1 Tryz.underlying27 ti22 rfl rfl (by omega) (by omega) ?_)
  obtain ⟨a102, c103, G104, s105, h106, H⟩ := H.jF 0 rfl 0 rfl (iv := c_1) c_1 (by omega) (by omega)
  refine sw (qF (.slice a102 (((vz s t counts i)[c_1]!).length) c103) Tryz.isAgg22 rfl (h106) ?_)
  refine sw (zX Tryz.underlying22 a102 (((vz s t counts i)[c_1]!).length) c103 rfl ?_)
  refine sp (.bool (decide ((k : Int) < (((vz s t counts i)[c_1]!).length)))) ?_
  refine qy (t_n ?_)
  refine qZ (decide ((k : Int) < (((vz s t counts i)[c_1]!).length))) rfl (fun h107 => ?_) (fun h107 => ?_)
  ·skip
   replace h107 := of_decide_eq_true h107
   refine xx (t_n (qm (xE (qm (qB ?_)))))
   refine sps [.slice (aa b101 0) jK Qc, .int .i64 c_1] ?_
   refine sw (xK c_1 Tryz.underlying27 ti22 rfl rfl (by omega) (by omega) ?_)
   obtain ⟨a108, c109, G110, s111, h112, H⟩ := H.jF 0 rfl 1 rfl (iv := c_1) c_1 (by omega) (by omega)
   refine sw (qF (.slice a108 (((vz s t counts i)[c_1]!).length) c109) Tryz.isAgg22 rfl (h112) ?_)
   refine sp (.int .i64 k) ?_
   obtain ⟨b113, o114, rfl⟩ := H.addr 0 rfl (by omega)
   refine sw (xK k Tryz.underlying22 ti2 rfl rfl (by omega) (by omega) ?_)
   refine sw (qF (.int .i64 (((vz s t counts i)[c_1]!)[k]!)) Tryz.isAgg2 rfl (H.je 0 rfl k (by omega) (by omega)) ?_)
   refine sp (.bool (decide ((((vz s t counts i)[c_1]!)[k]! : Int) < 0))) ?_
   refine qy (t_n ?_)
   refine qZ (decide ((((vz s t counts i)[c_1]!)[k]! : Int) < 0)) rfl (fun h116 => ?_) (fun h116 => ?_)
   ·skip
    replace h116 := of_decide_eq_true h116
    refine qm (qB ?_)
    refine sps [.slice (aa b101 0) jK Qc, .slice (aa b101 0) jK Qc, .bool false] ?_
    refine qy (t_n (xB (b_r (t_r (t_r (b_r (b_r (t_r (t_r (b_r (t_r ?_)))))))))))
    refine ret2 (.slice (aa b101 0) jK Qc) (.bool false) rfl rfl rfl ⟨_, rfl, ?_, H.base⟩
    obtain rfl : i = counts.length := by omega
    rw [stop_none (n := counts.length) i1, xy (fun h => by have := h.2 c_1 (by omega) k (by omega); omega)]
    exact ⟨(aa b101 0), jK, Qc, x_rest_1, XL, rfl, N, H.pick [0] [2]⟩
   replace h116 := of_decide_eq_false h116
   refine xx (b_n (t_n (qB ?_)))
   refine sp (.int .i64 k) ?_
   refine sw (vw k 1 rfl rfl (by omega) ?_)
   refine sp (.int .i64 (k + 1)) ?_
   refine qy ?_
   refine xG (m' := ((((vz s t counts i)[c_1]!).length) - ((k + 1) : Int)).toNat) (by omega) ⟨_, k + 1, (by exact qj (qj (qj (rfl) rfl) rfl) rfl), ?_, ?_, rfl, N, H.pick [0, 1] [2]⟩
   · omega
   · exact fun j hj => by (by_cases e : j = k; (subst e; omega); exact i3 j (by omega))
  replace h107 := of_decide_eq_false h107
  refine zT (t_x (t_x (b_x (b_n (t_n (qB ?_))))))
  refine sp (.int .i64 c_1) ?_
  refine sw (vw c_1 1 rfl rfl (by omega) ?_)
  refine sp (.int .i64 (c_1 + 1)) ?_
  refine qy ?_
  refine xG (m' := (jK - ((c_1 + 1) : Int)).toNat) (by omega) ⟨_, c_1 + 1, (by exact qj (qj (rfl) rfl) rfl), ?_, ?_, rfl, N, H.pick [0, 1] [1]⟩
  · omega
  · exact i2.succ (fun j hj => i3 j (by omega))
 replace h98 := of_decide_eq_false h98
 refine zT (t_x (t_x (b_x (t_n (qm (qB ?_))))))
 refine sps [.slice Q8 jK Qc, .slice Q8 jK Qc, .bool true] ?_
 refine qy (t_n (xB ?_))
 refine ret2 (.slice Q8 jK Qc) (.bool true) rfl rfl rfl ⟨_, rfl, ?_, H.base⟩
 obtain rfl : i = counts.length := by omega
 rw [stop_none (n := counts.length) i1, yY ⟨i1, (show c_1 = t.qp.length by omega) ▸ i2⟩]
 exact ⟨Q8, jK, Qc, x_rest_1, XL, rfl, N, H.pick [0] [0]⟩

end Go.Proofs.YtkmlihdacnfhdaaGreat
