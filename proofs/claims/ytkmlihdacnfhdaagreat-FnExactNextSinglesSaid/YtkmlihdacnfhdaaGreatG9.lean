/- Walks, printed by program (wip/tools/gv.py): what each function comes to, for all arguments. -/
import Derived.Test.YtkmlihdacnfhdaaGreatG5
import Derived.Test.YtkmlihdacnfhdaaGreatP6
namespace Go.Proofs.YtkmlihdacnfhdaaGreat
open Go.Proofs.YtkmlihdacnfhdaaGreat.Tot (tot)
open Go.Proofs.YtkmlihdacnfhdaaGreat.Mark (cnt mrk mkd mkd_mark cnt_mark)
open Go.RowKit
set_option linter.unusedVariables false
set_option linter.unusedSimpArgs false
set_option maxRecDepth 100000
set_option maxHeartbeats 4000000



theorem l00Max_ok (w : World) (a : Int) (b : Int) : Calls Tryz.prog 130 #[.int .i64 a, .int .i64 b] w (Ret (fun v w' => v = .int .i64 (max a b)) w) := by
 refine enter (n := 10) Tryz.func130 rfl Tryz.ntmps130 (Nat.le_of_ble_eq_true rfl) ?_
 have H := St.start w
 have N := Fresh.nil w.heap.size
 refine qm (qy ?_)
 refine sp (.int .i64 0) ?_
 refine qw (t_n (qm (qm (qy ?_))))
 refine sps [.int .i64 a, .int .i64 b, .bool (decide ((a : Int) > b))] ?_
 refine qw (t_n ?_)
 refine qV (decide ((a : Int) > b)) rfl (fun h1 => ?_) (fun h1 => ?_)
 ·skip
  replace h1 := of_decide_eq_true h1
  refine qm (qy ?_)
  refine sps [.int .i64 a, .int .i64 a] ?_
  refine qw (t_n (xx (t_r ?_)))
  refine ret1 (.int .i64 a) rfl rfl ⟨_, rfl, ?_, H.base⟩
  refine congrArg (Value.int .i64) ?_
  omega
 replace h1 := of_decide_eq_false h1
 refine xh (t_n (qm (qy ?_)))
 refine sps [.int .i64 b, .int .i64 b] ?_
 refine qw (t_n (xx ?_))
 refine ret1 (.int .i64 b) rfl rfl ⟨_, rfl, ?_, H.base⟩
 refine congrArg (Value.int .i64) ?_
 omega

theorem l01Within_ok (w : World) (l : List Int) (m : List Int) (al : Option Addr) (cl : Nat) (Fl : List Nat) (am : Option Addr) (cm : Nat) (Fm : List Nat) (hl : qQ.rep w Fl [.slice al l.length cl] l) (hm : qQ.rep w Fm [.slice am m.length cm] m) (p0 : l.length ≤ m.length) : Calls Tryz.prog 121 #[.slice al l.length cl, .slice am m.length cm] w (Ret (fun v w' => v = .bool (within l m)) w) := by
 refine enter (n := 21) Tryz.func121 rfl Tryz.ntmps121 (Nat.le_of_ble_eq_true rfl) ?_
 have H := ((St.start w).arg hm).arg hl
 have nhl := qJ hl
 have nhm := qJ hm
 clear hl hm
 have N := Fresh.nil w.heap.size
 refine qm (qy ?_)
 refine sp (.bool false) ?_
 refine qw (t_n (qm (qm (qy ?_))))
 refine sp (.int .i64 0) ?_
 refine qw (t_n (xu ?_))
 refine zG (fun m' ρ w1 => ∃ (junk : Env) (i : Nat), ρ = upd (upd (upd junk 0 (.slice al l.length cl)) 1 (.slice am m.length cm)) 5 (.int .i64 i) ∧ ((i : Int) ≤ l.length) ∧ (withinTo l m i) ∧ m' = (l.length - (i : Int)).toNat ∧ Fresh w.heap.size [] ∧ St w w1 [] [isF false Fl (.slice al l.length cl) l, isF false Fm (.slice am m.length cm) m]) ((l.length - (0 : Int)).toNat) ⟨_, 0, (by exact qj (qj (qj (rfl) rfl) rfl) rfl), (by omega), (by exact withinTo_zero l m), rfl, N, H⟩ ?_
 clear H N
 rintro m' ρ w2 ⟨junk, i, rfl, i0, i1, rfl, N, H⟩
 refine qm (qm (qy ?_))
 refine sps [.int .i64 i, .slice al l.length cl] ?_
 refine sw (zD Tryz.underlying22 al l.length cl rfl ?_)
 refine sp (.bool (decide ((i : Int) < l.length))) ?_
 refine qw (t_n ?_)
 refine qV (decide ((i : Int) < l.length)) rfl (fun h3 => ?_) (fun h3 => ?_)
 ·skip
  replace h3 := of_decide_eq_true h3
  refine xh (t_n (qm (xu (qm ?_))))
  refine jk rfl H fun H => ?_
  refine rtp 0 (.slice al l.length cl) H ?_
  refine rtp 1 (.int .i64 i) H ?_
  obtain ⟨b5, o6, rfl⟩ := H.addr 0 rfl (by omega)
  refine rt 2 (pp b5 (o6 + (i : Int).toNat * 1)) (xN b5 (o6) l.length cl i Tryz.underlying22 ti2 rfl rfl (by omega) (by omega)) H ?_
  refine rt 3 (.int .i64 (l[i]!)) (xm Tryz.isAgg2 rfl (fun _ h => h.vP 0 rfl i (by omega) (by omega))) H ?_
  refine rtp 4 (.slice am m.length cm) H ?_
  refine rtp 5 (.int .i64 i) H ?_
  obtain ⟨b8, o9, rfl⟩ := H.addr 1 rfl (by omega)
  refine rt 6 (pp b8 (o9 + (i : Int).toNat * 1)) (xN b8 (o9) m.length cm i Tryz.underlying22 ti2 rfl rfl (by omega) (by omega)) H ?_
  refine rt 7 (.int .i64 (m[i]!)) (xm Tryz.isAgg2 rfl (fun _ h => h.vP 1 rfl i (by omega) (by omega))) H ?_
  refine rtp 8 (.bool (decide ((l[i]! : Int) > (m[i]!)))) H ?_
  refine xO (by kernel_rfl) (t_n ?_)
  refine qV (decide ((l[i]! : Int) > (m[i]!))) rfl (fun h11 => ?_) (fun h11 => ?_)
  ·skip
   replace h11 := of_decide_eq_true h11
   refine qm (qy ?_)
   refine sp (.bool false) ?_
   refine qw (t_n (xx (b_r (t_r (t_r (b_r (t_r ?_)))))))
   refine ret1 (.bool false) rfl rfl ⟨_, rfl, ?_, H.base⟩
   rw [within_no (k := i) ‹_› (by omega)]
  replace h11 := of_decide_eq_false h11
  refine xh (b_n (t_n (qy ?_)))
  refine sp (.int .i64 i) ?_
  refine sw (zJ i 1 rfl rfl (by omega) ?_)
  refine sp (.int .i64 (i + 1)) ?_
  refine qw ?_
  refine xF (m' := (l.length - ((i + 1) : Int)).toNat) (by omega) ⟨_, i + 1, (by exact qj (qj (qj (rfl) rfl) rfl) rfl), ?_, ?_, rfl, N, H⟩
  · omega
  · exact withinTo_succ ‹_› (by omega)
 replace h3 := of_decide_eq_false h3
 refine zy (t_x (t_x (b_x (t_n (qm (qy ?_))))))
 refine sp (.bool true) ?_
 refine qw (t_n (xx ?_))
 refine ret1 (.bool true) rfl rfl ⟨_, rfl, ?_, H.base⟩
 rw [within_yes ‹_› (by omega)]

theorem l03Both_ok (w : World) (s : qU) (t : qP) (bs os : Nat) (qp : Option Addr) (qo : Nat) (qO : List Nat) (qF : Option Addr) (qC : Nat) (xq : List Nat) (bt ot : Nat) (qN : Option Addr) (qH : Nat) (xK : List Nat) (xG : Option Addr) (xy : Nat) (zk : List Nat) (qL : Option Addr) (qK : Nat) (xH : List Nat) (hs : vz w bs os [.int .i64 s.qI, .slice qp s.qf.length qo, .slice qF s.qg.length qC]) (xn : qQ.rep w qO [.slice qp s.qf.length qo] s.qf) (xM : qQ.rep w xq [.slice qF s.qg.length qC] s.qg) (ht : vz w bt ot [.slice qN t.qh.length qH, .slice xG t.qx.length xy, .slice qL t.ql.length qK]) (zl : qQ.rep w xK [.slice qN t.qh.length qH] t.qh) (zV : qQ.rep w zk [.slice xG t.qx.length xy] t.qx) (xX : qQ.rep w xH [.slice qL t.ql.length qK] t.ql) : Calls Tryz.prog 60 #[pp bs os, pp bt ot] w (Ret (fun v w' => v = .bool (dec (Qb s ∧ zM s t))) w) := by
 refine enter (n := 12) Tryz.func60 rfl Tryz.ntmps60 (Nat.le_of_ble_eq_true rfl) ?_
 have H := (((((((St.start w).arg xX).arg zV).arg zl).argAt ht).arg xM).arg xn).argAt hs
 have vk := qJ xn
 have jr := qJ xM
 have QX := qJ zl
 have XH := qJ zV
 have yZ := qJ xX
 clear hs xn xM ht zl zV xX
 have N := Fresh.nil w.heap.size
 refine qm (qy ?_)
 refine sp (.bool false) ?_
 refine qw (t_n (qm (qy ?_)))
 refine sp (pp bs os) ?_
 refine sw (xf #[pp bs os] rfl rfl Tryz.call41 (l02Ok_ok w s bs os qp qo qO qF qC xq (qG (H.get 0 rfl) 0 3) (H.get 1 rfl).1 (H.get 2 rfl).1) ?_)
 rintro _ w1 rfl x2
 replace H := H.ext x2
 refine sp (.bool (dec (Qb s))) ?_
 cases h3 : (dec (Qb s))
 ·skip
  replace h3 := zg h3
  refine xY [8, 9, 10] ?_
  refine sps [.bool false, .bool false] ?_
  refine qw (t_n (xx ?_))
  refine ret1 (.bool false) rfl rfl ⟨_, rfl, ?_, H.base⟩
  rw [xA (fun h => ‹¬ Qb s› h.1)]
 replace h3 := jA h3
 refine qR 7 rfl rfl ?_
 refine sp (pp bs os) ?_
 refine qR 7 rfl rfl ?_
 refine sp (pp bt ot) ?_
 refine qR 7 rfl rfl ?_
 refine sw (xf #[pp bs os, pp bt ot] rfl rfl Tryz.call85 (l02State_ok w1 s t bs os qp qo qO qF qC xq bt ot qN qH xK xG xy zk qL qK xH (qG (H.get 0 rfl) 0 3) (H.get 1 rfl).1 (H.get 2 rfl).1 (qG (H.get 3 rfl) 0 3) (H.get 4 rfl).1 (H.get 5 rfl).1 (H.get 6 rfl).1 (by first | assumption | exact (And.left (by assumption : Qb _)))) ?_)
 rintro _ w4 rfl x5
 replace H := H.ext x5
 refine sps [.bool (dec (zM s t)), .bool (dec (zM s t))] ?_
 refine qw (t_n (xx ?_))
 refine ret1 (.bool (dec (zM s t))) rfl rfl ⟨_, rfl, ?_, H.base⟩
 refine congrArg Value.bool (dec_eq ?_)
 first | exact ⟨fun h => ⟨‹_›, jA h⟩, fun h => yU h.2⟩ | (simp_all; done)

theorem l03Enabled_ok (w : World) (s : qU) (t : qP) (r : QB) (bs os : Nat) (qp : Option Addr) (qo : Nat) (qO : List Nat) (qF : Option Addr) (qC : Nat) (xq : List Nat) (bt ot : Nat) (qN : Option Addr) (qH : Nat) (xK : List Nat) (xG : Option Addr) (xy : Nat) (zk : List Nat) (qL : Option Addr) (qK : Nat) (xH : List Nat) (br or : Nat) (ve : Option Addr) (zZ : Nat) (QZ : List Nat) (vV : Option Addr) (vU : Nat) (Xu : List Nat) (vJ : Option Addr) (vI : Nat) (Xj : List Nat) (jf : Option Addr) (je : Nat) (XL : List Nat) (Qp : Option Addr) (Qo : Nat) (FrOut : List Nat) (zN : Option Addr) (zI : Nat) (FrInto : List Nat) (hs : vz w bs os [.int .i64 s.qI, .slice qp s.qf.length qo, .slice qF s.qg.length qC]) (xn : qQ.rep w qO [.slice qp s.qf.length qo] s.qf) (xM : qQ.rep w xq [.slice qF s.qg.length qC] s.qg) (ht : vz w bt ot [.slice qN t.qh.length qH, .slice xG t.qx.length xy, .slice qL t.ql.length qK]) (zl : qQ.rep w xK [.slice qN t.qh.length qH] t.qh) (zV : qQ.rep w zk [.slice xG t.qx.length xy] t.qx) (xX : qQ.rep w xH [.slice qL t.ql.length qK] t.ql) (hr : vz w br or [.int .i64 r.qA, .int .i64 r.xZ, .slice ve r.qW.length zZ, .slice vV r.xg.length vU, .slice vJ r.xk.length vI, .slice jf r.xw.length je, .slice Qp r.zf.length Qo, .slice zN r.qB.length zI, .bool r.xP]) (hrNeed : qQ.rep w QZ [.slice ve r.qW.length zZ] r.qW) (hrHave : qQ.rep w Xu [.slice vV r.xg.length vU] r.xg) (hrLack : qQ.rep w Xj [.slice vJ r.xk.length vI] r.xk) (hrHere : qQ.rep w XL [.slice jf r.xw.length je] r.xw) (hrOut : qQ.rep w FrOut [.slice Qp r.zf.length Qo] r.zf) (hrInto : qQ.rep w FrInto [.slice zN r.qB.length zI] r.qB) (p0 : Qb s) (p1 : zM s t) (p2 : RuleOk s r) : Calls Tryz.prog 129 #[pp bs os, pp bt ot, pp br or] w (Ret (fun v w' => v = .bool (dec (EnOk s t r))) w) := by
 refine enter (n := 99) Tryz.func129 rfl Tryz.ntmps129 (Nat.le_of_ble_eq_true rfl) ?_
 have H := ((((((((((((((St.start w).arg hrInto).arg hrOut).arg hrHere).arg hrLack).arg hrHave).arg hrNeed).argAt hr).arg xX).arg zV).arg zl).argAt ht).arg xM).arg xn).argAt hs
 have vk := qJ xn
 have jr := qJ xM
 have QX := qJ zl
 have XH := qJ zV
 have yZ := qJ xX
 have nhrNeed := qJ hrNeed
 have nhrHave := qJ hrHave
 have nhrLack := qJ hrLack
 have nhrHere := qJ hrHere
 have nhrOut := qJ hrOut
 have nhrInto := qJ hrInto
 clear hs xn xM ht zl zV xX hr hrNeed hrHave hrLack hrHere hrOut hrInto
 have N := Fresh.nil w.heap.size
 have p3 := p2.1
 have p4 := p1.1
 have p5 := p1.2.1
 have p6 := (p1.bagLen (k := r.qA.toNat) (by omega)).len
 have p7 := p2.2.2.2.2.1.len
 have p8 := p2.2.2.2.2.2.1.len
 have p9 := p2.2.2.2.2.2.2.1.len
 have p10 := jd p2.2.2.2.2.2.2.1
 have p11 := p0.1
 have p12 := p2.2.2.2.2.2.2.2.2.2.2
 refine qm (qy ?_)
 refine sp (.bool false) ?_
 refine qw (t_n (qm (qm ?_)))
 refine jk rfl H fun H => ?_
 refine rtp 0 (pp bt ot) H ?_
 refine rtp 1 (pp bt ot) H ?_
 refine rt 2 (pp bt (ot + 0)) (xE bt (ot) 0 Tryz.underlying38 rfl rfl Tryz.sizeOf26 rfl) H ?_
 refine rt 3 (.slice qN t.qh.length qH) (xm Tryz.isAgg26 rfl (fun _ h => h.xR 3 rfl 0 rfl)) H ?_
 refine rtp 4 (pp br or) H ?_
 refine rtp 5 (pp br or) H ?_
 refine rt 6 (pp br (or + 0)) (xE br (or) 0 Tryz.underlying110 rfl rfl Tryz.sizeOf2 rfl) H ?_
 refine rt 7 (.int .i64 r.qA) (xm Tryz.isAgg2 rfl (fun _ h => h.xR 7 rfl 0 rfl)) H ?_
 obtain ⟨b2, o3, rfl⟩ := H.addr 4 rfl (by omega)
 refine rt 8 (pp b2 (o3 + (r.qA : Int).toNat * 1)) (xN b2 (o3) t.qh.length qH r.qA Tryz.underlying26 ti4 rfl rfl (by omega) (by omega)) H ?_
 refine rt 9 (.bool (t.qh[r.qA.toNat]!)) (xm Tryz.isAgg4 rfl (fun _ h => h.Qg 4 rfl r.qA (by omega) (by omega))) H ?_
 refine rtp 10 (.bool (!(t.qh[r.qA.toNat]!))) H ?_
 refine xO (by kernel_rfl) (t_n ?_)
 refine qV (!(t.qh[r.qA.toNat]!)) rfl (fun h5 => ?_) (fun h5 => ?_)
 ·skip
  replace h5 := xe h5
  refine qm (qy ?_)
  refine sp (.bool false) ?_
  refine qw (t_n (xx (t_r ?_)))
  refine ret1 (.bool false) rfl rfl ⟨_, rfl, ?_, H.base⟩
  rw [xA (fun h => by obtain ⟨h1, h2, h3, h4, h5⟩ := h; first | exact ft h1 ‹_› | exact ft h2 ‹_› | exact ft h3 ‹_› | exact h4 ⟨‹_›, ‹_›⟩ | (obtain ⟨q1, q2⟩ := h5 i (by omega); first | exact ft q1 ‹_› | exact absurd q2 ‹_›))]
 replace h5 := qX h5
 refine xh (t_n (qm ?_))
 refine jk rfl H fun H => ?_
 refine rtp 0 (pp bt ot) H ?_
 refine rtp 1 (pp bt ot) H ?_
 refine rt 2 (pp bt (ot + 1)) (xE bt (ot) 1 Tryz.underlying38 rfl rfl Tryz.sizeOf27 rfl) H ?_
 refine rt 3 (.slice xG t.qx.length xy) (xm Tryz.isAgg27 rfl (fun _ h => h.xR 3 rfl 1 rfl)) H ?_
 refine rtp 4 (pp br or) H ?_
 refine rtp 5 (pp br or) H ?_
 refine rt 6 (pp br (or + 0)) (xE br (or) 0 Tryz.underlying110 rfl rfl Tryz.sizeOf2 rfl) H ?_
 refine rt 7 (.int .i64 r.qA) (xm Tryz.isAgg2 rfl (fun _ h => h.xR 7 rfl 0 rfl)) H ?_
 obtain ⟨b7, o8, rfl⟩ := H.addr 5 rfl (by omega)
 obtain ⟨ae10, ce10, Fe10, H⟩ := H.jC 5 rfl r.qA r.qA.toNat (by omega) (by omega) (by omega)
 refine rt 8 (pp b7 (o8 + (r.qA : Int).toNat * 1)) (xN b7 (o8) t.qx.length xy r.qA Tryz.underlying27 ti22 rfl rfl (by omega) (by omega)) (H.pick [] [2, 3, 4, 5, 6, 7, 8, 9, 10, 11, 12, 13, 14, 15]) ?_
 refine xB [9] (by kernel_rfl) (by simp) (zh rfl ?_ xC)
 refine qE (.slice ae10 ((t.qx[r.qA.toNat]!).length) ce10) Tryz.isAgg22 rfl (H.xR 1 rfl 0 rfl) ?_
 refine ⟨H.pick [] [2, 3, 4, 5, 6, 7, 8, 9, 10, 11, 12, 13, 14, 15], ?_⟩
 refine rtp 10 (.slice ae10 ((t.qx[r.qA.toNat]!).length) ce10) (H.pick [] [2, 3, 4, 5, 6, 7, 8, 9, 10, 11, 12, 13, 14, 15]) ?_
 refine xO (by kernel_rfl) (t_n ?_)
 refine qm (qm (qy ?_))
 refine sps [pp br or, pp br or] ?_
 refine sw (qM br (or) 2 Tryz.underlying110 rfl rfl Tryz.sizeOf22 rfl ?_)
 refine sw (qE (.slice ve r.qW.length zZ) Tryz.isAgg22 rfl (H.xR 9 rfl 2 rfl) ?_)
 refine sp (.slice ae10 ((t.qx[r.qA.toNat]!).length) ce10) ?_
 refine sw (xf #[.slice ve r.qW.length zZ, .slice ae10 ((t.qx[r.qA.toNat]!).length) ce10] rfl rfl Tryz.call121 (l01Within_ok w.drew.drew r.qW (t.qx[r.qA.toNat]!) ve zZ QZ ae10 ce10 Fe10 (H.get 10 rfl).1 (H.get 0 rfl).1 (by first | assumption | omega)) ?_)
 rintro _ w12 rfl x13
 replace H := H.ext x13
 refine sps [.bool (!(within r.qW (t.qx[r.qA.toNat]!))), .bool (!(within r.qW (t.qx[r.qA.toNat]!)))] ?_
 cases h14 : (!(within r.qW (t.qx[r.qA.toNat]!)))
 ·skip
  replace h14 := qX h14
  refine qR 38 rfl rfl ?_
  refine sp (pp br or) ?_
  refine qR 38 rfl rfl ?_
  refine sp (pp br or) ?_
  refine qR 38 rfl rfl ?_
  refine sw (qM br (or) 3 Tryz.underlying110 rfl rfl Tryz.sizeOf22 rfl ?_)
  refine qR 38 rfl rfl ?_
  refine sw (qE (.slice vV r.xg.length vU) Tryz.isAgg22 rfl (H.xR 9 rfl 3 rfl) ?_)
  refine qR 38 rfl rfl ?_
  refine sp (.slice ae10 ((t.qx[r.qA.toNat]!).length) ce10) ?_
  refine qR 38 rfl rfl ?_
  refine sw (xf #[.slice vV r.xg.length vU, .slice ae10 ((t.qx[r.qA.toNat]!).length) ce10] rfl rfl Tryz.call121 (l01Within_ok w12 r.xg (t.qx[r.qA.toNat]!) vV vU Xu ae10 ce10 Fe10 (H.get 11 rfl).1 (H.get 0 rfl).1 (by first | assumption | omega)) ?_)
  rintro _ w16 rfl x17
  replace H := H.ext x17
  refine qR 38 rfl rfl ?_
  refine sps [.bool (!(within r.xg (t.qx[r.qA.toNat]!))), .bool (!(within r.xg (t.qx[r.qA.toNat]!))), .bool (!(within r.xg (t.qx[r.qA.toNat]!)))] ?_
  cases h18 : (!(within r.xg (t.qx[r.qA.toNat]!)))
  ·skip
   replace h18 := qX h18
   refine qR 47 rfl rfl ?_
   refine sp (pp br or) ?_
   refine qR 47 rfl rfl ?_
   refine sp (pp br or) ?_
   refine qR 47 rfl rfl ?_
   refine sw (qM br (or) 4 Tryz.underlying110 rfl rfl Tryz.sizeOf22 rfl ?_)
   refine qR 47 rfl rfl ?_
   refine sw (qE (.slice vJ r.xk.length vI) Tryz.isAgg22 rfl (H.xR 9 rfl 4 rfl) ?_)
   refine qR 47 rfl rfl ?_
   refine sw (xf #[.slice vJ r.xk.length vI] rfl rfl Tryz.call137 (l01Size_ok w16 r.xk vJ vI Xj (H.get 12 rfl).1 (by first | assumption | exact jd (by assumption) | exact Xh (by assumption))) ?_)
   rintro _ w19 rfl x20
   replace H := H.ext x20
   refine qR 47 rfl rfl ?_
   refine sp (.bool (decide ((sumL r.xk : Int) > 0))) ?_
   refine qR 47 rfl rfl ?_
   refine sp (.bool (decide ((sumL r.xk : Int) > 0))) ?_
   cases h21 : (decide ((sumL r.xk : Int) > 0))
   ·skip
    replace h21 := of_decide_eq_false h21
    refine xY [55, 56, 57, 58, 59, 60] ?_
    refine qR 47 rfl rfl ?_
    refine sps [.bool false, .bool false] ?_
    refine qw (t_n ?_)
    refine qV false rfl (fun h => absurd h (by decide)) (fun _ => ?_)
    refine xh (t_n (qm (qm (qy ?_))))
    refine sp (.int .i64 0) ?_
    refine qw (t_n (xu ?_))
    refine zG (fun m' ρ w22 => ∃ (junk : Env) (i : Nat), ρ = upd (upd (upd (upd junk 0 (pp bs os)) 1 (pp bt ot)) 2 (pp br or)) 8 (.int .i64 i) ∧ ((i : Int) ≤ r.qB.length) ∧ (IntoUp s t r i) ∧ m' = (r.qB.length - (i : Int)).toNat ∧ Fresh w.heap.size [] ∧ St w w22 [] [isF false Fe10 (.slice ae10 ((t.qx[r.qA.toNat]!).length) ce10) (t.qx[r.qA.toNat]!), atF b7 (o8 + (r.qA : Int).toNat * 1) [.slice ae10 ((t.qx[r.qA.toNat]!).length) ce10], atF bs os [.int .i64 s.qI, .slice qp s.qf.length qo, .slice qF s.qg.length qC], isF false qO (.slice qp s.qf.length qo) s.qf, isF false xq (.slice qF s.qg.length qC) s.qg, atF bt ot [.slice (aa b2 o3) t.qh.length qH, .slice (aa b7 o8) t.qx.length xy, .slice qL t.ql.length qK], isF false xK (.slice (aa b2 o3) t.qh.length qH) t.qh, isF false zk (.slice (aa b7 o8) t.qx.length xy) t.qx, isF false xH (.slice qL t.ql.length qK) t.ql, atF br or [.int .i64 r.qA, .int .i64 r.xZ, .slice ve r.qW.length zZ, .slice vV r.xg.length vU, .slice vJ r.xk.length vI, .slice jf r.xw.length je, .slice Qp r.zf.length Qo, .slice zN r.qB.length zI, .bool r.xP], isF false QZ (.slice ve r.qW.length zZ) r.qW, isF false Xu (.slice vV r.xg.length vU) r.xg, isF false Xj (.slice vJ r.xk.length vI) r.xk, isF false XL (.slice jf r.xw.length je) r.xw, isF false FrOut (.slice Qp r.zf.length Qo) r.zf, isF false FrInto (.slice zN r.qB.length zI) r.qB]) ((r.qB.length - (0 : Int)).toNat) ⟨_, 0, (by exact qj (qj (qj (qj (rfl) rfl) rfl) rfl) rfl), (by omega), (by exact fun j hj => by omega), rfl, N, H⟩ ?_
    clear H N
    rintro m' ρ w23 ⟨junk, i, rfl, i0, i1, rfl, N, H⟩
    refine qm (qm (qy ?_))
    refine sps [.int .i64 i, pp br or, pp br or] ?_
    refine sw (qM br (or) 7 Tryz.underlying110 rfl rfl Tryz.sizeOf108 rfl ?_)
    refine sw (qE (.slice zN r.qB.length zI) Tryz.isAgg108 rfl (H.xR 9 rfl 7 rfl) ?_)
    refine sw (zD Tryz.underlying108 zN r.qB.length zI rfl ?_)
    refine sp (.bool (decide ((i : Int) < r.qB.length))) ?_
    refine qw (t_n ?_)
    refine qV (decide ((i : Int) < r.qB.length)) rfl (fun h24 => ?_) (fun h24 => ?_)
    ·skip
     replace h24 := of_decide_eq_true h24
     have q := (p12 i (by omega)).1
     have q1 := q.1
     have q2 := q.2
     refine xh (t_n (qm (xu (qm (qy ?_)))))
     refine sps [pp br or, pp br or] ?_
     refine sw (qM br (or) 7 Tryz.underlying110 rfl rfl Tryz.sizeOf108 rfl ?_)
     refine sw (qE (.slice zN r.qB.length zI) Tryz.isAgg108 rfl (H.xR 9 rfl 7 rfl) ?_)
     refine sp (.int .i64 i) ?_
     obtain ⟨b25, o26, rfl⟩ := H.addr 15 rfl (by omega)
     obtain ⟨ae28Bag, ce28Bag, Fe28Bag, H⟩ := H.jl 15 rfl i i (by omega) (by omega) (by omega)
     refine sw (xJ i Tryz.underlying108 ti115 rfl rfl (by omega) (by omega) ?_)
     refine sw (qM b25 (o26 + (i : Int).toNat * 2) 0 Tryz.underlying115 rfl rfl Tryz.sizeOf2 rfl ?_)
     refine sw (qE (.int .i64 ((r.qB[i]!).qA)) Tryz.isAgg2 rfl (H.xR 1 rfl 0 rfl) ?_)
     refine sp (.int .i64 ((r.qB[i]!).qA)) ?_
     refine qw (t_n (qm ?_))
     refine jk rfl H fun H => ?_
     refine rtp 0 (pp bt ot) H ?_
     refine rtp 1 (pp bt ot) H ?_
     refine rt 2 (pp bt (ot + 0)) (xE bt (ot) 0 Tryz.underlying38 rfl rfl Tryz.sizeOf26 rfl) H ?_
     refine rt 3 (.slice (aa b2 o3) t.qh.length qH) (xm Tryz.isAgg26 rfl (fun _ h => h.xR 7 rfl 0 rfl)) H ?_
     refine rtp 4 (.int .i64 ((r.qB[i]!).qA)) H ?_
     refine rt 5 (pp b2 (o3 + ((r.qB[i]!).qA : Int).toNat * 1)) (xN b2 (o3) t.qh.length qH ((r.qB[i]!).qA) Tryz.underlying26 ti4 rfl rfl (by omega) (by omega)) H ?_
     refine rt 6 (.bool (t.qh[((r.qB[i]!).qA).toNat]!)) (xm Tryz.isAgg4 rfl (fun _ h => h.Qg 8 rfl ((r.qB[i]!).qA) (by omega) (by omega))) H ?_
     refine rtp 7 (.bool (!(t.qh[((r.qB[i]!).qA).toNat]!))) H ?_
     refine rtp 8 (.bool (!(t.qh[((r.qB[i]!).qA).toNat]!))) H ?_
     cases h30 : (!(t.qh[((r.qB[i]!).qA).toNat]!))
     ·skip
      replace h30 := qX h30
      refine rgp 9 (pp bs os) 88 H ?_
      refine rgp 10 (pp bt ot) 88 H ?_
      refine rgp 11 (.int .i64 ((r.qB[i]!).qA)) 88 H ?_
      refine rgp 13 (pp br or) 88 H ?_
      refine rgp 14 (pp br or) 88 H ?_
      refine rg 15 (pp br (or + 0)) 88 (xE br (or) 0 Tryz.underlying110 rfl rfl Tryz.sizeOf2 rfl) H ?_
      refine rg 16 (.int .i64 r.qA) 88 (xm Tryz.isAgg2 rfl (fun _ h => h.xR 11 rfl 0 rfl)) H ?_
      refine xB [12] (by kernel_rfl) (by simp) (r_opG rfl (e := 88) rfl rfl ?_ xC)
      refine xf #[pp bs os, pp bt ot, .int .i64 ((r.qB[i]!).qA)] rfl rfl Tryz.call107 (l02Parent_ok w23.drew s t ((r.qB[i]!).qA) bs os qp qo qO qF qC xq bt ot (aa b2 o3) qH xK (aa b7 o8) xy zk qL qK xH (qG (H.get 4 rfl) 0 3) (H.get 5 rfl).1 (H.get 6 rfl).1 (qG (H.get 7 rfl) 0 3) (H.get 8 rfl).1 (H.get 9 rfl).1 (H.get 10 rfl).1 (by assumption) (by assumption) (by assumption)) ?_
      rintro _ w31 rfl x32
      replace H := H.ext x32
      refine ⟨H, ?_⟩
      refine rgp 17 (.bool ((qZ s t ((r.qB[i]!).qA) : Int) != r.qA)) 88 H ?_
      refine rtp 18 (.bool ((qZ s t ((r.qB[i]!).qA) : Int) != r.qA)) H ?_
      refine xO (by kernel_rfl) (t_n ?_)
      refine qV ((qZ s t ((r.qB[i]!).qA) : Int) != r.qA) rfl (fun h33 => ?_) (fun h33 => ?_)
      ·skip
       replace h33 := bne_iff_ne.1 h33
       refine qm (qy ?_)
       refine sp (.bool false) ?_
       refine qw (t_n (xx (b_r (t_r (t_r (b_r (t_r ?_)))))))
       refine ret1 (.bool false) rfl rfl ⟨_, rfl, ?_, H.base⟩
       rw [xA (fun h => by obtain ⟨h1, h2, h3, h4, h5⟩ := h; first | exact ft h1 ‹_› | exact ft h2 ‹_› | exact ft h3 ‹_› | exact h4 ⟨‹_›, ‹_›⟩ | (obtain ⟨q1, q2⟩ := h5 i (by omega); first | exact ft q1 ‹_› | exact absurd q2 ‹_›))]
      replace h33 := xI h33
      refine xh (b_n (t_n (qy ?_)))
      refine sp (.int .i64 i) ?_
      refine sw (zJ i 1 rfl rfl (by omega) ?_)
      refine sp (.int .i64 (i + 1)) ?_
      refine qw ?_
      refine xF (m' := (r.qB.length - ((i + 1) : Int)).toNat) (by omega) ⟨_, i + 1, (by exact qj (qj (qj (qj (rfl) rfl) rfl) rfl) rfl), ?_, ?_, rfl, N, H.pick [] [2, 3, 4, 5, 6, 7, 8, 9, 10, 11, 12, 13, 14, 15, 16, 17]⟩
      · omega
      · exact i1.succ ‹_› ‹_›
     replace h30 := xe h30
     refine zC [9, 10, 11, 12, 13, 14, 15, 16, 17] 9 (H) ?_
     refine rtp 18 (.bool true) H ?_
     refine xO (by kernel_rfl) (t_n ?_)
     refine qV true rfl (fun _ => ?_) (fun h => absurd h (by decide))
     refine qm (qy ?_)
     refine sp (.bool false) ?_
     refine qw (t_n (xx (b_r (t_r (t_r (b_r (t_r ?_)))))))
     refine ret1 (.bool false) rfl rfl ⟨_, rfl, ?_, H.base⟩
     rw [xA (fun h => by obtain ⟨h1, h2, h3, h4, h5⟩ := h; first | exact ft h1 ‹_› | exact ft h2 ‹_› | exact ft h3 ‹_› | exact h4 ⟨‹_›, ‹_›⟩ | (obtain ⟨q1, q2⟩ := h5 i (by omega); first | exact ft q1 ‹_› | exact absurd q2 ‹_›))]
    replace h24 := of_decide_eq_false h24
    refine zy (t_x (t_x (b_x (t_n (qm (qy ?_))))))
    refine sp (.bool true) ?_
    refine qw (t_n (xx ?_))
    refine ret1 (.bool true) rfl rfl ⟨_, rfl, ?_, H.base⟩
    rw [yU ⟨by assumption, by assumption, by assumption, fun ⟨u, v⟩ => by first | omega | exact ft v ‹_›, (show i = r.qB.length by omega) ▸ i1⟩]
   replace h21 := of_decide_eq_true h21
   refine qR 54 rfl rfl ?_
   refine sp (pp br or) ?_
   refine qR 54 rfl rfl ?_
   refine sp (pp br or) ?_
   refine qR 54 rfl rfl ?_
   refine sw (qM br (or) 4 Tryz.underlying110 rfl rfl Tryz.sizeOf22 rfl ?_)
   refine qR 54 rfl rfl ?_
   refine sw (qE (.slice vJ r.xk.length vI) Tryz.isAgg22 rfl (H.xR 9 rfl 4 rfl) ?_)
   refine qR 54 rfl rfl ?_
   refine sp (.slice ae10 ((t.qx[r.qA.toNat]!).length) ce10) ?_
   refine qR 54 rfl rfl ?_
   refine sw (xf #[.slice vJ r.xk.length vI, .slice ae10 ((t.qx[r.qA.toNat]!).length) ce10] rfl rfl Tryz.call121 (l01Within_ok w19 r.xk (t.qx[r.qA.toNat]!) vJ vI Xj ae10 ce10 Fe10 (H.get 12 rfl).1 (H.get 0 rfl).1 (by first | assumption | omega)) ?_)
   rintro _ w35 rfl x36
   replace H := H.ext x36
   refine qR 47 rfl rfl ?_
   refine sps [.bool (within r.xk (t.qx[r.qA.toNat]!)), .bool (within r.xk (t.qx[r.qA.toNat]!))] ?_
   refine qw (t_n ?_)
   refine qV (within r.xk (t.qx[r.qA.toNat]!)) rfl (fun h37 => ?_) (fun h37 => ?_)
   ·skip
    refine qm (qy ?_)
    refine sp (.bool false) ?_
    refine qw (t_n (xx (t_r ?_)))
    refine ret1 (.bool false) rfl rfl ⟨_, rfl, ?_, H.base⟩
    rw [xA (fun h => by obtain ⟨h1, h2, h3, h4, h5⟩ := h; first | exact ft h1 ‹_› | exact ft h2 ‹_› | exact ft h3 ‹_› | exact h4 ⟨‹_›, ‹_›⟩ | (obtain ⟨q1, q2⟩ := h5 i (by omega); first | exact ft q1 ‹_› | exact absurd q2 ‹_›))]
   refine xh (t_n (qm (qm (qy ?_))))
   refine sp (.int .i64 0) ?_
   refine qw (t_n (xu ?_))
   refine zG (fun m' ρ w38 => ∃ (junk : Env) (i : Nat), ρ = upd (upd (upd (upd junk 0 (pp bs os)) 1 (pp bt ot)) 2 (pp br or)) 8 (.int .i64 i) ∧ ((i : Int) ≤ r.qB.length) ∧ (IntoUp s t r i) ∧ m' = (r.qB.length - (i : Int)).toNat ∧ Fresh w.heap.size [] ∧ St w w38 [] [isF false Fe10 (.slice ae10 ((t.qx[r.qA.toNat]!).length) ce10) (t.qx[r.qA.toNat]!), atF b7 (o8 + (r.qA : Int).toNat * 1) [.slice ae10 ((t.qx[r.qA.toNat]!).length) ce10], atF bs os [.int .i64 s.qI, .slice qp s.qf.length qo, .slice qF s.qg.length qC], isF false qO (.slice qp s.qf.length qo) s.qf, isF false xq (.slice qF s.qg.length qC) s.qg, atF bt ot [.slice (aa b2 o3) t.qh.length qH, .slice (aa b7 o8) t.qx.length xy, .slice qL t.ql.length qK], isF false xK (.slice (aa b2 o3) t.qh.length qH) t.qh, isF false zk (.slice (aa b7 o8) t.qx.length xy) t.qx, isF false xH (.slice qL t.ql.length qK) t.ql, atF br or [.int .i64 r.qA, .int .i64 r.xZ, .slice ve r.qW.length zZ, .slice vV r.xg.length vU, .slice vJ r.xk.length vI, .slice jf r.xw.length je, .slice Qp r.zf.length Qo, .slice zN r.qB.length zI, .bool r.xP], isF false QZ (.slice ve r.qW.length zZ) r.qW, isF false Xu (.slice vV r.xg.length vU) r.xg, isF false Xj (.slice vJ r.xk.length vI) r.xk, isF false XL (.slice jf r.xw.length je) r.xw, isF false FrOut (.slice Qp r.zf.length Qo) r.zf, isF false FrInto (.slice zN r.qB.length zI) r.qB]) ((r.qB.length - (0 : Int)).toNat) ⟨_, 0, (by exact qj (qj (qj (qj (rfl) rfl) rfl) rfl) rfl), (by omega), (by exact fun j hj => by omega), rfl, N, H⟩ ?_
   clear H N
   rintro m' ρ w39 ⟨junk, i, rfl, i0, i1, rfl, N, H⟩
   refine qm (qm (qy ?_))
   refine sps [.int .i64 i, pp br or, pp br or] ?_
   refine sw (qM br (or) 7 Tryz.underlying110 rfl rfl Tryz.sizeOf108 rfl ?_)
   refine sw (qE (.slice zN r.qB.length zI) Tryz.isAgg108 rfl (H.xR 9 rfl 7 rfl) ?_)
   refine sw (zD Tryz.underlying108 zN r.qB.length zI rfl ?_)
   refine sp (.bool (decide ((i : Int) < r.qB.length))) ?_
   refine qw (t_n ?_)
   refine qV (decide ((i : Int) < r.qB.length)) rfl (fun h40 => ?_) (fun h40 => ?_)
   ·skip
    replace h40 := of_decide_eq_true h40
    have q := (p12 i (by omega)).1
    have q1 := q.1
    have q2 := q.2
    refine xh (t_n (qm (xu (qm (qy ?_)))))
    refine sps [pp br or, pp br or] ?_
    refine sw (qM br (or) 7 Tryz.underlying110 rfl rfl Tryz.sizeOf108 rfl ?_)
    refine sw (qE (.slice zN r.qB.length zI) Tryz.isAgg108 rfl (H.xR 9 rfl 7 rfl) ?_)
    refine sp (.int .i64 i) ?_
    obtain ⟨b41, o42, rfl⟩ := H.addr 15 rfl (by omega)
    obtain ⟨ae44Bag, ce44Bag, Fe44Bag, H⟩ := H.jl 15 rfl i i (by omega) (by omega) (by omega)
    refine sw (xJ i Tryz.underlying108 ti115 rfl rfl (by omega) (by omega) ?_)
    refine sw (qM b41 (o42 + (i : Int).toNat * 2) 0 Tryz.underlying115 rfl rfl Tryz.sizeOf2 rfl ?_)
    refine sw (qE (.int .i64 ((r.qB[i]!).qA)) Tryz.isAgg2 rfl (H.xR 1 rfl 0 rfl) ?_)
    refine sp (.int .i64 ((r.qB[i]!).qA)) ?_
    refine qw (t_n (qm ?_))
    refine jk rfl H fun H => ?_
    refine rtp 0 (pp bt ot) H ?_
    refine rtp 1 (pp bt ot) H ?_
    refine rt 2 (pp bt (ot + 0)) (xE bt (ot) 0 Tryz.underlying38 rfl rfl Tryz.sizeOf26 rfl) H ?_
    refine rt 3 (.slice (aa b2 o3) t.qh.length qH) (xm Tryz.isAgg26 rfl (fun _ h => h.xR 7 rfl 0 rfl)) H ?_
    refine rtp 4 (.int .i64 ((r.qB[i]!).qA)) H ?_
    refine rt 5 (pp b2 (o3 + ((r.qB[i]!).qA : Int).toNat * 1)) (xN b2 (o3) t.qh.length qH ((r.qB[i]!).qA) Tryz.underlying26 ti4 rfl rfl (by omega) (by omega)) H ?_
    refine rt 6 (.bool (t.qh[((r.qB[i]!).qA).toNat]!)) (xm Tryz.isAgg4 rfl (fun _ h => h.Qg 8 rfl ((r.qB[i]!).qA) (by omega) (by omega))) H ?_
    refine rtp 7 (.bool (!(t.qh[((r.qB[i]!).qA).toNat]!))) H ?_
    refine rtp 8 (.bool (!(t.qh[((r.qB[i]!).qA).toNat]!))) H ?_
    cases h46 : (!(t.qh[((r.qB[i]!).qA).toNat]!))
    ·skip
     replace h46 := qX h46
     refine rgp 9 (pp bs os) 88 H ?_
     refine rgp 10 (pp bt ot) 88 H ?_
     refine rgp 11 (.int .i64 ((r.qB[i]!).qA)) 88 H ?_
     refine rgp 13 (pp br or) 88 H ?_
     refine rgp 14 (pp br or) 88 H ?_
     refine rg 15 (pp br (or + 0)) 88 (xE br (or) 0 Tryz.underlying110 rfl rfl Tryz.sizeOf2 rfl) H ?_
     refine rg 16 (.int .i64 r.qA) 88 (xm Tryz.isAgg2 rfl (fun _ h => h.xR 11 rfl 0 rfl)) H ?_
     refine xB [12] (by kernel_rfl) (by simp) (r_opG rfl (e := 88) rfl rfl ?_ xC)
     refine xf #[pp bs os, pp bt ot, .int .i64 ((r.qB[i]!).qA)] rfl rfl Tryz.call107 (l02Parent_ok w39.drew s t ((r.qB[i]!).qA) bs os qp qo qO qF qC xq bt ot (aa b2 o3) qH xK (aa b7 o8) xy zk qL qK xH (qG (H.get 4 rfl) 0 3) (H.get 5 rfl).1 (H.get 6 rfl).1 (qG (H.get 7 rfl) 0 3) (H.get 8 rfl).1 (H.get 9 rfl).1 (H.get 10 rfl).1 (by assumption) (by assumption) (by assumption)) ?_
     rintro _ w47 rfl x48
     replace H := H.ext x48
     refine ⟨H, ?_⟩
     refine rgp 17 (.bool ((qZ s t ((r.qB[i]!).qA) : Int) != r.qA)) 88 H ?_
     refine rtp 18 (.bool ((qZ s t ((r.qB[i]!).qA) : Int) != r.qA)) H ?_
     refine xO (by kernel_rfl) (t_n ?_)
     refine qV ((qZ s t ((r.qB[i]!).qA) : Int) != r.qA) rfl (fun h49 => ?_) (fun h49 => ?_)
     ·skip
      replace h49 := bne_iff_ne.1 h49
      refine qm (qy ?_)
      refine sp (.bool false) ?_
      refine qw (t_n (xx (b_r (t_r (t_r (b_r (t_r ?_)))))))
      refine ret1 (.bool false) rfl rfl ⟨_, rfl, ?_, H.base⟩
      rw [xA (fun h => by obtain ⟨h1, h2, h3, h4, h5⟩ := h; first | exact ft h1 ‹_› | exact ft h2 ‹_› | exact ft h3 ‹_› | exact h4 ⟨‹_›, ‹_›⟩ | (obtain ⟨q1, q2⟩ := h5 i (by omega); first | exact ft q1 ‹_› | exact absurd q2 ‹_›))]
     replace h49 := xI h49
     refine xh (b_n (t_n (qy ?_)))
     refine sp (.int .i64 i) ?_
     refine sw (zJ i 1 rfl rfl (by omega) ?_)
     refine sp (.int .i64 (i + 1)) ?_
     refine qw ?_
     refine xF (m' := (r.qB.length - ((i + 1) : Int)).toNat) (by omega) ⟨_, i + 1, (by exact qj (qj (qj (qj (rfl) rfl) rfl) rfl) rfl), ?_, ?_, rfl, N, H.pick [] [2, 3, 4, 5, 6, 7, 8, 9, 10, 11, 12, 13, 14, 15, 16, 17]⟩
     · omega
     · exact i1.succ ‹_› ‹_›
    replace h46 := xe h46
    refine zC [9, 10, 11, 12, 13, 14, 15, 16, 17] 9 (H) ?_
    refine rtp 18 (.bool true) H ?_
    refine xO (by kernel_rfl) (t_n ?_)
    refine qV true rfl (fun _ => ?_) (fun h => absurd h (by decide))
    refine qm (qy ?_)
    refine sp (.bool false) ?_
    refine qw (t_n (xx (b_r (t_r (t_r (b_r (t_r ?_)))))))
    refine ret1 (.bool false) rfl rfl ⟨_, rfl, ?_, H.base⟩
    rw [xA (fun h => by obtain ⟨h1, h2, h3, h4, h5⟩ := h; first | exact ft h1 ‹_› | exact ft h2 ‹_› | exact ft h3 ‹_› | exact h4 ⟨‹_›, ‹_›⟩ | (obtain ⟨q1, q2⟩ := h5 i (by omega); first | exact ft q1 ‹_› | exact absurd q2 ‹_›))]
   replace h40 := of_decide_eq_false h40
   refine zy (t_x (t_x (b_x (t_n (qm (qy ?_))))))
   refine sp (.bool true) ?_
   refine qw (t_n (xx ?_))
   refine ret1 (.bool true) rfl rfl ⟨_, rfl, ?_, H.base⟩
   rw [yU ⟨by assumption, by assumption, by assumption, fun ⟨u, v⟩ => by first | omega | exact ft v ‹_›, (show i = r.qB.length by omega) ▸ i1⟩]
  replace h18 := xe h18
  refine xY [48, 49, 50, 51, 52, 53, 54, 55, 56, 57, 58, 59, 60, 61] ?_
  refine sp (.bool true) ?_
  refine qw (t_n ?_)
  refine qV true rfl (fun _ => ?_) (fun h => absurd h (by decide))
  refine qm (qy ?_)
  refine sp (.bool false) ?_
  refine qw (t_n (xx (t_r ?_)))
  refine ret1 (.bool false) rfl rfl ⟨_, rfl, ?_, H.base⟩
  rw [xA (fun h => by obtain ⟨h1, h2, h3, h4, h5⟩ := h; first | exact ft h1 ‹_› | exact ft h2 ‹_› | exact ft h3 ‹_› | exact h4 ⟨‹_›, ‹_›⟩ | (obtain ⟨q1, q2⟩ := h5 i (by omega); first | exact ft q1 ‹_› | exact absurd q2 ‹_›))]
 replace h14 := xe h14
 refine xY [39, 40, 41, 42, 43, 44, 45] ?_
 refine sps [.bool true, .bool true] ?_
 refine xY [48, 49, 50, 51, 52, 53, 54, 55, 56, 57, 58, 59, 60, 61] ?_
 refine sp (.bool true) ?_
 refine qw (t_n ?_)
 refine qV true rfl (fun _ => ?_) (fun h => absurd h (by decide))
 refine qm (qy ?_)
 refine sp (.bool false) ?_
 refine qw (t_n (xx (t_r ?_)))
 refine ret1 (.bool false) rfl rfl ⟨_, rfl, ?_, H.base⟩
 rw [xA (fun h => by obtain ⟨h1, h2, h3, h4, h5⟩ := h; first | exact ft h1 ‹_› | exact ft h2 ‹_› | exact ft h3 ‹_› | exact h4 ⟨‹_›, ‹_›⟩ | (obtain ⟨q1, q2⟩ := h5 i (by omega); first | exact ft q1 ‹_› | exact absurd q2 ‹_›))]

theorem l03Applicable_ok (w : World) (s : qU) (t : qP) (bs os : Nat) (qp : Option Addr) (qo : Nat) (qO : List Nat) (qF : Option Addr) (qC : Nat) (xq : List Nat) (bt ot : Nat) (qN : Option Addr) (qH : Nat) (xK : List Nat) (xG : Option Addr) (xy : Nat) (zk : List Nat) (qL : Option Addr) (qK : Nat) (xH : List Nat) (hs : vz w bs os [.int .i64 s.qI, .slice qp s.qf.length qo, .slice qF s.qg.length qC]) (xn : qQ.rep w qO [.slice qp s.qf.length qo] s.qf) (xM : qQ.rep w xq [.slice qF s.qg.length qC] s.qg) (ht : vz w bt ot [.slice qN t.qh.length qH, .slice xG t.qx.length xy, .slice qL t.ql.length qK]) (zl : qQ.rep w xK [.slice qN t.qh.length qH] t.qh) (zV : qQ.rep w zk [.slice xG t.qx.length xy] t.qx) (xX : qQ.rep w xH [.slice qL t.ql.length qK] t.ql) (p0 : Qb s) (p1 : zM s t) : Calls Tryz.prog 79 #[pp bs os, pp bt ot] w (Ret (fun v w' => ∃ (ra : Option Addr) (rn : Nat) (rc : Nat), v = .slice ra rn rc ∧ Fresh w.heap.size [] ∧ St w w' [.row (.slice ra rn rc) 4 1 rn ((appl s t).map (Value.bool))] []) w) := by
 refine enter (n := 99) Tryz.func79 rfl Tryz.ntmps79 (Nat.le_of_ble_eq_true rfl) ?_
 have H := (((((((St.start w).arg xX).arg zV).arg zl).argAt ht).arg xM).arg xn).argAt hs
 have vk := qJ xn
 have jr := qJ xM
 have QX := qJ zl
 have XH := qJ zV
 have yZ := qJ xX
 clear hs xn xM ht zl zV xX
 have N := Fresh.nil w.heap.size
 have p2 := p0.2.1
 have p3 := p0.1.2.1
 refine qm (qy ?_)
 refine sp (.slice none 0 0) ?_
 refine qw (t_n (qm (qy ?_)))
 refine sps [pp bs os, pp bs os] ?_
 refine sw (qM bs (os) 1 Tryz.underlying36 rfl rfl Tryz.sizeOf22 rfl ?_)
 refine sw (qE (.slice qp s.qf.length qo) Tryz.isAgg22 rfl (H.xR 0 rfl 1 rfl) ?_)
 refine sw (zD Tryz.underlying22 qp s.qf.length qo rfl ?_)
 refine sw (o_makeI H Tryz.underlying22 ti2 s.qf.length rfl rfl (by omega) (by omega) (by omega) fun b1 w2 H => ?_)
 refine sp (.slice (aa b1 0) s.qf.length s.qf.length) ?_
 refine qw (t_n (qm (qy ?_)))
 refine sw (QW H Tryz.underlying26 ti4 fun b3 w4 H => ?_)
 refine sp (.slice (aa b3 0) 0 0) ?_
 refine qw (t_n (qm (qm (qy ?_))))
 refine sp (.int .i64 0) ?_
 refine qw (t_n (xu ?_))
 replace H := H.boxRowB 0 [] 0
 try dsimp only [List.set] at H
 refine zG (fun m' ρ w5 => ∃ (junk : Env) (yH : Option Addr) (vZ : Nat) (yt : Nat) (out : List Bool) (i : Nat) (best : List Int), ρ = upd (upd (upd (upd (upd junk 0 (pp bs os)) 1 (pp bt ot)) 5 (.slice (aa b1 0) s.qf.length s.qf.length)) 6 (.slice yH vZ yt)) 7 (.int .i64 i) ∧ out = applB s t 0 i ∧ best = bests s t 0 s.qf.length i ∧ ((i : Int) ≤ s.qg.length) ∧ m' = (s.qg.length - (i : Int)).toNat ∧ Fresh w.heap.size [] ∧ St w w5 [.row (.slice yH vZ yt) 4 1 vZ (out.map (Value.bool)), .row (.slice (aa b1 0) s.qf.length s.qf.length) 2 1 s.qf.length (best.map (Value.int .i64))] [atF bs os [.int .i64 s.qI, .slice qp s.qf.length qo, .slice qF s.qg.length qC], isF false qO (.slice qp s.qf.length qo) s.qf, isF false xq (.slice qF s.qg.length qC) s.qg, atF bt ot [.slice qN t.qh.length qH, .slice xG t.qx.length xy, .slice qL t.ql.length qK], isF false xK (.slice qN t.qh.length qH) t.qh, isF false zk (.slice xG t.qx.length xy) t.qx, isF false xH (.slice qL t.ql.length qK) t.ql]) ((s.qg.length - (0 : Int)).toNat) ⟨_, (aa b3 0), 0, 0, ([] : List Bool), 0, (List.replicate s.qf.length (0 : Int)), (by exact qj (qj (qj (qj (qj (rfl) rfl) rfl) rfl) rfl) rfl), (by rfl), (by exact bests_zero s t 0 _), (by omega), rfl, N, H⟩ ?_
 clear H N
 rintro m' ρ w6 ⟨junk, yH, vZ, yt, out, i, best, rfl, rfl, rfl, i0, rfl, N, H⟩
 have hn_out := H.Vb 0 rfl
 have hn_best := H.VB 1 rfl
 have bl := Xr s t 0 s.qf.length i
 have al := applB_len s t 0 i
 refine qm (qm (qy ?_))
 refine sps [.int .i64 i, pp bs os, pp bs os] ?_
 refine sw (qM bs (os) 2 Tryz.underlying36 rfl rfl Tryz.sizeOf34 rfl ?_)
 refine sw (qE (.slice qF s.qg.length qC) Tryz.isAgg34 rfl (H.xR 0 rfl 2 rfl) ?_)
 refine sw (zD Tryz.underlying34 qF s.qg.length qC rfl ?_)
 refine sp (.bool (decide ((i : Int) < s.qg.length))) ?_
 refine qw (t_n ?_)
 refine qV (decide ((i : Int) < s.qg.length)) rfl (fun h7 => ?_) (fun h7 => ?_)
 ·skip
  replace h7 := of_decide_eq_true h7
  have q := p0.rule (i := i) (by omega)
  have qc := q.1
  have qk := q.cell
  have qr := q.2.1
  refine xh (t_n (qm (xu (qm (qy ?_)))))
  refine sps [pp bs os, pp bs os] ?_
  refine sw (qM bs (os) 2 Tryz.underlying36 rfl rfl Tryz.sizeOf34 rfl ?_)
  refine sw (qE (.slice qF s.qg.length qC) Tryz.isAgg34 rfl (H.xR 0 rfl 2 rfl) ?_)
  refine sp (.int .i64 i) ?_
  obtain ⟨b8, o9, rfl⟩ := H.addr 2 rfl (by omega)
  obtain ⟨ae11Need, ce11Need, Fe11Need, ae11Have, ce11Have, Fe11Have, ae11Lack, ce11Lack, Fe11Lack, ae11Here, ce11Here, Fe11Here, ae11Out, ce11Out, Fe11Out, ae11Into, ce11Into, Fe11Into, H⟩ := H.yE 2 rfl i i (by omega) (by omega) (by omega)
  refine sw (xJ i Tryz.underlying34 ti110 rfl rfl (by omega) (by omega) ?_)
  refine sp (pp b8 (o9 + (i : Int).toNat * 9)) ?_
  refine qw (t_n (qm (qy ?_)))
  refine sps [pp bs os, pp bt ot, pp b8 (o9 + (i : Int).toNat * 9)] ?_
  refine sw (xf #[pp bs os, pp bt ot, pp b8 (o9 + (i : Int).toNat * 9)] rfl rfl Tryz.call129 (l03Enabled_ok w6 s t (s.qg[i]!) bs os qp qo qO (aa b8 o9) qC xq bt ot qN qH xK xG xy zk qL qK xH b8 (o9 + (i : Int).toNat * 9) ae11Need ce11Need Fe11Need ae11Have ce11Have Fe11Have ae11Lack ce11Lack Fe11Lack ae11Here ce11Here Fe11Here ae11Out ce11Out Fe11Out ae11Into ce11Into Fe11Into (qG (H.get 7 rfl) 0 3) (H.get 8 rfl).1 (H.get 9 rfl).1 (qG (H.get 10 rfl) 0 3) (H.get 11 rfl).1 (H.get 12 rfl).1 (H.get 13 rfl).1 (qG (H.get 6 rfl) 0 9) (H.get 0 rfl).1 (H.get 1 rfl).1 (H.get 2 rfl).1 (H.get 3 rfl).1 (H.get 4 rfl).1 (H.get 5 rfl).1 (by first | assumption | omega) (by first | assumption | omega) (by first | assumption | omega)) ?_)
  rintro _ w13 rfl x14
  replace H := H.ext x14
  refine sp (.bool (dec (EnOk s t (s.qg[i]!)))) ?_
  refine qw (t_n (qm (qy ?_)))
  refine sps [.slice yH vZ yt, .bool (dec (EnOk s t (s.qg[i]!)))] ?_
  refine sw (Qq H Tryz.underlying26 ti4 [.bool (dec (EnOk s t (s.qg[i]!)))] fun b15 w16 H => ?_)
  refine sw (Qr H 1 rfl 0 rfl Tryz.underlying26 ti4 rfl (by decide) rfl rfl rfl (by simp [Value.oneCell', Value.cells]) (by unfold maxLen; omega) (by omega) fun a17 c18 w19 H => ?_)
  rw [snocB] at H
  try dsimp only [List.set] at H
  refine sp (.slice a17 (vZ + 1) c18) ?_
  refine qw (t_n (qm (qy ?_)))
  refine sp (.bool (dec (EnOk s t (s.qg[i]!)))) ?_
  refine qw (t_n ?_)
  refine qV (dec (EnOk s t (s.qg[i]!))) rfl (fun h20 => ?_) (fun h20 => ?_)
  ·skip
   replace h20 := jA h20
   refine Qa rfl H [0, 1] fun H => ?_
   have S := H.Qc [0, 1] [0, 1, 2, 3, 4, 5, 6, 7, 8, 9, 10, 11, 12, 13]
   refine rtp 0 (.slice (aa b1 0) s.qf.length s.qf.length) S ?_
   refine rtp 1 (pp b8 (o9 + (i : Int).toNat * 9)) S ?_
   refine rtp 2 (pp b8 (o9 + (i : Int).toNat * 9)) S ?_
   refine rt 3 (pp b8 (o9 + (i : Int).toNat * 9 + 0)) (xE b8 (o9 + (i : Int).toNat * 9) 0 Tryz.underlying110 rfl rfl Tryz.sizeOf2 rfl) S ?_
   refine rt 4 (.int .i64 ((s.qg[i]!).qA)) (xm Tryz.isAgg2 rfl (fun _ h => h.xR 6 rfl 0 rfl)) S ?_
   refine rtp 5 (.slice (aa b1 0) s.qf.length s.qf.length) S ?_
   refine rtp 6 (pp b8 (o9 + (i : Int).toNat * 9)) S ?_
   refine rtp 7 (pp b8 (o9 + (i : Int).toNat * 9)) S ?_
   refine rt 8 (pp b8 (o9 + (i : Int).toNat * 9 + 0)) (xE b8 (o9 + (i : Int).toNat * 9) 0 Tryz.underlying110 rfl rfl Tryz.sizeOf2 rfl) S ?_
   refine rt 9 (.int .i64 ((s.qg[i]!).qA)) (xm Tryz.isAgg2 rfl (fun _ h => h.xR 6 rfl 0 rfl)) S ?_
   refine rt 10 (pp b1 (0 + ((s.qg[i]!).qA : Int).toNat * 1)) (xN b1 (0) s.qf.length s.qf.length ((s.qg[i]!).qA) Tryz.underlying22 ti2 rfl rfl (by omega) (by omega)) S ?_
   refine rtp 12 (pp b8 (o9 + (i : Int).toNat * 9)) S ?_
   refine rtp 13 (pp b8 (o9 + (i : Int).toNat * 9)) S ?_
   refine rt 14 (pp b8 (o9 + (i : Int).toNat * 9 + 1)) (xE b8 (o9 + (i : Int).toNat * 9) 1 Tryz.underlying110 rfl rfl Tryz.sizeOf2 rfl) S ?_
   refine rt 15 (.int .i64 ((s.qg[i]!).xZ)) (xm Tryz.isAgg2 rfl (fun _ h => h.xR 6 rfl 1 rfl)) S ?_
   refine xB [11] (by kernel_rfl) (by simp) (zh rfl ?_ xC)
   refine qE (.int .i64 ((bests s t 0 s.qf.length i)[((s.qg[i]!).qA).toNat]!)) Tryz.isAgg2 rfl (H.rowInt 2 rfl (iv := (s.qg[i]!).qA) (i := (((s.qg[i]!).qA).toNat)) (by omega) (by omega)) ?_
   refine ⟨H.pick [0, 1] [0, 1, 2, 3, 4, 5, 6, 7, 8, 9, 10, 11, 12, 13], ?_⟩
   refine xB [16] (by kernel_rfl) (by simp) (zh rfl ?_ xC)
   refine xf #[.int .i64 ((bests s t 0 s.qf.length i)[((s.qg[i]!).qA).toNat]!), .int .i64 ((s.qg[i]!).xZ)] rfl rfl Tryz.call130 (l00Max_ok w19.drew ((bests s t 0 s.qf.length i)[((s.qg[i]!).qA).toNat]!) ((s.qg[i]!).xZ)) ?_
   rintro _ w23 rfl x24
   replace H := H.ext x24
   refine ⟨H.pick [0, 1] [0, 1, 2, 3, 4, 5, 6, 7, 8, 9, 10, 11, 12, 13], ?_⟩
   refine rt 17 (pp b1 (0 + ((s.qg[i]!).qA : Int).toNat * 1)) (xN b1 (0) s.qf.length s.qf.length ((s.qg[i]!).qA) Tryz.underlying22 ti2 rfl rfl (by omega) (by omega)) (H.pick [0, 1] [0, 1, 2, 3, 4, 5, 6, 7, 8, 9, 10, 11, 12, 13]) ?_
   refine xB [18] (by kernel_rfl) (by simp) (zh rfl ?_ xC)
   refine o_storeInt H 2 rfl (max ((bests s t 0 s.qf.length i)[((s.qg[i]!).qA).toNat]!) ((s.qg[i]!).xZ)) Tryz.sizeOf2 rfl rfl (i := (((s.qg[i]!).qA).toNat)) (by omega) (by omega) fun w25 H => ?_
   try dsimp only [List.set] at H
   refine ⟨H.pick [0, 1] [0, 1, 2, 3, 4, 5, 6, 7, 8, 9, 10, 11, 12, 13], ?_⟩
   refine xO (by kernel_rfl) (b_n (t_n ?_))
   refine qy ?_
   refine sp (.int .i64 i) ?_
   refine sw (zJ i 1 rfl rfl (by omega) ?_)
   refine sp (.int .i64 (i + 1)) ?_
   refine qw ?_
   refine xF (m' := (s.qg.length - ((i + 1) : Int)).toNat) (by omega) ⟨_, a17, vZ + 1, c18, ((applB s t 0 i) ++ [dec (EnOk s t (s.qg[i]!))]), i + 1, ((bests s t 0 s.qf.length i).set (((s.qg[i]!).qA).toNat) (max ((bests s t 0 s.qf.length i)[((s.qg[i]!).qA).toNat]!) ((s.qg[i]!).xZ))), (by exact qj (qj (qj (qj (qj (rfl) rfl) rfl) rfl) rfl) rfl), ?_, ?_, ?_, rfl, N, H.pick [1, 2] [7, 8, 9, 10, 11, 12, 13]⟩
   · exact applB_snoc s t i
   · first | exact bests_set ‹_› (by omega) | exact bests_skip ‹_›
   · omega
  replace h20 := zg h20
  refine xh (b_n (t_n (qy ?_)))
  refine sp (.int .i64 i) ?_
  refine sw (zJ i 1 rfl rfl (by omega) ?_)
  refine sp (.int .i64 (i + 1)) ?_
  refine qw ?_
  refine xF (m' := (s.qg.length - ((i + 1) : Int)).toNat) (by omega) ⟨_, a17, vZ + 1, c18, ((applB s t 0 i) ++ [dec (EnOk s t (s.qg[i]!))]), i + 1, (bests s t 0 s.qf.length i), (by exact qj (qj (qj (qj (qj (rfl) rfl) rfl) rfl) rfl) rfl), ?_, ?_, ?_, rfl, N, H.pick [1, 2] [7, 8, 9, 10, 11, 12, 13]⟩
  · exact applB_snoc s t i
  · first | exact bests_set ‹_› (by omega) | exact bests_skip ‹_›
  · omega
 replace h7 := of_decide_eq_false h7
 refine zy (t_x (t_x (b_x (t_n (qm (qm (qy ?_)))))))
 refine sp (.int .i64 0) ?_
 refine qw (t_n (xu ?_))
 refine zG (fun m' ρ w26 => ∃ (junk : Env) (i_1 : Nat) (out_1 : List Bool), ρ = upd (upd (upd (upd junk 0 (pp bs os)) 5 (.slice (aa b1 0) s.qf.length s.qf.length)) 6 (.slice yH vZ yt)) 10 (.int .i64 i_1) ∧ out_1 = applB s t i_1 s.qg.length ∧ ((i_1 : Int) ≤ s.qg.length) ∧ m' = (s.qg.length - (i_1 : Int)).toNat ∧ Fresh w.heap.size [] ∧ St w w26 [.row (.slice yH vZ yt) 4 1 vZ (out_1.map (Value.bool)), .row (.slice (aa b1 0) s.qf.length s.qf.length) 2 1 s.qf.length ((bests s t 0 s.qf.length i).map (Value.int .i64))] [atF bs os [.int .i64 s.qI, .slice qp s.qf.length qo, .slice qF s.qg.length qC], isF false qO (.slice qp s.qf.length qo) s.qf, isF false xq (.slice qF s.qg.length qC) s.qg]) ((s.qg.length - (0 : Int)).toNat) ⟨_, 0, (applB s t 0 i), (by exact qj (qj (qj (qj (rfl) rfl) rfl) rfl) rfl), (by rw [show i = s.qg.length by omega]), (by omega), rfl, N, H.pick [0, 1] [0, 1, 2]⟩ ?_
 clear H N
 rintro m' ρ w27 ⟨junk, i_1, out_1, rfl, rfl, i0, rfl, N, H⟩
 have hn_out := H.Vb 0 rfl
 have bl := Xr s t 0 s.qf.length i
 have al := applB_len s t i_1 s.qg.length
 refine qm (qm (qy ?_))
 refine sps [.int .i64 i_1, pp bs os, pp bs os] ?_
 refine sw (qM bs (os) 2 Tryz.underlying36 rfl rfl Tryz.sizeOf34 rfl ?_)
 refine sw (qE (.slice qF s.qg.length qC) Tryz.isAgg34 rfl (H.xR 0 rfl 2 rfl) ?_)
 refine sw (zD Tryz.underlying34 qF s.qg.length qC rfl ?_)
 refine sp (.bool (decide ((i_1 : Int) < s.qg.length))) ?_
 refine qw (t_n ?_)
 refine qV (decide ((i_1 : Int) < s.qg.length)) rfl (fun h28 => ?_) (fun h28 => ?_)
 ·skip
  replace h28 := of_decide_eq_true h28
  have q := p0.rule (i := i_1) (by omega)
  have qc := q.1
  have qk := q.cell
  have qr := q.2.1
  refine xh (t_n (qm (xu ?_)))
  refine Qa rfl H [1] fun H => ?_
  have S := H.Qc [1] [0, 1, 2]
  refine rtp 0 (.slice yH vZ yt) S ?_
  refine rtp 1 (.int .i64 i_1) S ?_
  refine rtp 2 (.slice yH vZ yt) S ?_
  refine rtp 3 (.int .i64 i_1) S ?_
  obtain ⟨b30, rfl⟩ := H.Vr 0 rfl (by omega)
  refine rt 4 (pp b30 (0 + (i_1 : Int).toNat * 1)) (xN b30 (0) vZ yt i_1 Tryz.underlying26 ti4 rfl rfl (by omega) (by omega)) (H.pick [1] [0, 1, 2]) ?_
  refine xB [5] (by kernel_rfl) (by simp) (zh rfl ?_ xC)
  refine qE (.bool ((applB s t i_1 s.qg.length)[i_1]!)) Tryz.isAgg4 rfl (H.rowBool 0 rfl (iv := i_1) (i := i_1) (by omega) (by omega)) ?_
  refine ⟨H.pick [1] [0, 1, 2], ?_⟩
  refine rtp 6 (.bool ((applB s t i_1 s.qg.length)[i_1]!)) (H.pick [1] [0, 1, 2]) ?_
  cases h31 : ((applB s t i_1 s.qg.length)[i_1]!)
  ·skip
   refine zC [7, 8, 9, 10, 11, 12, 13, 14, 15, 16, 17, 18, 19, 20, 21, 22, 23, 24, 25, 26] 20 (H.pick [1] [0, 1, 2]) ?_
   have S := H.Qc [1] [0, 1, 2]
   refine rtp 27 (.bool false) S ?_
   refine rt 28 (pp b30 (0 + (i_1 : Int).toNat * 1)) (xN b30 (0) vZ yt i_1 Tryz.underlying26 ti4 rfl rfl (by omega) (by omega)) S ?_
   refine xB [29] (by kernel_rfl) (by simp) (zh rfl ?_ xC)
   refine QE H 0 rfl false Tryz.sizeOf4 rfl rfl (i := i_1) (by omega) (by omega) fun w32 H => ?_
   try dsimp only [List.set] at H
   refine ⟨H.pick [1] [0, 1, 2], ?_⟩
   refine xO (by kernel_rfl) (b_n (t_n ?_))
   refine qy ?_
   refine sp (.int .i64 i_1) ?_
   refine sw (zJ i_1 1 rfl rfl (by omega) ?_)
   refine sp (.int .i64 (i_1 + 1)) ?_
   refine qw ?_
   refine xF (m' := (s.qg.length - ((i_1 + 1) : Int)).toNat) (by omega) ⟨_, i_1 + 1, ((applB s t i_1 s.qg.length).set i_1 false), (by exact qj (qj (qj (qj (rfl) rfl) rfl) rfl) rfl), ?_, ?_, rfl, N, H⟩
   · first | exact applB_set (by omega) (applB_step0 (m := s.qg.length) (by omega) ‹_›) | exact applB_set (by omega) (applB_step1 (m := s.qg.length) (n := s.qf.length) (z := 0) (i := i) (by omega) ‹_› rfl (by omega) (by omega) (by omega))
   · omega
  have S := H.Qc [1] [0, 1, 2]
  refine rgp 7 (pp bs os) 75 S ?_
  refine rgp 8 (pp bs os) 75 S ?_
  refine rg 9 (pp bs (os + 2)) 75 (xE bs (os) 2 Tryz.underlying36 rfl rfl Tryz.sizeOf34 rfl) S ?_
  refine rg 10 (.slice qF s.qg.length qC) 75 (xm Tryz.isAgg34 rfl (fun _ h => h.xR 0 rfl 2 rfl)) S ?_
  refine rgp 11 (.int .i64 i_1) 75 S ?_
  obtain ⟨b33, o34, rfl⟩ := H.addr 2 rfl (by omega)
  obtain ⟨ae36Need, ce36Need, Fe36Need, ae36Have, ce36Have, Fe36Have, ae36Lack, ce36Lack, Fe36Lack, ae36Here, ce36Here, Fe36Here, ae36Out, ce36Out, Fe36Out, ae36Into, ce36Into, Fe36Into, H⟩ := H.yE 2 rfl i_1 i_1 (by omega) (by omega) (by omega)
  have S := H.Qc [1] [7, 8, 9]
  refine rg 12 (pp b33 (o34 + (i_1 : Int).toNat * 9)) 75 (xN b33 (o34) s.qg.length qC i_1 Tryz.underlying34 ti110 rfl rfl (by omega) (by omega)) S ?_
  refine rg 13 (pp b33 (o34 + (i_1 : Int).toNat * 9 + 1)) 75 (xE b33 (o34 + (i_1 : Int).toNat * 9) 1 Tryz.underlying110 rfl rfl Tryz.sizeOf2 rfl) S ?_
  refine rgp 15 (.slice (aa b1 0) s.qf.length s.qf.length) 75 S ?_
  refine rgp 16 (pp bs os) 75 S ?_
  refine rgp 17 (pp bs os) 75 S ?_
  refine rg 18 (pp bs (os + 2)) 75 (xE bs (os) 2 Tryz.underlying36 rfl rfl Tryz.sizeOf34 rfl) S ?_
  refine rg 19 (.slice (aa b33 o34) s.qg.length qC) 75 (xm Tryz.isAgg34 rfl (fun _ h => h.xR 0 rfl 2 rfl)) S ?_
  refine rgp 20 (.int .i64 i_1) 75 S ?_
  refine rg 21 (pp b33 (o34 + (i_1 : Int).toNat * 9)) 75 (xN b33 (o34) s.qg.length qC i_1 Tryz.underlying34 ti110 rfl rfl (by omega) (by omega)) S ?_
  refine rg 22 (pp b33 (o34 + (i_1 : Int).toNat * 9 + 0)) 75 (xE b33 (o34 + (i_1 : Int).toNat * 9) 0 Tryz.underlying110 rfl rfl Tryz.sizeOf2 rfl) S ?_
  refine xB [14, 23] (by kernel_rfl) (by simp) (r_opG rfl (e := 75) rfl rfl ?_ (r_opG rfl (e := 75) rfl rfl ?_ xC))
  ·skip
   refine qE (.int .i64 ((s.qg[i_1]!).xZ)) Tryz.isAgg2 rfl (H.xR 6 rfl 1 rfl) ?_
   refine ⟨H.pick [1] [7, 8, 9], ?_⟩
   refine xB [23] (by kernel_rfl) (by simp) (r_opG rfl (e := 75) rfl rfl ?_ xC)
   refine qE (.int .i64 ((s.qg[i_1]!).qA)) Tryz.isAgg2 rfl (H.xR 6 rfl 0 rfl) ?_
   refine ⟨H.pick [1] [7, 8, 9], ?_⟩
   have S := H.Qc [1] [7, 8, 9]
   refine rg 24 (pp b1 (0 + ((s.qg[i_1]!).qA : Int).toNat * 1)) 75 (xN b1 (0) s.qf.length s.qf.length ((s.qg[i_1]!).qA) Tryz.underlying22 ti2 rfl rfl (by omega) (by omega)) S ?_
   refine rg 25 (.int .i64 ((bests s t 0 s.qf.length i)[((s.qg[i_1]!).qA).toNat]!)) 75 (xm Tryz.isAgg2 rfl (fun _ h => h.rowInt 0 rfl (iv := (s.qg[i_1]!).qA) (i := (((s.qg[i_1]!).qA).toNat)) (by omega) (by omega))) S ?_
   refine rgp 26 (.bool (((s.qg[i_1]!).xZ : Int) == ((bests s t 0 s.qf.length i)[((s.qg[i_1]!).qA).toNat]!))) 75 S ?_
   refine rtp 27 (.bool (((s.qg[i_1]!).xZ : Int) == ((bests s t 0 s.qf.length i)[((s.qg[i_1]!).qA).toNat]!))) S ?_
   refine rt 28 (pp b30 (0 + (i_1 : Int).toNat * 1)) (xN b30 (0) vZ yt i_1 Tryz.underlying26 ti4 rfl rfl (by omega) (by omega)) S ?_
   refine xB [29] (by kernel_rfl) (by simp) (zh rfl ?_ xC)
   refine QE H 0 rfl (((s.qg[i_1]!).xZ : Int) == ((bests s t 0 s.qf.length i)[((s.qg[i_1]!).qA).toNat]!)) Tryz.sizeOf4 rfl rfl (i := i_1) (by omega) (by omega) fun w37 H => ?_
   try dsimp only [List.set] at H
   refine ⟨H.pick [1] [7, 8, 9], ?_⟩
   refine xO (by kernel_rfl) (b_n (t_n ?_))
   refine qy ?_
   refine sp (.int .i64 i_1) ?_
   refine sw (zJ i_1 1 rfl rfl (by omega) ?_)
   refine sp (.int .i64 (i_1 + 1)) ?_
   refine qw ?_
   refine xF (m' := (s.qg.length - ((i_1 + 1) : Int)).toNat) (by omega) ⟨_, i_1 + 1, ((applB s t i_1 s.qg.length).set i_1 (((s.qg[i_1]!).xZ : Int) == ((bests s t 0 s.qf.length i)[((s.qg[i_1]!).qA).toNat]!))), (by exact qj (qj (qj (qj (rfl) rfl) rfl) rfl) rfl), ?_, ?_, rfl, N, H.pick [0, 1] [7, 8, 9]⟩
   · first | exact applB_set (by omega) (applB_step0 (m := s.qg.length) (by omega) ‹_›) | exact applB_set (by omega) (applB_step1 (m := s.qg.length) (n := s.qf.length) (z := 0) (i := i) (by omega) ‹_› rfl (by omega) (by omega) (by omega))
   · omega
  refine qE (.int .i64 ((s.qg[i_1]!).qA)) Tryz.isAgg2 rfl (H.xR 6 rfl 0 rfl) ?_
  refine ⟨H.pick [1] [7, 8, 9], ?_⟩
  have S := H.Qc [1] [7, 8, 9]
  refine rg 24 (pp b1 (0 + ((s.qg[i_1]!).qA : Int).toNat * 1)) 75 (xN b1 (0) s.qf.length s.qf.length ((s.qg[i_1]!).qA) Tryz.underlying22 ti2 rfl rfl (by omega) (by omega)) S ?_
  refine rg 25 (.int .i64 ((bests s t 0 s.qf.length i)[((s.qg[i_1]!).qA).toNat]!)) 75 (xm Tryz.isAgg2 rfl (fun _ h => h.rowInt 0 rfl (iv := (s.qg[i_1]!).qA) (i := (((s.qg[i_1]!).qA).toNat)) (by omega) (by omega))) S ?_
  refine xB [14] (by kernel_rfl) (by simp) (r_opG rfl (e := 75) rfl rfl ?_ xC)
  refine qE (.int .i64 ((s.qg[i_1]!).xZ)) Tryz.isAgg2 rfl (H.xR 6 rfl 1 rfl) ?_
  refine ⟨H.pick [1] [7, 8, 9], ?_⟩
  have S := H.Qc [1] [7, 8, 9]
  refine rgp 26 (.bool (((s.qg[i_1]!).xZ : Int) == ((bests s t 0 s.qf.length i)[((s.qg[i_1]!).qA).toNat]!))) 75 S ?_
  refine rtp 27 (.bool (((s.qg[i_1]!).xZ : Int) == ((bests s t 0 s.qf.length i)[((s.qg[i_1]!).qA).toNat]!))) S ?_
  refine rt 28 (pp b30 (0 + (i_1 : Int).toNat * 1)) (xN b30 (0) vZ yt i_1 Tryz.underlying26 ti4 rfl rfl (by omega) (by omega)) S ?_
  refine xB [29] (by kernel_rfl) (by simp) (zh rfl ?_ xC)
  refine QE H 0 rfl (((s.qg[i_1]!).xZ : Int) == ((bests s t 0 s.qf.length i)[((s.qg[i_1]!).qA).toNat]!)) Tryz.sizeOf4 rfl rfl (i := i_1) (by omega) (by omega) fun w38 H => ?_
  try dsimp only [List.set] at H
  refine ⟨H.pick [1] [7, 8, 9], ?_⟩
  refine xO (by kernel_rfl) (b_n (t_n ?_))
  refine qy ?_
  refine sp (.int .i64 i_1) ?_
  refine sw (zJ i_1 1 rfl rfl (by omega) ?_)
  refine sp (.int .i64 (i_1 + 1)) ?_
  refine qw ?_
  refine xF (m' := (s.qg.length - ((i_1 + 1) : Int)).toNat) (by omega) ⟨_, i_1 + 1, ((applB s t i_1 s.qg.length).set i_1 (((s.qg[i_1]!).xZ : Int) == ((bests s t 0 s.qf.length i)[((s.qg[i_1]!).qA).toNat]!))), (by exact qj (qj (qj (qj (rfl) rfl) rfl) rfl) rfl), ?_, ?_, rfl, N, H.pick [0, 1] [7, 8, 9]⟩
  · first | exact applB_set (by omega) (applB_step0 (m := s.qg.length) (by omega) ‹_›) | exact applB_set (by omega) (applB_step1 (m := s.qg.length) (n := s.qf.length) (z := 0) (i := i) (by omega) ‹_› rfl (by omega) (by omega) (by omega))
  · omega
 replace h28 := of_decide_eq_false h28
 refine zy (t_x (t_x (b_x (t_n (qm (qy ?_))))))
 refine sps [.slice yH vZ yt, .slice yH vZ yt] ?_
 refine qw (t_n (xx ?_))
 refine ret1 (.slice yH vZ yt) rfl rfl ⟨_, rfl, ?_, H.base⟩
 obtain rfl : i_1 = s.qg.length := by omega
 exact ⟨yH, vZ, yt, rfl, N, H.pick [0] []⟩

theorem l03Rest_ok (w : World) (s : qU) (t : qP) (counts : List Int) (bs os : Nat) (qp : Option Addr) (qo : Nat) (qO : List Nat) (qF : Option Addr) (qC : Nat) (xq : List Nat) (bt ot : Nat) (qN : Option Addr) (qH : Nat) (xK : List Nat) (xG : Option Addr) (xy : Nat) (zk : List Nat) (qL : Option Addr) (qK : Nat) (xH : List Nat) (acounts : Option Addr) (ccounts : Nat) (Fcounts : List Nat) (hs : vz w bs os [.int .i64 s.qI, .slice qp s.qf.length qo, .slice qF s.qg.length qC]) (xn : qQ.rep w qO [.slice qp s.qf.length qo] s.qf) (xM : qQ.rep w xq [.slice qF s.qg.length qC] s.qg) (ht : vz w bt ot [.slice qN t.qh.length qH, .slice xG t.qx.length xy, .slice qL t.ql.length qK]) (zl : qQ.rep w xK [.slice qN t.qh.length qH] t.qh) (zV : qQ.rep w zk [.slice xG t.qx.length xy] t.qx) (xX : qQ.rep w xH [.slice qL t.ql.length qK] t.ql) (hcounts : qQ.rep w Fcounts [.slice acounts counts.length ccounts] counts) (p0 : Qb s) (p1 : zM s t) (p2 : CntOk s counts) : Calls Tryz.prog 106 #[pp bs os, pp bt ot, .slice acounts counts.length ccounts] w (Ret (fun v w' => ∃ (ra0 : Option Addr) (rn0 : Nat) (rc0 : Nat) (rx0 : List Value) (rF0 : List Nat), v = .tuple #[.slice ra0 rn0 rc0, .bool (dec (IsCh s t counts))] ∧ Fresh w.heap.size [rF0] ∧ St w w' [.row (.slice ra0 rn0 rc0) 22 1 rn0 rx0] [vK true rF0 rx0 (vg s t counts (vH (yu s t counts) counts.length))]) w) := by
 refine enter (n := 112) Tryz.func106 rfl Tryz.ntmps106 (Nat.le_of_ble_eq_true rfl) ?_
 have H := ((((((((St.start w).arg hcounts).arg xX).arg zV).arg zl).argAt ht).arg xM).arg xn).argAt hs
 have vk := qJ xn
 have jr := qJ xM
 have QX := qJ zl
 have XH := qJ zV
 have yZ := qJ xX
 have nhcounts := qJ hcounts
 clear hs xn xM ht zl zV xX hcounts
 have N := Fresh.nil w.heap.size
 have p3 := p0.2.1
 have p6 := p2.1
 have p7 := p1.2.1
 have p8 := kinds_le p0
 have p9 := p0.1.2.1
 have p11 : vY s = s.qf.length := rfl
 refine qm (qy ?_)
 refine sps [.slice none 0 0, .bool false] ?_
 refine qw (t_n (qm (qy ?_)))
 refine sps [pp bs os, pp bt ot] ?_
 have sz4 := H.base.size
 refine sw (xf #[pp bs os, pp bt ot] rfl rfl Tryz.call79 (l03Applicable_ok w s t bs os qp qo qO qF qC xq bt ot qN qH xK xG xy zk qL qK xH (qG (H.get 0 rfl) 0 3) (H.get 1 rfl).1 (H.get 2 rfl).1 (qG (H.get 3 rfl) 0 3) (H.get 4 rfl).1 (H.get 5 rfl).1 (H.get 6 rfl).1 (by first | assumption | omega) (by first | assumption | omega)) ?_)
 rintro _ w2 ⟨ra1, rn1, rc1, rfl, M, K⟩ _
 replace H := H.merge K M
 dsimp only [List.cons_append, List.nil_append] at H
 obtain rfl := H.Vb 0 rfl
 have al := appl_len s t
 refine sp (.slice ra1 ((appl s t).length) rc1) ?_
 refine qw (t_n (qm (qy ?_)))
 refine sw (QW H Tryz.underlying27 ti22 fun b7 w8 H => ?_)
 refine sp (.slice (aa b7 0) 0 0) ?_
 refine qw (t_n (qm (qm (qy ?_))))
 refine sp (.int .i64 0) ?_
 refine qw (t_n (xu ?_))
 replace H := H.boxRow 0 rfl 1 0 rfl (by decide)
 try dsimp only [List.set] at H
 replace H := H.Q5 (α := List Int)
 refine zG (fun m' ρ w9 => ∃ (junk : Env) (Xt : Option Addr) (jB : Nat) (Qj : Nat) (rest : List (List Int)) (x_rest : List Value) (F_rest : List Nat) (c : Nat), ρ = upd (upd (upd (upd (upd (upd junk 0 (pp bs os)) 1 (pp bt ot)) 2 (.slice acounts counts.length ccounts)) 8 (.slice ra1 ((appl s t).length) rc1)) 9 (.slice Xt jB Qj)) 10 (.int .i64 c) ∧ rest = t.qx.take c ∧ ((c : Int) ≤ t.qx.length) ∧ m' = (t.qx.length - (c : Int)).toNat ∧ Fresh w.heap.size [F_rest] ∧ St w w9 [.row (.slice Xt jB Qj) 22 1 jB x_rest, .row (.slice ra1 ((appl s t).length) rc1) 4 1 ((appl s t).length) ((appl s t).map (Value.bool))] [vK true F_rest x_rest rest, atF bs os [.int .i64 s.qI, .slice qp s.qf.length qo, .slice qF s.qg.length qC], isF false qO (.slice qp s.qf.length qo) s.qf, isF false xq (.slice qF s.qg.length qC) s.qg, atF bt ot [.slice qN t.qh.length qH, .slice xG t.qx.length xy, .slice qL t.ql.length qK], isF false xK (.slice qN t.qh.length qH) t.qh, isF false zk (.slice xG t.qx.length xy) t.qx, isF false xH (.slice qL t.ql.length qK) t.ql, isF false Fcounts (.slice acounts counts.length ccounts) counts]) ((t.qx.length - (0 : Int)).toNat) ⟨_, (aa b7 0), 0, 0, ([] : List (List Int)), [], [], 0, (by exact qj (qj (qj (qj (qj (qj (rfl) rfl) rfl) rfl) rfl) rfl) rfl), (by rfl), (by omega), rfl, N.emp, H⟩ ?_
 clear H N
 rintro m' ρ w10 ⟨junk, Xt, jB, Qj, rest, x_rest, F_rest, c, rfl, rfl, i0, rfl, N, H⟩
 have hn_rest := H.zB (α := List Int) 0 rfl 0 rfl (by decide)
 have p4 := (p1.bagLen (k := c))
 rw [List.length_take_of_le (by omega)] at hn_rest
 refine qm (qm (qy ?_))
 refine sps [.int .i64 c, pp bt ot, pp bt ot] ?_
 refine sw (qM bt (ot) 1 Tryz.underlying38 rfl rfl Tryz.sizeOf27 rfl ?_)
 refine sw (qE (.slice xG t.qx.length xy) Tryz.isAgg27 rfl (H.xR 4 rfl 1 rfl) ?_)
 refine sw (zD Tryz.underlying27 xG t.qx.length xy rfl ?_)
 refine sp (.bool (decide ((c : Int) < t.qx.length))) ?_
 refine qw (t_n ?_)
 refine qV (decide ((c : Int) < t.qx.length)) rfl (fun h11 => ?_) (fun h11 => ?_)
 ·skip
  replace h11 := of_decide_eq_true h11
  refine xh (t_n (qm (xu (qy ?_))))
  refine sps [.slice Xt jB Qj, pp bt ot, pp bt ot] ?_
  refine sw (qM bt (ot) 1 Tryz.underlying38 rfl rfl Tryz.sizeOf27 rfl ?_)
  refine sw (qE (.slice xG t.qx.length xy) Tryz.isAgg27 rfl (H.xR 4 rfl 1 rfl) ?_)
  refine sp (.int .i64 c) ?_
  obtain ⟨b12, o13, rfl⟩ := H.addr 6 rfl (by omega)
  obtain ⟨ae15, ce15, Fe15, H⟩ := H.jC 6 rfl c c (by omega) (by omega) (by omega)
  refine sw (xJ c Tryz.underlying27 ti22 rfl rfl (by omega) (by omega) ?_)
  refine sw (qE (.slice ae15 ((t.qx[c]!).length) ce15) Tryz.isAgg22 rfl (H.xR 1 rfl 0 rfl) ?_)
  have p5 := (p1.bagLen (k := c) (by omega)).len
  have sz16 := H.base.size
  have lt17 := H.ltN (L := [F_rest]) [2]
  refine sw (xf #[.slice ae15 ((t.qx[c]!).length) ce15] rfl rfl Tryz.call120 (l00Own_ok w10 (t.qx[c]!) ae15 ce15 Fe15 (H.get 0 rfl).1 (by first | assumption | omega)) ?_)
  rintro v21 w19 r21 x20
  replace H := H.zF x20 r21
  obtain ⟨a22, c23, rfl, hc24, hm25⟩ := H.jP 0 rfl
  refine sw (Qq H Tryz.underlying27 ti22 [.slice a22 ((t.qx[c]!).length) c23] fun b26 w27 H => ?_)
  obtain ⟨G31, N, hn32, H⟩ := H.yh 1 rfl N (H.XF [2])
  try dsimp only [List.set] at H
  refine sw (Qr H 2 rfl 0 rfl Tryz.underlying27 ti22 rfl (by decide) rfl rfl rfl (by simp [Value.oneCell', Value.cells]) (by unfold maxLen; omega) (by omega) fun a28 c29 w30 H => ?_)
  try dsimp only [List.set] at H
  replace H := H.XO 3 rfl 0 rfl
  replace N : Fresh w.heap.size [(F_rest ++ G31)] := (N.pick [1, 0]).join
  refine sp (.slice a28 (jB + 1) c29) ?_
  refine qw (b_n (t_n (qy ?_)))
  refine sp (.int .i64 c) ?_
  refine sw (zJ c 1 rfl rfl (by omega) ?_)
  refine sp (.int .i64 (c + 1)) ?_
  refine qw ?_
  refine xF (m' := (t.qx.length - ((c + 1) : Int)).toNat) (by omega) ⟨_, a28, jB + 1, c29, ((t.qx.take c) ++ [(t.qx[c]!)]), x_rest ++ [.slice a22 ((t.qx[c]!).length) c23], (F_rest ++ G31), c + 1, (by exact qj (qj (qj (qj (qj (qj (rfl) rfl) rfl) rfl) rfl) rfl) rfl), ?_, ?_, rfl, N, H.pick [2, 3] [0, 5, 6, 7, 8, 9, 10, 11, 12]⟩
  · exact take_snoc (by omega)
  · omega
 replace h11 := of_decide_eq_false h11
 refine zy (t_x (t_x (b_x (t_n (qm (qm (qy ?_)))))))
 refine sp (.int .i64 0) ?_
 refine qw (t_n (xu ?_))
 refine zG (fun m' ρ w33 => ∃ (junk : Env) (i : Nat) (rest_1 : List (List Int)) (x_rest_1 : List Value) (Vq : List Nat), ρ = upd (upd (upd (upd (upd junk 0 (pp bs os)) 2 (.slice acounts counts.length ccounts)) 8 (.slice ra1 ((appl s t).length) rc1)) 9 (.slice Xt jB Qj)) 11 (.int .i64 i) ∧ rest_1 = vg s t counts i ∧ ((i : Int) ≤ counts.length) ∧ (GoodTo s t counts i) ∧ m' = (counts.length - (i : Int)).toNat ∧ Fresh w.heap.size [Vq] ∧ St w w33 [.row (.slice Xt jB Qj) 22 1 jB x_rest_1, .row (.slice ra1 ((appl s t).length) rc1) 4 1 ((appl s t).length) ((appl s t).map (Value.bool))] [vK true Vq x_rest_1 rest_1, atF bs os [.int .i64 s.qI, .slice qp s.qf.length qo, .slice qF s.qg.length qC], isF false qO (.slice qp s.qf.length qo) s.qf, isF false xq (.slice qF s.qg.length qC) s.qg, isF false Fcounts (.slice acounts counts.length ccounts) counts]) ((counts.length - (0 : Int)).toNat) ⟨_, 0, (t.qx.take c), x_rest, F_rest, (by exact qj (qj (qj (qj (qj (rfl) rfl) rfl) rfl) rfl) rfl), (by rw [List.take_of_length_le (by omega)]; rfl), (by omega), (by exact fun j hj => by omega), rfl, N, H.pick [0, 1] [0, 1, 2, 3, 8]⟩ ?_
 clear H N
 rintro m' ρ w34 ⟨junk, i, rest_1, x_rest_1, Vq, rfl, rfl, i0, i1, rfl, N, H⟩
 have hn_rest := H.zB (α := List Int) 0 rfl 0 rfl (by decide)
 have rl := restR_len (s := s) (t := t) (counts := counts) i
 refine qm (qm (qy ?_))
 refine sps [.int .i64 i, .slice acounts counts.length ccounts] ?_
 refine sw (zD Tryz.underlying22 acounts counts.length ccounts rfl ?_)
 refine sp (.bool (decide ((i : Int) < counts.length))) ?_
 refine qw (t_n ?_)
 refine qV (decide ((i : Int) < counts.length)) rfl (fun h35 => ?_) (fun h35 => ?_)
 ·skip
  replace h35 := of_decide_eq_true h35
  have q := p0.rule (i := i) (by omega)
  have qc := q.1
  have qk := q.cell
  have qr := q.2.1
  have b1 := q.2.2.2.2.1
  have p10 := p2.bd (i := i) (by omega)
  refine xh (t_n (qm (xu (qm (qm (qy ?_))))))
  refine sps [.slice acounts counts.length ccounts, .int .i64 i] ?_
  obtain ⟨b36, o37, rfl⟩ := H.addr 4 rfl (by omega)
  refine sw (xJ i Tryz.underlying22 ti2 rfl rfl (by omega) (by omega) ?_)
  refine sw (qE (.int .i64 (counts[i]!)) Tryz.isAgg2 rfl (H.vP 4 rfl i (by omega) (by omega)) ?_)
  refine sps [.bool (decide ((counts[i]! : Int) > 0)), .bool (decide ((counts[i]! : Int) > 0))] ?_
  cases h39 : (decide ((counts[i]! : Int) > 0))
  ·skip
   replace h39 := of_decide_eq_false h39
   refine xY [51, 52, 53, 54, 55] ?_
   refine sp (.bool false) ?_
   refine qw (t_n ?_)
   refine qV false rfl (fun h => absurd h (by decide)) (fun _ => ?_)
   refine xh (t_n (qm (qy ?_)))
   refine sps [pp bs os, pp bs os] ?_
   refine sw (qM bs (os) 2 Tryz.underlying36 rfl rfl Tryz.sizeOf34 rfl ?_)
   refine sw (qE (.slice qF s.qg.length qC) Tryz.isAgg34 rfl (H.xR 1 rfl 2 rfl) ?_)
   refine sp (.int .i64 i) ?_
   obtain ⟨b40, o41, rfl⟩ := H.addr 3 rfl (by omega)
   obtain ⟨ae43Need, ce43Need, Fe43Need, ae43Have, ce43Have, Fe43Have, ae43Lack, ce43Lack, Fe43Lack, ae43Here, ce43Here, Fe43Here, ae43Out, ce43Out, Fe43Out, ae43Into, ce43Into, Fe43Into, H⟩ := H.yE 3 rfl i i (by omega) (by omega) (by omega)
   refine sw (xJ i Tryz.underlying34 ti110 rfl rfl (by omega) (by omega) ?_)
   refine sw (qM b40 (o41 + (i : Int).toNat * 9) 0 Tryz.underlying110 rfl rfl Tryz.sizeOf2 rfl ?_)
   refine sw (qE (.int .i64 ((s.qg[i]!).qA)) Tryz.isAgg2 rfl (H.xR 6 rfl 0 rfl) ?_)
   refine sp (.int .i64 ((s.qg[i]!).qA)) ?_
   refine qw (t_n ?_)
   refine Qa rfl H [1] fun H => ?_
   have S := H.Qc [1] [0, 1, 2, 3, 4, 5, 6, 7, 8, 9, 10, 11]
   refine rtp 0 (.slice Xt jB Qj) S ?_
   refine rtp 1 (.int .i64 ((s.qg[i]!).qA)) S ?_
   refine rtp 2 (.slice Xt jB Qj) S ?_
   refine rtp 3 (.int .i64 ((s.qg[i]!).qA)) S ?_
   obtain ⟨b45, rfl⟩ := H.Vr 0 rfl (by omega)
   have S := H.Qc [1] [0, 1, 2, 3, 4, 5, 6, 7, 8, 9, 10, 11]
   refine rt 4 (pp b45 (0 + ((s.qg[i]!).qA : Int).toNat * 1)) (xN b45 (0) jB Qj ((s.qg[i]!).qA) Tryz.underlying27 ti22 rfl rfl (by omega) (by omega)) S ?_
   refine rtp 6 (pp bs os) S ?_
   refine rtp 7 (pp bs os) S ?_
   refine rt 8 (pp bs (os + 2)) (xE bs (os) 2 Tryz.underlying36 rfl rfl Tryz.sizeOf34 rfl) S ?_
   refine rt 9 (.slice (aa b40 o41) s.qg.length qC) (xm Tryz.isAgg34 rfl (fun _ h => h.xR 8 rfl 2 rfl)) S ?_
   refine rtp 10 (.int .i64 i) S ?_
   refine rt 11 (pp b40 (o41 + (i : Int).toNat * 9)) (xN b40 (o41) s.qg.length qC i Tryz.underlying34 ti110 rfl rfl (by omega) (by omega)) S ?_
   refine rt 12 (pp b40 (o41 + (i : Int).toNat * 9 + 2)) (xE b40 (o41 + (i : Int).toNat * 9) 2 Tryz.underlying110 rfl rfl Tryz.sizeOf22 rfl) S ?_
   refine rt 13 (.slice ae43Need (((s.qg[i]!).qW).length) ce43Need) (xm Tryz.isAgg22 rfl (fun _ h => h.xR 6 rfl 2 rfl)) S ?_
   refine rtp 14 (.slice (aa b36 o37) counts.length ccounts) S ?_
   refine rtp 15 (.int .i64 i) S ?_
   refine rt 16 (pp b36 (o37 + (i : Int).toNat * 1)) (xN b36 (o37) counts.length ccounts i Tryz.underlying22 ti2 rfl rfl (by omega) (by omega)) S ?_
   refine rt 17 (.int .i64 (counts[i]!)) (xm Tryz.isAgg2 rfl (fun _ h => h.vP 11 rfl i (by omega) (by omega))) S ?_
   refine rt 18 (.int .i64 (-(counts[i]!))) (y_neg (counts[i]!) rfl (by omega)) S ?_
   refine xB [5] (by kernel_rfl) (by simp) (zh rfl ?_ xC)
   obtain ⟨a46, c47, G48, s49, h50, H⟩ := H.jq 0 rfl 7 rfl (iv := (s.qg[i]!).qA) (((s.qg[i]!).qA).toNat) (by omega) (by omega)
   refine qE (.slice a46 (((vg s t counts i)[((s.qg[i]!).qA).toNat]!).length) c47) Tryz.isAgg22 rfl (h50) ?_
   refine ⟨H.pick [1] [1, 2, 3, 4, 5, 6, 7, 8, 9, 10, 11, 12], ?_⟩
   refine xB [19] (by kernel_rfl) (by simp) (zh rfl ?_ xC)
   obtain ⟨u1, u2⟩ := restR_row (c := (s.qg[i]!).qA.toNat) p0 p1 p2 (show i ≤ _ by omega) qk
   have u3 := b1.len
   have u4 := b1.jU (t := -(counts[i]!)) (by omega)
   have sz51 := H.base.size
   have lt52 := H.ltN (L := [Vq]) [8]
   refine xf #[.slice a46 (((vg s t counts i)[((s.qg[i]!).qA).toNat]!).length) c47, .slice ae43Need (((s.qg[i]!).qW).length) ce43Need, .int .i64 (-(counts[i]!))] rfl rfl Tryz.call88 (XP w34.drew ((vg s t counts i)[((s.qg[i]!).qA).toNat]!) ((s.qg[i]!).qW) (-(counts[i]!)) a46 c47 G48 ae43Need ce43Need Fe43Need (H.get 0 rfl).1 (H.get 1 rfl).1 (by first | assumption | omega) (by first | assumption | omega) (by first | assumption | omega)) ?_
   rintro v56 w54 r56 x55
   replace H := H.zF x55 r56
   obtain ⟨a57, c58, rfl, hc59, hm60⟩ := H.jP 0 rfl
   refine ⟨H.pick [2] [1, 2, 3, 4, 5, 6, 7, 8, 9, 10, 11, 12], ?_⟩
   refine rt 20 (pp b45 (0 + ((s.qg[i]!).qA : Int).toNat * 1)) (xN b45 (0) jB Qj ((s.qg[i]!).qA) Tryz.underlying27 ti22 rfl rfl (by omega) (by omega)) (H.pick [2] [1, 2, 3, 4, 5, 6, 7, 8, 9, 10, 11, 12]) ?_
   refine xB [21] (by kernel_rfl) (by simp) (zh rfl ?_ xC)
   obtain ⟨G62, N, hn63, H⟩ := H.yh 0 rfl N (H.XF [8])
   try dsimp only [List.set] at H
   refine jh true H 1 rfl 9 rfl (.slice a57 ((jV ((vg s t counts i)[((s.qg[i]!).qA).toNat]!) ((s.qg[i]!).qW) (-(counts[i]!))).length) c58) 0 rfl rfl Tryz.sizeOf22 rfl rfl (i := (((s.qg[i]!).qA).toNat)) (by omega) (by omega) (by simp) fun w61 xs64 F65 hs66 H => ?_
   replace N : Fresh w.heap.size [F65] := (N.pick [1, 0]).repl hs66
   try dsimp only [List.set] at H
   refine ⟨H.pick [2] [3, 4, 5, 6, 7, 8, 9, 10, 11, 12, 13, 14], ?_⟩
   refine xO (by kernel_rfl) (b_n (t_n ?_))
   refine qy ?_
   refine sp (.int .i64 i) ?_
   refine sw (zJ i 1 rfl rfl (by omega) ?_)
   refine sp (.int .i64 (i + 1)) ?_
   refine qw ?_
   refine xF (m' := (counts.length - ((i + 1) : Int)).toNat) (by omega) ⟨_, i + 1, ((vg s t counts i).set (((s.qg[i]!).qA).toNat) (jV ((vg s t counts i)[((s.qg[i]!).qA).toNat]!) ((s.qg[i]!).qW) (-(counts[i]!)))), xs64, F65, (by exact qj (qj (qj (qj (qj (rfl) rfl) rfl) rfl) rfl) rfl), ?_, ?_, ?_, rfl, N, H.pick [1, 2] [0, 11, 12, 13, 14]⟩
   · rfl
   · omega
   · exact i1.succ (fun h => by obtain ⟨u, v⟩ := h; first | omega | exact v (appl_true (by omega) ‹_›))
  replace h39 := of_decide_eq_true h39
  refine qR 50 rfl rfl ?_
  refine sp (.slice ra1 ((appl s t).length) rc1) ?_
  refine qR 50 rfl rfl ?_
  refine sp (.int .i64 i) ?_
  refine qR 50 rfl rfl ?_
  obtain ⟨b67, rfl⟩ := H.Vr 1 rfl (by omega)
  refine sw (xJ i Tryz.underlying26 ti4 rfl rfl (by omega) (by omega) ?_)
  refine qR 50 rfl rfl ?_
  refine sw (qE (.bool ((appl s t)[i]!)) Tryz.isAgg4 rfl (H.rowBool 1 rfl (iv := i) (i := i) (by omega) (by omega)) ?_)
  refine qR 50 rfl rfl ?_
  refine sps [.bool (!((appl s t)[i]!)), .bool (!((appl s t)[i]!))] ?_
  refine qw (t_n ?_)
  refine qV (!((appl s t)[i]!)) rfl (fun h68 => ?_) (fun h68 => ?_)
  ·skip
   replace h68 := xe h68
   refine qm (qy ?_)
   refine sps [.slice Xt jB Qj, .slice Xt jB Qj, .bool false] ?_
   refine qw (t_n (xx (t_r (b_r (t_r (t_r (b_r (t_r ?_))))))))
   refine ret2 (.slice Xt jB Qj) (.bool false) rfl rfl rfl ⟨_, rfl, ?_, H.base⟩
   rw [stop_first (k := i) i1 (by omega) ⟨by omega, appl_false (by omega) ‹_›⟩, xA (fun h => h.1 i (by omega) ⟨by omega, appl_false (by omega) ‹_›⟩)]
   exact ⟨Xt, jB, Qj, x_rest_1, Vq, rfl, N, H.pick [0] [0]⟩
  replace h68 := qX h68
  refine xh (t_n (qm (qy ?_)))
  refine sps [pp bs os, pp bs os] ?_
  refine sw (qM bs (os) 2 Tryz.underlying36 rfl rfl Tryz.sizeOf34 rfl ?_)
  refine sw (qE (.slice qF s.qg.length qC) Tryz.isAgg34 rfl (H.xR 1 rfl 2 rfl) ?_)
  refine sp (.int .i64 i) ?_
  obtain ⟨b69, o70, rfl⟩ := H.addr 3 rfl (by omega)
  obtain ⟨ae72Need, ce72Need, Fe72Need, ae72Have, ce72Have, Fe72Have, ae72Lack, ce72Lack, Fe72Lack, ae72Here, ce72Here, Fe72Here, ae72Out, ce72Out, Fe72Out, ae72Into, ce72Into, Fe72Into, H⟩ := H.yE 3 rfl i i (by omega) (by omega) (by omega)
  refine sw (xJ i Tryz.underlying34 ti110 rfl rfl (by omega) (by omega) ?_)
  refine sw (qM b69 (o70 + (i : Int).toNat * 9) 0 Tryz.underlying110 rfl rfl Tryz.sizeOf2 rfl ?_)
  refine sw (qE (.int .i64 ((s.qg[i]!).qA)) Tryz.isAgg2 rfl (H.xR 6 rfl 0 rfl) ?_)
  refine sp (.int .i64 ((s.qg[i]!).qA)) ?_
  refine qw (t_n ?_)
  refine Qa rfl H [1] fun H => ?_
  have S := H.Qc [1] [0, 1, 2, 3, 4, 5, 6, 7, 8, 9, 10, 11]
  refine rtp 0 (.slice Xt jB Qj) S ?_
  refine rtp 1 (.int .i64 ((s.qg[i]!).qA)) S ?_
  refine rtp 2 (.slice Xt jB Qj) S ?_
  refine rtp 3 (.int .i64 ((s.qg[i]!).qA)) S ?_
  obtain ⟨b74, rfl⟩ := H.Vr 0 rfl (by omega)
  have S := H.Qc [1] [0, 1, 2, 3, 4, 5, 6, 7, 8, 9, 10, 11]
  refine rt 4 (pp b74 (0 + ((s.qg[i]!).qA : Int).toNat * 1)) (xN b74 (0) jB Qj ((s.qg[i]!).qA) Tryz.underlying27 ti22 rfl rfl (by omega) (by omega)) S ?_
  refine rtp 6 (pp bs os) S ?_
  refine rtp 7 (pp bs os) S ?_
  refine rt 8 (pp bs (os + 2)) (xE bs (os) 2 Tryz.underlying36 rfl rfl Tryz.sizeOf34 rfl) S ?_
  refine rt 9 (.slice (aa b69 o70) s.qg.length qC) (xm Tryz.isAgg34 rfl (fun _ h => h.xR 8 rfl 2 rfl)) S ?_
  refine rtp 10 (.int .i64 i) S ?_
  refine rt 11 (pp b69 (o70 + (i : Int).toNat * 9)) (xN b69 (o70) s.qg.length qC i Tryz.underlying34 ti110 rfl rfl (by omega) (by omega)) S ?_
  refine rt 12 (pp b69 (o70 + (i : Int).toNat * 9 + 2)) (xE b69 (o70 + (i : Int).toNat * 9) 2 Tryz.underlying110 rfl rfl Tryz.sizeOf22 rfl) S ?_
  refine rt 13 (.slice ae72Need (((s.qg[i]!).qW).length) ce72Need) (xm Tryz.isAgg22 rfl (fun _ h => h.xR 6 rfl 2 rfl)) S ?_
  refine rtp 14 (.slice (aa b36 o37) counts.length ccounts) S ?_
  refine rtp 15 (.int .i64 i) S ?_
  refine rt 16 (pp b36 (o37 + (i : Int).toNat * 1)) (xN b36 (o37) counts.length ccounts i Tryz.underlying22 ti2 rfl rfl (by omega) (by omega)) S ?_
  refine rt 17 (.int .i64 (counts[i]!)) (xm Tryz.isAgg2 rfl (fun _ h => h.vP 11 rfl i (by omega) (by omega))) S ?_
  refine rt 18 (.int .i64 (-(counts[i]!))) (y_neg (counts[i]!) rfl (by omega)) S ?_
  refine xB [5] (by kernel_rfl) (by simp) (zh rfl ?_ xC)
  obtain ⟨a75, c76, G77, s78, h79, H⟩ := H.jq 0 rfl 7 rfl (iv := (s.qg[i]!).qA) (((s.qg[i]!).qA).toNat) (by omega) (by omega)
  refine qE (.slice a75 (((vg s t counts i)[((s.qg[i]!).qA).toNat]!).length) c76) Tryz.isAgg22 rfl (h79) ?_
  refine ⟨H.pick [1] [1, 2, 3, 4, 5, 6, 7, 8, 9, 10, 11, 12], ?_⟩
  refine xB [19] (by kernel_rfl) (by simp) (zh rfl ?_ xC)
  obtain ⟨u1, u2⟩ := restR_row (c := (s.qg[i]!).qA.toNat) p0 p1 p2 (show i ≤ _ by omega) qk
  have u3 := b1.len
  have u4 := b1.jU (t := -(counts[i]!)) (by omega)
  have sz80 := H.base.size
  have lt81 := H.ltN (L := [Vq]) [8]
  refine xf #[.slice a75 (((vg s t counts i)[((s.qg[i]!).qA).toNat]!).length) c76, .slice ae72Need (((s.qg[i]!).qW).length) ce72Need, .int .i64 (-(counts[i]!))] rfl rfl Tryz.call88 (XP w34.drew ((vg s t counts i)[((s.qg[i]!).qA).toNat]!) ((s.qg[i]!).qW) (-(counts[i]!)) a75 c76 G77 ae72Need ce72Need Fe72Need (H.get 0 rfl).1 (H.get 1 rfl).1 (by first | assumption | omega) (by first | assumption | omega) (by first | assumption | omega)) ?_
  rintro v85 w83 r85 x84
  replace H := H.zF x84 r85
  obtain ⟨a86, c87, rfl, hc88, hm89⟩ := H.jP 0 rfl
  refine ⟨H.pick [2] [1, 2, 3, 4, 5, 6, 7, 8, 9, 10, 11, 12], ?_⟩
  refine rt 20 (pp b74 (0 + ((s.qg[i]!).qA : Int).toNat * 1)) (xN b74 (0) jB Qj ((s.qg[i]!).qA) Tryz.underlying27 ti22 rfl rfl (by omega) (by omega)) (H.pick [2] [1, 2, 3, 4, 5, 6, 7, 8, 9, 10, 11, 12]) ?_
  refine xB [21] (by kernel_rfl) (by simp) (zh rfl ?_ xC)
  obtain ⟨G91, N, hn92, H⟩ := H.yh 0 rfl N (H.XF [8])
  try dsimp only [List.set] at H
  refine jh true H 1 rfl 9 rfl (.slice a86 ((jV ((vg s t counts i)[((s.qg[i]!).qA).toNat]!) ((s.qg[i]!).qW) (-(counts[i]!))).length) c87) 0 rfl rfl Tryz.sizeOf22 rfl rfl (i := (((s.qg[i]!).qA).toNat)) (by omega) (by omega) (by simp) fun w90 xs93 F94 hs95 H => ?_
  replace N : Fresh w.heap.size [F94] := (N.pick [1, 0]).repl hs95
  try dsimp only [List.set] at H
  refine ⟨H.pick [2] [3, 4, 5, 6, 7, 8, 9, 10, 11, 12, 13, 14], ?_⟩
  refine xO (by kernel_rfl) (b_n (t_n ?_))
  refine qy ?_
  refine sp (.int .i64 i) ?_
  refine sw (zJ i 1 rfl rfl (by omega) ?_)
  refine sp (.int .i64 (i + 1)) ?_
  refine qw ?_
  refine xF (m' := (counts.length - ((i + 1) : Int)).toNat) (by omega) ⟨_, i + 1, ((vg s t counts i).set (((s.qg[i]!).qA).toNat) (jV ((vg s t counts i)[((s.qg[i]!).qA).toNat]!) ((s.qg[i]!).qW) (-(counts[i]!)))), xs93, F94, (by exact qj (qj (qj (qj (qj (rfl) rfl) rfl) rfl) rfl) rfl), ?_, ?_, ?_, rfl, N, H.pick [1, 2] [0, 11, 12, 13, 14]⟩
  · rfl
  · omega
  · exact i1.succ (fun h => by obtain ⟨u, v⟩ := h; first | omega | exact v (appl_true (by omega) ‹_›))
 replace h35 := of_decide_eq_false h35
 refine zy (t_x (t_x (b_x (t_n (qm (qm (qy ?_)))))))
 refine sp (.int .i64 0) ?_
 refine qw (t_n (xu ?_))
 refine zG (fun m' ρ w96 => ∃ (junk : Env) (c_1 : Nat), ρ = upd (upd junk 9 (.slice Xt jB Qj)) 13 (.int .i64 c_1) ∧ ((c_1 : Int) ≤ jB) ∧ (NonNeg (vg s t counts i) c_1) ∧ m' = (jB - (c_1 : Int)).toNat ∧ Fresh w.heap.size [Vq] ∧ St w w96 [.row (.slice Xt jB Qj) 22 1 jB x_rest_1, .row (.slice ra1 ((appl s t).length) rc1) 4 1 ((appl s t).length) ((appl s t).map (Value.bool))] [vK true Vq x_rest_1 (vg s t counts i)]) ((jB - (0 : Int)).toNat) ⟨_, 0, (by exact qj (qj (rfl) rfl) rfl), (by omega), (by exact fun j hj => by omega), rfl, N, H.pick [0, 1] [0]⟩ ?_
 clear H N
 rintro m' ρ w97 ⟨junk, c_1, rfl, i0, i2, rfl, N, H⟩
 refine qm (qm (qy ?_))
 refine sps [.int .i64 c_1, .slice Xt jB Qj] ?_
 refine sw (zD Tryz.underlying27 Xt jB Qj rfl ?_)
 refine sp (.bool (decide ((c_1 : Int) < jB))) ?_
 refine qw (t_n ?_)
 refine qV (decide ((c_1 : Int) < jB)) rfl (fun h98 => ?_) (fun h98 => ?_)
 ·skip
  replace h98 := of_decide_eq_true h98
  have r1 := (restR_row (c := c_1) p0 p1 p2 (show i ≤ _ by omega) (show c_1 < vY s by omega)).1
  refine xh (t_n (qm (xu (qm (qy ?_)))))
  refine sp (.int .i64 0) ?_
  refine qw (t_n (xu ?_))
  refine zG (fun m' ρ w99 => ∃ (junk : Env) (k : Nat), ρ = upd (upd (upd junk 9 (.slice Xt jB Qj)) 13 (.int .i64 c_1)) 14 (.int .i64 k) ∧ ((k : Int) ≤ (((vg s t counts i)[c_1]!).length)) ∧ (∀ j, j < k → 0 ≤ ((vg s t counts i)[c_1]!)[j]!) ∧ m' = ((((vg s t counts i)[c_1]!).length) - (k : Int)).toNat ∧ Fresh w.heap.size [Vq] ∧ St w w99 [.row (.slice Xt jB Qj) 22 1 jB x_rest_1, .row (.slice ra1 ((appl s t).length) rc1) 4 1 ((appl s t).length) ((appl s t).map (Value.bool))] [vK true Vq x_rest_1 (vg s t counts i)]) (((((vg s t counts i)[c_1]!).length) - (0 : Int)).toNat) ⟨_, 0, (by exact qj (qj (qj (rfl) rfl) rfl) rfl), (by omega), (by exact fun j hj => by omega), rfl, N, H⟩ ?_
  clear H N
  rintro m' ρ w100 ⟨junk, k, rfl, i0, i3, rfl, N, H⟩
  refine qm (qm (qy ?_))
  refine sps [.int .i64 k, .slice Xt jB Qj, .int .i64 c_1] ?_
  obtain ⟨b101, rfl⟩ := H.Vr 0 rfl (by omega)
  refine sw (xJ c_1 Tryz.underlying27 ti22 rfl rfl (by omega) (by omega) ?_)
  obtain ⟨a102, c103, G104, s105, h106, H⟩ := H.jq 0 rfl 0 rfl (iv := c_1) c_1 (by omega) (by omega)
  refine sw (qE (.slice a102 (((vg s t counts i)[c_1]!).length) c103) Tryz.isAgg22 rfl (h106) ?_)
  refine sw (zD Tryz.underlying22 a102 (((vg s t counts i)[c_1]!).length) c103 rfl ?_)
  refine sp (.bool (decide ((k : Int) < (((vg s t counts i)[c_1]!).length)))) ?_
  refine qw (t_n ?_)
  refine qV (decide ((k : Int) < (((vg s t counts i)[c_1]!).length))) rfl (fun h107 => ?_) (fun h107 => ?_)
  ·skip
   replace h107 := of_decide_eq_true h107
   refine xh (t_n (qm (xu (qm (qy ?_)))))
   refine sps [.slice (aa b101 0) jB Qj, .int .i64 c_1] ?_
   refine sw (xJ c_1 Tryz.underlying27 ti22 rfl rfl (by omega) (by omega) ?_)
   obtain ⟨a108, c109, G110, s111, h112, H⟩ := H.jq 0 rfl 1 rfl (iv := c_1) c_1 (by omega) (by omega)
   refine sw (qE (.slice a108 (((vg s t counts i)[c_1]!).length) c109) Tryz.isAgg22 rfl (h112) ?_)
   refine sp (.int .i64 k) ?_
   obtain ⟨b113, o114, rfl⟩ := H.addr 0 rfl (by omega)
   refine sw (xJ k Tryz.underlying22 ti2 rfl rfl (by omega) (by omega) ?_)
   refine sw (qE (.int .i64 (((vg s t counts i)[c_1]!)[k]!)) Tryz.isAgg2 rfl (H.vP 0 rfl k (by omega) (by omega)) ?_)
   refine sp (.bool (decide ((((vg s t counts i)[c_1]!)[k]! : Int) < 0))) ?_
   refine qw (t_n ?_)
   refine qV (decide ((((vg s t counts i)[c_1]!)[k]! : Int) < 0)) rfl (fun h116 => ?_) (fun h116 => ?_)
   ·skip
    replace h116 := of_decide_eq_true h116
    refine qm (qy ?_)
    refine sps [.slice (aa b101 0) jB Qj, .slice (aa b101 0) jB Qj, .bool false] ?_
    refine qw (t_n (xx (b_r (t_r (t_r (b_r (b_r (t_r (t_r (b_r (t_r ?_)))))))))))
    refine ret2 (.slice (aa b101 0) jB Qj) (.bool false) rfl rfl rfl ⟨_, rfl, ?_, H.base⟩
    obtain rfl : i = counts.length := by omega
    rw [stop_none (n := counts.length) i1, xA (fun h => by have := h.2 c_1 (by omega) k (by omega); omega)]
    exact ⟨(aa b101 0), jB, Qj, x_rest_1, Vq, rfl, N, H.pick [0] [2]⟩
   replace h116 := of_decide_eq_false h116
   refine xh (b_n (t_n (qy ?_)))
   refine sp (.int .i64 k) ?_
   refine sw (zJ k 1 rfl rfl (by omega) ?_)
   refine sp (.int .i64 (k + 1)) ?_
   refine qw ?_
   refine xF (m' := ((((vg s t counts i)[c_1]!).length) - ((k + 1) : Int)).toNat) (by omega) ⟨_, k + 1, (by exact qj (qj (qj (rfl) rfl) rfl) rfl), ?_, ?_, rfl, N, H.pick [0, 1] [2]⟩
   · omega
   · exact fun j hj => by (by_cases e : j = k; (subst e; omega); exact i3 j (by omega))
  replace h107 := of_decide_eq_false h107
  refine zy (t_x (t_x (b_x (b_n (t_n (qy ?_))))))
  refine sp (.int .i64 c_1) ?_
  refine sw (zJ c_1 1 rfl rfl (by omega) ?_)
  refine sp (.int .i64 (c_1 + 1)) ?_
  refine qw ?_
  refine xF (m' := (jB - ((c_1 + 1) : Int)).toNat) (by omega) ⟨_, c_1 + 1, (by exact qj (qj (rfl) rfl) rfl), ?_, ?_, rfl, N, H.pick [0, 1] [1]⟩
  · omega
  · exact i2.succ (fun j hj => i3 j (by omega))
 replace h98 := of_decide_eq_false h98
 refine zy (t_x (t_x (b_x (t_n (qm (qy ?_))))))
 refine sps [.slice Xt jB Qj, .slice Xt jB Qj, .bool true] ?_
 refine qw (t_n (xx ?_))
 refine ret2 (.slice Xt jB Qj) (.bool true) rfl rfl rfl ⟨_, rfl, ?_, H.base⟩
 obtain rfl : i = counts.length := by omega
 rw [stop_none (n := counts.length) i1, yU ⟨i1, (show c_1 = t.qx.length by omega) ▸ i2⟩]
 exact ⟨Xt, jB, Qj, x_rest_1, Vq, rfl, N, H.pick [0] [0]⟩

end Go.Proofs.YtkmlihdacnfhdaaGreat
