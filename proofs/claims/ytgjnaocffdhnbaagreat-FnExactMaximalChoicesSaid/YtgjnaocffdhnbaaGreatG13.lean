/- Walks, printed by program (wip/tools/gv.py): what each function comes to, for all arguments. -/
import Derived.Test.YtgjnaocffdhnbaaGreatG9
import Derived.Test.YtgjnaocffdhnbaaGreatI
import Derived.Test.YtgjnaocffdhnbaaGreatTI
import Derived.Test.YtgjnaocffdhnbaaGreatP7
import Derived.Test.YtgjnaocffdhnbaaGreatG7
namespace Go.Proofs.YtgjnaocffdhnbaaGreat
set_option linter.unusedVariables false
set_option linter.unusedSimpArgs false
open Go.Proofs.YtgjnaocffdhnbaaGreat.Tot (tot)
open Go.Proofs.YtgjnaocffdhnbaaGreat.Mark (cnt mrk mkd mkd_mark cnt_mark)
open Go.RowKit
set_option linter.unusedVariables false
set_option linter.unusedSimpArgs false
set_option maxRecDepth 100000
set_option maxHeartbeats 4000000

instance iC185_G13 : Qn Tryz.prog 185 := ⟨Tryz.call185⟩
instance iC188_G13 : Qn Tryz.prog 188 := ⟨Tryz.call188⟩
instance iC145_G13 : Qn Tryz.prog 145 := ⟨Tryz.call145⟩


theorem isEnabled_ok (w : World) (s : qK) (t : xu) (r : Qm) (qx : Option Addr) (qp : Nat) (xn : List Nat) (qN : Option Addr) (qL : Nat) (xG : List Nat) (xB : Option Addr) (xx : Nat) (zy : List Nat) (xK : Option Addr) (xH : Nat) (zX : List Nat) (xg : Option Addr) (xf : Nat) (xW : List Nat) (ja : Option Addr) (vU : Nat) (Xl : List Nat) (jd : Option Addr) (vX : Nat) (Xo : List Nat) (jb : Option Addr) (vV : Nat) (Xm : List Nat) (jc : Option Addr) (vW : Nat) (Xn : List Nat) (yK : Option Addr) (yJ : Nat) (FrOut : List Nat) (vz : Option Addr) (vw : Nat) (FrInto : List Nat) (xh : qE.rep w xn [.slice qx s.qf.length qp] s.qf) (xE : qE.rep w xG [.slice qN s.qh.length qL] s.qh) (zu : qE.rep w zy [.slice xB t.qo.length xx] t.qo) (zV : qE.rep w zX [.slice xK t.qy.length xH] t.qy) (xU : qE.rep w xW [.slice xg t.qm.length xf] t.qm) (hrNeed : qE.rep w Xl [.slice ja r.qO.length vU] r.qO) (hrHave : qE.rep w Xo [.slice jd r.qX.length vX] r.qX) (hrLack : qE.rep w Xm [.slice jb r.xe.length vV] r.xe) (hrHere : qE.rep w Xn [.slice jc r.xm.length vW] r.xm) (hrOut : qE.rep w FrOut [.slice yK r.xZ.length yJ] r.xZ) (hrInto : qE.rep w FrInto [.slice vz r.qF.length vw] r.qF) (p0 : yw s) (p1 : zS s t) (p2 : RuleOk s r) : Calls Tryz.prog 145 #[.agg #[.int .i64 s.qH, .slice qx s.qf.length qp, .slice qN s.qh.length qL], .agg #[.slice xB t.qo.length xx, .slice xK t.qy.length xH, .slice xg t.qm.length xf], .agg #[.int .i64 r.qw, .int .i64 r.xN, .slice ja r.qO.length vU, .slice jd r.qX.length vX, .slice jb r.xe.length vV, .slice jc r.xm.length vW, .slice yK r.xZ.length yJ, .slice vz r.qF.length vw, .bool r.xO]] w (Ret (fun v w' => v = .bool (dec (EnOk s t r))) w) := by
 refine en Tryz.func145 Tryz.ntmps145 ?_
 have H := (((((((((((St.start w).arg hrInto).arg hrOut).arg hrHere).arg hrLack).arg hrHave).arg hrNeed).arg xU).arg zV).arg zu).arg xE).arg xh
 have zU := qA xh
 have jD := qA xE
 have Xr := qA zu
 have nhtBags := qA zV
 have QA := qA xU
 have nhrNeed := qA hrNeed
 have nhrHave := qA hrHave
 have nhrLack := qA hrLack
 have nhrHere := qA hrHere
 have nhrOut := qA hrOut
 have nhrInto := qA hrInto
 clear xh xE zu zV xU hrNeed hrHave hrLack hrHere hrOut hrInto
 have N := Fresh.nil w.heap.size
 have p3 := p2.1
 have p4 := p1.1
 have p5 := p1.2.1
 have p6 := (p1.bagLen (k := r.qw.toNat) (by omega)).len
 have p7 := p2.2.2.2.2.1.len
 have p8 := p2.2.2.2.2.2.1.len
 have p9 := p2.2.2.2.2.2.2.1.len
 have p10 := zo p2.2.2.2.2.2.2.1
 have p11 := p0.1
 have p12 := p2.2.2.2.2.2.2.2.2.2.2
 have p13 := kinds_le p0
 refine qi (ql ?_)
 refine sw (zh H [.int .i64 s.qH, .slice qx s.qf.length qp, .slice qN s.qh.length qL] fun b1 w2 H => ?_)
 refine sw (zh H [.slice xB t.qo.length xx, .slice xK t.qy.length xH, .slice xg t.qm.length xf] fun b3 w4 H => ?_)
 refine sw (zh H [.int .i64 r.qw, .int .i64 r.xN, .slice ja r.qO.length vU, .slice jd r.qX.length vX, .slice jb r.xe.length vV, .slice jc r.xm.length vW, .slice yK r.xZ.length yJ, .slice vz r.qF.length vw, .bool r.xO] fun b5 w6 H => ?_)
 refine sp (.bool false) ?_
 refine qj (t_n (qi (qi (ql ?_))))
 refine oF rfl ?_
 refine oL rfl (H.cell 1 rfl rfl) ?_
 refine oF rfl ?_
 refine oL rfl (H.cell 0 rfl rfl) ?_
 obtain ⟨b7, o8, rfl⟩ := H.addr 2 rfl (by omega)
 refine oI rfl rfl ?_
 refine oL rfl (H.QG 2 rfl r.qw (by omega) (by omega)) ?_
 refine sp (.bool (!(t.qo[r.qw.toNat]!))) ?_
 refine qj (t_n ?_)
 refine qC (!(t.qo[r.qw.toNat]!)) rfl (fun h10 => ?_) (fun h10 => ?_)
 ·skip
  replace h10 := qP h10
  refine qi (ql ?_)
  refine sp (.bool false) ?_
  refine qj (t_n (qV (t_r ?_)))
  refine ret1 (.bool false) rfl rfl ⟨_, rfl, ?_, H.base⟩
  rw [qY (fun h => by obtain ⟨h1, h2, h3, h4, h5⟩ := h; first | exact ft h1 ‹_› | exact ft h2 ‹_› | exact ft h3 ‹_› | exact h4 ⟨‹_›, ‹_›⟩ | (obtain ⟨q1, q2⟩ := h5 i (by omega); first | exact ft q1 ‹_› | exact absurd q2 ‹_›))]
 replace h10 := qJ h10
 refine qM (t_n (qi (ql ?_)))
 refine oF rfl ?_
 refine oL rfl (H.cell 1 rfl rfl) ?_
 refine oF rfl ?_
 refine oL rfl (H.cell 0 rfl rfl) ?_
 obtain ⟨b11, o12, rfl⟩ := H.addr 3 rfl (by omega)
 obtain ⟨ae14, ce14, Fe14, H⟩ := H.jo 3 rfl r.qw r.qw.toNat (by omega) (by omega) (by omega)
 refine oI rfl rfl ?_
 refine oL rfl (H.xJ 1 rfl 0 rfl) ?_
 refine sp (.slice ae14 ((t.qy[r.qw.toNat]!).length) ce14) ?_
 refine qj (t_n (qi (qi (ql ?_))))
 refine oF rfl ?_
 refine oL rfl (H.cell 0 rfl rfl) ?_
 refine sp (.slice ae14 ((t.qy[r.qw.toNat]!).length) ce14) ?_
 refine sw (oc (isWithin_ok _ r.qO (t.qy[r.qw.toNat]!) _ _ _ _ _ _ (H.get 7 rfl).1 (H.get 0 rfl).1 (by first | assumption | omega) (by first | assumption | omega)) ?_)
 rintro _ w15 rfl x16
 replace H := H.ext x16
 refine sps [.bool (!(within r.qO (t.qy[r.qw.toNat]!))), .bool (!(within r.qO (t.qy[r.qw.toNat]!)))] ?_
 cases h17 : (!(within r.qO (t.qy[r.qw.toNat]!)))
 ·skip
  replace h17 := qJ h17
  refine qB 26 rfl rfl ?_
  refine oF rfl ?_
  refine qB 26 rfl rfl ?_
  refine oL rfl (H.cell 0 rfl rfl) ?_
  refine qB 26 rfl rfl ?_
  refine sp (.slice ae14 ((t.qy[r.qw.toNat]!).length) ce14) ?_
  refine qB 26 rfl rfl ?_
  refine sw (oc (isWithin_ok _ r.qX (t.qy[r.qw.toNat]!) _ _ _ _ _ _ (H.get 8 rfl).1 (H.get 0 rfl).1 (by first | assumption | omega) (by first | assumption | omega)) ?_)
  rintro _ w18 rfl x19
  replace H := H.ext x19
  refine qB 26 rfl rfl ?_
  refine sps [.bool (!(within r.qX (t.qy[r.qw.toNat]!))), .bool (!(within r.qX (t.qy[r.qw.toNat]!))), .bool (!(within r.qX (t.qy[r.qw.toNat]!)))] ?_
  cases h20 : (!(within r.qX (t.qy[r.qw.toNat]!)))
  ·skip
   replace h20 := qJ h20
   refine qB 33 rfl rfl ?_
   refine oF rfl ?_
   refine qB 33 rfl rfl ?_
   refine oL rfl (H.cell 0 rfl rfl) ?_
   refine qB 33 rfl rfl ?_
   refine sw (oc (QV _ r.xe _ _ _ (H.get 9 rfl).1 (by first | assumption | exact zo (by assumption) | exact jw (by assumption))) ?_)
   rintro _ w21 rfl x22
   replace H := H.ext x22
   refine qB 33 rfl rfl ?_
   refine sp (.bool (decide ((Qz r.xe : Int) > 0))) ?_
   refine qB 33 rfl rfl ?_
   refine sp (.bool (decide ((Qz r.xe : Int) > 0))) ?_
   cases h23 : (decide ((Qz r.xe : Int) > 0))
   ·skip
    replace h23 := of_decide_eq_false h23
    refine xF [39, 40, 41, 42] ?_
    refine qB 33 rfl rfl ?_
    refine sps [.bool false, .bool false] ?_
    refine qj (t_n ?_)
    refine qC false rfl (fun h => absurd h (by decide)) (fun _ => ?_)
    refine qM (t_n (qi (ql ?_)))
    refine oF rfl ?_
    refine oL rfl (H.cell 0 rfl rfl) ?_
    refine sp (.func (.func 187) #[] #[pp b3 0, pp b1 0, pp b5 0]) ?_
    refine sw (jf #[.slice vz r.qF.length vw, .func (.func 187) #[] #[pp b3 0, pp b1 0, pp b5 0]] rfl rfl Tryz.call186 ?_)
    refine en Tryz.func186 Tryz.ntmps186 ?_
    refine qi (ql ?_)
    refine sp (.bool false) ?_
    refine qj (t_n (qi (ql ?_)))
    refine sps [.slice vz r.qF.length vw, .func (.func 187) #[] #[pp b3 0, pp b1 0, pp b5 0]] ?_
    refine sw (jf #[.slice vz r.qF.length vw, .func (.func 187) #[] #[pp b3 0, pp b1 0, pp b5 0]] rfl rfl Tryz.call207 ?_)
    refine en Tryz.func207 Tryz.ntmps207 ?_
    refine qi (ql ?_)
    refine sp (.int .i64 0) ?_
    refine qj (t_n (qi (qi (ql ?_))))
    refine sp (.slice vz r.qF.length vw) ?_
    refine oN rfl ?_
    refine sp (.int .i64 0) ?_
    refine qj (t_n (qW ?_))
    refine zf (fun m' ρ w24 => ∃ (junk : Env) (i : Nat), ρ = upd (upd (upd (upd junk 0 (.slice vz r.qF.length vw)) 1 (.func (.func 187) #[] #[pp b3 0, pp b1 0, pp b5 0])) 7 (.int .i64 r.qF.length)) 8 (.int .i64 i) ∧ ((i : Int) ≤ r.qF.length) ∧ (IntoUp s t r i) ∧ m' = (r.qF.length - (i : Int)).toNat ∧ Fresh w.heap.size [] ∧ St w w24 [.box b5 [.int .i64 r.qw, .int .i64 r.xN, .slice ja r.qO.length vU, .slice jd r.qX.length vX, .slice jb r.xe.length vV, .slice jc r.xm.length vW, .slice yK r.xZ.length yJ, .slice vz r.qF.length vw, .bool r.xO] 121, .box b3 [.slice (aa b7 o8) t.qo.length xx, .slice (aa b11 o12) t.qy.length xH, .slice xg t.qm.length xf] 38, .box b1 [.int .i64 s.qH, .slice qx s.qf.length qp, .slice qN s.qh.length qL] 36] [isF false Fe14 (.slice ae14 ((t.qy[r.qw.toNat]!).length) ce14) (t.qy[r.qw.toNat]!), atF b11 (o12 + (r.qw : Int).toNat * 1) [.slice ae14 ((t.qy[r.qw.toNat]!).length) ce14], isF false xn (.slice qx s.qf.length qp) s.qf, isF false xG (.slice qN s.qh.length qL) s.qh, isF false zy (.slice (aa b7 o8) t.qo.length xx) t.qo, isF false zX (.slice (aa b11 o12) t.qy.length xH) t.qy, isF false xW (.slice xg t.qm.length xf) t.qm, isF false Xl (.slice ja r.qO.length vU) r.qO, isF false Xo (.slice jd r.qX.length vX) r.qX, isF false Xm (.slice jb r.xe.length vV) r.xe, isF false Xn (.slice jc r.xm.length vW) r.xm, isF false FrOut (.slice yK r.xZ.length yJ) r.xZ, isF false FrInto (.slice vz r.qF.length vw) r.qF]) ((r.qF.length - (0 : Int)).toNat) ⟨_, 0, (by exact qg (qg (qg (qg (rfl) rfl) rfl) rfl) rfl), (by omega), (by exact fun j hj => by omega), rfl, N, H⟩ ?_
    clear H N
    rintro m' ρ w25 ⟨junk, i, rfl, i0, i1, rfl, N, H⟩
    refine qi (ql ?_)
    refine sp (.bool (decide ((i : Int) < r.qF.length))) ?_
    refine qj (t_n (qi ?_))
    refine qC (decide ((i : Int) < r.qF.length)) rfl (fun h26 => ?_) (fun h26 => ?_)
    ·skip
     replace h26 := of_decide_eq_true h26
     have q := (p12 i (by omega)).1
     have q1 := q.1
     have q2 := q.2
     refine qM (t_n (qi (qW (qi (ql ?_)))))
     refine sps [.int .i64 i, .int .i64 i] ?_
     refine qj (t_n (qi (ql ?_)))
     refine sps [.func (.func 187) #[] #[pp b3 0, pp b1 0, pp b5 0], .slice vz r.qF.length vw, .int .i64 i] ?_
     obtain ⟨b27, o28, rfl⟩ := H.addr 12 rfl (by omega)
     obtain ⟨ae30Bag, ce30Bag, Fe30Bag, H⟩ := H.jC 12 rfl i i (by omega) (by omega) (by omega)
     refine oI rfl rfl ?_
     refine sw (zC [.int .i64 ((r.qF[i]!).qw), .slice ae30Bag (((r.qF[i]!).zZ).length) ce30Bag] Tryz.isAgg164 Tryz.sizeOf164 rfl (qI (H.get 1 rfl) 0 2) ?_)
     refine sw (jf #[.agg #[.int .i64 ((r.qF[i]!).qw), .slice ae30Bag (((r.qF[i]!).zZ).length) ce30Bag], pp b3 0, pp b1 0, pp b5 0] rfl rfl Tryz.call187 ?_)
     refine en Tryz.func187 Tryz.ntmps187 ?_
     refine qi (ql ?_)
     refine sw (zh H [.int .i64 ((r.qF[i]!).qw), .slice ae30Bag (((r.qF[i]!).zZ).length) ce30Bag] fun b31 w32 H => ?_)
     refine sp (.bool false) ?_
     refine qj (t_n (qi ?_))
     refine vZ rfl H fun H => ?_
     refine tF 0 rfl rfl H ?_
     refine tL 1 rfl rfl (fun _ h => h.cell 2 rfl rfl) H ?_
     refine tF 2 rfl rfl H ?_
     refine tL 3 rfl rfl (fun _ h => h.cell 0 rfl rfl) H ?_
     refine tI 4 rfl rfl rfl H ?_
     refine tL 5 rfl rfl (fun _ h => h.QG 6 rfl ((r.qF[i]!).qw) (by omega) (by omega)) H ?_
     refine rtp 6 (.bool (!(t.qo[((r.qF[i]!).qw).toNat]!))) H ?_
     refine rtp 7 (.bool (!(t.qo[((r.qF[i]!).qw).toNat]!))) H ?_
     cases h34 : (!(t.qo[((r.qF[i]!).qw).toNat]!))
     ·skip
      replace h34 := qJ h34
      refine rg 8 (.agg #[.int .i64 s.qH, .slice qx s.qf.length qp, .slice qN s.qh.length qL]) 13 (Qo (cs := [.int .i64 s.qH, .slice qx s.qf.length qp, .slice qN s.qh.length qL]) Tryz.isAgg36 Tryz.sizeOf36 rfl (fun _ h => qI (h.cells 3 rfl) 0 3)) H ?_
      refine rg 9 (.agg #[.slice (aa b7 o8) t.qo.length xx, .slice (aa b11 o12) t.qy.length xH, .slice xg t.qm.length xf]) 13 (Qo (cs := [.slice (aa b7 o8) t.qo.length xx, .slice (aa b11 o12) t.qy.length xH, .slice xg t.qm.length xf]) Tryz.isAgg38 Tryz.sizeOf38 rfl (fun _ h => qI (h.cells 2 rfl) 0 3)) H ?_
      refine gF 10 rfl rfl H ?_
      refine gL 11 rfl rfl (fun _ h => h.cell 0 rfl rfl) H ?_
      refine gF 13 rfl rfl H ?_
      refine gL 14 rfl rfl (fun _ h => h.cell 1 rfl rfl) H ?_
      refine qR [12] (by kernel_rfl) (by simp) (r_opG rfl (e := 13) rfl rfl ?_ qU)
      refine oc (parentNow_ok _ s t ((r.qF[i]!).qw) _ _ _ _ _ _ _ _ _ _ _ _ _ _ _ (H.get 4 rfl).1 (H.get 5 rfl).1 (H.get 6 rfl).1 (H.get 7 rfl).1 (H.get 8 rfl).1 (by first | assumption | omega) (by first | assumption | omega) (by first | assumption | omega)) ?_
      rintro _ w36 rfl x37
      replace H := H.ext x37
      refine ⟨H, ?_⟩
      refine rgp 15 (.bool ((vI s t ((r.qF[i]!).qw) : Int) != r.qw)) 13 H ?_
      refine rtp 16 (.bool ((vI s t ((r.qF[i]!).qw) : Int) != r.qw)) H ?_
      refine rtp 17 (.bool ((vI s t ((r.qF[i]!).qw) : Int) != r.qw)) H ?_
      refine xq (by kernel_rfl) (t_n ?_)
      refine qV ?_
      refine ret1 (.bool ((vI s t ((r.qF[i]!).qw) : Int) != r.qw)) rfl rfl ⟨_, rfl, ?_⟩
      replace H := H.erases [0]
      dsimp only [Qv, List.eraseIdx] at H
      refine qj (t_n ?_)
      refine qC ((vI s t ((r.qF[i]!).qw) : Int) != r.qw) rfl (fun h38 => ?_) (fun h38 => ?_)
      ·skip
       replace h38 := bne_iff_ne.1 h38
       refine qi (ql ?_)
       refine sps [.int .i64 i, .int .i64 i] ?_
       refine qj (t_n (qV (b_r (t_r (t_r (b_r (t_r ?_)))))))
       refine ret1 (.int .i64 i) rfl rfl ⟨_, rfl, ?_⟩
       refine sw (o_pure (.bool true) (by show some (Value.bool (decide ((i : Int) ≥ 0))) = some (Value.bool true); rw [decide_eq_true (by omega)]) ?_)
       refine sp (.bool true) ?_
       refine qj (t_n (qV ?_))
       refine ret1 (.bool true) rfl rfl ⟨_, rfl, ?_⟩
       refine sps [.bool false, .bool false] ?_
       refine qj (t_n (qV ?_))
       refine ret1 (.bool false) rfl rfl ⟨_, rfl, ?_, H.base⟩
       rw [qY (fun h => by obtain ⟨h1, h2, h3, h4, h5⟩ := h; first | exact ft h1 ‹_› | exact ft h2 ‹_› | exact ft h3 ‹_› | exact h4 ⟨‹_›, ‹_›⟩ | (obtain ⟨q1, q2⟩ := h5 i (by omega); first | exact ft q1 ‹_› | exact absurd q2 ‹_›))]
      replace h38 := xw h38
      refine qM (b_n (t_n (ql ?_)))
      refine sw (zk i 1 rfl rfl (by omega) ?_)
      refine sp (.int .i64 (i + 1)) ?_
      refine qj ?_
      refine xk (m' := (r.qF.length - ((i + 1) : Int)).toNat) (by omega) ⟨_, i + 1, (by exact qg (qg (qg (qg (rfl) rfl) rfl) rfl) rfl), ?_, ?_, rfl, N, H.pick [0, 1, 2] [2, 3, 4, 5, 6, 7, 8, 9, 10, 11, 12, 13, 14]⟩
      · omega
      · exact i1.succ ‹_› ‹_›
     replace h34 := qP h34
     refine zi [8, 9, 10, 11, 12, 13, 14, 15] 8 (H) ?_
     refine rtp 16 (.bool true) H ?_
     refine rtp 17 (.bool true) H ?_
     refine xq (by kernel_rfl) (t_n ?_)
     refine qV ?_
     refine ret1 (.bool true) rfl rfl ⟨_, rfl, ?_⟩
     replace H := H.erases [0]
     dsimp only [Qv, List.eraseIdx] at H
     refine qj (t_n ?_)
     refine qC true rfl (fun _ => ?_) (fun h => absurd h (by decide))
     refine qi (ql ?_)
     refine sps [.int .i64 i, .int .i64 i] ?_
     refine qj (t_n (qV (b_r (t_r (t_r (b_r (t_r ?_)))))))
     refine ret1 (.int .i64 i) rfl rfl ⟨_, rfl, ?_⟩
     refine sw (o_pure (.bool true) (by show some (Value.bool (decide ((i : Int) ≥ 0))) = some (Value.bool true); rw [decide_eq_true (by omega)]) ?_)
     refine sp (.bool true) ?_
     refine qj (t_n (qV ?_))
     refine ret1 (.bool true) rfl rfl ⟨_, rfl, ?_⟩
     refine sps [.bool false, .bool false] ?_
     refine qj (t_n (qV ?_))
     refine ret1 (.bool false) rfl rfl ⟨_, rfl, ?_, H.base⟩
     rw [qY (fun h => by obtain ⟨h1, h2, h3, h4, h5⟩ := h; first | exact ft h1 ‹_› | exact ft h2 ‹_› | exact ft h3 ‹_› | exact h4 ⟨‹_›, ‹_›⟩ | (obtain ⟨q1, q2⟩ := h5 i (by omega); first | exact ft q1 ‹_› | exact absurd q2 ‹_›))]
    replace h26 := of_decide_eq_false h26
    refine xQ (t_x (t_x (b_x (t_n (qi (ql ?_))))))
    refine sp (.int .i64 (-1)) ?_
    refine qj (t_n (qV ?_))
    refine ret1 (.int .i64 (-1)) rfl rfl ⟨_, rfl, ?_⟩
    refine sps [.bool false, .bool false] ?_
    refine qj (t_n (qV ?_))
    refine ret1 (.bool false) rfl rfl ⟨_, rfl, ?_⟩
    refine sps [.bool true, .bool true] ?_
    refine qj (t_n (qV ?_))
    refine ret1 (.bool true) rfl rfl ⟨_, rfl, ?_, H.base⟩
    rw [jE ⟨by assumption, by assumption, by assumption, fun ⟨u, v⟩ => by first | omega | exact ft v ‹_›, (show i = r.qF.length by omega) ▸ i1⟩]
   replace h23 := of_decide_eq_true h23
   refine qB 38 rfl rfl ?_
   refine oF rfl ?_
   refine qB 38 rfl rfl ?_
   refine oL rfl (H.cell 0 rfl rfl) ?_
   refine qB 38 rfl rfl ?_
   refine sp (.slice ae14 ((t.qy[r.qw.toNat]!).length) ce14) ?_
   refine qB 38 rfl rfl ?_
   refine sw (oc (isWithin_ok _ r.xe (t.qy[r.qw.toNat]!) _ _ _ _ _ _ (H.get 9 rfl).1 (H.get 0 rfl).1 (by first | assumption | omega) (by first | assumption | omega)) ?_)
   rintro _ w39 rfl x40
   replace H := H.ext x40
   refine qB 33 rfl rfl ?_
   refine sps [.bool (within r.xe (t.qy[r.qw.toNat]!)), .bool (within r.xe (t.qy[r.qw.toNat]!))] ?_
   refine qj (t_n ?_)
   refine qC (within r.xe (t.qy[r.qw.toNat]!)) rfl (fun h41 => ?_) (fun h41 => ?_)
   ·skip
    refine qi (ql ?_)
    refine sp (.bool false) ?_
    refine qj (t_n (qV (t_r ?_)))
    refine ret1 (.bool false) rfl rfl ⟨_, rfl, ?_, H.base⟩
    rw [qY (fun h => by obtain ⟨h1, h2, h3, h4, h5⟩ := h; first | exact ft h1 ‹_› | exact ft h2 ‹_› | exact ft h3 ‹_› | exact h4 ⟨‹_›, ‹_›⟩ | (obtain ⟨q1, q2⟩ := h5 i (by omega); first | exact ft q1 ‹_› | exact absurd q2 ‹_›))]
   refine qM (t_n (qi (ql ?_)))
   refine oF rfl ?_
   refine oL rfl (H.cell 0 rfl rfl) ?_
   refine sp (.func (.func 187) #[] #[pp b3 0, pp b1 0, pp b5 0]) ?_
   refine sw (jf #[.slice vz r.qF.length vw, .func (.func 187) #[] #[pp b3 0, pp b1 0, pp b5 0]] rfl rfl Tryz.call186 ?_)
   refine en Tryz.func186 Tryz.ntmps186 ?_
   refine qi (ql ?_)
   refine sp (.bool false) ?_
   refine qj (t_n (qi (ql ?_)))
   refine sps [.slice vz r.qF.length vw, .func (.func 187) #[] #[pp b3 0, pp b1 0, pp b5 0]] ?_
   refine sw (jf #[.slice vz r.qF.length vw, .func (.func 187) #[] #[pp b3 0, pp b1 0, pp b5 0]] rfl rfl Tryz.call207 ?_)
   refine en Tryz.func207 Tryz.ntmps207 ?_
   refine qi (ql ?_)
   refine sp (.int .i64 0) ?_
   refine qj (t_n (qi (qi (ql ?_))))
   refine sp (.slice vz r.qF.length vw) ?_
   refine oN rfl ?_
   refine sp (.int .i64 0) ?_
   refine qj (t_n (qW ?_))
   refine zf (fun m' ρ w42 => ∃ (junk : Env) (i : Nat), ρ = upd (upd (upd (upd junk 0 (.slice vz r.qF.length vw)) 1 (.func (.func 187) #[] #[pp b3 0, pp b1 0, pp b5 0])) 7 (.int .i64 r.qF.length)) 8 (.int .i64 i) ∧ ((i : Int) ≤ r.qF.length) ∧ (IntoUp s t r i) ∧ m' = (r.qF.length - (i : Int)).toNat ∧ Fresh w.heap.size [] ∧ St w w42 [.box b5 [.int .i64 r.qw, .int .i64 r.xN, .slice ja r.qO.length vU, .slice jd r.qX.length vX, .slice jb r.xe.length vV, .slice jc r.xm.length vW, .slice yK r.xZ.length yJ, .slice vz r.qF.length vw, .bool r.xO] 121, .box b3 [.slice (aa b7 o8) t.qo.length xx, .slice (aa b11 o12) t.qy.length xH, .slice xg t.qm.length xf] 38, .box b1 [.int .i64 s.qH, .slice qx s.qf.length qp, .slice qN s.qh.length qL] 36] [isF false Fe14 (.slice ae14 ((t.qy[r.qw.toNat]!).length) ce14) (t.qy[r.qw.toNat]!), atF b11 (o12 + (r.qw : Int).toNat * 1) [.slice ae14 ((t.qy[r.qw.toNat]!).length) ce14], isF false xn (.slice qx s.qf.length qp) s.qf, isF false xG (.slice qN s.qh.length qL) s.qh, isF false zy (.slice (aa b7 o8) t.qo.length xx) t.qo, isF false zX (.slice (aa b11 o12) t.qy.length xH) t.qy, isF false xW (.slice xg t.qm.length xf) t.qm, isF false Xl (.slice ja r.qO.length vU) r.qO, isF false Xo (.slice jd r.qX.length vX) r.qX, isF false Xm (.slice jb r.xe.length vV) r.xe, isF false Xn (.slice jc r.xm.length vW) r.xm, isF false FrOut (.slice yK r.xZ.length yJ) r.xZ, isF false FrInto (.slice vz r.qF.length vw) r.qF]) ((r.qF.length - (0 : Int)).toNat) ⟨_, 0, (by exact qg (qg (qg (qg (rfl) rfl) rfl) rfl) rfl), (by omega), (by exact fun j hj => by omega), rfl, N, H⟩ ?_
   clear H N
   rintro m' ρ w43 ⟨junk, i, rfl, i0, i1, rfl, N, H⟩
   refine qi (ql ?_)
   refine sp (.bool (decide ((i : Int) < r.qF.length))) ?_
   refine qj (t_n (qi ?_))
   refine qC (decide ((i : Int) < r.qF.length)) rfl (fun h44 => ?_) (fun h44 => ?_)
   ·skip
    replace h44 := of_decide_eq_true h44
    have q := (p12 i (by omega)).1
    have q1 := q.1
    have q2 := q.2
    refine qM (t_n (qi (qW (qi (ql ?_)))))
    refine sps [.int .i64 i, .int .i64 i] ?_
    refine qj (t_n (qi (ql ?_)))
    refine sps [.func (.func 187) #[] #[pp b3 0, pp b1 0, pp b5 0], .slice vz r.qF.length vw, .int .i64 i] ?_
    obtain ⟨b45, o46, rfl⟩ := H.addr 12 rfl (by omega)
    obtain ⟨ae48Bag, ce48Bag, Fe48Bag, H⟩ := H.jC 12 rfl i i (by omega) (by omega) (by omega)
    refine oI rfl rfl ?_
    refine sw (zC [.int .i64 ((r.qF[i]!).qw), .slice ae48Bag (((r.qF[i]!).zZ).length) ce48Bag] Tryz.isAgg164 Tryz.sizeOf164 rfl (qI (H.get 1 rfl) 0 2) ?_)
    refine sw (jf #[.agg #[.int .i64 ((r.qF[i]!).qw), .slice ae48Bag (((r.qF[i]!).zZ).length) ce48Bag], pp b3 0, pp b1 0, pp b5 0] rfl rfl Tryz.call187 ?_)
    refine en Tryz.func187 Tryz.ntmps187 ?_
    refine qi (ql ?_)
    refine sw (zh H [.int .i64 ((r.qF[i]!).qw), .slice ae48Bag (((r.qF[i]!).zZ).length) ce48Bag] fun b49 w50 H => ?_)
    refine sp (.bool false) ?_
    refine qj (t_n (qi ?_))
    refine vZ rfl H fun H => ?_
    refine tF 0 rfl rfl H ?_
    refine tL 1 rfl rfl (fun _ h => h.cell 2 rfl rfl) H ?_
    refine tF 2 rfl rfl H ?_
    refine tL 3 rfl rfl (fun _ h => h.cell 0 rfl rfl) H ?_
    refine tI 4 rfl rfl rfl H ?_
    refine tL 5 rfl rfl (fun _ h => h.QG 6 rfl ((r.qF[i]!).qw) (by omega) (by omega)) H ?_
    refine rtp 6 (.bool (!(t.qo[((r.qF[i]!).qw).toNat]!))) H ?_
    refine rtp 7 (.bool (!(t.qo[((r.qF[i]!).qw).toNat]!))) H ?_
    cases h52 : (!(t.qo[((r.qF[i]!).qw).toNat]!))
    ·skip
     replace h52 := qJ h52
     refine rg 8 (.agg #[.int .i64 s.qH, .slice qx s.qf.length qp, .slice qN s.qh.length qL]) 13 (Qo (cs := [.int .i64 s.qH, .slice qx s.qf.length qp, .slice qN s.qh.length qL]) Tryz.isAgg36 Tryz.sizeOf36 rfl (fun _ h => qI (h.cells 3 rfl) 0 3)) H ?_
     refine rg 9 (.agg #[.slice (aa b7 o8) t.qo.length xx, .slice (aa b11 o12) t.qy.length xH, .slice xg t.qm.length xf]) 13 (Qo (cs := [.slice (aa b7 o8) t.qo.length xx, .slice (aa b11 o12) t.qy.length xH, .slice xg t.qm.length xf]) Tryz.isAgg38 Tryz.sizeOf38 rfl (fun _ h => qI (h.cells 2 rfl) 0 3)) H ?_
     refine gF 10 rfl rfl H ?_
     refine gL 11 rfl rfl (fun _ h => h.cell 0 rfl rfl) H ?_
     refine gF 13 rfl rfl H ?_
     refine gL 14 rfl rfl (fun _ h => h.cell 1 rfl rfl) H ?_
     refine qR [12] (by kernel_rfl) (by simp) (r_opG rfl (e := 13) rfl rfl ?_ qU)
     refine oc (parentNow_ok _ s t ((r.qF[i]!).qw) _ _ _ _ _ _ _ _ _ _ _ _ _ _ _ (H.get 4 rfl).1 (H.get 5 rfl).1 (H.get 6 rfl).1 (H.get 7 rfl).1 (H.get 8 rfl).1 (by first | assumption | omega) (by first | assumption | omega) (by first | assumption | omega)) ?_
     rintro _ w54 rfl x55
     replace H := H.ext x55
     refine ⟨H, ?_⟩
     refine rgp 15 (.bool ((vI s t ((r.qF[i]!).qw) : Int) != r.qw)) 13 H ?_
     refine rtp 16 (.bool ((vI s t ((r.qF[i]!).qw) : Int) != r.qw)) H ?_
     refine rtp 17 (.bool ((vI s t ((r.qF[i]!).qw) : Int) != r.qw)) H ?_
     refine xq (by kernel_rfl) (t_n ?_)
     refine qV ?_
     refine ret1 (.bool ((vI s t ((r.qF[i]!).qw) : Int) != r.qw)) rfl rfl ⟨_, rfl, ?_⟩
     replace H := H.erases [0]
     dsimp only [Qv, List.eraseIdx] at H
     refine qj (t_n ?_)
     refine qC ((vI s t ((r.qF[i]!).qw) : Int) != r.qw) rfl (fun h56 => ?_) (fun h56 => ?_)
     ·skip
      replace h56 := bne_iff_ne.1 h56
      refine qi (ql ?_)
      refine sps [.int .i64 i, .int .i64 i] ?_
      refine qj (t_n (qV (b_r (t_r (t_r (b_r (t_r ?_)))))))
      refine ret1 (.int .i64 i) rfl rfl ⟨_, rfl, ?_⟩
      refine sw (o_pure (.bool true) (by show some (Value.bool (decide ((i : Int) ≥ 0))) = some (Value.bool true); rw [decide_eq_true (by omega)]) ?_)
      refine sp (.bool true) ?_
      refine qj (t_n (qV ?_))
      refine ret1 (.bool true) rfl rfl ⟨_, rfl, ?_⟩
      refine sps [.bool false, .bool false] ?_
      refine qj (t_n (qV ?_))
      refine ret1 (.bool false) rfl rfl ⟨_, rfl, ?_, H.base⟩
      rw [qY (fun h => by obtain ⟨h1, h2, h3, h4, h5⟩ := h; first | exact ft h1 ‹_› | exact ft h2 ‹_› | exact ft h3 ‹_› | exact h4 ⟨‹_›, ‹_›⟩ | (obtain ⟨q1, q2⟩ := h5 i (by omega); first | exact ft q1 ‹_› | exact absurd q2 ‹_›))]
     replace h56 := xw h56
     refine qM (b_n (t_n (ql ?_)))
     refine sw (zk i 1 rfl rfl (by omega) ?_)
     refine sp (.int .i64 (i + 1)) ?_
     refine qj ?_
     refine xk (m' := (r.qF.length - ((i + 1) : Int)).toNat) (by omega) ⟨_, i + 1, (by exact qg (qg (qg (qg (rfl) rfl) rfl) rfl) rfl), ?_, ?_, rfl, N, H.pick [0, 1, 2] [2, 3, 4, 5, 6, 7, 8, 9, 10, 11, 12, 13, 14]⟩
     · omega
     · exact i1.succ ‹_› ‹_›
    replace h52 := qP h52
    refine zi [8, 9, 10, 11, 12, 13, 14, 15] 8 (H) ?_
    refine rtp 16 (.bool true) H ?_
    refine rtp 17 (.bool true) H ?_
    refine xq (by kernel_rfl) (t_n ?_)
    refine qV ?_
    refine ret1 (.bool true) rfl rfl ⟨_, rfl, ?_⟩
    replace H := H.erases [0]
    dsimp only [Qv, List.eraseIdx] at H
    refine qj (t_n ?_)
    refine qC true rfl (fun _ => ?_) (fun h => absurd h (by decide))
    refine qi (ql ?_)
    refine sps [.int .i64 i, .int .i64 i] ?_
    refine qj (t_n (qV (b_r (t_r (t_r (b_r (t_r ?_)))))))
    refine ret1 (.int .i64 i) rfl rfl ⟨_, rfl, ?_⟩
    refine sw (o_pure (.bool true) (by show some (Value.bool (decide ((i : Int) ≥ 0))) = some (Value.bool true); rw [decide_eq_true (by omega)]) ?_)
    refine sp (.bool true) ?_
    refine qj (t_n (qV ?_))
    refine ret1 (.bool true) rfl rfl ⟨_, rfl, ?_⟩
    refine sps [.bool false, .bool false] ?_
    refine qj (t_n (qV ?_))
    refine ret1 (.bool false) rfl rfl ⟨_, rfl, ?_, H.base⟩
    rw [qY (fun h => by obtain ⟨h1, h2, h3, h4, h5⟩ := h; first | exact ft h1 ‹_› | exact ft h2 ‹_› | exact ft h3 ‹_› | exact h4 ⟨‹_›, ‹_›⟩ | (obtain ⟨q1, q2⟩ := h5 i (by omega); first | exact ft q1 ‹_› | exact absurd q2 ‹_›))]
   replace h44 := of_decide_eq_false h44
   refine xQ (t_x (t_x (b_x (t_n (qi (ql ?_))))))
   refine sp (.int .i64 (-1)) ?_
   refine qj (t_n (qV ?_))
   refine ret1 (.int .i64 (-1)) rfl rfl ⟨_, rfl, ?_⟩
   refine sps [.bool false, .bool false] ?_
   refine qj (t_n (qV ?_))
   refine ret1 (.bool false) rfl rfl ⟨_, rfl, ?_⟩
   refine sps [.bool true, .bool true] ?_
   refine qj (t_n (qV ?_))
   refine ret1 (.bool true) rfl rfl ⟨_, rfl, ?_, H.base⟩
   rw [jE ⟨by assumption, by assumption, by assumption, fun ⟨u, v⟩ => by first | omega | exact ft v ‹_›, (show i = r.qF.length by omega) ▸ i1⟩]
  replace h20 := qP h20
  refine xF [34, 35, 36, 37, 38, 39, 40, 41, 42, 43] ?_
  refine sp (.bool true) ?_
  refine qj (t_n ?_)
  refine qC true rfl (fun _ => ?_) (fun h => absurd h (by decide))
  refine qi (ql ?_)
  refine sp (.bool false) ?_
  refine qj (t_n (qV (t_r ?_)))
  refine ret1 (.bool false) rfl rfl ⟨_, rfl, ?_, H.base⟩
  rw [qY (fun h => by obtain ⟨h1, h2, h3, h4, h5⟩ := h; first | exact ft h1 ‹_› | exact ft h2 ‹_› | exact ft h3 ‹_› | exact h4 ⟨‹_›, ‹_›⟩ | (obtain ⟨q1, q2⟩ := h5 i (by omega); first | exact ft q1 ‹_› | exact absurd q2 ‹_›))]
 replace h17 := qP h17
 refine xF [27, 28, 29, 30, 31] ?_
 refine sps [.bool true, .bool true] ?_
 refine xF [34, 35, 36, 37, 38, 39, 40, 41, 42, 43] ?_
 refine sp (.bool true) ?_
 refine qj (t_n ?_)
 refine qC true rfl (fun _ => ?_) (fun h => absurd h (by decide))
 refine qi (ql ?_)
 refine sp (.bool false) ?_
 refine qj (t_n (qV (t_r ?_)))
 refine ret1 (.bool false) rfl rfl ⟨_, rfl, ?_, H.base⟩
 rw [qY (fun h => by obtain ⟨h1, h2, h3, h4, h5⟩ := h; first | exact ft h1 ‹_› | exact ft h2 ‹_› | exact ft h3 ‹_› | exact h4 ⟨‹_›, ‹_›⟩ | (obtain ⟨q1, q2⟩ := h5 i (by omega); first | exact ft q1 ‹_› | exact absurd q2 ‹_›))]

theorem timesIn_ok (w : World) (l : List Int) (m : List Int) (al : Option Addr) (cl : Nat) (Fl : List Nat) (am : Option Addr) (cm : Nat) (Fm : List Nat) (hl : qE.rep w Fl [.slice al l.length cl] l) (hm : qE.rep w Fm [.slice am m.length cm] m) (p0 : l.length ≤ m.length) (p2 : ∀ q, q < l.length → 0 ≤ m[q]! ∧ m[q]! ≤ 1000) : Calls Tryz.prog 203 #[.slice al l.length cl, .slice am m.length cm] w (Ret (fun v w' => v = .int .i64 (zI l m)) w) := by
 refine en Tryz.func203 Tryz.ntmps203 ?_
 have H := ((St.start w).arg hm).arg hl
 have nhl := qA hl
 have nhm := qA hm
 clear hl hm
 have N := Fresh.nil w.heap.size
 refine qi (ql ?_)
 refine sp (.int .i64 0) ?_
 refine qj (t_n (qi (ql ?_)))
 refine sp (.int .i64 1000) ?_
 refine qj (t_n (qi (qi (ql ?_))))
 refine sp (.slice al l.length cl) ?_
 refine oN rfl ?_
 refine sp (.int .i64 0) ?_
 refine qj (t_n (qW ?_))
 refine zf (fun m' ρ w1 => ∃ (junk : Env) (most : Int) (k : Nat), ρ = upd (upd (upd (upd (upd junk 1 (.slice am m.length cm)) 5 (.int .i64 most)) 8 (.slice al l.length cl)) 9 (.int .i64 l.length)) 10 (.int .i64 k) ∧ most = jg l m k ∧ ((k : Int) ≤ l.length) ∧ m' = (l.length - (k : Int)).toNat ∧ Fresh w.heap.size [] ∧ St w w1 [] [isF false Fl (.slice al l.length cl) l, isF false Fm (.slice am m.length cm) m]) ((l.length - (0 : Int)).toNat) ⟨_, 1000, 0, (by exact qg (qg (qg (qg (qg (rfl) rfl) rfl) rfl) rfl) rfl), (by rfl), (by omega), rfl, N, H⟩ ?_
 clear H N
 rintro m' ρ w2 ⟨junk, most, k, rfl, rfl, i0, rfl, N, H⟩
 refine qi (ql ?_)
 refine sp (.bool (decide ((k : Int) < l.length))) ?_
 refine qj (t_n (qi ?_))
 refine qC (decide ((k : Int) < l.length)) rfl (fun h3 => ?_) (fun h3 => ?_)
 ·skip
  replace h3 := of_decide_eq_true h3
  refine qM (t_n (qi (qW (qi (ql ?_)))))
  refine sp (.int .i64 k) ?_
  obtain ⟨b4, o5, rfl⟩ := H.addr 0 rfl (by omega)
  refine oI rfl rfl ?_
  refine oL rfl (H.vT 0 rfl k (by omega) (by omega)) ?_
  refine sps [.int .i64 k, .int .i64 (l[k]!)] ?_
  refine qj (t_n (qi (ql ?_)))
  refine sps [.int .i64 (l[k]!), .bool (decide ((l[k]! : Int) > 0))] ?_
  refine qj (t_n ?_)
  refine qC (decide ((l[k]! : Int) > 0)) rfl (fun h7 => ?_) (fun h7 => ?_)
  ·skip
   replace h7 := of_decide_eq_true h7
   refine ql ?_
   refine sps [.int .i64 (jg l m k), .slice am m.length cm, .int .i64 k] ?_
   obtain ⟨b8, o9, rfl⟩ := H.addr 1 rfl (by omega)
   refine oI rfl rfl ?_
   refine oL rfl (H.vT 1 rfl k (by omega) (by omega)) ?_
   refine sp (.int .i64 (l[k]!)) ?_
   refine sw (o_quo (m[k]!) (l[k]!) rfl rfl (by (have := p2 k (by omega); omega)) (by (have := p2 k (by omega); omega)) ?_)
   refine sw (o_min (jg l m k) ((m[k]!) / (l[k]!)) rfl rfl ?_)
   refine sp (.int .i64 (min (jg l m k) ((m[k]!) / (l[k]!)))) ?_
   refine qj (b_n (t_n (ql ?_)))
   refine sw (zk k 1 rfl rfl (by (have := p2 k (by omega); omega)) ?_)
   refine sp (.int .i64 (k + 1)) ?_
   refine qj ?_
   refine xk (m' := (l.length - ((k + 1) : Int)).toNat) (by omega) ⟨_, min (jg l m k) ((m[k]!) / (l[k]!)), k + 1, (by exact qg (qg (qg (qg (qg (rfl) rfl) rfl) rfl) rfl) rfl), ?_, ?_, rfl, N, H⟩
   · first | exact (timesTo_pos (by omega)).symm | exact (timesTo_skip (by omega)).symm
   · omega
  replace h7 := of_decide_eq_false h7
  refine qM (b_n (t_n (ql ?_)))
  refine sw (zk k 1 rfl rfl (by (have := p2 k (by omega); omega)) ?_)
  refine sp (.int .i64 (k + 1)) ?_
  refine qj ?_
  refine xk (m' := (l.length - ((k + 1) : Int)).toNat) (by omega) ⟨_, (jg l m k), k + 1, (by exact qg (qg (qg (qg (qg (rfl) rfl) rfl) rfl) rfl) rfl), ?_, ?_, rfl, N, H⟩
  · first | exact (timesTo_pos (by omega)).symm | exact (timesTo_skip (by omega)).symm
  · omega
 replace h3 := of_decide_eq_false h3
 refine xQ (t_x (t_x (b_x (t_n (qi (ql ?_))))))
 refine sps [.int .i64 (jg l m k), .int .i64 (jg l m k)] ?_
 refine qj (t_n (qV ?_))
 refine ret1 (.int .i64 (jg l m k)) rfl rfl ⟨_, rfl, ?_, H.base⟩
 obtain rfl : k = l.length := by omega
 rfl

theorem applicable_ok (w : World) (s : qK) (t : xu) (qx : Option Addr) (qp : Nat) (xn : List Nat) (qN : Option Addr) (qL : Nat) (xG : List Nat) (xB : Option Addr) (xx : Nat) (zy : List Nat) (xK : Option Addr) (xH : Nat) (zX : List Nat) (xg : Option Addr) (xf : Nat) (xW : List Nat) (xh : qE.rep w xn [.slice qx s.qf.length qp] s.qf) (xE : qE.rep w xG [.slice qN s.qh.length qL] s.qh) (zu : qE.rep w zy [.slice xB t.qo.length xx] t.qo) (zV : qE.rep w zX [.slice xK t.qy.length xH] t.qy) (xU : qE.rep w xW [.slice xg t.qm.length xf] t.qm) (p0 : yw s) (p1 : zS s t) : Calls Tryz.prog 112 #[.agg #[.int .i64 s.qH, .slice qx s.qf.length qp, .slice qN s.qh.length qL], .agg #[.slice xB t.qo.length xx, .slice xK t.qy.length xH, .slice xg t.qm.length xf]] w (Ret (fun v w' => ∃ (ra : Option Addr) (rn : Nat) (rc : Nat), v = .slice ra rn rc ∧ Fresh w.heap.size [] ∧ St w w' [.row (.slice ra rn rc) 2 1 rn ((appls s t).map (Value.int .i64))] []) w) := by
 refine en Tryz.func112 Tryz.ntmps112 ?_
 have H := (((((St.start w).arg xU).arg zV).arg zu).arg xE).arg xh
 have zU := qA xh
 have jD := qA xE
 have Xr := qA zu
 have nhtBags := qA zV
 have QA := qA xU
 clear xh xE zu zV xU
 have N := Fresh.nil w.heap.size
 have p2 := p0.2.1
 have p3 := p0.1.2.1
 refine qi (ql ?_)
 refine sw (zh H [.int .i64 s.qH, .slice qx s.qf.length qp, .slice qN s.qh.length qL] fun b1 w2 H => ?_)
 refine sw (zh H [.slice xB t.qo.length xx, .slice xK t.qy.length xH, .slice xg t.qm.length xf] fun b3 w4 H => ?_)
 refine sp (.slice none 0 0) ?_
 refine qj (t_n (qi (ql ?_)))
 refine sw (Qs [.int .i64 0, .int .i64 0, .int .i64 0, .int .i64 0, .int .i64 0, .int .i64 0] [] ?_)
 refine sw (xy H ti166 [.int .i64 0, .int .i64 0, .int .i64 0, .int .i64 0, .int .i64 0, .int .i64 0] fun b5 w6 H => ?_)
 refine sw (o_storeC H 0 [.int .i64 0, .int .i64 0, .int .i64 0, .int .i64 0, .int .i64 0, .int .i64 0] Tryz.sizeOf166 fun w7 H => ?_)
 try dsimp only [List.set] at H
 refine qj (t_n (qi (qi (ql ?_))))
 refine sp (.int .i64 0) ?_
 refine qj (t_n (qW ?_))
 try dsimp only [List.set] at H
 refine zf (fun m' ρ w8 => ∃ (junk : Env) (c : Nat) (top : List Int), ρ = upd (upd (upd (upd junk 2 (pp b1 0)) 3 (pp b3 0)) 5 (pp b5 0)) 13 (.int .i64 c) ∧ top = minus c ∧ ((c : Int) ≤ 6) ∧ m' = (6 - (c : Int)).toNat ∧ Fresh w.heap.size [] ∧ St w w8 [.box b5 (top.map (Value.int .i64)) 166, .box b3 [.slice xB t.qo.length xx, .slice xK t.qy.length xH, .slice xg t.qm.length xf] 38, .box b1 [.int .i64 s.qH, .slice qx s.qf.length qp, .slice qN s.qh.length qL] 36] [isF false xn (.slice qx s.qf.length qp) s.qf, isF false xG (.slice qN s.qh.length qL) s.qh, isF false zy (.slice xB t.qo.length xx) t.qo, isF false zX (.slice xK t.qy.length xH) t.qy, isF false xW (.slice xg t.qm.length xf) t.qm]) ((6 - (0 : Int)).toNat) ⟨_, 0, [0, 0, 0, 0, 0, 0], (by exact qg (qg (qg (qg (rfl) rfl) rfl) rfl) rfl), (by rfl), (by omega), rfl, N, H⟩ ?_
 clear H N
 rintro m' ρ w9 ⟨junk, c, top, rfl, rfl, i0, rfl, N, H⟩
 refine qi (ql ?_)
 refine sp (.bool (decide ((c : Int) < 6))) ?_
 refine qj (t_n (qi ?_))
 refine qC (decide ((c : Int) < 6)) rfl (fun h10 => ?_) (fun h10 => ?_)
 ·skip
  replace h10 := of_decide_eq_true h10
  refine qM (t_n (qi (qW (qi (ql ?_)))))
  refine sps [.int .i64 c, .int .i64 c] ?_
  refine qj (t_n (ql ?_))
  refine sp (.int .i64 c) ?_
  refine sw (o_idxArr c Tryz.underlying166 ti2 rfl rfl (by omega) (by omega) ?_)
  refine sw (o_storeArr H 0 rfl (-1) Tryz.sizeOf2 rfl rfl (i := c) (by omega) (by simp only [List.length_set, List.length_cons, List.length_nil, minus_len, QB]; omega) fun w11 H => ?_)
  try dsimp only [List.set] at H
  refine qj (b_n (t_n (ql ?_)))
  refine sw (zk c 1 rfl rfl (by omega) ?_)
  refine sp (.int .i64 (c + 1)) ?_
  refine qj ?_
  refine xk (m' := (6 - ((c + 1) : Int)).toNat) (by omega) ⟨_, c + 1, ((minus c).set c (-1)), (by exact qg (qg (qg (qg (rfl) rfl) rfl) rfl) rfl), ?_, ?_, rfl, N, H⟩
  · exact minus_set (by omega)
  · omega
 replace h10 := of_decide_eq_false h10
 refine xQ (t_x (t_x (b_x (t_n (qi (qi (ql ?_)))))))
 refine oF rfl ?_
 refine oL rfl (H.cell 2 rfl rfl) ?_
 refine oN rfl ?_
 refine sp (.int .i64 0) ?_
 refine qj (t_n (qW ?_))
 refine zf (fun m' ρ w12 => ∃ (junk : Env) (k : Nat) (top_1 : List Int), ρ = upd (upd (upd (upd (upd (upd junk 2 (pp b1 0)) 3 (pp b3 0)) 5 (pp b5 0)) 20 (.slice qN s.qh.length qL)) 21 (.int .i64 s.qh.length)) 22 (.int .i64 k) ∧ top_1 = bests s t (-1) 6 k ∧ ((k : Int) ≤ s.qh.length) ∧ m' = (s.qh.length - (k : Int)).toNat ∧ Fresh w.heap.size [] ∧ St w w12 [.box b5 (top_1.map (Value.int .i64)) 166, .box b3 [.slice xB t.qo.length xx, .slice xK t.qy.length xH, .slice xg t.qm.length xf] 38, .box b1 [.int .i64 s.qH, .slice qx s.qf.length qp, .slice qN s.qh.length qL] 36] [isF false xn (.slice qx s.qf.length qp) s.qf, isF false xG (.slice qN s.qh.length qL) s.qh, isF false zy (.slice xB t.qo.length xx) t.qo, isF false zX (.slice xK t.qy.length xH) t.qy, isF false xW (.slice xg t.qm.length xf) t.qm]) ((s.qh.length - (0 : Int)).toNat) ⟨_, 0, (minus c), (by exact qg (qg (qg (qg (qg (qg (rfl) rfl) rfl) rfl) rfl) rfl) rfl), (by exact minus_six (by omega) s t), (by omega), rfl, N, H⟩ ?_
 clear H N
 rintro m' ρ w13 ⟨junk, k, top_1, rfl, rfl, i0, rfl, N, H⟩
 refine qi (ql ?_)
 refine sp (.bool (decide ((k : Int) < s.qh.length))) ?_
 refine qj (t_n (qi ?_))
 refine qC (decide ((k : Int) < s.qh.length)) rfl (fun h14 => ?_) (fun h14 => ?_)
 ·skip
  replace h14 := of_decide_eq_true h14
  have q := p0.rule (i := k) (by omega)
  have qc := q.1
  have qk := q.cell
  have qr := q.2.1
  have q6 : (s.qh[k]!).qw.toNat < 6 := by omega
  refine qM (t_n (qi (qW (qi (ql ?_)))))
  obtain ⟨b15, o16, rfl⟩ := H.addr 1 rfl (by omega)
  obtain ⟨ae18Need, ce18Need, Fe18Need, ae18Have, ce18Have, Fe18Have, ae18Lack, ce18Lack, Fe18Lack, ae18Here, ce18Here, Fe18Here, ae18Out, ce18Out, Fe18Out, ae18Into, ce18Into, Fe18Into, H⟩ := H.jK 1 rfl k k (by omega) (by omega) (by omega)
  refine oI rfl rfl ?_
  refine sw (zC [.int .i64 ((s.qh[k]!).qw), .int .i64 ((s.qh[k]!).xN), .slice ae18Need (((s.qh[k]!).qO).length) ce18Need, .slice ae18Have (((s.qh[k]!).qX).length) ce18Have, .slice ae18Lack (((s.qh[k]!).xe).length) ce18Lack, .slice ae18Here (((s.qh[k]!).xm).length) ce18Here, .slice ae18Out (((s.qh[k]!).xZ).length) ce18Out, .slice ae18Into (((s.qh[k]!).qF).length) ce18Into, .bool ((s.qh[k]!).xO)] Tryz.isAgg121 Tryz.sizeOf121 rfl (qI (H.get 6 rfl) 0 9) ?_)
  refine sw (xy H ti121 [.int .i64 0, .int .i64 0, .slice none 0 0, .slice none 0 0, .slice none 0 0, .slice none 0 0, .slice none 0 0, .slice none 0 0, .bool false] fun b19 w20 H => ?_)
  refine sw (o_storeC H 0 [.int .i64 ((s.qh[k]!).qw), .int .i64 ((s.qh[k]!).xN), .slice ae18Need (((s.qh[k]!).qO).length) ce18Need, .slice ae18Have (((s.qh[k]!).qX).length) ce18Have, .slice ae18Lack (((s.qh[k]!).xe).length) ce18Lack, .slice ae18Here (((s.qh[k]!).xm).length) ce18Here, .slice ae18Out (((s.qh[k]!).xZ).length) ce18Out, .slice ae18Into (((s.qh[k]!).qF).length) ce18Into, .bool ((s.qh[k]!).xO)] Tryz.sizeOf121 fun w21 H => ?_)
  try dsimp only [List.set] at H
  refine qj (t_n (qi (ql ?_)))
  refine sw (zC [.int .i64 s.qH, .slice qx s.qf.length qp, .slice (aa b15 o16) s.qh.length qL] Tryz.isAgg36 Tryz.sizeOf36 rfl (qI (H.cells 3 rfl) 0 3) ?_)
  refine sw (zC [.slice xB t.qo.length xx, .slice xK t.qy.length xH, .slice xg t.qm.length xf] Tryz.isAgg38 Tryz.sizeOf38 rfl (qI (H.cells 2 rfl) 0 3) ?_)
  refine sw (zC [.int .i64 ((s.qh[k]!).qw), .int .i64 ((s.qh[k]!).xN), .slice ae18Need (((s.qh[k]!).qO).length) ce18Need, .slice ae18Have (((s.qh[k]!).qX).length) ce18Have, .slice ae18Lack (((s.qh[k]!).xe).length) ce18Lack, .slice ae18Here (((s.qh[k]!).xm).length) ce18Here, .slice ae18Out (((s.qh[k]!).xZ).length) ce18Out, .slice ae18Into (((s.qh[k]!).qF).length) ce18Into, .bool ((s.qh[k]!).xO)] Tryz.isAgg121 Tryz.sizeOf121 rfl (qI (H.cells 0 rfl) 0 9) ?_)
  refine sw (oc (isEnabled_ok _ s t (s.qh[k]!) _ _ _ _ _ _ _ _ _ _ _ _ _ _ _ _ _ _ _ _ _ _ _ _ _ _ _ _ _ _ _ _ _ (H.get 7 rfl).1 (H.get 8 rfl).1 (H.get 9 rfl).1 (H.get 10 rfl).1 (H.get 11 rfl).1 (H.get 0 rfl).1 (H.get 1 rfl).1 (H.get 2 rfl).1 (H.get 3 rfl).1 (H.get 4 rfl).1 (H.get 5 rfl).1 (by first | assumption | omega) (by first | assumption | omega) (by first | assumption | omega)) ?_)
  rintro _ w23 rfl x24
  replace H := H.ext x24
  refine qj (t_n ?_)
  refine qC (dec (EnOk s t (s.qh[k]!))) rfl (fun h25 => ?_) (fun h25 => ?_)
  ·skip
   replace h25 := vC h25
   refine c_drawK rfl H [0, 2, 3] fun H => ?_
   have S := H.pickC [0, 2, 3] [0, 1, 2, 3, 4, 5, 6, 7, 8, 9, 10, 11]
   refine tF 0 rfl rfl S ?_
   refine tL 1 rfl rfl (fun _ h => h.cell 0 rfl rfl) S ?_
   refine tF 2 rfl rfl S ?_
   refine tL 3 rfl rfl (fun _ h => h.cell 0 rfl rfl) S ?_
   refine rt 4 (pp b5 (0 + ((s.qh[k]!).qw : Int).toNat * 1)) (y_idxArr b5 (0) 6 ((s.qh[k]!).qw) Tryz.underlying166 ti2 rfl rfl (by omega) (by omega)) S ?_
   refine tF 6 rfl rfl S ?_
   refine tL 7 rfl rfl (fun _ h => h.cell 0 rfl rfl) S ?_
   refine qR [5] (by kernel_rfl) (by simp) (xA rfl ?_ qU)
   refine jU (.int .i64 ((bests s t (-1) 6 k)[((s.qh[k]!).qw).toNat]!)) Tryz.isAgg2 rfl (H.cell 1 rfl (ints_at (iv := (s.qh[k]!).qw) (i := (((s.qh[k]!).qw).toNat)) (by omega) (by simp only [List.length_set, List.length_cons, List.length_nil, minus_len, QB]; omega))) ?_
   refine ⟨H.pick [0, 2, 3] [0, 1, 2, 3, 4, 5, 6, 7, 8, 9, 10, 11], ?_⟩
   have S := H.pickC [0, 2, 3] [0, 1, 2, 3, 4, 5, 6, 7, 8, 9, 10, 11]
   refine rt 8 (.int .i64 (max ((bests s t (-1) 6 k)[((s.qh[k]!).qw).toNat]!) ((s.qh[k]!).xN))) (y_max ((bests s t (-1) 6 k)[((s.qh[k]!).qw).toNat]!) ((s.qh[k]!).xN) rfl rfl) S ?_
   refine rt 9 (pp b5 (0 + ((s.qh[k]!).qw : Int).toNat * 1)) (y_idxArr b5 (0) 6 ((s.qh[k]!).qw) Tryz.underlying166 ti2 rfl rfl (by omega) (by omega)) S ?_
   refine qR [10] (by kernel_rfl) (by simp) (xA rfl ?_ qU)
   refine o_storeArr H 1 rfl (max ((bests s t (-1) 6 k)[((s.qh[k]!).qw).toNat]!) ((s.qh[k]!).xN)) Tryz.sizeOf2 rfl rfl (i := (((s.qh[k]!).qw).toNat)) (by omega) (by simp only [List.length_set, List.length_cons, List.length_nil, minus_len, QB]; omega) fun w27 H => ?_
   try dsimp only [List.set] at H
   refine ⟨H.pick [0, 2, 3] [0, 1, 2, 3, 4, 5, 6, 7, 8, 9, 10, 11], ?_⟩
   refine xq (by kernel_rfl) (b_n (t_n ?_))
   refine ql ?_
   refine sw (zk k 1 rfl rfl (by omega) ?_)
   refine sp (.int .i64 (k + 1)) ?_
   refine qj ?_
   refine xk (m' := (s.qh.length - ((k + 1) : Int)).toNat) (by omega) ⟨_, k + 1, ((bests s t (-1) 6 k).set (((s.qh[k]!).qw).toNat) (max ((bests s t (-1) 6 k)[((s.qh[k]!).qw).toNat]!) ((s.qh[k]!).xN))), (by exact qg (qg (qg (qg (qg (qg (rfl) rfl) rfl) rfl) rfl) rfl) rfl), ?_, ?_, rfl, N, H.pick [1, 2, 3] [7, 8, 9, 10, 11]⟩
   · first | exact bests_set ‹_› (by omega) | exact bests_skip ‹_›
   · omega
  replace h25 := xI h25
  refine qM (b_n (t_n (ql ?_)))
  refine sw (zk k 1 rfl rfl (by omega) ?_)
  refine sp (.int .i64 (k + 1)) ?_
  refine qj ?_
  refine xk (m' := (s.qh.length - ((k + 1) : Int)).toNat) (by omega) ⟨_, k + 1, (bests s t (-1) 6 k), (by exact qg (qg (qg (qg (qg (qg (rfl) rfl) rfl) rfl) rfl) rfl) rfl), ?_, ?_, rfl, N, H.pick [1, 2, 3] [7, 8, 9, 10, 11]⟩
  · first | exact bests_set ‹_› (by omega) | exact bests_skip ‹_›
  · omega
 replace h14 := of_decide_eq_false h14
 refine xQ (t_x (t_x (b_x (t_n (qi (ql ?_))))))
 refine sw (jm H Tryz.underlying22 ti2 fun b28 w29 H => ?_)
 refine sp (.slice (aa b28 0) 0 0) ?_
 refine qj (t_n (qi (qi (ql ?_))))
 refine oF rfl ?_
 refine oL rfl (H.cell 3 rfl rfl) ?_
 refine oN rfl ?_
 refine sp (.int .i64 0) ?_
 refine qj (t_n (qW ?_))
 replace H := H.boxRowI 0 [] 0
 try dsimp only [List.set] at H
 refine zf (fun m' ρ w30 => ∃ (junk : Env) (vH : Option Addr) (xX : Nat) (zQ : Nat) (out : List Int) (i : Nat), ρ = upd (upd (upd (upd (upd (upd (upd junk 2 (pp b1 0)) 3 (pp b3 0)) 5 (pp b5 0)) 9 (.slice vH xX zQ)) 43 (.slice qN s.qh.length qL)) 44 (.int .i64 s.qh.length)) 45 (.int .i64 i) ∧ out = applL s t i ∧ ((i : Int) ≤ s.qh.length) ∧ m' = (s.qh.length - (i : Int)).toNat ∧ Fresh w.heap.size [] ∧ St w w30 [.row (.slice vH xX zQ) 2 1 xX (out.map (Value.int .i64)), .box b5 ((bests s t (-1) 6 k).map (Value.int .i64)) 166, .box b3 [.slice xB t.qo.length xx, .slice xK t.qy.length xH, .slice xg t.qm.length xf] 38, .box b1 [.int .i64 s.qH, .slice qx s.qf.length qp, .slice qN s.qh.length qL] 36] [isF false xn (.slice qx s.qf.length qp) s.qf, isF false xG (.slice qN s.qh.length qL) s.qh, isF false zy (.slice xB t.qo.length xx) t.qo, isF false zX (.slice xK t.qy.length xH) t.qy, isF false xW (.slice xg t.qm.length xf) t.qm]) ((s.qh.length - (0 : Int)).toNat) ⟨_, (aa b28 0), 0, 0, ([] : List Int), 0, (by exact qg (qg (qg (qg (qg (qg (qg (rfl) rfl) rfl) rfl) rfl) rfl) rfl) rfl), (by rfl), (by omega), rfl, N, H⟩ ?_
 clear H N
 rintro m' ρ w31 ⟨junk, vH, xX, zQ, out, i, rfl, rfl, i0, rfl, N, H⟩
 have hn_out := H.rowNI 0 rfl
 have ll := applL_le s t i
 refine qi (ql ?_)
 refine sp (.bool (decide ((i : Int) < s.qh.length))) ?_
 refine qj (t_n (qi ?_))
 refine qC (decide ((i : Int) < s.qh.length)) rfl (fun h32 => ?_) (fun h32 => ?_)
 ·skip
  replace h32 := of_decide_eq_true h32
  have q := p0.rule (i := i) (by omega)
  have qc := q.1
  have qk := q.cell
  have qr := q.2.1
  have q6 : (s.qh[i]!).qw.toNat < 6 := by omega
  refine qM (t_n (qi (qW (qi (ql ?_)))))
  refine sp (.int .i64 i) ?_
  obtain ⟨b33, o34, rfl⟩ := H.addr 1 rfl (by omega)
  obtain ⟨ae36Need, ce36Need, Fe36Need, ae36Have, ce36Have, Fe36Have, ae36Lack, ce36Lack, Fe36Lack, ae36Here, ce36Here, Fe36Here, ae36Out, ce36Out, Fe36Out, ae36Into, ce36Into, Fe36Into, H⟩ := H.jK 1 rfl i i (by omega) (by omega) (by omega)
  refine oI rfl rfl ?_
  refine sw (zC [.int .i64 ((s.qh[i]!).qw), .int .i64 ((s.qh[i]!).xN), .slice ae36Need (((s.qh[i]!).qO).length) ce36Need, .slice ae36Have (((s.qh[i]!).qX).length) ce36Have, .slice ae36Lack (((s.qh[i]!).xe).length) ce36Lack, .slice ae36Here (((s.qh[i]!).xm).length) ce36Here, .slice ae36Out (((s.qh[i]!).xZ).length) ce36Out, .slice ae36Into (((s.qh[i]!).qF).length) ce36Into, .bool ((s.qh[i]!).xO)] Tryz.isAgg121 Tryz.sizeOf121 rfl (qI (H.get 6 rfl) 0 9) ?_)
  refine sw (xy H ti121 [.int .i64 0, .int .i64 0, .slice none 0 0, .slice none 0 0, .slice none 0 0, .slice none 0 0, .slice none 0 0, .slice none 0 0, .bool false] fun b37 w38 H => ?_)
  refine sp (.int .i64 i) ?_
  refine sw (o_storeC H 0 [.int .i64 ((s.qh[i]!).qw), .int .i64 ((s.qh[i]!).xN), .slice ae36Need (((s.qh[i]!).qO).length) ce36Need, .slice ae36Have (((s.qh[i]!).qX).length) ce36Have, .slice ae36Lack (((s.qh[i]!).xe).length) ce36Lack, .slice ae36Here (((s.qh[i]!).xm).length) ce36Here, .slice ae36Out (((s.qh[i]!).xZ).length) ce36Out, .slice ae36Into (((s.qh[i]!).qF).length) ce36Into, .bool ((s.qh[i]!).xO)] Tryz.sizeOf121 fun w39 H => ?_)
  try dsimp only [List.set] at H
  refine qj (t_n (qi ?_))
  refine vZ rfl H fun H => ?_
  refine tF 0 rfl rfl H ?_
  refine tL 1 rfl rfl (fun _ h => h.cell 0 rfl rfl) H ?_
  refine tF 2 rfl rfl H ?_
  refine tL 3 rfl rfl (fun _ h => h.cell 0 rfl rfl) H ?_
  refine rt 4 (pp b5 (0 + ((s.qh[i]!).qw : Int).toNat * 1)) (y_idxArr b5 (0) 6 ((s.qh[i]!).qw) Tryz.underlying166 ti2 rfl rfl (by omega) (by omega)) H ?_
  refine tL 5 rfl rfl (fun _ h => h.cell 2 rfl (ints_at (iv := (s.qh[i]!).qw) (i := (((s.qh[i]!).qw).toNat)) (by omega) (by simp only [List.length_set, List.length_cons, List.length_nil, minus_len, QB]; omega))) H ?_
  refine rtp 6 (.bool (((s.qh[i]!).xN : Int) == ((bests s t (-1) 6 k)[((s.qh[i]!).qw).toNat]!))) H ?_
  refine rtp 7 (.bool (((s.qh[i]!).xN : Int) == ((bests s t (-1) 6 k)[((s.qh[i]!).qw).toNat]!))) H ?_
  cases h41 : (((s.qh[i]!).xN : Int) == ((bests s t (-1) 6 k)[((s.qh[i]!).qw).toNat]!))
  ·skip
   replace h41 := ne_of_beq_false h41
   refine zi [8, 9, 10, 11] 4 (H) ?_
   refine rtp 12 (.bool false) H ?_
   refine xq (by kernel_rfl) (t_n ?_)
   refine qC false rfl (fun h => absurd h (by decide)) (fun _ => ?_)
   refine qM (b_n (t_n (ql ?_)))
   refine sw (zk i 1 rfl rfl (by omega) ?_)
   refine sp (.int .i64 (i + 1)) ?_
   refine qj ?_
   refine xk (m' := (s.qh.length - ((i + 1) : Int)).toNat) (by omega) ⟨_, vH, xX, zQ, (applL s t i), i + 1, (by exact qg (qg (qg (qg (qg (qg (qg (rfl) rfl) rfl) rfl) rfl) rfl) rfl) rfl), ?_, ?_, rfl, N, H.pick [1, 2, 3, 4] [7, 8, 9, 10, 11]⟩
   · first | exact applL_yes (appl_yes (n := 6) (z := -1) (k := k) (by omega) (by omega) (by omega) q6 ‹_› ‹_›) | exact applL_no (appl_no (n := 6) (z := -1) (k := k) (by omega) (by omega) (by omega) q6 ‹_›) | exact applL_no (fun h => ‹¬ EnOk _ _ _› h.1)
   · omega
  replace h41 := eq_of_beq h41
  refine rg 8 (.agg #[.int .i64 s.qH, .slice qx s.qf.length qp, .slice (aa b33 o34) s.qh.length qL]) 57 (Qo (cs := [.int .i64 s.qH, .slice qx s.qf.length qp, .slice (aa b33 o34) s.qh.length qL]) Tryz.isAgg36 Tryz.sizeOf36 rfl (fun _ h => qI (h.cells 4 rfl) 0 3)) H ?_
  refine rg 9 (.agg #[.slice xB t.qo.length xx, .slice xK t.qy.length xH, .slice xg t.qm.length xf]) 57 (Qo (cs := [.slice xB t.qo.length xx, .slice xK t.qy.length xH, .slice xg t.qm.length xf]) Tryz.isAgg38 Tryz.sizeOf38 rfl (fun _ h => qI (h.cells 3 rfl) 0 3)) H ?_
  refine rg 10 (.agg #[.int .i64 ((s.qh[i]!).qw), .int .i64 ((s.qh[i]!).xN), .slice ae36Need (((s.qh[i]!).qO).length) ce36Need, .slice ae36Have (((s.qh[i]!).qX).length) ce36Have, .slice ae36Lack (((s.qh[i]!).xe).length) ce36Lack, .slice ae36Here (((s.qh[i]!).xm).length) ce36Here, .slice ae36Out (((s.qh[i]!).xZ).length) ce36Out, .slice ae36Into (((s.qh[i]!).qF).length) ce36Into, .bool ((s.qh[i]!).xO)]) 57 (Qo (cs := [.int .i64 ((s.qh[i]!).qw), .int .i64 ((s.qh[i]!).xN), .slice ae36Need (((s.qh[i]!).qO).length) ce36Need, .slice ae36Have (((s.qh[i]!).qX).length) ce36Have, .slice ae36Lack (((s.qh[i]!).xe).length) ce36Lack, .slice ae36Here (((s.qh[i]!).xm).length) ce36Here, .slice ae36Out (((s.qh[i]!).xZ).length) ce36Out, .slice ae36Into (((s.qh[i]!).qF).length) ce36Into, .bool ((s.qh[i]!).xO)]) Tryz.isAgg121 Tryz.sizeOf121 rfl (fun _ h => qI (h.cells 0 rfl) 0 9)) H ?_
  refine qR [11] (by kernel_rfl) (by simp) (r_opG rfl (e := 57) rfl rfl ?_ qU)
  refine oc (isEnabled_ok _ s t (s.qh[i]!) _ _ _ _ _ _ _ _ _ _ _ _ _ _ _ _ _ _ _ _ _ _ _ _ _ _ _ _ _ _ _ _ _ (H.get 7 rfl).1 (H.get 8 rfl).1 (H.get 9 rfl).1 (H.get 10 rfl).1 (H.get 11 rfl).1 (H.get 0 rfl).1 (H.get 1 rfl).1 (H.get 2 rfl).1 (H.get 3 rfl).1 (H.get 4 rfl).1 (H.get 5 rfl).1 (by first | assumption | omega) (by first | assumption | omega) (by first | assumption | omega)) ?_
  rintro _ w43 rfl x44
  replace H := H.ext x44
  refine ⟨H, ?_⟩
  refine rtp 12 (.bool (dec (EnOk s t (s.qh[i]!)))) H ?_
  refine xq (by kernel_rfl) (t_n ?_)
  refine qC (dec (EnOk s t (s.qh[i]!))) rfl (fun h45 => ?_) (fun h45 => ?_)
  ·skip
   replace h45 := vC h45
   refine ql ?_
   refine sps [.slice vH xX zQ, .int .i64 i] ?_
   refine sw (vJ H Tryz.underlying22 ti2 [.int .i64 i] fun b46 w47 H => ?_)
   refine sw (jh H 2 rfl 0 rfl Tryz.underlying22 ti2 rfl (by decide) rfl rfl rfl (by simp [Value.oneCell', Value.cells]) (by unfold maxLen; omega) (by omega) fun a48 c49 w50 H => ?_)
   rw [snocI] at H
   try dsimp only [List.set] at H
   refine sp (.slice a48 (xX + 1) c49) ?_
   refine qj (b_n (t_n (ql ?_)))
   refine sw (zk i 1 rfl rfl (by omega) ?_)
   refine sp (.int .i64 (i + 1)) ?_
   refine qj ?_
   refine xk (m' := (s.qh.length - ((i + 1) : Int)).toNat) (by omega) ⟨_, a48, xX + 1, c49, ((applL s t i) ++ [(i : Int)]), i + 1, (by exact qg (qg (qg (qg (qg (qg (qg (rfl) rfl) rfl) rfl) rfl) rfl) rfl) rfl), ?_, ?_, rfl, N, H.pick [2, 3, 4, 5] [7, 8, 9, 10, 11]⟩
   · first | exact applL_yes (appl_yes (n := 6) (z := -1) (k := k) (by omega) (by omega) (by omega) q6 ‹_› ‹_›) | exact applL_no (appl_no (n := 6) (z := -1) (k := k) (by omega) (by omega) (by omega) q6 ‹_›) | exact applL_no (fun h => ‹¬ EnOk _ _ _› h.1)
   · omega
  replace h45 := xI h45
  refine qM (b_n (t_n (ql ?_)))
  refine sw (zk i 1 rfl rfl (by omega) ?_)
  refine sp (.int .i64 (i + 1)) ?_
  refine qj ?_
  refine xk (m' := (s.qh.length - ((i + 1) : Int)).toNat) (by omega) ⟨_, vH, xX, zQ, (applL s t i), i + 1, (by exact qg (qg (qg (qg (qg (qg (qg (rfl) rfl) rfl) rfl) rfl) rfl) rfl) rfl), ?_, ?_, rfl, N, H.pick [1, 2, 3, 4] [7, 8, 9, 10, 11]⟩
  · first | exact applL_yes (appl_yes (n := 6) (z := -1) (k := k) (by omega) (by omega) (by omega) q6 ‹_› ‹_›) | exact applL_no (appl_no (n := 6) (z := -1) (k := k) (by omega) (by omega) (by omega) q6 ‹_›) | exact applL_no (fun h => ‹¬ EnOk _ _ _› h.1)
  · omega
 replace h32 := of_decide_eq_false h32
 refine xQ (t_x (t_x (b_x (t_n (qi (ql ?_))))))
 refine sps [.slice vH xX zQ, .slice vH xX zQ] ?_
 refine qj (t_n (qV ?_))
 refine ret1 (.slice vH xX zQ) rfl rfl ⟨_, rfl, ?_, H.base⟩
 obtain rfl : i = s.qh.length := by omega
 exact ⟨vH, xX, zQ, rfl, N, H.pick [0] []⟩

end Go.Proofs.YtgjnaocffdhnbaaGreat
