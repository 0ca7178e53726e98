/- Walks, printed by program (wip/tools/gv.py): what each function comes to, for all arguments. -/
import Derived.Test.YtkmlihdacnfhdaaG12
import Derived.Test.YtkmlihdacnfhdaaG7
namespace Go.Proofs.Ytkmlihdacnfhdaa
open Go.Proofs.Ytkmlihdacnfhdaa.Tot (tot)
open Go.Proofs.Ytkmlihdacnfhdaa.Mark (cnt mrk mkd mkd_mark cnt_mark)
open Go.RowKit
set_option linter.unusedVariables false
set_option linter.unusedSimpArgs false
set_option maxRecDepth 100000
set_option maxHeartbeats 4000000

theorem ti111 : TI Try.prog 111 (.agg #[.int .i64 0, .int .i64 0, .int .i64 0, .int .i64 0, .int .i64 0, .int .i64 0]) 6 48 := by unfold TI; kernel_rfl


theorem isEnabled_ok (w : World) (s : qV) (t : qQ) (r : QK) (qw : Option Addr) (qm : Nat) (qM : List Nat) (qG : Option Addr) (qC : Nat) (xu : List Nat) (qP : Option Addr) (qJ : Nat) (xJ : List Nat) (xG : Option Addr) (xA : Nat) (zF : List Nat) (qL : Option Addr) (qK : Nat) (xI : List Nat) (vP : Option Addr) (vO : Nat) (Q5 : List Nat) (jv : Option Addr) (jr : Nat) (Xw : List Nat) (jb : Option Addr) (ja : Nat) (Xn : List Nat) (jL : Option Addr) (jK : Nat) (XM : List Nat) (Qy : Option Addr) (Qx : Nat) (FrOut : List Nat) (vF : Option Addr) (zU : Nat) (FrInto : List Nat) (xx : qW.rep w qM [.slice qw s.qf.length qm] s.qf) (xN : qW.rep w xu [.slice qG s.qg.length qC] s.qg) (zA : qW.rep w xJ [.slice qP t.qh.length qJ] t.qh) (vC : qW.rep w zF [.slice xG t.qp.length xA] t.qp) (xZ : qW.rep w xI [.slice qL t.ql.length qK] t.ql) (hrNeed : qW.rep w Q5 [.slice vP r.qR.length vO] r.qR) (hrHave : qW.rep w Xw [.slice jv r.xg.length jr] r.xg) (hrLack : qW.rep w Xn [.slice jb r.xk.length ja] r.xk) (hrHere : qW.rep w XM [.slice jL r.xw.length jK] r.xw) (hrOut : qW.rep w FrOut [.slice Qy r.zo.length Qx] r.zo) (hrInto : qW.rep w FrInto [.slice vF r.qE.length zU] r.qE) (p0 : yP s) (p1 : zJ s t) (p2 : RuleOk s r) : Calls Try.prog 91 #[.agg #[.int .i64 s.qI, .slice qw s.qf.length qm, .slice qG s.qg.length qC], .agg #[.slice qP t.qh.length qJ, .slice xG t.qp.length xA, .slice qL t.ql.length qK], .agg #[.int .i64 r.qy, .int .i64 r.zk, .slice vP r.qR.length vO, .slice jv r.xg.length jr, .slice jb r.xk.length ja, .slice jL r.xw.length jK, .slice Qy r.zo.length Qx, .slice vF r.qE.length zU, .bool r.xQ]] w (Ret (fun v w' => v = .bool (dec (EnOk s t r))) w) := by
 refine enter (n := 50) Try.func91 rfl Try.ntmps91 (Nat.le_of_ble_eq_true rfl) ?_
 have H := (((((((((((St.start w).arg hrInto).arg hrOut).arg hrHere).arg hrLack).arg hrHave).arg hrNeed).arg xZ).arg vC).arg zA).arg xN).arg xx
 have vW := qN xx
 have yh := qN xN
 have QU := qN zA
 have XA := qN vC
 have Qa := qN xZ
 have nhrNeed := qN hrNeed
 have nhrHave := qN hrHave
 have nhrLack := qN hrLack
 have nhrHere := qN hrHere
 have nhrOut := qN hrOut
 have nhrInto := qN hrInto
 clear xx xN zA vC xZ hrNeed hrHave hrLack hrHere hrOut hrInto
 have N := Fresh.nil w.heap.size
 have p3 := p2.1
 have p4 := p1.1
 have p5 := p1.2.1
 have p6 := (p1.bagLen (k := r.qy.toNat) (by omega)).len
 have p7 := p2.2.2.2.2.1.len
 have p8 := p2.2.2.2.2.2.1.len
 have p9 := p2.2.2.2.2.2.2.1.len
 have p10 := jF p2.2.2.2.2.2.2.1
 have p11 := p0.1
 have p12 := p2.2.2.2.2.2.2.2.2.2.2
 have p13 := kinds_le p0
 refine qo (qB ?_)
 refine sw (y9 H [.int .i64 s.qI, .slice qw s.qf.length qm, .slice qG s.qg.length qC] fun b1 w2 H => ?_)
 refine sw (y9 H [.slice qP t.qh.length qJ, .slice xG t.qp.length xA, .slice qL t.ql.length qK] fun b3 w4 H => ?_)
 refine sw (y9 H [.int .i64 r.qy, .int .i64 r.zk, .slice vP r.qR.length vO, .slice jv r.xg.length jr, .slice jb r.xk.length ja, .slice jL r.xw.length jK, .slice Qy r.zo.length Qx, .slice vF r.qE.length zU, .bool r.xQ] fun b5 w6 H => ?_)
 refine sp (.bool false) ?_
 refine qA (t_n (qo (qo (qB ?_))))
 refine sw (qO b3 (0) 0 Try.underlying41 rfl rfl Try.sizeOf36 rfl ?_)
 refine sw (qF (.slice qP t.qh.length qJ) Try.isAgg36 rfl (H.cell 1 rfl rfl) ?_)
 refine sw (qO b5 (0) 0 Try.underlying92 rfl rfl Try.sizeOf2 rfl ?_)
 refine sw (qF (.int .i64 r.qy) Try.isAgg2 rfl (H.cell 0 rfl rfl) ?_)
 obtain ⟨b7, o8, rfl⟩ := H.addr 2 rfl (by omega)
 refine sw (xO r.qy Try.underlying36 ti4 rfl rfl (by omega) (by omega) ?_)
 refine sw (qF (.bool (t.qh[r.qy.toNat]!)) Try.isAgg4 rfl (H.Xd 2 rfl r.qy (by omega) (by omega)) ?_)
 refine sp (.bool (!(t.qh[r.qy.toNat]!))) ?_
 refine qA (t_n ?_)
 refine qX (!(t.qh[r.qy.toNat]!)) rfl (fun h10 => ?_) (fun h10 => ?_)
 ·skip
  replace h10 := xh h10
  refine qo (qB ?_)
  refine sp (.bool false) ?_
  refine qA (t_n (xE (t_r ?_)))
  refine ret1 (.bool false) rfl rfl ⟨_, rfl, ?_, H.base⟩
  rw [xB (fun h => by obtain ⟨h1, h2, h3, h4, h5⟩ := h; first | exact ft h1 ‹_› | exact ft h2 ‹_› | exact ft h3 ‹_› | exact h4 ⟨‹_›, ‹_›⟩ | (obtain ⟨q1, q2⟩ := h5 i (by omega); first | exact ft q1 ‹_› | exact absurd q2 ‹_›))]
 replace h10 := qY h10
 refine xy (t_n (qo (qB ?_)))
 refine sw (qO b3 (0) 1 Try.underlying41 rfl rfl Try.sizeOf37 rfl ?_)
 refine sw (qF (.slice xG t.qp.length xA) Try.isAgg37 rfl (H.cell 1 rfl rfl) ?_)
 refine sw (qO b5 (0) 0 Try.underlying92 rfl rfl Try.sizeOf2 rfl ?_)
 refine sw (qF (.int .i64 r.qy) Try.isAgg2 rfl (H.cell 0 rfl rfl) ?_)
 obtain ⟨b11, o12, rfl⟩ := H.addr 3 rfl (by omega)
 obtain ⟨ae14, ce14, Fe14, H⟩ := H.yY 3 rfl r.qy r.qy.toNat (by omega) (by omega) (by omega)
 refine sw (xO r.qy Try.underlying37 ti22 rfl rfl (by omega) (by omega) ?_)
 refine sw (qF (.slice ae14 ((t.qp[r.qy.toNat]!).length) ce14) Try.isAgg22 rfl (H.zh 1 rfl 0 rfl) ?_)
 refine sp (.slice ae14 ((t.qp[r.qy.toNat]!).length) ce14) ?_
 refine qA (t_n (qo (qo (qB ?_))))
 refine sw (qO b5 (0) 2 Try.underlying92 rfl rfl Try.sizeOf22 rfl ?_)
 refine sw (qF (.slice vP r.qR.length vO) Try.isAgg22 rfl (H.cell 0 rfl rfl) ?_)
 refine sp (.slice ae14 ((t.qp[r.qy.toNat]!).length) ce14) ?_
 refine sw (xf #[.slice vP r.qR.length vO, .slice ae14 ((t.qp[r.qy.toNat]!).length) ce14] rfl rfl Try.call112 (isWithin_ok w6 r.qR (t.qp[r.qy.toNat]!) vP vO Q5 ae14 ce14 Fe14 (H.get 7 rfl).1 (H.get 0 rfl).1 (by first | assumption | omega) (by first | assumption | omega)) ?_)
 rintro _ w15 rfl x16
 replace H := H.ext x16
 refine sps [.bool (!(within r.qR (t.qp[r.qy.toNat]!))), .bool (!(within r.qR (t.qp[r.qy.toNat]!)))] ?_
 cases h17 : (!(within r.qR (t.qp[r.qy.toNat]!)))
 ·skip
  replace h17 := qY h17
  refine qU 26 rfl rfl ?_
  refine sw (qO b5 (0) 3 Try.underlying92 rfl rfl Try.sizeOf22 rfl ?_)
  refine qU 26 rfl rfl ?_
  refine sw (qF (.slice jv r.xg.length jr) Try.isAgg22 rfl (H.cell 0 rfl rfl) ?_)
  refine qU 26 rfl rfl ?_
  refine sp (.slice ae14 ((t.qp[r.qy.toNat]!).length) ce14) ?_
  refine qU 26 rfl rfl ?_
  refine sw (xf #[.slice jv r.xg.length jr, .slice ae14 ((t.qp[r.qy.toNat]!).length) ce14] rfl rfl Try.call112 (isWithin_ok w15 r.xg (t.qp[r.qy.toNat]!) jv jr Xw ae14 ce14 Fe14 (H.get 8 rfl).1 (H.get 0 rfl).1 (by first | assumption | omega) (by first | assumption | omega)) ?_)
  rintro _ w18 rfl x19
  replace H := H.ext x19
  refine qU 26 rfl rfl ?_
  refine sps [.bool (!(within r.xg (t.qp[r.qy.toNat]!))), .bool (!(within r.xg (t.qp[r.qy.toNat]!))), .bool (!(within r.xg (t.qp[r.qy.toNat]!)))] ?_
  cases h20 : (!(within r.xg (t.qp[r.qy.toNat]!)))
  ·skip
   replace h20 := qY h20
   refine qU 33 rfl rfl ?_
   refine sw (qO b5 (0) 4 Try.underlying92 rfl rfl Try.sizeOf22 rfl ?_)
   refine qU 33 rfl rfl ?_
   refine sw (qF (.slice jb r.xk.length ja) Try.isAgg22 rfl (H.cell 0 rfl rfl) ?_)
   refine qU 33 rfl rfl ?_
   refine sw (xf #[.slice jb r.xk.length ja] rfl rfl Try.call90 (bagSize_ok w18 r.xk jb ja Xn (H.get 9 rfl).1 (by first | assumption | exact jF (by assumption) | exact Xm (by assumption))) ?_)
   rintro _ w21 rfl x22
   replace H := H.ext x22
   refine qU 33 rfl rfl ?_
   refine sp (.bool (decide ((sumL r.xk : Int) > 0))) ?_
   refine qU 33 rfl rfl ?_
   refine sp (.bool (decide ((sumL r.xk : Int) > 0))) ?_
   cases h23 : (decide ((sumL r.xk : Int) > 0))
   ·skip
    replace h23 := of_decide_eq_false h23
    refine zi [39, 40, 41, 42] ?_
    refine qU 33 rfl rfl ?_
    refine sps [.bool false, .bool false] ?_
    refine qA (t_n ?_)
    refine qX false rfl (fun h => absurd h (by decide)) (fun _ => ?_)
    refine xy (t_n (qo (qB ?_)))
    refine sw (qO b5 (0) 7 Try.underlying92 rfl rfl Try.sizeOf90 rfl ?_)
    refine sw (qF (.slice vF r.qE.length zU) Try.isAgg90 rfl (H.cell 0 rfl rfl) ?_)
    refine sp (.func (.func 114) #[] #[pp b3 0, pp b1 0, pp b5 0]) ?_
    refine sw (Xc #[.slice vF r.qE.length zU, .func (.func 114) #[] #[pp b3 0, pp b1 0, pp b5 0]] rfl rfl Try.call113 ?_)
    refine enter (n := 9) Try.func113 rfl Try.ntmps113 (Nat.le_of_ble_eq_true rfl) ?_
    refine qo (qB ?_)
    refine sp (.bool false) ?_
    refine qA (t_n (qo (qB ?_)))
    refine sps [.slice vF r.qE.length zU, .func (.func 114) #[] #[pp b3 0, pp b1 0, pp b5 0]] ?_
    refine sw (Xc #[.slice vF r.qE.length zU, .func (.func 114) #[] #[pp b3 0, pp b1 0, pp b5 0]] rfl rfl Try.call123 ?_)
    refine enter (n := 19) Try.func123 rfl Try.ntmps123 (Nat.le_of_ble_eq_true rfl) ?_
    refine qo (qB ?_)
    refine sp (.int .i64 0) ?_
    refine qA (t_n (qo (qo (qB ?_))))
    refine sp (.slice vF r.qE.length zU) ?_
    refine sw (vI Try.underlying90 vF r.qE.length zU rfl ?_)
    refine sp (.int .i64 0) ?_
    refine qA (t_n (xC ?_))
    refine vw (fun m' ρ w24 => ∃ (junk : Env) (i : Nat), ρ = upd (upd (upd (upd junk 0 (.slice vF r.qE.length zU)) 1 (.func (.func 114) #[] #[pp b3 0, pp b1 0, pp b5 0])) 7 (.int .i64 r.qE.length)) 8 (.int .i64 i) ∧ ((i : Int) ≤ r.qE.length) ∧ (IntoUp s t r i) ∧ m' = (r.qE.length - (i : Int)).toNat ∧ Fresh w.heap.size [] ∧ St w w24 [.box b5 [.int .i64 r.qy, .int .i64 r.zk, .slice vP r.qR.length vO, .slice jv r.xg.length jr, .slice jb r.xk.length ja, .slice jL r.xw.length jK, .slice Qy r.zo.length Qx, .slice vF r.qE.length zU, .bool r.xQ] 92, .box b3 [.slice (aa b7 o8) t.qh.length qJ, .slice (aa b11 o12) t.qp.length xA, .slice qL t.ql.length qK] 41, .box b1 [.int .i64 s.qI, .slice qw s.qf.length qm, .slice qG s.qg.length qC] 30] [isF false Fe14 (.slice ae14 ((t.qp[r.qy.toNat]!).length) ce14) (t.qp[r.qy.toNat]!), atF b11 (o12 + (r.qy : Int).toNat * 1) [.slice ae14 ((t.qp[r.qy.toNat]!).length) ce14], isF false qM (.slice qw s.qf.length qm) s.qf, isF false xu (.slice qG s.qg.length qC) s.qg, isF false xJ (.slice (aa b7 o8) t.qh.length qJ) t.qh, isF false zF (.slice (aa b11 o12) t.qp.length xA) t.qp, isF false xI (.slice qL t.ql.length qK) t.ql, isF false Q5 (.slice vP r.qR.length vO) r.qR, isF false Xw (.slice jv r.xg.length jr) r.xg, isF false Xn (.slice jb r.xk.length ja) r.xk, isF false XM (.slice jL r.xw.length jK) r.xw, isF false FrOut (.slice Qy r.zo.length Qx) r.zo, isF false FrInto (.slice vF r.qE.length zU) r.qE]) ((r.qE.length - (0 : Int)).toNat) ⟨_, 0, (by exact qj (qj (qj (qj (rfl) rfl) rfl) rfl) rfl), (by omega), (by exact fun j hj => by omega), rfl, N, H⟩ ?_
    clear H N
    rintro m' ρ w25 ⟨junk, i, rfl, i0, i1, rfl, N, H⟩
    refine qo (qB ?_)
    refine sp (.bool (decide ((i : Int) < r.qE.length))) ?_
    refine qA (t_n (qo ?_))
    refine qX (decide ((i : Int) < r.qE.length)) rfl (fun h26 => ?_) (fun h26 => ?_)
    ·skip
     replace h26 := of_decide_eq_true h26
     have q := (p12 i (by omega)).1
     have q1 := q.1
     have q2 := q.2
     refine xy (t_n (qo (xC (qo (qB ?_)))))
     refine sps [.int .i64 i, .int .i64 i] ?_
     refine qA (t_n (qo (qB ?_)))
     refine sps [.func (.func 114) #[] #[pp b3 0, pp b1 0, pp b5 0], .slice vF r.qE.length zU, .int .i64 i] ?_
     obtain ⟨b27, o28, rfl⟩ := H.addr 12 rfl (by omega)
     obtain ⟨ae30Bag, ce30Bag, Fe30Bag, H⟩ := H.jQ 12 rfl i i (by omega) (by omega) (by omega)
     refine sw (xO i Try.underlying90 ti108 rfl rfl (by omega) (by omega) ?_)
     refine sw (zu [.int .i64 ((r.qE[i]!).qy), .slice ae30Bag (((r.qE[i]!).vK).length) ce30Bag] Try.isAgg108 Try.sizeOf108 rfl (qH (H.get 1 rfl) 0 2) ?_)
     refine sw (Xc #[.agg #[.int .i64 ((r.qE[i]!).qy), .slice ae30Bag (((r.qE[i]!).vK).length) ce30Bag], pp b3 0, pp b1 0, pp b5 0] rfl rfl Try.call114 ?_)
     refine enter (n := 23) Try.func114 rfl Try.ntmps114 (Nat.le_of_ble_eq_true rfl) ?_
     refine qo (qB ?_)
     refine sw (y9 H [.int .i64 ((r.qE[i]!).qy), .slice ae30Bag (((r.qE[i]!).vK).length) ce30Bag] fun b31 w32 H => ?_)
     refine sp (.bool false) ?_
     refine qA (t_n (qo ?_))
     refine yg rfl H fun H => ?_
     refine rt 0 (pp b3 (0 + 0)) (xF b3 (0) 0 Try.underlying41 rfl rfl Try.sizeOf36 rfl) H ?_
     refine rt 1 (.slice (aa b7 o8) t.qh.length qJ) (xm Try.isAgg36 rfl (fun _ h => h.cell 2 rfl rfl)) H ?_
     refine rt 2 (pp b31 (0 + 0)) (xF b31 (0) 0 Try.underlying108 rfl rfl Try.sizeOf2 rfl) H ?_
     refine rt 3 (.int .i64 ((r.qE[i]!).qy)) (xm Try.isAgg2 rfl (fun _ h => h.cell 0 rfl rfl)) H ?_
     refine rt 4 (pp b7 (o8 + ((r.qE[i]!).qy : Int).toNat * 1)) (xK b7 (o8) t.qh.length qJ ((r.qE[i]!).qy) Try.underlying36 ti4 rfl rfl (by omega) (by omega)) H ?_
     refine rt 5 (.bool (t.qh[((r.qE[i]!).qy).toNat]!)) (xm Try.isAgg4 rfl (fun _ h => h.Xd 6 rfl ((r.qE[i]!).qy) (by omega) (by omega))) H ?_
     refine rtp 6 (.bool (!(t.qh[((r.qE[i]!).qy).toNat]!))) H ?_
     refine rtp 7 (.bool (!(t.qh[((r.qE[i]!).qy).toNat]!))) H ?_
     cases h34 : (!(t.qh[((r.qE[i]!).qy).toNat]!))
     ·skip
      replace h34 := qY h34
      refine rg 8 (.agg #[.int .i64 s.qI, .slice qw s.qf.length qm, .slice qG s.qg.length qC]) 13 (yV (cs := [.int .i64 s.qI, .slice qw s.qf.length qm, .slice qG s.qg.length qC]) Try.isAgg30 Try.sizeOf30 rfl (fun _ h => qH (h.cells 3 rfl) 0 3)) H ?_
      refine rg 9 (.agg #[.slice (aa b7 o8) t.qh.length qJ, .slice (aa b11 o12) t.qp.length xA, .slice qL t.ql.length qK]) 13 (yV (cs := [.slice (aa b7 o8) t.qh.length qJ, .slice (aa b11 o12) t.qp.length xA, .slice qL t.ql.length qK]) Try.isAgg41 Try.sizeOf41 rfl (fun _ h => qH (h.cells 2 rfl) 0 3)) H ?_
      refine rg 10 (pp b31 (0 + 0)) 13 (xF b31 (0) 0 Try.underlying108 rfl rfl Try.sizeOf2 rfl) H ?_
      refine rg 11 (.int .i64 ((r.qE[i]!).qy)) 13 (xm Try.isAgg2 rfl (fun _ h => h.cell 0 rfl rfl)) H ?_
      refine rg 13 (pp b5 (0 + 0)) 13 (xF b5 (0) 0 Try.underlying92 rfl rfl Try.sizeOf2 rfl) H ?_
      refine rg 14 (.int .i64 r.qy) 13 (xm Try.isAgg2 rfl (fun _ h => h.cell 1 rfl rfl)) H ?_
      refine xn [12] (by kernel_rfl) (by simp) (r_opG rfl (e := 13) rfl rfl ?_ xq)
      refine xf #[.agg #[.int .i64 s.qI, .slice qw s.qf.length qm, .slice qG s.qg.length qC], .agg #[.slice (aa b7 o8) t.qh.length qJ, .slice (aa b11 o12) t.qp.length xA, .slice qL t.ql.length qK], .int .i64 ((r.qE[i]!).qy)] rfl rfl Try.call83 (parentNow_ok w32.drew s t ((r.qE[i]!).qy) qw qm qM qG qC xu (aa b7 o8) qJ xJ (aa b11 o12) xA zF qL qK xI (H.get 4 rfl).1 (H.get 5 rfl).1 (H.get 6 rfl).1 (H.get 7 rfl).1 (H.get 8 rfl).1 (by first | assumption | omega) (by first | assumption | omega) (by first | assumption | omega)) ?_
      rintro _ w36 rfl x37
      replace H := H.ext x37
      refine ⟨H, ?_⟩
      refine rgp 15 (.bool ((xe s t ((r.qE[i]!).qy) : Int) != r.qy)) 13 H ?_
      refine rtp 16 (.bool ((xe s t ((r.qE[i]!).qy) : Int) != r.qy)) H ?_
      refine rtp 17 (.bool ((xe s t ((r.qE[i]!).qy) : Int) != r.qy)) H ?_
      refine xM (by kernel_rfl) (t_n ?_)
      refine xE ?_
      refine ret1 (.bool ((xe s t ((r.qE[i]!).qy) : Int) != r.qy)) rfl rfl ⟨_, rfl, ?_⟩
      replace H := H.erases [0]
      dsimp only [QH, List.eraseIdx] at H
      refine qA (t_n ?_)
      refine qX ((xe s t ((r.qE[i]!).qy) : Int) != r.qy) rfl (fun h38 => ?_) (fun h38 => ?_)
      ·skip
       replace h38 := bne_iff_ne.1 h38
       refine qo (qB ?_)
       refine sps [.int .i64 i, .int .i64 i] ?_
       refine qA (t_n (xE (b_r (t_r (t_r (b_r (t_r ?_)))))))
       refine ret1 (.int .i64 i) rfl rfl ⟨_, rfl, ?_⟩
       refine sps [.bool (decide ((i : Int) ≥ 0)), .bool (decide ((i : Int) ≥ 0))] ?_
       refine qA (t_n (xE ?_))
       refine ret1 (.bool (decide ((i : Int) ≥ 0))) rfl rfl ⟨_, rfl, ?_⟩
       refine sps [.bool (!(decide ((i : Int) ≥ 0))), .bool (!(decide ((i : Int) ≥ 0)))] ?_
       refine qA (t_n (xE ?_))
       refine ret1 (.bool (!(decide ((i : Int) ≥ 0)))) rfl rfl ⟨_, rfl, ?_, H.base⟩
       rw [show (!decide ((i : Int) ≥ 0)) = false by simp]
       rw [xB (fun h => by obtain ⟨h1, h2, h3, h4, h5⟩ := h; first | exact ft h1 ‹_› | exact ft h2 ‹_› | exact ft h3 ‹_› | exact h4 ⟨‹_›, ‹_›⟩ | (obtain ⟨q1, q2⟩ := h5 i (by omega); first | exact ft q1 ‹_› | exact absurd q2 ‹_›))]
      replace h38 := xP h38
      refine xy (b_n (t_n (qB ?_)))
      refine sw (vz i 1 rfl rfl (by omega) ?_)
      refine sp (.int .i64 (i + 1)) ?_
      refine qA ?_
      refine xH (m' := (r.qE.length - ((i + 1) : Int)).toNat) (by omega) ⟨_, i + 1, (by exact qj (qj (qj (qj (rfl) rfl) rfl) rfl) rfl), ?_, ?_, rfl, N, H.pick [0, 1, 2] [2, 3, 4, 5, 6, 7, 8, 9, 10, 11, 12, 13, 14]⟩
      · omega
      · exact i1.succ ‹_› ‹_›
     replace h34 := xh h34
     refine zS [8, 9, 10, 11, 12, 13, 14, 15] 8 (H) ?_
     refine rtp 16 (.bool true) H ?_
     refine rtp 17 (.bool true) H ?_
     refine xM (by kernel_rfl) (t_n ?_)
     refine xE ?_
     refine ret1 (.bool true) rfl rfl ⟨_, rfl, ?_⟩
     replace H := H.erases [0]
     dsimp only [QH, List.eraseIdx] at H
     refine qA (t_n ?_)
     refine qX true rfl (fun _ => ?_) (fun h => absurd h (by decide))
     refine qo (qB ?_)
     refine sps [.int .i64 i, .int .i64 i] ?_
     refine qA (t_n (xE (b_r (t_r (t_r (b_r (t_r ?_)))))))
     refine ret1 (.int .i64 i) rfl rfl ⟨_, rfl, ?_⟩
     refine sps [.bool (decide ((i : Int) ≥ 0)), .bool (decide ((i : Int) ≥ 0))] ?_
     refine qA (t_n (xE ?_))
     refine ret1 (.bool (decide ((i : Int) ≥ 0))) rfl rfl ⟨_, rfl, ?_⟩
     refine sps [.bool (!(decide ((i : Int) ≥ 0))), .bool (!(decide ((i : Int) ≥ 0)))] ?_
     refine qA (t_n (xE ?_))
     refine ret1 (.bool (!(decide ((i : Int) ≥ 0)))) rfl rfl ⟨_, rfl, ?_, H.base⟩
     rw [show (!decide ((i : Int) ≥ 0)) = false by simp]
     rw [xB (fun h => by obtain ⟨h1, h2, h3, h4, h5⟩ := h; first | exact ft h1 ‹_› | exact ft h2 ‹_› | exact ft h3 ‹_› | exact h4 ⟨‹_›, ‹_›⟩ | (obtain ⟨q1, q2⟩ := h5 i (by omega); first | exact ft q1 ‹_› | exact absurd q2 ‹_›))]
    replace h26 := of_decide_eq_false h26
    refine ve (t_x (t_x (b_x (t_n (qo (qB ?_))))))
    refine sp (.int .i64 (-1)) ?_
    refine qA (t_n (xE ?_))
    refine ret1 (.int .i64 (-1)) rfl rfl ⟨_, rfl, ?_⟩
    refine sps [.bool false, .bool false] ?_
    refine qA (t_n (xE ?_))
    refine ret1 (.bool false) rfl rfl ⟨_, rfl, ?_⟩
    refine sps [.bool true, .bool true] ?_
    refine qA (t_n (xE ?_))
    refine ret1 (.bool true) rfl rfl ⟨_, rfl, ?_, H.base⟩
    rw [yZ ⟨by assumption, by assumption, by assumption, fun ⟨u, v⟩ => by first | omega | exact ft v ‹_›, (show i = r.qE.length by omega) ▸ i1⟩]
   replace h23 := of_decide_eq_true h23
   refine qU 38 rfl rfl ?_
   refine sw (qO b5 (0) 4 Try.underlying92 rfl rfl Try.sizeOf22 rfl ?_)
   refine qU 38 rfl rfl ?_
   refine sw (qF (.slice jb r.xk.length ja) Try.isAgg22 rfl (H.cell 0 rfl rfl) ?_)
   refine qU 38 rfl rfl ?_
   refine sp (.slice ae14 ((t.qp[r.qy.toNat]!).length) ce14) ?_
   refine qU 38 rfl rfl ?_
   refine sw (xf #[.slice jb r.xk.length ja, .slice ae14 ((t.qp[r.qy.toNat]!).length) ce14] rfl rfl Try.call112 (isWithin_ok w21 r.xk (t.qp[r.qy.toNat]!) jb ja Xn ae14 ce14 Fe14 (H.get 9 rfl).1 (H.get 0 rfl).1 (by first | assumption | omega) (by first | assumption | omega)) ?_)
   rintro _ w39 rfl x40
   replace H := H.ext x40
   refine qU 33 rfl rfl ?_
   refine sps [.bool (within r.xk (t.qp[r.qy.toNat]!)), .bool (within r.xk (t.qp[r.qy.toNat]!))] ?_
   refine qA (t_n ?_)
   refine qX (within r.xk (t.qp[r.qy.toNat]!)) rfl (fun h41 => ?_) (fun h41 => ?_)
   ·skip
    refine qo (qB ?_)
    refine sp (.bool false) ?_
    refine qA (t_n (xE (t_r ?_)))
    refine ret1 (.bool false) rfl rfl ⟨_, rfl, ?_, H.base⟩
    rw [xB (fun h => by obtain ⟨h1, h2, h3, h4, h5⟩ := h; first | exact ft h1 ‹_› | exact ft h2 ‹_› | exact ft h3 ‹_› | exact h4 ⟨‹_›, ‹_›⟩ | (obtain ⟨q1, q2⟩ := h5 i (by omega); first | exact ft q1 ‹_› | exact absurd q2 ‹_›))]
   refine xy (t_n (qo (qB ?_)))
   refine sw (qO b5 (0) 7 Try.underlying92 rfl rfl Try.sizeOf90 rfl ?_)
   refine sw (qF (.slice vF r.qE.length zU) Try.isAgg90 rfl (H.cell 0 rfl rfl) ?_)
   refine sp (.func (.func 114) #[] #[pp b3 0, pp b1 0, pp b5 0]) ?_
   refine sw (Xc #[.slice vF r.qE.length zU, .func (.func 114) #[] #[pp b3 0, pp b1 0, pp b5 0]] rfl rfl Try.call113 ?_)
   refine enter (n := 9) Try.func113 rfl Try.ntmps113 (Nat.le_of_ble_eq_true rfl) ?_
   refine qo (qB ?_)
   refine sp (.bool false) ?_
   refine qA (t_n (qo (qB ?_)))
   refine sps [.slice vF r.qE.length zU, .func (.func 114) #[] #[pp b3 0, pp b1 0, pp b5 0]] ?_
   refine sw (Xc #[.slice vF r.qE.length zU, .func (.func 114) #[] #[pp b3 0, pp b1 0, pp b5 0]] rfl rfl Try.call123 ?_)
   refine enter (n := 19) Try.func123 rfl Try.ntmps123 (Nat.le_of_ble_eq_true rfl) ?_
   refine qo (qB ?_)
   refine sp (.int .i64 0) ?_
   refine qA (t_n (qo (qo (qB ?_))))
   refine sp (.slice vF r.qE.length zU) ?_
   refine sw (vI Try.underlying90 vF r.qE.length zU rfl ?_)
   refine sp (.int .i64 0) ?_
   refine qA (t_n (xC ?_))
   refine vw (fun m' ρ w42 => ∃ (junk : Env) (i : Nat), ρ = upd (upd (upd (upd junk 0 (.slice vF r.qE.length zU)) 1 (.func (.func 114) #[] #[pp b3 0, pp b1 0, pp b5 0])) 7 (.int .i64 r.qE.length)) 8 (.int .i64 i) ∧ ((i : Int) ≤ r.qE.length) ∧ (IntoUp s t r i) ∧ m' = (r.qE.length - (i : Int)).toNat ∧ Fresh w.heap.size [] ∧ St w w42 [.box b5 [.int .i64 r.qy, .int .i64 r.zk, .slice vP r.qR.length vO, .slice jv r.xg.length jr, .slice jb r.xk.length ja, .slice jL r.xw.length jK, .slice Qy r.zo.length Qx, .slice vF r.qE.length zU, .bool r.xQ] 92, .box b3 [.slice (aa b7 o8) t.qh.length qJ, .slice (aa b11 o12) t.qp.length xA, .slice qL t.ql.length qK] 41, .box b1 [.int .i64 s.qI, .slice qw s.qf.length qm, .slice qG s.qg.length qC] 30] [isF false Fe14 (.slice ae14 ((t.qp[r.qy.toNat]!).length) ce14) (t.qp[r.qy.toNat]!), atF b11 (o12 + (r.qy : Int).toNat * 1) [.slice ae14 ((t.qp[r.qy.toNat]!).length) ce14], isF false qM (.slice qw s.qf.length qm) s.qf, isF false xu (.slice qG s.qg.length qC) s.qg, isF false xJ (.slice (aa b7 o8) t.qh.length qJ) t.qh, isF false zF (.slice (aa b11 o12) t.qp.length xA) t.qp, isF false xI (.slice qL t.ql.length qK) t.ql, isF false Q5 (.slice vP r.qR.length vO) r.qR, isF false Xw (.slice jv r.xg.length jr) r.xg, isF false Xn (.slice jb r.xk.length ja) r.xk, isF false XM (.slice jL r.xw.length jK) r.xw, isF false FrOut (.slice Qy r.zo.length Qx) r.zo, isF false FrInto (.slice vF r.qE.length zU) r.qE]) ((r.qE.length - (0 : Int)).toNat) ⟨_, 0, (by exact qj (qj (qj (qj (rfl) rfl) rfl) rfl) rfl), (by omega), (by exact fun j hj => by omega), rfl, N, H⟩ ?_
   clear H N
   rintro m' ρ w43 ⟨junk, i, rfl, i0, i1, rfl, N, H⟩
   refine qo (qB ?_)
   refine sp (.bool (decide ((i : Int) < r.qE.length))) ?_
   refine qA (t_n (qo ?_))
   refine qX (decide ((i : Int) < r.qE.length)) rfl (fun h44 => ?_) (fun h44 => ?_)
   ·skip
    replace h44 := of_decide_eq_true h44
    have q := (p12 i (by omega)).1
    have q1 := q.1
    have q2 := q.2
    refine xy (t_n (qo (xC (qo (qB ?_)))))
    refine sps [.int .i64 i, .int .i64 i] ?_
    refine qA (t_n (qo (qB ?_)))
    refine sps [.func (.func 114) #[] #[pp b3 0, pp b1 0, pp b5 0], .slice vF r.qE.length zU, .int .i64 i] ?_
    obtain ⟨b45, o46, rfl⟩ := H.addr 12 rfl (by omega)
    obtain ⟨ae48Bag, ce48Bag, Fe48Bag, H⟩ := H.jQ 12 rfl i i (by omega) (by omega) (by omega)
    refine sw (xO i Try.underlying90 ti108 rfl rfl (by omega) (by omega) ?_)
    refine sw (zu [.int .i64 ((r.qE[i]!).qy), .slice ae48Bag (((r.qE[i]!).vK).length) ce48Bag] Try.isAgg108 Try.sizeOf108 rfl (qH (H.get 1 rfl) 0 2) ?_)
    refine sw (Xc #[.agg #[.int .i64 ((r.qE[i]!).qy), .slice ae48Bag (((r.qE[i]!).vK).length) ce48Bag], pp b3 0, pp b1 0, pp b5 0] rfl rfl Try.call114 ?_)
    refine enter (n := 23) Try.func114 rfl Try.ntmps114 (Nat.le_of_ble_eq_true rfl) ?_
    refine qo (qB ?_)
    refine sw (y9 H [.int .i64 ((r.qE[i]!).qy), .slice ae48Bag (((r.qE[i]!).vK).length) ce48Bag] fun b49 w50 H => ?_)
    refine sp (.bool false) ?_
    refine qA (t_n (qo ?_))
    refine yg rfl H fun H => ?_
    refine rt 0 (pp b3 (0 + 0)) (xF b3 (0) 0 Try.underlying41 rfl rfl Try.sizeOf36 rfl) H ?_
    refine rt 1 (.slice (aa b7 o8) t.qh.length qJ) (xm Try.isAgg36 rfl (fun _ h => h.cell 2 rfl rfl)) H ?_
    refine rt 2 (pp b49 (0 + 0)) (xF b49 (0) 0 Try.underlying108 rfl rfl Try.sizeOf2 rfl) H ?_
    refine rt 3 (.int .i64 ((r.qE[i]!).qy)) (xm Try.isAgg2 rfl (fun _ h => h.cell 0 rfl rfl)) H ?_
    refine rt 4 (pp b7 (o8 + ((r.qE[i]!).qy : Int).toNat * 1)) (xK b7 (o8) t.qh.length qJ ((r.qE[i]!).qy) Try.underlying36 ti4 rfl rfl (by omega) (by omega)) H ?_
    refine rt 5 (.bool (t.qh[((r.qE[i]!).qy).toNat]!)) (xm Try.isAgg4 rfl (fun _ h => h.Xd 6 rfl ((r.qE[i]!).qy) (by omega) (by omega))) H ?_
    refine rtp 6 (.bool (!(t.qh[((r.qE[i]!).qy).toNat]!))) H ?_
    refine rtp 7 (.bool (!(t.qh[((r.qE[i]!).qy).toNat]!))) H ?_
    cases h52 : (!(t.qh[((r.qE[i]!).qy).toNat]!))
    ·skip
     replace h52 := qY h52
     refine rg 8 (.agg #[.int .i64 s.qI, .slice qw s.qf.length qm, .slice qG s.qg.length qC]) 13 (yV (cs := [.int .i64 s.qI, .slice qw s.qf.length qm, .slice qG s.qg.length qC]) Try.isAgg30 Try.sizeOf30 rfl (fun _ h => qH (h.cells 3 rfl) 0 3)) H ?_
     refine rg 9 (.agg #[.slice (aa b7 o8) t.qh.length qJ, .slice (aa b11 o12) t.qp.length xA, .slice qL t.ql.length qK]) 13 (yV (cs := [.slice (aa b7 o8) t.qh.length qJ, .slice (aa b11 o12) t.qp.length xA, .slice qL t.ql.length qK]) Try.isAgg41 Try.sizeOf41 rfl (fun _ h => qH (h.cells 2 rfl) 0 3)) H ?_
     refine rg 10 (pp b49 (0 + 0)) 13 (xF b49 (0) 0 Try.underlying108 rfl rfl Try.sizeOf2 rfl) H ?_
     refine rg 11 (.int .i64 ((r.qE[i]!).qy)) 13 (xm Try.isAgg2 rfl (fun _ h => h.cell 0 rfl rfl)) H ?_
     refine rg 13 (pp b5 (0 + 0)) 13 (xF b5 (0) 0 Try.underlying92 rfl rfl Try.sizeOf2 rfl) H ?_
     refine rg 14 (.int .i64 r.qy) 13 (xm Try.isAgg2 rfl (fun _ h => h.cell 1 rfl rfl)) H ?_
     refine xn [12] (by kernel_rfl) (by simp) (r_opG rfl (e := 13) rfl rfl ?_ xq)
     refine xf #[.agg #[.int .i64 s.qI, .slice qw s.qf.length qm, .slice qG s.qg.length qC], .agg #[.slice (aa b7 o8) t.qh.length qJ, .slice (aa b11 o12) t.qp.length xA, .slice qL t.ql.length qK], .int .i64 ((r.qE[i]!).qy)] rfl rfl Try.call83 (parentNow_ok w50.drew s t ((r.qE[i]!).qy) qw qm qM qG qC xu (aa b7 o8) qJ xJ (aa b11 o12) xA zF qL qK xI (H.get 4 rfl).1 (H.get 5 rfl).1 (H.get 6 rfl).1 (H.get 7 rfl).1 (H.get 8 rfl).1 (by first | assumption | omega) (by first | assumption | omega) (by first | assumption | omega)) ?_
     rintro _ w54 rfl x55
     replace H := H.ext x55
     refine ⟨H, ?_⟩
     refine rgp 15 (.bool ((xe s t ((r.qE[i]!).qy) : Int) != r.qy)) 13 H ?_
     refine rtp 16 (.bool ((xe s t ((r.qE[i]!).qy) : Int) != r.qy)) H ?_
     refine rtp 17 (.bool ((xe s t ((r.qE[i]!).qy) : Int) != r.qy)) H ?_
     refine xM (by kernel_rfl) (t_n ?_)
     refine xE ?_
     refine ret1 (.bool ((xe s t ((r.qE[i]!).qy) : Int) != r.qy)) rfl rfl ⟨_, rfl, ?_⟩
     replace H := H.erases [0]
     dsimp only [QH, List.eraseIdx] at H
     refine qA (t_n ?_)
     refine qX ((xe s t ((r.qE[i]!).qy) : Int) != r.qy) rfl (fun h56 => ?_) (fun h56 => ?_)
     ·skip
      replace h56 := bne_iff_ne.1 h56
      refine qo (qB ?_)
      refine sps [.int .i64 i, .int .i64 i] ?_
      refine qA (t_n (xE (b_r (t_r (t_r (b_r (t_r ?_)))))))
      refine ret1 (.int .i64 i) rfl rfl ⟨_, rfl, ?_⟩
      refine sps [.bool (decide ((i : Int) ≥ 0)), .bool (decide ((i : Int) ≥ 0))] ?_
      refine qA (t_n (xE ?_))
      refine ret1 (.bool (decide ((i : Int) ≥ 0))) rfl rfl ⟨_, rfl, ?_⟩
      refine sps [.bool (!(decide ((i : Int) ≥ 0))), .bool (!(decide ((i : Int) ≥ 0)))] ?_
      refine qA (t_n (xE ?_))
      refine ret1 (.bool (!(decide ((i : Int) ≥ 0)))) rfl rfl ⟨_, rfl, ?_, H.base⟩
      rw [show (!decide ((i : Int) ≥ 0)) = false by simp]
      rw [xB (fun h => by obtain ⟨h1, h2, h3, h4, h5⟩ := h; first | exact ft h1 ‹_› | exact ft h2 ‹_› | exact ft h3 ‹_› | exact h4 ⟨‹_›, ‹_›⟩ | (obtain ⟨q1, q2⟩ := h5 i (by omega); first | exact ft q1 ‹_› | exact absurd q2 ‹_›))]
     replace h56 := xP h56
     refine xy (b_n (t_n (qB ?_)))
     refine sw (vz i 1 rfl rfl (by omega) ?_)
     refine sp (.int .i64 (i + 1)) ?_
     refine qA ?_
     refine xH (m' := (r.qE.length - ((i + 1) : Int)).toNat) (by omega) ⟨_, i + 1, (by exact qj (qj (qj (qj (rfl) rfl) rfl) rfl) rfl), ?_, ?_, rfl, N, H.pick [0, 1, 2] [2, 3, 4, 5, 6, 7, 8, 9, 10, 11, 12, 13, 14]⟩
     · omega
     · exact i1.succ ‹_› ‹_›
    replace h52 := xh h52
    refine zS [8, 9, 10, 11, 12, 13, 14, 15] 8 (H) ?_
    refine rtp 16 (.bool true) H ?_
    refine rtp 17 (.bool true) H ?_
    refine xM (by kernel_rfl) (t_n ?_)
    refine xE ?_
    refine ret1 (.bool true) rfl rfl ⟨_, rfl, ?_⟩
    replace H := H.erases [0]
    dsimp only [QH, List.eraseIdx] at H
    refine qA (t_n ?_)
    refine qX true rfl (fun _ => ?_) (fun h => absurd h (by decide))
    refine qo (qB ?_)
    refine sps [.int .i64 i, .int .i64 i] ?_
    refine qA (t_n (xE (b_r (t_r (t_r (b_r (t_r ?_)))))))
    refine ret1 (.int .i64 i) rfl rfl ⟨_, rfl, ?_⟩
    refine sps [.bool (decide ((i : Int) ≥ 0)), .bool (decide ((i : Int) ≥ 0))] ?_
    refine qA (t_n (xE ?_))
    refine ret1 (.bool (decide ((i : Int) ≥ 0))) rfl rfl ⟨_, rfl, ?_⟩
    refine sps [.bool (!(decide ((i : Int) ≥ 0))), .bool (!(decide ((i : Int) ≥ 0)))] ?_
    refine qA (t_n (xE ?_))
    refine ret1 (.bool (!(decide ((i : Int) ≥ 0)))) rfl rfl ⟨_, rfl, ?_, H.base⟩
    rw [show (!decide ((i : Int) ≥ 0)) = false by simp]
    rw [xB (fun h => by obtain ⟨h1, h2, h3, h4, h5⟩ := h; first | exact ft h1 ‹_› | exact ft h2 ‹_› | exact ft h3 ‹_› | exact h4 ⟨‹_›, ‹_›⟩ | (obtain ⟨q1, q2⟩ := h5 i (by omega); first | exact ft q1 ‹_› | exact absurd q2 ‹_›))]
   replace h44 := of_decide_eq_false h44
   refine ve (t_x (t_x (b_x (t_n (qo (qB ?_))))))
   refine sp (.int .i64 (-1)) ?_
   refine qA (t_n (xE ?_))
   refine ret1 (.int .i64 (-1)) rfl rfl ⟨_, rfl, ?_⟩
   refine sps [.bool false, .bool false] ?_
   refine qA (t_n (xE ?_))
   refine ret1 (.bool false) rfl rfl ⟨_, rfl, ?_⟩
   refine sps [.bool true, .bool true] ?_
   refine qA (t_n (xE ?_))
   refine ret1 (.bool true) rfl rfl ⟨_, rfl, ?_, H.base⟩
   rw [yZ ⟨by assumption, by assumption, by assumption, fun ⟨u, v⟩ => by first | omega | exact ft v ‹_›, (show i = r.qE.length by omega) ▸ i1⟩]
  replace h20 := xh h20
  refine zi [34, 35, 36, 37, 38, 39, 40, 41, 42, 43] ?_
  refine sp (.bool true) ?_
  refine qA (t_n ?_)
  refine qX true rfl (fun _ => ?_) (fun h => absurd h (by decide))
  refine qo (qB ?_)
  refine sp (.bool false) ?_
  refine qA (t_n (xE (t_r ?_)))
  refine ret1 (.bool false) rfl rfl ⟨_, rfl, ?_, H.base⟩
  rw [xB (fun h => by obtain ⟨h1, h2, h3, h4, h5⟩ := h; first | exact ft h1 ‹_› | exact ft h2 ‹_› | exact ft h3 ‹_› | exact h4 ⟨‹_›, ‹_›⟩ | (obtain ⟨q1, q2⟩ := h5 i (by omega); first | exact ft q1 ‹_› | exact absurd q2 ‹_›))]
 replace h17 := xh h17
 refine zi [27, 28, 29, 30, 31] ?_
 refine sps [.bool true, .bool true] ?_
 refine zi [34, 35, 36, 37, 38, 39, 40, 41, 42, 43] ?_
 refine sp (.bool true) ?_
 refine qA (t_n ?_)
 refine qX true rfl (fun _ => ?_) (fun h => absurd h (by decide))
 refine qo (qB ?_)
 refine sp (.bool false) ?_
 refine qA (t_n (xE (t_r ?_)))
 refine ret1 (.bool false) rfl rfl ⟨_, rfl, ?_, H.base⟩
 rw [xB (fun h => by obtain ⟨h1, h2, h3, h4, h5⟩ := h; first | exact ft h1 ‹_› | exact ft h2 ‹_› | exact ft h3 ‹_› | exact h4 ⟨‹_›, ‹_›⟩ | (obtain ⟨q1, q2⟩ := h5 i (by omega); first | exact ft q1 ‹_› | exact absurd q2 ‹_›))]

theorem cloneSS_ok (w : World) (l : List (List Int)) (al : Option Addr) (cl : Nat) (Fl : List Nat) (hl : qW.rep w Fl [.slice al l.length cl] l) (p0 : l.length ≤ 1000000) : Calls Try.prog 92 #[.slice al l.length cl] w (Ret (fun v w' => ∃ (ra : Option Addr) (rn : Nat) (rc : Nat) (rx : List Value) (rF : List Nat), v = .slice ra rn rc ∧ (∀ b ∈ rF, b ∈ Fl) ∧ St w w' [.row (.slice ra rn rc) 22 1 rn rx] [jl false rF rx l]) w) := by
 refine enter (n := 8) Try.func92 rfl Try.ntmps92 (Nat.le_of_ble_eq_true rfl) ?_
 have H := (St.start w).arg hl
 have nhl := qN hl
 clear hl
 have N := Fresh.nil w.heap.size
 refine qo (qB ?_)
 refine sp (.slice none 0 0) ?_
 refine qA (t_n (qo (qo (qB ?_))))
 refine sp (.slice al l.length cl) ?_
 refine sw (o_eqnil Try.underlying37 al l.length cl rfl ?_)
 refine qA (t_n ?_)
 refine qX (al.isNone) rfl (fun h1 => ?_) (fun h1 => ?_)
 ·skip
  refine qo (qB ?_)
  refine sp (.slice none 0 0) ?_
  refine qA (t_n (xE (t_r ?_)))
  replace H := H.nilRow 22 1
  replace H := H.Xh (α := List Int)
  refine ret1 (.slice none 0 0) rfl rfl ⟨_, rfl, ?_, H.base⟩
  obtain rfl := H.nilOf 1 rfl ‹_›
  replace H := H.unfree 0 rfl
  exact ⟨none, 0, 0, [], [], rfl, (by intro b hb; first | (simp at hb; done) | exact id b (by simpa using hb)), H.pick [0] [0]⟩
 refine xy (t_n (qo (qB ?_)))
 refine sw (XQ H Try.underlying37 ti22 fun b2 w3 H => ?_)
 refine sp (.slice al l.length cl) ?_
 replace H := H.boxRow 0 rfl 1 0 rfl (by decide)
 try dsimp only [List.set] at H
 replace H := H.Xh (α := List Int)
 refine sw (o_appendFR H 0 rfl 1 rfl Try.underlying37 ti22 rfl (by decide) rfl rfl (by unfold maxLen; omega) (by omega) fun a4 c5 w6 us7 G8 H hG9 => ?_)
 try dsimp only [List.set] at H
 replace H := H.repsCat false 1 rfl 0 rfl (by simp)
 refine sp (.slice a4 (0 + l.length) c5) ?_
 refine qA (t_n (xE ?_))
 refine ret1 (.slice a4 (0 + l.length) c5) rfl rfl ⟨_, rfl, ?_, H.base⟩
 exact ⟨a4, 0 + l.length, c5, [] ++ us7, ([] ++ G8), rfl, (by intro b hb; first | (simp at hb; done) | exact hG9 b (by simpa using hb)), H.pick [0] [0]⟩

theorem timesIn_ok (w : World) (l : List Int) (m : List Int) (al : Option Addr) (cl : Nat) (Fl : List Nat) (am : Option Addr) (cm : Nat) (Fm : List Nat) (hl : qW.rep w Fl [.slice al l.length cl] l) (hm : qW.rep w Fm [.slice am m.length cm] m) (p0 : l.length ≤ m.length) (p2 : ∀ q, q < l.length → 0 ≤ m[q]! ∧ m[q]! ≤ 1000) : Calls Try.prog 95 #[.slice al l.length cl, .slice am m.length cm] w (Ret (fun v w' => v = .int .i64 (yR l m)) w) := by
 refine enter (n := 27) Try.func95 rfl Try.ntmps95 (Nat.le_of_ble_eq_true rfl) ?_
 have H := ((St.start w).arg hm).arg hl
 have nhl := qN hl
 have nhm := qN hm
 clear hl hm
 have N := Fresh.nil w.heap.size
 refine qo (qB ?_)
 refine sp (.int .i64 0) ?_
 refine qA (t_n (qo (qB ?_)))
 refine sp (.int .i64 1000) ?_
 refine qA (t_n (qo (qo (qB ?_))))
 refine sp (.slice al l.length cl) ?_
 refine sw (vI Try.underlying22 al l.length cl rfl ?_)
 refine sp (.int .i64 0) ?_
 refine qA (t_n (xC ?_))
 refine vw (fun m' ρ w1 => ∃ (junk : Env) (most : Int) (k : Nat), ρ = upd (upd (upd (upd (upd junk 1 (.slice am m.length cm)) 5 (.int .i64 most)) 8 (.slice al l.length cl)) 9 (.int .i64 l.length)) 10 (.int .i64 k) ∧ most = yX l m k ∧ ((k : Int) ≤ l.length) ∧ m' = (l.length - (k : Int)).toNat ∧ Fresh w.heap.size [] ∧ St w w1 [] [isF false Fl (.slice al l.length cl) l, isF false Fm (.slice am m.length cm) m]) ((l.length - (0 : Int)).toNat) ⟨_, 1000, 0, (by exact qj (qj (qj (qj (qj (rfl) rfl) rfl) rfl) rfl) rfl), (by rfl), (by omega), rfl, N, H⟩ ?_
 clear H N
 rintro m' ρ w2 ⟨junk, most, k, rfl, rfl, i0, rfl, N, H⟩
 refine qo (qB ?_)
 refine sp (.bool (decide ((k : Int) < l.length))) ?_
 refine qA (t_n (qo ?_))
 refine qX (decide ((k : Int) < l.length)) rfl (fun h3 => ?_) (fun h3 => ?_)
 ·skip
  replace h3 := of_decide_eq_true h3
  refine xy (t_n (qo (xC (qo (qB ?_)))))
  refine sp (.int .i64 k) ?_
  obtain ⟨b4, o5, rfl⟩ := H.addr 0 rfl (by omega)
  refine sw (xO k Try.underlying22 ti2 rfl rfl (by omega) (by omega) ?_)
  refine sw (qF (.int .i64 (l[k]!)) Try.isAgg2 rfl (H.vX 0 rfl k (by omega) (by omega)) ?_)
  refine sps [.int .i64 k, .int .i64 (l[k]!)] ?_
  refine qA (t_n (qo (qB ?_)))
  refine sps [.int .i64 (l[k]!), .bool (decide ((l[k]! : Int) > 0))] ?_
  refine qA (t_n ?_)
  refine qX (decide ((l[k]! : Int) > 0)) rfl (fun h7 => ?_) (fun h7 => ?_)
  ·skip
   replace h7 := of_decide_eq_true h7
   refine qB ?_
   refine sps [.int .i64 (yX l m k), .slice am m.length cm, .int .i64 k] ?_
   obtain ⟨b8, o9, rfl⟩ := H.addr 1 rfl (by omega)
   refine sw (xO k Try.underlying22 ti2 rfl rfl (by omega) (by omega) ?_)
   refine sw (qF (.int .i64 (m[k]!)) Try.isAgg2 rfl (H.vX 1 rfl k (by omega) (by omega)) ?_)
   refine sp (.int .i64 (l[k]!)) ?_
   refine sw (o_quo (m[k]!) (l[k]!) rfl rfl (by (have := p2 k (by omega); omega)) (by (have := p2 k (by omega); omega)) ?_)
   refine sw (o_min (yX l m k) ((m[k]!) / (l[k]!)) rfl rfl ?_)
   refine sp (.int .i64 (min (yX l m k) ((m[k]!) / (l[k]!)))) ?_
   refine qA (b_n (t_n (qB ?_)))
   refine sw (vz k 1 rfl rfl (by (have := p2 k (by omega); omega)) ?_)
   refine sp (.int .i64 (k + 1)) ?_
   refine qA ?_
   refine xH (m' := (l.length - ((k + 1) : Int)).toNat) (by omega) ⟨_, min (yX l m k) ((m[k]!) / (l[k]!)), k + 1, (by exact qj (qj (qj (qj (qj (rfl) rfl) rfl) rfl) rfl) rfl), ?_, ?_, rfl, N, H⟩
   · first | exact (timesTo_pos (by omega)).symm | exact (timesTo_skip (by omega)).symm
   · omega
  replace h7 := of_decide_eq_false h7
  refine xy (b_n (t_n (qB ?_)))
  refine sw (vz k 1 rfl rfl (by (have := p2 k (by omega); omega)) ?_)
  refine sp (.int .i64 (k + 1)) ?_
  refine qA ?_
  refine xH (m' := (l.length - ((k + 1) : Int)).toNat) (by omega) ⟨_, (yX l m k), k + 1, (by exact qj (qj (qj (qj (qj (rfl) rfl) rfl) rfl) rfl) rfl), ?_, ?_, rfl, N, H⟩
  · first | exact (timesTo_pos (by omega)).symm | exact (timesTo_skip (by omega)).symm
  · omega
 replace h3 := of_decide_eq_false h3
 refine ve (t_x (t_x (b_x (t_n (qo (qB ?_))))))
 refine sps [.int .i64 (yX l m k), .int .i64 (yX l m k)] ?_
 refine qA (t_n (xE ?_))
 refine ret1 (.int .i64 (yX l m k)) rfl rfl ⟨_, rfl, ?_, H.base⟩
 obtain rfl : k = l.length := by omega
 rfl

theorem applicable_ok (w : World) (s : qV) (t : qQ) (qw : Option Addr) (qm : Nat) (qM : List Nat) (qG : Option Addr) (qC : Nat) (xu : List Nat) (qP : Option Addr) (qJ : Nat) (xJ : List Nat) (xG : Option Addr) (xA : Nat) (zF : List Nat) (qL : Option Addr) (qK : Nat) (xI : List Nat) (xx : qW.rep w qM [.slice qw s.qf.length qm] s.qf) (xN : qW.rep w xu [.slice qG s.qg.length qC] s.qg) (zA : qW.rep w xJ [.slice qP t.qh.length qJ] t.qh) (vC : qW.rep w zF [.slice xG t.qp.length xA] t.qp) (xZ : qW.rep w xI [.slice qL t.ql.length qK] t.ql) (p0 : yP s) (p1 : zJ s t) : Calls Try.prog 61 #[.agg #[.int .i64 s.qI, .slice qw s.qf.length qm, .slice qG s.qg.length qC], .agg #[.slice qP t.qh.length qJ, .slice xG t.qp.length xA, .slice qL t.ql.length qK]] w (Ret (fun v w' => ∃ (ra : Option Addr) (rn : Nat) (rc : Nat), v = .slice ra rn rc ∧ Fresh w.heap.size [] ∧ St w w' [.row (.slice ra rn rc) 2 1 rn ((appls s t).map (Value.int .i64))] []) w) := by
 refine enter (n := 69) Try.func61 rfl Try.ntmps61 (Nat.le_of_ble_eq_true rfl) ?_
 have H := (((((St.start w).arg xZ).arg vC).arg zA).arg xN).arg xx
 have vW := qN xx
 have yh := qN xN
 have QU := qN zA
 have XA := qN vC
 have Qa := qN xZ
 clear xx xN zA vC xZ
 have N := Fresh.nil w.heap.size
 have p2 := p0.2.1
 have p3 := p0.1.2.1
 refine qo (qB ?_)
 refine sw (y9 H [.int .i64 s.qI, .slice qw s.qf.length qm, .slice qG s.qg.length qC] fun b1 w2 H => ?_)
 refine sw (y9 H [.slice qP t.qh.length qJ, .slice xG t.qp.length xA, .slice qL t.ql.length qK] fun b3 w4 H => ?_)
 refine sp (.slice none 0 0) ?_
 refine qA (t_n (qo (qB ?_)))
 refine sw (jJ [.int .i64 0, .int .i64 0, .int .i64 0, .int .i64 0, .int .i64 0, .int .i64 0] [] ?_)
 refine sw (zy H ti111 [.int .i64 0, .int .i64 0, .int .i64 0, .int .i64 0, .int .i64 0, .int .i64 0] fun b5 w6 H => ?_)
 refine sw (xR H 0 [.int .i64 0, .int .i64 0, .int .i64 0, .int .i64 0, .int .i64 0, .int .i64 0] Try.sizeOf111 fun w7 H => ?_)
 try dsimp only [List.set] at H
 refine qA (t_n (qo (qo (qB ?_))))
 refine sp (.int .i64 0) ?_
 refine qA (t_n (xC ?_))
 try dsimp only [List.set] at H
 refine vw (fun m' ρ w8 => ∃ (junk : Env) (c : Nat) (top : List Int), ρ = upd (upd (upd (upd junk 2 (pp b1 0)) 3 (pp b3 0)) 5 (pp b5 0)) 13 (.int .i64 c) ∧ top = minus c ∧ ((c : Int) ≤ 6) ∧ m' = (6 - (c : Int)).toNat ∧ Fresh w.heap.size [] ∧ St w w8 [.box b5 (top.map (Value.int .i64)) 111, .box b3 [.slice qP t.qh.length qJ, .slice xG t.qp.length xA, .slice qL t.ql.length qK] 41, .box b1 [.int .i64 s.qI, .slice qw s.qf.length qm, .slice qG s.qg.length qC] 30] [isF false qM (.slice qw s.qf.length qm) s.qf, isF false xu (.slice qG s.qg.length qC) s.qg, isF false xJ (.slice qP t.qh.length qJ) t.qh, isF false zF (.slice xG t.qp.length xA) t.qp, isF false xI (.slice qL t.ql.length qK) t.ql]) ((6 - (0 : Int)).toNat) ⟨_, 0, [0, 0, 0, 0, 0, 0], (by exact qj (qj (qj (qj (rfl) rfl) rfl) rfl) rfl), (by rfl), (by omega), rfl, N, H⟩ ?_
 clear H N
 rintro m' ρ w9 ⟨junk, c, top, rfl, rfl, i0, rfl, N, H⟩
 refine qo (qB ?_)
 refine sp (.bool (decide ((c : Int) < 6))) ?_
 refine qA (t_n (qo ?_))
 refine qX (decide ((c : Int) < 6)) rfl (fun h10 => ?_) (fun h10 => ?_)
 ·skip
  replace h10 := of_decide_eq_true h10
  refine xy (t_n (qo (xC (qo (qB ?_)))))
  refine sps [.int .i64 c, .int .i64 c] ?_
  refine qA (t_n (qB ?_))
  refine sp (.int .i64 c) ?_
  refine sw (o_idxArr c Try.underlying111 ti2 rfl rfl (by omega) (by omega) ?_)
  refine sw (o_storeArr H 0 rfl (-1) Try.sizeOf2 rfl rfl (i := c) (by omega) (by simp only [List.length_set, List.length_cons, List.length_nil, minus_len, Xv]; omega) fun w11 H => ?_)
  try dsimp only [List.set] at H
  refine qA (b_n (t_n (qB ?_)))
  refine sw (vz c 1 rfl rfl (by omega) ?_)
  refine sp (.int .i64 (c + 1)) ?_
  refine qA ?_
  refine xH (m' := (6 - ((c + 1) : Int)).toNat) (by omega) ⟨_, c + 1, ((minus c).set c (-1)), (by exact qj (qj (qj (qj (rfl) rfl) rfl) rfl) rfl), ?_, ?_, rfl, N, H⟩
  · exact minus_set (by omega)
  · omega
 replace h10 := of_decide_eq_false h10
 refine ve (t_x (t_x (b_x (t_n (qo (qo (qB ?_)))))))
 refine sw (qO b1 (0) 2 Try.underlying30 rfl rfl Try.sizeOf28 rfl ?_)
 refine sw (qF (.slice qG s.qg.length qC) Try.isAgg28 rfl (H.cell 2 rfl rfl) ?_)
 refine sw (vI Try.underlying28 qG s.qg.length qC rfl ?_)
 refine sp (.int .i64 0) ?_
 refine qA (t_n (xC ?_))
 refine vw (fun m' ρ w12 => ∃ (junk : Env) (k : Nat) (top_1 : List Int), ρ = upd (upd (upd (upd (upd (upd junk 2 (pp b1 0)) 3 (pp b3 0)) 5 (pp b5 0)) 20 (.slice qG s.qg.length qC)) 21 (.int .i64 s.qg.length)) 22 (.int .i64 k) ∧ top_1 = bests s t (-1) 6 k ∧ ((k : Int) ≤ s.qg.length) ∧ m' = (s.qg.length - (k : Int)).toNat ∧ Fresh w.heap.size [] ∧ St w w12 [.box b5 (top_1.map (Value.int .i64)) 111, .box b3 [.slice qP t.qh.length qJ, .slice xG t.qp.length xA, .slice qL t.ql.length qK] 41, .box b1 [.int .i64 s.qI, .slice qw s.qf.length qm, .slice qG s.qg.length qC] 30] [isF false qM (.slice qw s.qf.length qm) s.qf, isF false xu (.slice qG s.qg.length qC) s.qg, isF false xJ (.slice qP t.qh.length qJ) t.qh, isF false zF (.slice xG t.qp.length xA) t.qp, isF false xI (.slice qL t.ql.length qK) t.ql]) ((s.qg.length - (0 : Int)).toNat) ⟨_, 0, (minus c), (by exact qj (qj (qj (qj (qj (qj (rfl) rfl) rfl) rfl) rfl) rfl) rfl), (by exact minus_six (by omega) s t), (by omega), rfl, N, H⟩ ?_
 clear H N
 rintro m' ρ w13 ⟨junk, k, top_1, rfl, rfl, i0, rfl, N, H⟩
 refine qo (qB ?_)
 refine sp (.bool (decide ((k : Int) < s.qg.length))) ?_
 refine qA (t_n (qo ?_))
 refine qX (decide ((k : Int) < s.qg.length)) rfl (fun h14 => ?_) (fun h14 => ?_)
 ·skip
  replace h14 := of_decide_eq_true h14
  have q := p0.rule (i := k) (by omega)
  have qc := q.1
  have qk := q.cell
  have qr := q.2.1
  have q6 : (s.qg[k]!).qy.toNat < 6 := by omega
  refine xy (t_n (qo (xC (qo (qB ?_)))))
  obtain ⟨b15, o16, rfl⟩ := H.addr 1 rfl (by omega)
  obtain ⟨ae18Need, ce18Need, Fe18Need, ae18Have, ce18Have, Fe18Have, ae18Lack, ce18Lack, Fe18Lack, ae18Here, ce18Here, Fe18Here, ae18Out, ce18Out, Fe18Out, ae18Into, ce18Into, Fe18Into, H⟩ := H.yD 1 rfl k k (by omega) (by omega) (by omega)
  refine sw (xO k Try.underlying28 ti92 rfl rfl (by omega) (by omega) ?_)
  refine sw (zu [.int .i64 ((s.qg[k]!).qy), .int .i64 ((s.qg[k]!).zk), .slice ae18Need (((s.qg[k]!).qR).length) ce18Need, .slice ae18Have (((s.qg[k]!).xg).length) ce18Have, .slice ae18Lack (((s.qg[k]!).xk).length) ce18Lack, .slice ae18Here (((s.qg[k]!).xw).length) ce18Here, .slice ae18Out (((s.qg[k]!).zo).length) ce18Out, .slice ae18Into (((s.qg[k]!).qE).length) ce18Into, .bool ((s.qg[k]!).xQ)] Try.isAgg92 Try.sizeOf92 rfl (qH (H.get 6 rfl) 0 9) ?_)
  refine sw (zy H ti92 [.int .i64 0, .int .i64 0, .slice none 0 0, .slice none 0 0, .slice none 0 0, .slice none 0 0, .slice none 0 0, .slice none 0 0, .bool false] fun b19 w20 H => ?_)
  refine sw (xR H 0 [.int .i64 ((s.qg[k]!).qy), .int .i64 ((s.qg[k]!).zk), .slice ae18Need (((s.qg[k]!).qR).length) ce18Need, .slice ae18Have (((s.qg[k]!).xg).length) ce18Have, .slice ae18Lack (((s.qg[k]!).xk).length) ce18Lack, .slice ae18Here (((s.qg[k]!).xw).length) ce18Here, .slice ae18Out (((s.qg[k]!).zo).length) ce18Out, .slice ae18Into (((s.qg[k]!).qE).length) ce18Into, .bool ((s.qg[k]!).xQ)] Try.sizeOf92 fun w21 H => ?_)
  try dsimp only [List.set] at H
  refine qA (t_n (qo (qB ?_)))
  refine sw (zu [.int .i64 s.qI, .slice qw s.qf.length qm, .slice (aa b15 o16) s.qg.length qC] Try.isAgg30 Try.sizeOf30 rfl (qH (H.cells 3 rfl) 0 3) ?_)
  refine sw (zu [.slice qP t.qh.length qJ, .slice xG t.qp.length xA, .slice qL t.ql.length qK] Try.isAgg41 Try.sizeOf41 rfl (qH (H.cells 2 rfl) 0 3) ?_)
  refine sw (zu [.int .i64 ((s.qg[k]!).qy), .int .i64 ((s.qg[k]!).zk), .slice ae18Need (((s.qg[k]!).qR).length) ce18Need, .slice ae18Have (((s.qg[k]!).xg).length) ce18Have, .slice ae18Lack (((s.qg[k]!).xk).length) ce18Lack, .slice ae18Here (((s.qg[k]!).xw).length) ce18Here, .slice ae18Out (((s.qg[k]!).zo).length) ce18Out, .slice ae18Into (((s.qg[k]!).qE).length) ce18Into, .bool ((s.qg[k]!).xQ)] Try.isAgg92 Try.sizeOf92 rfl (qH (H.cells 0 rfl) 0 9) ?_)
  refine sw (xf #[.agg #[.int .i64 s.qI, .slice qw s.qf.length qm, .slice (aa b15 o16) s.qg.length qC], .agg #[.slice qP t.qh.length qJ, .slice xG t.qp.length xA, .slice qL t.ql.length qK], .agg #[.int .i64 ((s.qg[k]!).qy), .int .i64 ((s.qg[k]!).zk), .slice ae18Need (((s.qg[k]!).qR).length) ce18Need, .slice ae18Have (((s.qg[k]!).xg).length) ce18Have, .slice ae18Lack (((s.qg[k]!).xk).length) ce18Lack, .slice ae18Here (((s.qg[k]!).xw).length) ce18Here, .slice ae18Out (((s.qg[k]!).zo).length) ce18Out, .slice ae18Into (((s.qg[k]!).qE).length) ce18Into, .bool ((s.qg[k]!).xQ)]] rfl rfl Try.call91 (isEnabled_ok w21 s t (s.qg[k]!) qw qm qM (aa b15 o16) qC xu qP qJ xJ xG xA zF qL qK xI ae18Need ce18Need Fe18Need ae18Have ce18Have Fe18Have ae18Lack ce18Lack Fe18Lack ae18Here ce18Here Fe18Here ae18Out ce18Out Fe18Out ae18Into ce18Into Fe18Into (H.get 7 rfl).1 (H.get 8 rfl).1 (H.get 9 rfl).1 (H.get 10 rfl).1 (H.get 11 rfl).1 (H.get 0 rfl).1 (H.get 1 rfl).1 (H.get 2 rfl).1 (H.get 3 rfl).1 (H.get 4 rfl).1 (H.get 5 rfl).1 (by first | assumption | omega) (by first | assumption | omega) (by first | assumption | omega)) ?_)
  rintro _ w23 rfl x24
  replace H := H.ext x24
  refine qA (t_n ?_)
  refine qX (dec (EnOk s t (s.qg[k]!))) rfl (fun h25 => ?_) (fun h25 => ?_)
  ·skip
   replace h25 := jZ h25
   refine yT rfl H [0, 2, 3] fun H => ?_
   have S := H.jP [0, 2, 3] [0, 1, 2, 3, 4, 5, 6, 7, 8, 9, 10, 11]
   refine rt 0 (pp b19 (0 + 0)) (xF b19 (0) 0 Try.underlying92 rfl rfl Try.sizeOf2 rfl) S ?_
   refine rt 1 (.int .i64 ((s.qg[k]!).qy)) (xm Try.isAgg2 rfl (fun _ h => h.cell 0 rfl rfl)) S ?_
   refine rt 2 (pp b19 (0 + 0)) (xF b19 (0) 0 Try.underlying92 rfl rfl Try.sizeOf2 rfl) S ?_
   refine rt 3 (.int .i64 ((s.qg[k]!).qy)) (xm Try.isAgg2 rfl (fun _ h => h.cell 0 rfl rfl)) S ?_
   refine rt 4 (pp b5 (0 + ((s.qg[k]!).qy : Int).toNat * 1)) (y_idxArr b5 (0) 6 ((s.qg[k]!).qy) Try.underlying111 ti2 rfl rfl (by omega) (by omega)) S ?_
   refine rt 6 (pp b19 (0 + 1)) (xF b19 (0) 1 Try.underlying92 rfl rfl Try.sizeOf2 rfl) S ?_
   refine rt 7 (.int .i64 ((s.qg[k]!).zk)) (xm Try.isAgg2 rfl (fun _ h => h.cell 0 rfl rfl)) S ?_
   refine xn [5] (by kernel_rfl) (by simp) (zg rfl ?_ xq)
   refine qF (.int .i64 ((bests s t (-1) 6 k)[((s.qg[k]!).qy).toNat]!)) Try.isAgg2 rfl (H.cell 1 rfl (ints_at (iv := (s.qg[k]!).qy) (i := (((s.qg[k]!).qy).toNat)) (by omega) (by simp only [List.length_set, List.length_cons, List.length_nil, minus_len, Xv]; omega))) ?_
   refine ⟨H.pick [0, 2, 3] [0, 1, 2, 3, 4, 5, 6, 7, 8, 9, 10, 11], ?_⟩
   have S := H.jP [0, 2, 3] [0, 1, 2, 3, 4, 5, 6, 7, 8, 9, 10, 11]
   refine rt 8 (.int .i64 (max ((bests s t (-1) 6 k)[((s.qg[k]!).qy).toNat]!) ((s.qg[k]!).zk))) (y_max ((bests s t (-1) 6 k)[((s.qg[k]!).qy).toNat]!) ((s.qg[k]!).zk) rfl rfl) S ?_
   refine rt 9 (pp b5 (0 + ((s.qg[k]!).qy : Int).toNat * 1)) (y_idxArr b5 (0) 6 ((s.qg[k]!).qy) Try.underlying111 ti2 rfl rfl (by omega) (by omega)) S ?_
   refine xn [10] (by kernel_rfl) (by simp) (zg rfl ?_ xq)
   refine o_storeArr H 1 rfl (max ((bests s t (-1) 6 k)[((s.qg[k]!).qy).toNat]!) ((s.qg[k]!).zk)) Try.sizeOf2 rfl rfl (i := (((s.qg[k]!).qy).toNat)) (by omega) (by simp only [List.length_set, List.length_cons, List.length_nil, minus_len, Xv]; omega) fun w27 H => ?_
   try dsimp only [List.set] at H
   refine ⟨H.pick [0, 2, 3] [0, 1, 2, 3, 4, 5, 6, 7, 8, 9, 10, 11], ?_⟩
   refine xM (by kernel_rfl) (b_n (t_n ?_))
   refine qB ?_
   refine sw (vz k 1 rfl rfl (by omega) ?_)
   refine sp (.int .i64 (k + 1)) ?_
   refine qA ?_
   refine xH (m' := (s.qg.length - ((k + 1) : Int)).toNat) (by omega) ⟨_, k + 1, ((bests s t (-1) 6 k).set (((s.qg[k]!).qy).toNat) (max ((bests s t (-1) 6 k)[((s.qg[k]!).qy).toNat]!) ((s.qg[k]!).zk))), (by exact qj (qj (qj (qj (qj (qj (rfl) rfl) rfl) rfl) rfl) rfl) rfl), ?_, ?_, rfl, N, H.pick [1, 2, 3] [7, 8, 9, 10, 11]⟩
   · first | exact bests_set ‹_› (by omega) | exact bests_skip ‹_›
   · omega
  replace h25 := zt h25
  refine xy (b_n (t_n (qB ?_)))
  refine sw (vz k 1 rfl rfl (by omega) ?_)
  refine sp (.int .i64 (k + 1)) ?_
  refine qA ?_
  refine xH (m' := (s.qg.length - ((k + 1) : Int)).toNat) (by omega) ⟨_, k + 1, (bests s t (-1) 6 k), (by exact qj (qj (qj (qj (qj (qj (rfl) rfl) rfl) rfl) rfl) rfl) rfl), ?_, ?_, rfl, N, H.pick [1, 2, 3] [7, 8, 9, 10, 11]⟩
  · first | exact bests_set ‹_› (by omega) | exact bests_skip ‹_›
  · omega
 replace h14 := of_decide_eq_false h14
 refine ve (t_x (t_x (b_x (t_n (qo (qB ?_))))))
 refine sw (XQ H Try.underlying22 ti2 fun b28 w29 H => ?_)
 refine sp (.slice (aa b28 0) 0 0) ?_
 refine qA (t_n (qo (qo (qB ?_))))
 refine sw (qO b1 (0) 2 Try.underlying30 rfl rfl Try.sizeOf28 rfl ?_)
 refine sw (qF (.slice qG s.qg.length qC) Try.isAgg28 rfl (H.cell 3 rfl rfl) ?_)
 refine sw (vI Try.underlying28 qG s.qg.length qC rfl ?_)
 refine sp (.int .i64 0) ?_
 refine qA (t_n (xC ?_))
 replace H := H.boxRowI 0 [] 0
 try dsimp only [List.set] at H
 refine vw (fun m' ρ w30 => ∃ (junk : Env) (Vf : Option Addr) (Qz : Nat) (XC : Nat) (out : List Int) (i : Nat), ρ = upd (upd (upd (upd (upd (upd (upd junk 2 (pp b1 0)) 3 (pp b3 0)) 5 (pp b5 0)) 9 (.slice Vf Qz XC)) 43 (.slice qG s.qg.length qC)) 44 (.int .i64 s.qg.length)) 45 (.int .i64 i) ∧ out = applL s t i ∧ ((i : Int) ≤ s.qg.length) ∧ m' = (s.qg.length - (i : Int)).toNat ∧ Fresh w.heap.size [] ∧ St w w30 [.row (.slice Vf Qz XC) 2 1 Qz (out.map (Value.int .i64)), .box b5 ((bests s t (-1) 6 k).map (Value.int .i64)) 111, .box b3 [.slice qP t.qh.length qJ, .slice xG t.qp.length xA, .slice qL t.ql.length qK] 41, .box b1 [.int .i64 s.qI, .slice qw s.qf.length qm, .slice qG s.qg.length qC] 30] [isF false qM (.slice qw s.qf.length qm) s.qf, isF false xu (.slice qG s.qg.length qC) s.qg, isF false xJ (.slice qP t.qh.length qJ) t.qh, isF false zF (.slice xG t.qp.length xA) t.qp, isF false xI (.slice qL t.ql.length qK) t.ql]) ((s.qg.length - (0 : Int)).toNat) ⟨_, (aa b28 0), 0, 0, ([] : List Int), 0, (by exact qj (qj (qj (qj (qj (qj (qj (rfl) rfl) rfl) rfl) rfl) rfl) rfl) rfl), (by rfl), (by omega), rfl, N, H⟩ ?_
 clear H N
 rintro m' ρ w31 ⟨junk, Vf, Qz, XC, out, i, rfl, rfl, i0, rfl, N, H⟩
 have hn_out := H.QD 0 rfl
 have ll := applL_le s t i
 refine qo (qB ?_)
 refine sp (.bool (decide ((i : Int) < s.qg.length))) ?_
 refine qA (t_n (qo ?_))
 refine qX (decide ((i : Int) < s.qg.length)) rfl (fun h32 => ?_) (fun h32 => ?_)
 ·skip
  replace h32 := of_decide_eq_true h32
  have q := p0.rule (i := i) (by omega)
  have qc := q.1
  have qk := q.cell
  have qr := q.2.1
  have q6 : (s.qg[i]!).qy.toNat < 6 := by omega
  refine xy (t_n (qo (xC (qo (qB ?_)))))
  refine sp (.int .i64 i) ?_
  obtain ⟨b33, o34, rfl⟩ := H.addr 1 rfl (by omega)
  obtain ⟨ae36Need, ce36Need, Fe36Need, ae36Have, ce36Have, Fe36Have, ae36Lack, ce36Lack, Fe36Lack, ae36Here, ce36Here, Fe36Here, ae36Out, ce36Out, Fe36Out, ae36Into, ce36Into, Fe36Into, H⟩ := H.yD 1 rfl i i (by omega) (by omega) (by omega)
  refine sw (xO i Try.underlying28 ti92 rfl rfl (by omega) (by omega) ?_)
  refine sw (zu [.int .i64 ((s.qg[i]!).qy), .int .i64 ((s.qg[i]!).zk), .slice ae36Need (((s.qg[i]!).qR).length) ce36Need, .slice ae36Have (((s.qg[i]!).xg).length) ce36Have, .slice ae36Lack (((s.qg[i]!).xk).length) ce36Lack, .slice ae36Here (((s.qg[i]!).xw).length) ce36Here, .slice ae36Out (((s.qg[i]!).zo).length) ce36Out, .slice ae36Into (((s.qg[i]!).qE).length) ce36Into, .bool ((s.qg[i]!).xQ)] Try.isAgg92 Try.sizeOf92 rfl (qH (H.get 6 rfl) 0 9) ?_)
  refine sw (zy H ti92 [.int .i64 0, .int .i64 0, .slice none 0 0, .slice none 0 0, .slice none 0 0, .slice none 0 0, .slice none 0 0, .slice none 0 0, .bool false] fun b37 w38 H => ?_)
  refine sp (.int .i64 i) ?_
  refine sw (xR H 0 [.int .i64 ((s.qg[i]!).qy), .int .i64 ((s.qg[i]!).zk), .slice ae36Need (((s.qg[i]!).qR).length) ce36Need, .slice ae36Have (((s.qg[i]!).xg).length) ce36Have, .slice ae36Lack (((s.qg[i]!).xk).length) ce36Lack, .slice ae36Here (((s.qg[i]!).xw).length) ce36Here, .slice ae36Out (((s.qg[i]!).zo).length) ce36Out, .slice ae36Into (((s.qg[i]!).qE).length) ce36Into, .bool ((s.qg[i]!).xQ)] Try.sizeOf92 fun w39 H => ?_)
  try dsimp only [List.set] at H
  refine qA (t_n (qo ?_))
  refine yg rfl H fun H => ?_
  refine rt 0 (pp b37 (0 + 1)) (xF b37 (0) 1 Try.underlying92 rfl rfl Try.sizeOf2 rfl) H ?_
  refine rt 1 (.int .i64 ((s.qg[i]!).zk)) (xm Try.isAgg2 rfl (fun _ h => h.cell 0 rfl rfl)) H ?_
  refine rt 2 (pp b37 (0 + 0)) (xF b37 (0) 0 Try.underlying92 rfl rfl Try.sizeOf2 rfl) H ?_
  refine rt 3 (.int .i64 ((s.qg[i]!).qy)) (xm Try.isAgg2 rfl (fun _ h => h.cell 0 rfl rfl)) H ?_
  refine rt 4 (pp b5 (0 + ((s.qg[i]!).qy : Int).toNat * 1)) (y_idxArr b5 (0) 6 ((s.qg[i]!).qy) Try.underlying111 ti2 rfl rfl (by omega) (by omega)) H ?_
  refine rt 5 (.int .i64 ((bests s t (-1) 6 k)[((s.qg[i]!).qy).toNat]!)) (xm Try.isAgg2 rfl (fun _ h => h.cell 2 rfl (ints_at (iv := (s.qg[i]!).qy) (i := (((s.qg[i]!).qy).toNat)) (by omega) (by simp only [List.length_set, List.length_cons, List.length_nil, minus_len, Xv]; omega)))) H ?_
  refine rtp 6 (.bool (((s.qg[i]!).zk : Int) == ((bests s t (-1) 6 k)[((s.qg[i]!).qy).toNat]!))) H ?_
  refine rtp 7 (.bool (((s.qg[i]!).zk : Int) == ((bests s t (-1) 6 k)[((s.qg[i]!).qy).toNat]!))) H ?_
  cases h41 : (((s.qg[i]!).zk : Int) == ((bests s t (-1) 6 k)[((s.qg[i]!).qy).toNat]!))
  ·skip
   replace h41 := ne_of_beq_false h41
   refine zS [8, 9, 10, 11] 4 (H) ?_
   refine rtp 12 (.bool false) H ?_
   refine xM (by kernel_rfl) (t_n ?_)
   refine qX false rfl (fun h => absurd h (by decide)) (fun _ => ?_)
   refine xy (b_n (t_n (qB ?_)))
   refine sw (vz i 1 rfl rfl (by omega) ?_)
   refine sp (.int .i64 (i + 1)) ?_
   refine qA ?_
   refine xH (m' := (s.qg.length - ((i + 1) : Int)).toNat) (by omega) ⟨_, Vf, Qz, XC, (applL s t i), i + 1, (by exact qj (qj (qj (qj (qj (qj (qj (rfl) rfl) rfl) rfl) rfl) rfl) rfl) rfl), ?_, ?_, rfl, N, H.pick [1, 2, 3, 4] [7, 8, 9, 10, 11]⟩
   · first | exact applL_yes (appl_yes (n := 6) (z := -1) (k := k) (by omega) (by omega) (by omega) q6 ‹_› ‹_›) | exact applL_no (appl_no (n := 6) (z := -1) (k := k) (by omega) (by omega) (by omega) q6 ‹_›) | exact applL_no (fun h => ‹¬ EnOk _ _ _› h.1)
   · omega
  replace h41 := eq_of_beq h41
  refine rg 8 (.agg #[.int .i64 s.qI, .slice qw s.qf.length qm, .slice (aa b33 o34) s.qg.length qC]) 57 (yV (cs := [.int .i64 s.qI, .slice qw s.qf.length qm, .slice (aa b33 o34) s.qg.length qC]) Try.isAgg30 Try.sizeOf30 rfl (fun _ h => qH (h.cells 4 rfl) 0 3)) H ?_
  refine rg 9 (.agg #[.slice qP t.qh.length qJ, .slice xG t.qp.length xA, .slice qL t.ql.length qK]) 57 (yV (cs := [.slice qP t.qh.length qJ, .slice xG t.qp.length xA, .slice qL t.ql.length qK]) Try.isAgg41 Try.sizeOf41 rfl (fun _ h => qH (h.cells 3 rfl) 0 3)) H ?_
  refine rg 10 (.agg #[.int .i64 ((s.qg[i]!).qy), .int .i64 ((s.qg[i]!).zk), .slice ae36Need (((s.qg[i]!).qR).length) ce36Need, .slice ae36Have (((s.qg[i]!).xg).length) ce36Have, .slice ae36Lack (((s.qg[i]!).xk).length) ce36Lack, .slice ae36Here (((s.qg[i]!).xw).length) ce36Here, .slice ae36Out (((s.qg[i]!).zo).length) ce36Out, .slice ae36Into (((s.qg[i]!).qE).length) ce36Into, .bool ((s.qg[i]!).xQ)]) 57 (yV (cs := [.int .i64 ((s.qg[i]!).qy), .int .i64 ((s.qg[i]!).zk), .slice ae36Need (((s.qg[i]!).qR).length) ce36Need, .slice ae36Have (((s.qg[i]!).xg).length) ce36Have, .slice ae36Lack (((s.qg[i]!).xk).length) ce36Lack, .slice ae36Here (((s.qg[i]!).xw).length) ce36Here, .slice ae36Out (((s.qg[i]!).zo).length) ce36Out, .slice ae36Into (((s.qg[i]!).qE).length) ce36Into, .bool ((s.qg[i]!).xQ)]) Try.isAgg92 Try.sizeOf92 rfl (fun _ h => qH (h.cells 0 rfl) 0 9)) H ?_
  refine xn [11] (by kernel_rfl) (by simp) (r_opG rfl (e := 57) rfl rfl ?_ xq)
  refine xf #[.agg #[.int .i64 s.qI, .slice qw s.qf.length qm, .slice (aa b33 o34) s.qg.length qC], .agg #[.slice qP t.qh.length qJ, .slice xG t.qp.length xA, .slice qL t.ql.length qK], .agg #[.int .i64 ((s.qg[i]!).qy), .int .i64 ((s.qg[i]!).zk), .slice ae36Need (((s.qg[i]!).qR).length) ce36Need, .slice ae36Have (((s.qg[i]!).xg).length) ce36Have, .slice ae36Lack (((s.qg[i]!).xk).length) ce36Lack, .slice ae36Here (((s.qg[i]!).xw).length) ce36Here, .slice ae36Out (((s.qg[i]!).zo).length) ce36Out, .slice ae36Into (((s.qg[i]!).qE).length) ce36Into, .bool ((s.qg[i]!).xQ)]] rfl rfl Try.call91 (isEnabled_ok w39.drew s t (s.qg[i]!) qw qm qM (aa b33 o34) qC xu qP qJ xJ xG xA zF qL qK xI ae36Need ce36Need Fe36Need ae36Have ce36Have Fe36Have ae36Lack ce36Lack Fe36Lack ae36Here ce36Here Fe36Here ae36Out ce36Out Fe36Out ae36Into ce36Into Fe36Into (H.get 7 rfl).1 (H.get 8 rfl).1 (H.get 9 rfl).1 (H.get 10 rfl).1 (H.get 11 rfl).1 (H.get 0 rfl).1 (H.get 1 rfl).1 (H.get 2 rfl).1 (H.get 3 rfl).1 (H.get 4 rfl).1 (H.get 5 rfl).1 (by first | assumption | omega) (by first | assumption | omega) (by first | assumption | omega)) ?_
  rintro _ w43 rfl x44
  replace H := H.ext x44
  refine ⟨H, ?_⟩
  refine rtp 12 (.bool (dec (EnOk s t (s.qg[i]!)))) H ?_
  refine xM (by kernel_rfl) (t_n ?_)
  refine qX (dec (EnOk s t (s.qg[i]!))) rfl (fun h45 => ?_) (fun h45 => ?_)
  ·skip
   replace h45 := jZ h45
   refine qB ?_
   refine sps [.slice Vf Qz XC, .int .i64 i] ?_
   refine sw (QQ H Try.underlying22 ti2 [.int .i64 i] fun b46 w47 H => ?_)
   refine sw (QR H 2 rfl 0 rfl Try.underlying22 ti2 rfl (by decide) rfl rfl rfl (by simp [Value.oneCell', Value.cells]) (by unfold maxLen; omega) (by omega) fun a48 c49 w50 H => ?_)
   rw [snocI] at H
   try dsimp only [List.set] at H
   refine sp (.slice a48 (Qz + 1) c49) ?_
   refine qA (b_n (t_n (qB ?_)))
   refine sw (vz i 1 rfl rfl (by omega) ?_)
   refine sp (.int .i64 (i + 1)) ?_
   refine qA ?_
   refine xH (m' := (s.qg.length - ((i + 1) : Int)).toNat) (by omega) ⟨_, a48, Qz + 1, c49, ((applL s t i) ++ [(i : Int)]), i + 1, (by exact qj (qj (qj (qj (qj (qj (qj (rfl) rfl) rfl) rfl) rfl) rfl) rfl) rfl), ?_, ?_, rfl, N, H.pick [2, 3, 4, 5] [7, 8, 9, 10, 11]⟩
   · first | exact applL_yes (appl_yes (n := 6) (z := -1) (k := k) (by omega) (by omega) (by omega) q6 ‹_› ‹_›) | exact applL_no (appl_no (n := 6) (z := -1) (k := k) (by omega) (by omega) (by omega) q6 ‹_›) | exact applL_no (fun h => ‹¬ EnOk _ _ _› h.1)
   · omega
  replace h45 := zt h45
  refine xy (b_n (t_n (qB ?_)))
  refine sw (vz i 1 rfl rfl (by omega) ?_)
  refine sp (.int .i64 (i + 1)) ?_
  refine qA ?_
  refine xH (m' := (s.qg.length - ((i + 1) : Int)).toNat) (by omega) ⟨_, Vf, Qz, XC, (applL s t i), i + 1, (by exact qj (qj (qj (qj (qj (qj (qj (rfl) rfl) rfl) rfl) rfl) rfl) rfl) rfl), ?_, ?_, rfl, N, H.pick [1, 2, 3, 4] [7, 8, 9, 10, 11]⟩
  · first | exact applL_yes (appl_yes (n := 6) (z := -1) (k := k) (by omega) (by omega) (by omega) q6 ‹_› ‹_›) | exact applL_no (appl_no (n := 6) (z := -1) (k := k) (by omega) (by omega) (by omega) q6 ‹_›) | exact applL_no (fun h => ‹¬ EnOk _ _ _› h.1)
  · omega
 replace h32 := of_decide_eq_false h32
 refine ve (t_x (t_x (b_x (t_n (qo (qB ?_))))))
 refine sps [.slice Vf Qz XC, .slice Vf Qz XC] ?_
 refine qA (t_n (xE ?_))
 refine ret1 (.slice Vf Qz XC) rfl rfl ⟨_, rfl, ?_, H.base⟩
 obtain rfl : i = s.qg.length := by omega
 exact ⟨Vf, Qz, XC, rfl, N, H.pick [0] []⟩

end Go.Proofs.Ytkmlihdacnfhdaa
