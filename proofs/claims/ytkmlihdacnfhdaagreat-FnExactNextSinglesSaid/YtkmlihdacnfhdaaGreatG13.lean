/- Walks, printed by program (wip/tools/gv.py): what each function comes to, for all arguments. -/
import Derived.Test.YtkmlihdacnfhdaaGreatG12
import Derived.Test.YtkmlihdacnfhdaaGreatG7
namespace Go.Proofs.YtkmlihdacnfhdaaGreat
open Go.Proofs.YtkmlihdacnfhdaaGreat.Tot (tot)
open Go.Proofs.YtkmlihdacnfhdaaGreat.Mark (cnt mrk mkd mkd_mark cnt_mark)
open Go.RowKit
set_option linter.unusedVariables false
set_option linter.unusedSimpArgs false
set_option maxRecDepth 100000
set_option maxHeartbeats 4000000

theorem ti134 : TI Tryz.prog 134 (.agg #[.int .i64 0, .int .i64 0, .int .i64 0, .int .i64 0, .int .i64 0, .int .i64 0]) 6 48 := by unfold TI; kernel_rfl


theorem isEnabled_ok (w : World) (s : qU) (t : qP) (r : QB) (qp : Option Addr) (qo : Nat) (qO : List Nat) (qF : Option Addr) (qC : Nat) (xq : List Nat) (qN : Option Addr) (qH : Nat) (xK : List Nat) (xG : Option Addr) (xy : Nat) (zk : List Nat) (qL : Option Addr) (qK : Nat) (xH : List Nat) (ve : Option Addr) (zZ : Nat) (QZ : List Nat) (vV : Option Addr) (vU : Nat) (Xu : List Nat) (vJ : Option Addr) (vI : Nat) (Xj : List Nat) (jf : Option Addr) (je : Nat) (XL : List Nat) (Qp : Option Addr) (Qo : Nat) (FrOut : List Nat) (zN : Option Addr) (zI : Nat) (FrInto : List Nat) (xn : qQ.rep w qO [.slice qp s.qf.length qo] s.qf) (xM : qQ.rep w xq [.slice qF s.qg.length qC] s.qg) (zl : qQ.rep w xK [.slice qN t.qh.length qH] t.qh) (zV : qQ.rep w zk [.slice xG t.qx.length xy] t.qx) (xX : qQ.rep w xH [.slice qL t.ql.length qK] t.ql) (hrNeed : qQ.rep w QZ [.slice ve r.qW.length zZ] r.qW) (hrHave : qQ.rep w Xu [.slice vV r.xg.length vU] r.xg) (hrLack : qQ.rep w Xj [.slice vJ r.xk.length vI] r.xk) (hrHere : qQ.rep w XL [.slice jf r.xw.length je] r.xw) (hrOut : qQ.rep w FrOut [.slice Qp r.zf.length Qo] r.zf) (hrInto : qQ.rep w FrInto [.slice zN r.qB.length zI] r.qB) (p0 : Qb s) (p1 : zM s t) (p2 : RuleOk s r) : Calls Tryz.prog 112 #[.agg #[.int .i64 s.qI, .slice qp s.qf.length qo, .slice qF s.qg.length qC], .agg #[.slice qN t.qh.length qH, .slice xG t.qx.length xy, .slice qL t.ql.length qK], .agg #[.int .i64 r.qA, .int .i64 r.xZ, .slice ve r.qW.length zZ, .slice vV r.xg.length vU, .slice vJ r.xk.length vI, .slice jf r.xw.length je, .slice Qp r.zf.length Qo, .slice zN r.qB.length zI, .bool r.xP]] w (Ret (fun v w' => v = .bool (dec (EnOk s t r))) w) := by
 refine enter (n := 50) Tryz.func112 rfl Tryz.ntmps112 (Nat.le_of_ble_eq_true rfl) ?_
 have H := (((((((((((St.start w).arg hrInto).arg hrOut).arg hrHere).arg hrLack).arg hrHave).arg hrNeed).arg xX).arg zV).arg zl).arg xM).arg xn
 have vk := qJ xn
 have jr := qJ xM
 have QX := qJ zl
 have XH := qJ zV
 have yZ := qJ xX
 have nhrNeed := qJ hrNeed
 have nhrHave := qJ hrHave
 have nhrLack := qJ hrLack
 have nhrHere := qJ hrHere
 have nhrOut := qJ hrOut
 have nhrInto := qJ hrInto
 clear xn xM zl zV xX hrNeed hrHave hrLack hrHere hrOut hrInto
 have N := Fresh.nil w.heap.size
 have p3 := p2.1
 have p4 := p1.1
 have p5 := p1.2.1
 have p6 := (p1.bagLen (k := r.qA.toNat) (by omega)).len
 have p7 := p2.2.2.2.2.1.len
 have p8 := p2.2.2.2.2.2.1.len
 have p9 := p2.2.2.2.2.2.2.1.len
 have p10 := jd p2.2.2.2.2.2.2.1
 have p11 := p0.1
 have p12 := p2.2.2.2.2.2.2.2.2.2.2
 have p13 := kinds_le p0
 refine qm (qy ?_)
 refine sw (jW H [.int .i64 s.qI, .slice qp s.qf.length qo, .slice qF s.qg.length qC] fun b1 w2 H => ?_)
 refine sw (jW H [.slice qN t.qh.length qH, .slice xG t.qx.length xy, .slice qL t.ql.length qK] fun b3 w4 H => ?_)
 refine sw (jW H [.int .i64 r.qA, .int .i64 r.xZ, .slice ve r.qW.length zZ, .slice vV r.xg.length vU, .slice vJ r.xk.length vI, .slice jf r.xw.length je, .slice Qp r.zf.length Qo, .slice zN r.qB.length zI, .bool r.xP] fun b5 w6 H => ?_)
 refine sp (.bool false) ?_
 refine qw (t_n (qm (qm (qy ?_))))
 refine sw (qM b3 (0) 0 Tryz.underlying38 rfl rfl Tryz.sizeOf26 rfl ?_)
 refine sw (qE (.slice qN t.qh.length qH) Tryz.isAgg26 rfl (H.cell 1 rfl rfl) ?_)
 refine sw (qM b5 (0) 0 Tryz.underlying110 rfl rfl Tryz.sizeOf2 rfl ?_)
 refine sw (qE (.int .i64 r.qA) Tryz.isAgg2 rfl (H.cell 0 rfl rfl) ?_)
 obtain ⟨b7, o8, rfl⟩ := H.addr 2 rfl (by omega)
 refine sw (xJ r.qA Tryz.underlying26 ti4 rfl rfl (by omega) (by omega) ?_)
 refine sw (qE (.bool (t.qh[r.qA.toNat]!)) Tryz.isAgg4 rfl (H.Qg 2 rfl r.qA (by omega) (by omega)) ?_)
 refine sp (.bool (!(t.qh[r.qA.toNat]!))) ?_
 refine qw (t_n ?_)
 refine qV (!(t.qh[r.qA.toNat]!)) rfl (fun h10 => ?_) (fun h10 => ?_)
 ·skip
  replace h10 := xe h10
  refine qm (qy ?_)
  refine sp (.bool false) ?_
  refine qw (t_n (xx (t_r ?_)))
  refine ret1 (.bool false) rfl rfl ⟨_, rfl, ?_, H.base⟩
  rw [xA (fun h => by obtain ⟨h1, h2, h3, h4, h5⟩ := h; first | exact ft h1 ‹_› | exact ft h2 ‹_› | exact ft h3 ‹_› | exact h4 ⟨‹_›, ‹_›⟩ | (obtain ⟨q1, q2⟩ := h5 i (by omega); first | exact ft q1 ‹_› | exact absurd q2 ‹_›))]
 replace h10 := qX h10
 refine xh (t_n (qm (qy ?_)))
 refine sw (qM b3 (0) 1 Tryz.underlying38 rfl rfl Tryz.sizeOf27 rfl ?_)
 refine sw (qE (.slice xG t.qx.length xy) Tryz.isAgg27 rfl (H.cell 1 rfl rfl) ?_)
 refine sw (qM b5 (0) 0 Tryz.underlying110 rfl rfl Tryz.sizeOf2 rfl ?_)
 refine sw (qE (.int .i64 r.qA) Tryz.isAgg2 rfl (H.cell 0 rfl rfl) ?_)
 obtain ⟨b11, o12, rfl⟩ := H.addr 3 rfl (by omega)
 obtain ⟨ae14, ce14, Fe14, H⟩ := H.jC 3 rfl r.qA r.qA.toNat (by omega) (by omega) (by omega)
 refine sw (xJ r.qA Tryz.underlying27 ti22 rfl rfl (by omega) (by omega) ?_)
 refine sw (qE (.slice ae14 ((t.qx[r.qA.toNat]!).length) ce14) Tryz.isAgg22 rfl (H.xR 1 rfl 0 rfl) ?_)
 refine sp (.slice ae14 ((t.qx[r.qA.toNat]!).length) ce14) ?_
 refine qw (t_n (qm (qm (qy ?_))))
 refine sw (qM b5 (0) 2 Tryz.underlying110 rfl rfl Tryz.sizeOf22 rfl ?_)
 refine sw (qE (.slice ve r.qW.length zZ) Tryz.isAgg22 rfl (H.cell 0 rfl rfl) ?_)
 refine sp (.slice ae14 ((t.qx[r.qA.toNat]!).length) ce14) ?_
 refine sw (xf #[.slice ve r.qW.length zZ, .slice ae14 ((t.qx[r.qA.toNat]!).length) ce14] rfl rfl Tryz.call128 (isWithin_ok w6 r.qW (t.qx[r.qA.toNat]!) ve zZ QZ ae14 ce14 Fe14 (H.get 7 rfl).1 (H.get 0 rfl).1 (by first | assumption | omega) (by first | assumption | omega)) ?_)
 rintro _ w15 rfl x16
 replace H := H.ext x16
 refine sps [.bool (!(within r.qW (t.qx[r.qA.toNat]!))), .bool (!(within r.qW (t.qx[r.qA.toNat]!)))] ?_
 cases h17 : (!(within r.qW (t.qx[r.qA.toNat]!)))
 ·skip
  replace h17 := qX h17
  refine qR 26 rfl rfl ?_
  refine sw (qM b5 (0) 3 Tryz.underlying110 rfl rfl Tryz.sizeOf22 rfl ?_)
  refine qR 26 rfl rfl ?_
  refine sw (qE (.slice vV r.xg.length vU) Tryz.isAgg22 rfl (H.cell 0 rfl rfl) ?_)
  refine qR 26 rfl rfl ?_
  refine sp (.slice ae14 ((t.qx[r.qA.toNat]!).length) ce14) ?_
  refine qR 26 rfl rfl ?_
  refine sw (xf #[.slice vV r.xg.length vU, .slice ae14 ((t.qx[r.qA.toNat]!).length) ce14] rfl rfl Tryz.call128 (isWithin_ok w15 r.xg (t.qx[r.qA.toNat]!) vV vU Xu ae14 ce14 Fe14 (H.get 8 rfl).1 (H.get 0 rfl).1 (by first | assumption | omega) (by first | assumption | omega)) ?_)
  rintro _ w18 rfl x19
  replace H := H.ext x19
  refine qR 26 rfl rfl ?_
  refine sps [.bool (!(within r.xg (t.qx[r.qA.toNat]!))), .bool (!(within r.xg (t.qx[r.qA.toNat]!))), .bool (!(within r.xg (t.qx[r.qA.toNat]!)))] ?_
  cases h20 : (!(within r.xg (t.qx[r.qA.toNat]!)))
  ·skip
   replace h20 := qX h20
   refine qR 33 rfl rfl ?_
   refine sw (qM b5 (0) 4 Tryz.underlying110 rfl rfl Tryz.sizeOf22 rfl ?_)
   refine qR 33 rfl rfl ?_
   refine sw (qE (.slice vJ r.xk.length vI) Tryz.isAgg22 rfl (H.cell 0 rfl rfl) ?_)
   refine qR 33 rfl rfl ?_
   refine sw (xf #[.slice vJ r.xk.length vI] rfl rfl Tryz.call124 (bagSize_ok w18 r.xk vJ vI Xj (H.get 9 rfl).1 (by first | assumption | exact jd (by assumption) | exact Xh (by assumption))) ?_)
   rintro _ w21 rfl x22
   replace H := H.ext x22
   refine qR 33 rfl rfl ?_
   refine sp (.bool (decide ((sumL r.xk : Int) > 0))) ?_
   refine qR 33 rfl rfl ?_
   refine sp (.bool (decide ((sumL r.xk : Int) > 0))) ?_
   cases h23 : (decide ((sumL r.xk : Int) > 0))
   ·skip
    replace h23 := of_decide_eq_false h23
    refine xY [39, 40, 41, 42] ?_
    refine qR 33 rfl rfl ?_
    refine sps [.bool false, .bool false] ?_
    refine qw (t_n ?_)
    refine qV false rfl (fun h => absurd h (by decide)) (fun _ => ?_)
    refine xh (t_n (qm (qy ?_)))
    refine sw (qM b5 (0) 7 Tryz.underlying110 rfl rfl Tryz.sizeOf108 rfl ?_)
    refine sw (qE (.slice zN r.qB.length zI) Tryz.isAgg108 rfl (H.cell 0 rfl rfl) ?_)
    refine sp (.func (.func 150) #[] #[pp b3 0, pp b1 0, pp b5 0]) ?_
    refine sw (Qd #[.slice zN r.qB.length zI, .func (.func 150) #[] #[pp b3 0, pp b1 0, pp b5 0]] rfl rfl Tryz.call149 ?_)
    refine enter (n := 9) Tryz.func149 rfl Tryz.ntmps149 (Nat.le_of_ble_eq_true rfl) ?_
    refine qm (qy ?_)
    refine sp (.bool false) ?_
    refine qw (t_n (qm (qy ?_)))
    refine sps [.slice zN r.qB.length zI, .func (.func 150) #[] #[pp b3 0, pp b1 0, pp b5 0]] ?_
    refine sw (Qd #[.slice zN r.qB.length zI, .func (.func 150) #[] #[pp b3 0, pp b1 0, pp b5 0]] rfl rfl Tryz.call163 ?_)
    refine enter (n := 19) Tryz.func163 rfl Tryz.ntmps163 (Nat.le_of_ble_eq_true rfl) ?_
    refine qm (qy ?_)
    refine sp (.int .i64 0) ?_
    refine qw (t_n (qm (qm (qy ?_))))
    refine sp (.slice zN r.qB.length zI) ?_
    refine sw (zD Tryz.underlying108 zN r.qB.length zI rfl ?_)
    refine sp (.int .i64 0) ?_
    refine qw (t_n (xu ?_))
    refine zG (fun m' ρ w24 => ∃ (junk : Env) (i : Nat), ρ = upd (upd (upd (upd junk 0 (.slice zN r.qB.length zI)) 1 (.func (.func 150) #[] #[pp b3 0, pp b1 0, pp b5 0])) 7 (.int .i64 r.qB.length)) 8 (.int .i64 i) ∧ ((i : Int) ≤ r.qB.length) ∧ (IntoUp s t r i) ∧ m' = (r.qB.length - (i : Int)).toNat ∧ Fresh w.heap.size [] ∧ St w w24 [.box b5 [.int .i64 r.qA, .int .i64 r.xZ, .slice ve r.qW.length zZ, .slice vV r.xg.length vU, .slice vJ r.xk.length vI, .slice jf r.xw.length je, .slice Qp r.zf.length Qo, .slice zN r.qB.length zI, .bool r.xP] 110, .box b3 [.slice (aa b7 o8) t.qh.length qH, .slice (aa b11 o12) t.qx.length xy, .slice qL t.ql.length qK] 38, .box b1 [.int .i64 s.qI, .slice qp s.qf.length qo, .slice qF s.qg.length qC] 36] [isF false Fe14 (.slice ae14 ((t.qx[r.qA.toNat]!).length) ce14) (t.qx[r.qA.toNat]!), atF b11 (o12 + (r.qA : Int).toNat * 1) [.slice ae14 ((t.qx[r.qA.toNat]!).length) ce14], isF false qO (.slice qp s.qf.length qo) s.qf, isF false xq (.slice qF s.qg.length qC) s.qg, isF false xK (.slice (aa b7 o8) t.qh.length qH) t.qh, isF false zk (.slice (aa b11 o12) t.qx.length xy) t.qx, isF false xH (.slice qL t.ql.length qK) t.ql, isF false QZ (.slice ve r.qW.length zZ) r.qW, isF false Xu (.slice vV r.xg.length vU) r.xg, isF false Xj (.slice vJ r.xk.length vI) r.xk, isF false XL (.slice jf r.xw.length je) r.xw, isF false FrOut (.slice Qp r.zf.length Qo) r.zf, isF false FrInto (.slice zN r.qB.length zI) r.qB]) ((r.qB.length - (0 : Int)).toNat) ⟨_, 0, (by exact qj (qj (qj (qj (rfl) rfl) rfl) rfl) rfl), (by omega), (by exact fun j hj => by omega), rfl, N, H⟩ ?_
    clear H N
    rintro m' ρ w25 ⟨junk, i, rfl, i0, i1, rfl, N, H⟩
    refine qm (qy ?_)
    refine sp (.bool (decide ((i : Int) < r.qB.length))) ?_
    refine qw (t_n (qm ?_))
    refine qV (decide ((i : Int) < r.qB.length)) rfl (fun h26 => ?_) (fun h26 => ?_)
    ·skip
     replace h26 := of_decide_eq_true h26
     have q := (p12 i (by omega)).1
     have q1 := q.1
     have q2 := q.2
     refine xh (t_n (qm (xu (qm (qy ?_)))))
     refine sps [.int .i64 i, .int .i64 i] ?_
     refine qw (t_n (qm (qy ?_)))
     refine sps [.func (.func 150) #[] #[pp b3 0, pp b1 0, pp b5 0], .slice zN r.qB.length zI, .int .i64 i] ?_
     obtain ⟨b27, o28, rfl⟩ := H.addr 12 rfl (by omega)
     obtain ⟨ae30Bag, ce30Bag, Fe30Bag, H⟩ := H.jl 12 rfl i i (by omega) (by omega) (by omega)
     refine sw (xJ i Tryz.underlying108 ti115 rfl rfl (by omega) (by omega) ?_)
     refine sw (zi [.int .i64 ((r.qB[i]!).qA), .slice ae30Bag (((r.qB[i]!).zW).length) ce30Bag] Tryz.isAgg115 Tryz.sizeOf115 rfl (qG (H.get 1 rfl) 0 2) ?_)
     refine sw (Qd #[.agg #[.int .i64 ((r.qB[i]!).qA), .slice ae30Bag (((r.qB[i]!).zW).length) ce30Bag], pp b3 0, pp b1 0, pp b5 0] rfl rfl Tryz.call150 ?_)
     refine enter (n := 23) Tryz.func150 rfl Tryz.ntmps150 (Nat.le_of_ble_eq_true rfl) ?_
     refine qm (qy ?_)
     refine sw (jW H [.int .i64 ((r.qB[i]!).qA), .slice ae30Bag (((r.qB[i]!).zW).length) ce30Bag] fun b31 w32 H => ?_)
     refine sp (.bool false) ?_
     refine qw (t_n (qm ?_))
     refine jk rfl H fun H => ?_
     refine rt 0 (pp b3 (0 + 0)) (xE b3 (0) 0 Tryz.underlying38 rfl rfl Tryz.sizeOf26 rfl) H ?_
     refine rt 1 (.slice (aa b7 o8) t.qh.length qH) (xm Tryz.isAgg26 rfl (fun _ h => h.cell 2 rfl rfl)) H ?_
     refine rt 2 (pp b31 (0 + 0)) (xE b31 (0) 0 Tryz.underlying115 rfl rfl Tryz.sizeOf2 rfl) H ?_
     refine rt 3 (.int .i64 ((r.qB[i]!).qA)) (xm Tryz.isAgg2 rfl (fun _ h => h.cell 0 rfl rfl)) H ?_
     refine rt 4 (pp b7 (o8 + ((r.qB[i]!).qA : Int).toNat * 1)) (xN b7 (o8) t.qh.length qH ((r.qB[i]!).qA) Tryz.underlying26 ti4 rfl rfl (by omega) (by omega)) H ?_
     refine rt 5 (.bool (t.qh[((r.qB[i]!).qA).toNat]!)) (xm Tryz.isAgg4 rfl (fun _ h => h.Qg 6 rfl ((r.qB[i]!).qA) (by omega) (by omega))) H ?_
     refine rtp 6 (.bool (!(t.qh[((r.qB[i]!).qA).toNat]!))) H ?_
     refine rtp 7 (.bool (!(t.qh[((r.qB[i]!).qA).toNat]!))) H ?_
     cases h34 : (!(t.qh[((r.qB[i]!).qA).toNat]!))
     ·skip
      replace h34 := qX h34
      refine rg 8 (.agg #[.int .i64 s.qI, .slice qp s.qf.length qo, .slice qF s.qg.length qC]) 13 (Qx (cs := [.int .i64 s.qI, .slice qp s.qf.length qo, .slice qF s.qg.length qC]) Tryz.isAgg36 Tryz.sizeOf36 rfl (fun _ h => qG (h.cells 3 rfl) 0 3)) H ?_
      refine rg 9 (.agg #[.slice (aa b7 o8) t.qh.length qH, .slice (aa b11 o12) t.qx.length xy, .slice qL t.ql.length qK]) 13 (Qx (cs := [.slice (aa b7 o8) t.qh.length qH, .slice (aa b11 o12) t.qx.length xy, .slice qL t.ql.length qK]) Tryz.isAgg38 Tryz.sizeOf38 rfl (fun _ h => qG (h.cells 2 rfl) 0 3)) H ?_
      refine rg 10 (pp b31 (0 + 0)) 13 (xE b31 (0) 0 Tryz.underlying115 rfl rfl Tryz.sizeOf2 rfl) H ?_
      refine rg 11 (.int .i64 ((r.qB[i]!).qA)) 13 (xm Tryz.isAgg2 rfl (fun _ h => h.cell 0 rfl rfl)) H ?_
      refine rg 13 (pp b5 (0 + 0)) 13 (xE b5 (0) 0 Tryz.underlying110 rfl rfl Tryz.sizeOf2 rfl) H ?_
      refine rg 14 (.int .i64 r.qA) 13 (xm Tryz.isAgg2 rfl (fun _ h => h.cell 1 rfl rfl)) H ?_
      refine xB [12] (by kernel_rfl) (by simp) (r_opG rfl (e := 13) rfl rfl ?_ xC)
      refine xf #[.agg #[.int .i64 s.qI, .slice qp s.qf.length qo, .slice qF s.qg.length qC], .agg #[.slice (aa b7 o8) t.qh.length qH, .slice (aa b11 o12) t.qx.length xy, .slice qL t.ql.length qK], .int .i64 ((r.qB[i]!).qA)] rfl rfl Tryz.call144 (parentNow_ok w32.drew s t ((r.qB[i]!).qA) qp qo qO qF qC xq (aa b7 o8) qH xK (aa b11 o12) xy zk qL qK xH (H.get 4 rfl).1 (H.get 5 rfl).1 (H.get 6 rfl).1 (H.get 7 rfl).1 (H.get 8 rfl).1 (by first | assumption | omega) (by first | assumption | omega) (by first | assumption | omega)) ?_
      rintro _ w36 rfl x37
      replace H := H.ext x37
      refine ⟨H, ?_⟩
      refine rgp 15 (.bool ((qZ s t ((r.qB[i]!).qA) : Int) != r.qA)) 13 H ?_
      refine rtp 16 (.bool ((qZ s t ((r.qB[i]!).qA) : Int) != r.qA)) H ?_
      refine rtp 17 (.bool ((qZ s t ((r.qB[i]!).qA) : Int) != r.qA)) H ?_
      refine xO (by kernel_rfl) (t_n ?_)
      refine xx ?_
      refine ret1 (.bool ((qZ s t ((r.qB[i]!).qA) : Int) != r.qA)) rfl rfl ⟨_, rfl, ?_⟩
      replace H := H.erases [0]
      dsimp only [Qe, List.eraseIdx] at H
      refine qw (t_n ?_)
      refine qV ((qZ s t ((r.qB[i]!).qA) : Int) != r.qA) rfl (fun h38 => ?_) (fun h38 => ?_)
      ·skip
       replace h38 := bne_iff_ne.1 h38
       refine qm (qy ?_)
       refine sps [.int .i64 i, .int .i64 i] ?_
       refine qw (t_n (xx (b_r (t_r (t_r (b_r (t_r ?_)))))))
       refine ret1 (.int .i64 i) rfl rfl ⟨_, rfl, ?_⟩
       refine sw (o_pure (.bool true) (by show some (Value.bool (decide ((i : Int) ≥ 0))) = some (Value.bool true); rw [decide_eq_true (by omega)]) ?_)
       refine sp (.bool true) ?_
       refine qw (t_n (xx ?_))
       refine ret1 (.bool true) rfl rfl ⟨_, rfl, ?_⟩
       refine sps [.bool false, .bool false] ?_
       refine qw (t_n (xx ?_))
       refine ret1 (.bool false) rfl rfl ⟨_, rfl, ?_, H.base⟩
       rw [xA (fun h => by obtain ⟨h1, h2, h3, h4, h5⟩ := h; first | exact ft h1 ‹_› | exact ft h2 ‹_› | exact ft h3 ‹_› | exact h4 ⟨‹_›, ‹_›⟩ | (obtain ⟨q1, q2⟩ := h5 i (by omega); first | exact ft q1 ‹_› | exact absurd q2 ‹_›))]
      replace h38 := xI h38
      refine xh (b_n (t_n (qy ?_)))
      refine sw (zJ i 1 rfl rfl (by omega) ?_)
      refine sp (.int .i64 (i + 1)) ?_
      refine qw ?_
      refine xF (m' := (r.qB.length - ((i + 1) : Int)).toNat) (by omega) ⟨_, i + 1, (by exact qj (qj (qj (qj (rfl) rfl) rfl) rfl) rfl), ?_, ?_, rfl, N, H.pick [0, 1, 2] [2, 3, 4, 5, 6, 7, 8, 9, 10, 11, 12, 13, 14]⟩
      · omega
      · exact i1.succ ‹_› ‹_›
     replace h34 := xe h34
     refine zC [8, 9, 10, 11, 12, 13, 14, 15] 8 (H) ?_
     refine rtp 16 (.bool true) H ?_
     refine rtp 17 (.bool true) H ?_
     refine xO (by kernel_rfl) (t_n ?_)
     refine xx ?_
     refine ret1 (.bool true) rfl rfl ⟨_, rfl, ?_⟩
     replace H := H.erases [0]
     dsimp only [Qe, List.eraseIdx] at H
     refine qw (t_n ?_)
     refine qV true rfl (fun _ => ?_) (fun h => absurd h (by decide))
     refine qm (qy ?_)
     refine sps [.int .i64 i, .int .i64 i] ?_
     refine qw (t_n (xx (b_r (t_r (t_r (b_r (t_r ?_)))))))
     refine ret1 (.int .i64 i) rfl rfl ⟨_, rfl, ?_⟩
     refine sw (o_pure (.bool true) (by show some (Value.bool (decide ((i : Int) ≥ 0))) = some (Value.bool true); rw [decide_eq_true (by omega)]) ?_)
     refine sp (.bool true) ?_
     refine qw (t_n (xx ?_))
     refine ret1 (.bool true) rfl rfl ⟨_, rfl, ?_⟩
     refine sps [.bool false, .bool false] ?_
     refine qw (t_n (xx ?_))
     refine ret1 (.bool false) rfl rfl ⟨_, rfl, ?_, H.base⟩
     rw [xA (fun h => by obtain ⟨h1, h2, h3, h4, h5⟩ := h; first | exact ft h1 ‹_› | exact ft h2 ‹_› | exact ft h3 ‹_› | exact h4 ⟨‹_›, ‹_›⟩ | (obtain ⟨q1, q2⟩ := h5 i (by omega); first | exact ft q1 ‹_› | exact absurd q2 ‹_›))]
    replace h26 := of_decide_eq_false h26
    refine zy (t_x (t_x (b_x (t_n (qm (qy ?_))))))
    refine sp (.int .i64 (-1)) ?_
    refine qw (t_n (xx ?_))
    refine ret1 (.int .i64 (-1)) rfl rfl ⟨_, rfl, ?_⟩
    refine sps [.bool false, .bool false] ?_
    refine qw (t_n (xx ?_))
    refine ret1 (.bool false) rfl rfl ⟨_, rfl, ?_⟩
    refine sps [.bool true, .bool true] ?_
    refine qw (t_n (xx ?_))
    refine ret1 (.bool true) rfl rfl ⟨_, rfl, ?_, H.base⟩
    rw [yU ⟨by assumption, by assumption, by assumption, fun ⟨u, v⟩ => by first | omega | exact ft v ‹_›, (show i = r.qB.length by omega) ▸ i1⟩]
   replace h23 := of_decide_eq_true h23
   refine qR 38 rfl rfl ?_
   refine sw (qM b5 (0) 4 Tryz.underlying110 rfl rfl Tryz.sizeOf22 rfl ?_)
   refine qR 38 rfl rfl ?_
   refine sw (qE (.slice vJ r.xk.length vI) Tryz.isAgg22 rfl (H.cell 0 rfl rfl) ?_)
   refine qR 38 rfl rfl ?_
   refine sp (.slice ae14 ((t.qx[r.qA.toNat]!).length) ce14) ?_
   refine qR 38 rfl rfl ?_
   refine sw (xf #[.slice vJ r.xk.length vI, .slice ae14 ((t.qx[r.qA.toNat]!).length) ce14] rfl rfl Tryz.call128 (isWithin_ok w21 r.xk (t.qx[r.qA.toNat]!) vJ vI Xj ae14 ce14 Fe14 (H.get 9 rfl).1 (H.get 0 rfl).1 (by first | assumption | omega) (by first | assumption | omega)) ?_)
   rintro _ w39 rfl x40
   replace H := H.ext x40
   refine qR 33 rfl rfl ?_
   refine sps [.bool (within r.xk (t.qx[r.qA.toNat]!)), .bool (within r.xk (t.qx[r.qA.toNat]!))] ?_
   refine qw (t_n ?_)
   refine qV (within r.xk (t.qx[r.qA.toNat]!)) rfl (fun h41 => ?_) (fun h41 => ?_)
   ·skip
    refine qm (qy ?_)
    refine sp (.bool false) ?_
    refine qw (t_n (xx (t_r ?_)))
    refine ret1 (.bool false) rfl rfl ⟨_, rfl, ?_, H.base⟩
    rw [xA (fun h => by obtain ⟨h1, h2, h3, h4, h5⟩ := h; first | exact ft h1 ‹_› | exact ft h2 ‹_› | exact ft h3 ‹_› | exact h4 ⟨‹_›, ‹_›⟩ | (obtain ⟨q1, q2⟩ := h5 i (by omega); first | exact ft q1 ‹_› | exact absurd q2 ‹_›))]
   refine xh (t_n (qm (qy ?_)))
   refine sw (qM b5 (0) 7 Tryz.underlying110 rfl rfl Tryz.sizeOf108 rfl ?_)
   refine sw (qE (.slice zN r.qB.length zI) Tryz.isAgg108 rfl (H.cell 0 rfl rfl) ?_)
   refine sp (.func (.func 150) #[] #[pp b3 0, pp b1 0, pp b5 0]) ?_
   refine sw (Qd #[.slice zN r.qB.length zI, .func (.func 150) #[] #[pp b3 0, pp b1 0, pp b5 0]] rfl rfl Tryz.call149 ?_)
   refine enter (n := 9) Tryz.func149 rfl Tryz.ntmps149 (Nat.le_of_ble_eq_true rfl) ?_
   refine qm (qy ?_)
   refine sp (.bool false) ?_
   refine qw (t_n (qm (qy ?_)))
   refine sps [.slice zN r.qB.length zI, .func (.func 150) #[] #[pp b3 0, pp b1 0, pp b5 0]] ?_
   refine sw (Qd #[.slice zN r.qB.length zI, .func (.func 150) #[] #[pp b3 0, pp b1 0, pp b5 0]] rfl rfl Tryz.call163 ?_)
   refine enter (n := 19) Tryz.func163 rfl Tryz.ntmps163 (Nat.le_of_ble_eq_true rfl) ?_
   refine qm (qy ?_)
   refine sp (.int .i64 0) ?_
   refine qw (t_n (qm (qm (qy ?_))))
   refine sp (.slice zN r.qB.length zI) ?_
   refine sw (zD Tryz.underlying108 zN r.qB.length zI rfl ?_)
   refine sp (.int .i64 0) ?_
   refine qw (t_n (xu ?_))
   refine zG (fun m' ρ w42 => ∃ (junk : Env) (i : Nat), ρ = upd (upd (upd (upd junk 0 (.slice zN r.qB.length zI)) 1 (.func (.func 150) #[] #[pp b3 0, pp b1 0, pp b5 0])) 7 (.int .i64 r.qB.length)) 8 (.int .i64 i) ∧ ((i : Int) ≤ r.qB.length) ∧ (IntoUp s t r i) ∧ m' = (r.qB.length - (i : Int)).toNat ∧ Fresh w.heap.size [] ∧ St w w42 [.box b5 [.int .i64 r.qA, .int .i64 r.xZ, .slice ve r.qW.length zZ, .slice vV r.xg.length vU, .slice vJ r.xk.length vI, .slice jf r.xw.length je, .slice Qp r.zf.length Qo, .slice zN r.qB.length zI, .bool r.xP] 110, .box b3 [.slice (aa b7 o8) t.qh.length qH, .slice (aa b11 o12) t.qx.length xy, .slice qL t.ql.length qK] 38, .box b1 [.int .i64 s.qI, .slice qp s.qf.length qo, .slice qF s.qg.length qC] 36] [isF false Fe14 (.slice ae14 ((t.qx[r.qA.toNat]!).length) ce14) (t.qx[r.qA.toNat]!), atF b11 (o12 + (r.qA : Int).toNat * 1) [.slice ae14 ((t.qx[r.qA.toNat]!).length) ce14], isF false qO (.slice qp s.qf.length qo) s.qf, isF false xq (.slice qF s.qg.length qC) s.qg, isF false xK (.slice (aa b7 o8) t.qh.length qH) t.qh, isF false zk (.slice (aa b11 o12) t.qx.length xy) t.qx, isF false xH (.slice qL t.ql.length qK) t.ql, isF false QZ (.slice ve r.qW.length zZ) r.qW, isF false Xu (.slice vV r.xg.length vU) r.xg, isF false Xj (.slice vJ r.xk.length vI) r.xk, isF false XL (.slice jf r.xw.length je) r.xw, isF false FrOut (.slice Qp r.zf.length Qo) r.zf, isF false FrInto (.slice zN r.qB.length zI) r.qB]) ((r.qB.length - (0 : Int)).toNat) ⟨_, 0, (by exact qj (qj (qj (qj (rfl) rfl) rfl) rfl) rfl), (by omega), (by exact fun j hj => by omega), rfl, N, H⟩ ?_
   clear H N
   rintro m' ρ w43 ⟨junk, i, rfl, i0, i1, rfl, N, H⟩
   refine qm (qy ?_)
   refine sp (.bool (decide ((i : Int) < r.qB.length))) ?_
   refine qw (t_n (qm ?_))
   refine qV (decide ((i : Int) < r.qB.length)) rfl (fun h44 => ?_) (fun h44 => ?_)
   ·skip
    replace h44 := of_decide_eq_true h44
    have q := (p12 i (by omega)).1
    have q1 := q.1
    have q2 := q.2
    refine xh (t_n (qm (xu (qm (qy ?_)))))
    refine sps [.int .i64 i, .int .i64 i] ?_
    refine qw (t_n (qm (qy ?_)))
    refine sps [.func (.func 150) #[] #[pp b3 0, pp b1 0, pp b5 0], .slice zN r.qB.length zI, .int .i64 i] ?_
    obtain ⟨b45, o46, rfl⟩ := H.addr 12 rfl (by omega)
    obtain ⟨ae48Bag, ce48Bag, Fe48Bag, H⟩ := H.jl 12 rfl i i (by omega) (by omega) (by omega)
    refine sw (xJ i Tryz.underlying108 ti115 rfl rfl (by omega) (by omega) ?_)
    refine sw (zi [.int .i64 ((r.qB[i]!).qA), .slice ae48Bag (((r.qB[i]!).zW).length) ce48Bag] Tryz.isAgg115 Tryz.sizeOf115 rfl (qG (H.get 1 rfl) 0 2) ?_)
    refine sw (Qd #[.agg #[.int .i64 ((r.qB[i]!).qA), .slice ae48Bag (((r.qB[i]!).zW).length) ce48Bag], pp b3 0, pp b1 0, pp b5 0] rfl rfl Tryz.call150 ?_)
    refine enter (n := 23) Tryz.func150 rfl Tryz.ntmps150 (Nat.le_of_ble_eq_true rfl) ?_
    refine qm (qy ?_)
    refine sw (jW H [.int .i64 ((r.qB[i]!).qA), .slice ae48Bag (((r.qB[i]!).zW).length) ce48Bag] fun b49 w50 H => ?_)
    refine sp (.bool false) ?_
    refine qw (t_n (qm ?_))
    refine jk rfl H fun H => ?_
    refine rt 0 (pp b3 (0 + 0)) (xE b3 (0) 0 Tryz.underlying38 rfl rfl Tryz.sizeOf26 rfl) H ?_
    refine rt 1 (.slice (aa b7 o8) t.qh.length qH) (xm Tryz.isAgg26 rfl (fun _ h => h.cell 2 rfl rfl)) H ?_
    refine rt 2 (pp b49 (0 + 0)) (xE b49 (0) 0 Tryz.underlying115 rfl rfl Tryz.sizeOf2 rfl) H ?_
    refine rt 3 (.int .i64 ((r.qB[i]!).qA)) (xm Tryz.isAgg2 rfl (fun _ h => h.cell 0 rfl rfl)) H ?_
    refine rt 4 (pp b7 (o8 + ((r.qB[i]!).qA : Int).toNat * 1)) (xN b7 (o8) t.qh.length qH ((r.qB[i]!).qA) Tryz.underlying26 ti4 rfl rfl (by omega) (by omega)) H ?_
    refine rt 5 (.bool (t.qh[((r.qB[i]!).qA).toNat]!)) (xm Tryz.isAgg4 rfl (fun _ h => h.Qg 6 rfl ((r.qB[i]!).qA) (by omega) (by omega))) H ?_
    refine rtp 6 (.bool (!(t.qh[((r.qB[i]!).qA).toNat]!))) H ?_
    refine rtp 7 (.bool (!(t.qh[((r.qB[i]!).qA).toNat]!))) H ?_
    cases h52 : (!(t.qh[((r.qB[i]!).qA).toNat]!))
    ·skip
     replace h52 := qX h52
     refine rg 8 (.agg #[.int .i64 s.qI, .slice qp s.qf.length qo, .slice qF s.qg.length qC]) 13 (Qx (cs := [.int .i64 s.qI, .slice qp s.qf.length qo, .slice qF s.qg.length qC]) Tryz.isAgg36 Tryz.sizeOf36 rfl (fun _ h => qG (h.cells 3 rfl) 0 3)) H ?_
     refine rg 9 (.agg #[.slice (aa b7 o8) t.qh.length qH, .slice (aa b11 o12) t.qx.length xy, .slice qL t.ql.length qK]) 13 (Qx (cs := [.slice (aa b7 o8) t.qh.length qH, .slice (aa b11 o12) t.qx.length xy, .slice qL t.ql.length qK]) Tryz.isAgg38 Tryz.sizeOf38 rfl (fun _ h => qG (h.cells 2 rfl) 0 3)) H ?_
     refine rg 10 (pp b49 (0 + 0)) 13 (xE b49 (0) 0 Tryz.underlying115 rfl rfl Tryz.sizeOf2 rfl) H ?_
     refine rg 11 (.int .i64 ((r.qB[i]!).qA)) 13 (xm Tryz.isAgg2 rfl (fun _ h => h.cell 0 rfl rfl)) H ?_
     refine rg 13 (pp b5 (0 + 0)) 13 (xE b5 (0) 0 Tryz.underlying110 rfl rfl Tryz.sizeOf2 rfl) H ?_
     refine rg 14 (.int .i64 r.qA) 13 (xm Tryz.isAgg2 rfl (fun _ h => h.cell 1 rfl rfl)) H ?_
     refine xB [12] (by kernel_rfl) (by simp) (r_opG rfl (e := 13) rfl rfl ?_ xC)
     refine xf #[.agg #[.int .i64 s.qI, .slice qp s.qf.length qo, .slice qF s.qg.length qC], .agg #[.slice (aa b7 o8) t.qh.length qH, .slice (aa b11 o12) t.qx.length xy, .slice qL t.ql.length qK], .int .i64 ((r.qB[i]!).qA)] rfl rfl Tryz.call144 (parentNow_ok w50.drew s t ((r.qB[i]!).qA) qp qo qO qF qC xq (aa b7 o8) qH xK (aa b11 o12) xy zk qL qK xH (H.get 4 rfl).1 (H.get 5 rfl).1 (H.get 6 rfl).1 (H.get 7 rfl).1 (H.get 8 rfl).1 (by first | assumption | omega) (by first | assumption | omega) (by first | assumption | omega)) ?_
     rintro _ w54 rfl x55
     replace H := H.ext x55
     refine ⟨H, ?_⟩
     refine rgp 15 (.bool ((qZ s t ((r.qB[i]!).qA) : Int) != r.qA)) 13 H ?_
     refine rtp 16 (.bool ((qZ s t ((r.qB[i]!).qA) : Int) != r.qA)) H ?_
     refine rtp 17 (.bool ((qZ s t ((r.qB[i]!).qA) : Int) != r.qA)) H ?_
     refine xO (by kernel_rfl) (t_n ?_)
     refine xx ?_
     refine ret1 (.bool ((qZ s t ((r.qB[i]!).qA) : Int) != r.qA)) rfl rfl ⟨_, rfl, ?_⟩
     replace H := H.erases [0]
     dsimp only [Qe, List.eraseIdx] at H
     refine qw (t_n ?_)
     refine qV ((qZ s t ((r.qB[i]!).qA) : Int) != r.qA) rfl (fun h56 => ?_) (fun h56 => ?_)
     ·skip
      replace h56 := bne_iff_ne.1 h56
      refine qm (qy ?_)
      refine sps [.int .i64 i, .int .i64 i] ?_
      refine qw (t_n (xx (b_r (t_r (t_r (b_r (t_r ?_)))))))
      refine ret1 (.int .i64 i) rfl rfl ⟨_, rfl, ?_⟩
      refine sw (o_pure (.bool true) (by show some (Value.bool (decide ((i : Int) ≥ 0))) = some (Value.bool true); rw [decide_eq_true (by omega)]) ?_)
      refine sp (.bool true) ?_
      refine qw (t_n (xx ?_))
      refine ret1 (.bool true) rfl rfl ⟨_, rfl, ?_⟩
      refine sps [.bool false, .bool false] ?_
      refine qw (t_n (xx ?_))
      refine ret1 (.bool false) rfl rfl ⟨_, rfl, ?_, H.base⟩
      rw [xA (fun h => by obtain ⟨h1, h2, h3, h4, h5⟩ := h; first | exact ft h1 ‹_› | exact ft h2 ‹_› | exact ft h3 ‹_› | exact h4 ⟨‹_›, ‹_›⟩ | (obtain ⟨q1, q2⟩ := h5 i (by omega); first | exact ft q1 ‹_› | exact absurd q2 ‹_›))]
     replace h56 := xI h56
     refine xh (b_n (t_n (qy ?_)))
     refine sw (zJ i 1 rfl rfl (by omega) ?_)
     refine sp (.int .i64 (i + 1)) ?_
     refine qw ?_
     refine xF (m' := (r.qB.length - ((i + 1) : Int)).toNat) (by omega) ⟨_, i + 1, (by exact qj (qj (qj (qj (rfl) rfl) rfl) rfl) rfl), ?_, ?_, rfl, N, H.pick [0, 1, 2] [2, 3, 4, 5, 6, 7, 8, 9, 10, 11, 12, 13, 14]⟩
     · omega
     · exact i1.succ ‹_› ‹_›
    replace h52 := xe h52
    refine zC [8, 9, 10, 11, 12, 13, 14, 15] 8 (H) ?_
    refine rtp 16 (.bool true) H ?_
    refine rtp 17 (.bool true) H ?_
    refine xO (by kernel_rfl) (t_n ?_)
    refine xx ?_
    refine ret1 (.bool true) rfl rfl ⟨_, rfl, ?_⟩
    replace H := H.erases [0]
    dsimp only [Qe, List.eraseIdx] at H
    refine qw (t_n ?_)
    refine qV true rfl (fun _ => ?_) (fun h => absurd h (by decide))
    refine qm (qy ?_)
    refine sps [.int .i64 i, .int .i64 i] ?_
    refine qw (t_n (xx (b_r (t_r (t_r (b_r (t_r ?_)))))))
    refine ret1 (.int .i64 i) rfl rfl ⟨_, rfl, ?_⟩
    refine sw (o_pure (.bool true) (by show some (Value.bool (decide ((i : Int) ≥ 0))) = some (Value.bool true); rw [decide_eq_true (by omega)]) ?_)
    refine sp (.bool true) ?_
    refine qw (t_n (xx ?_))
    refine ret1 (.bool true) rfl rfl ⟨_, rfl, ?_⟩
    refine sps [.bool false, .bool false] ?_
    refine qw (t_n (xx ?_))
    refine ret1 (.bool false) rfl rfl ⟨_, rfl, ?_, H.base⟩
    rw [xA (fun h => by obtain ⟨h1, h2, h3, h4, h5⟩ := h; first | exact ft h1 ‹_› | exact ft h2 ‹_› | exact ft h3 ‹_› | exact h4 ⟨‹_›, ‹_›⟩ | (obtain ⟨q1, q2⟩ := h5 i (by omega); first | exact ft q1 ‹_› | exact absurd q2 ‹_›))]
   replace h44 := of_decide_eq_false h44
   refine zy (t_x (t_x (b_x (t_n (qm (qy ?_))))))
   refine sp (.int .i64 (-1)) ?_
   refine qw (t_n (xx ?_))
   refine ret1 (.int .i64 (-1)) rfl rfl ⟨_, rfl, ?_⟩
   refine sps [.bool false, .bool false] ?_
   refine qw (t_n (xx ?_))
   refine ret1 (.bool false) rfl rfl ⟨_, rfl, ?_⟩
   refine sps [.bool true, .bool true] ?_
   refine qw (t_n (xx ?_))
   refine ret1 (.bool true) rfl rfl ⟨_, rfl, ?_, H.base⟩
   rw [yU ⟨by assumption, by assumption, by assumption, fun ⟨u, v⟩ => by first | omega | exact ft v ‹_›, (show i = r.qB.length by omega) ▸ i1⟩]
  replace h20 := xe h20
  refine xY [34, 35, 36, 37, 38, 39, 40, 41, 42, 43] ?_
  refine sp (.bool true) ?_
  refine qw (t_n ?_)
  refine qV true rfl (fun _ => ?_) (fun h => absurd h (by decide))
  refine qm (qy ?_)
  refine sp (.bool false) ?_
  refine qw (t_n (xx (t_r ?_)))
  refine ret1 (.bool false) rfl rfl ⟨_, rfl, ?_, H.base⟩
  rw [xA (fun h => by obtain ⟨h1, h2, h3, h4, h5⟩ := h; first | exact ft h1 ‹_› | exact ft h2 ‹_› | exact ft h3 ‹_› | exact h4 ⟨‹_›, ‹_›⟩ | (obtain ⟨q1, q2⟩ := h5 i (by omega); first | exact ft q1 ‹_› | exact absurd q2 ‹_›))]
 replace h17 := xe h17
 refine xY [27, 28, 29, 30, 31] ?_
 refine sps [.bool true, .bool true] ?_
 refine xY [34, 35, 36, 37, 38, 39, 40, 41, 42, 43] ?_
 refine sp (.bool true) ?_
 refine qw (t_n ?_)
 refine qV true rfl (fun _ => ?_) (fun h => absurd h (by decide))
 refine qm (qy ?_)
 refine sp (.bool false) ?_
 refine qw (t_n (xx (t_r ?_)))
 refine ret1 (.bool false) rfl rfl ⟨_, rfl, ?_, H.base⟩
 rw [xA (fun h => by obtain ⟨h1, h2, h3, h4, h5⟩ := h; first | exact ft h1 ‹_› | exact ft h2 ‹_› | exact ft h3 ‹_› | exact h4 ⟨‹_›, ‹_›⟩ | (obtain ⟨q1, q2⟩ := h5 i (by omega); first | exact ft q1 ‹_› | exact absurd q2 ‹_›))]

theorem cloneSS_ok (w : World) (l : List (List Int)) (al : Option Addr) (cl : Nat) (Fl : List Nat) (hl : qQ.rep w Fl [.slice al l.length cl] l) (p0 : l.length ≤ 1000000) : Calls Tryz.prog 98 #[.slice al l.length cl] w (Ret (fun v w' => ∃ (ra : Option Addr) (rn : Nat) (rc : Nat) (rx : List Value) (rF : List Nat), v = .slice ra rn rc ∧ (∀ b ∈ rF, b ∈ Fl) ∧ St w w' [.row (.slice ra rn rc) 22 1 rn rx] [vK false rF rx l]) w) := by
 refine enter (n := 8) Tryz.func98 rfl Tryz.ntmps98 (Nat.le_of_ble_eq_true rfl) ?_
 have H := (St.start w).arg hl
 have nhl := qJ hl
 clear hl
 have N := Fresh.nil w.heap.size
 refine qm (qy ?_)
 refine sp (.slice none 0 0) ?_
 refine qw (t_n (qm (qm (qy ?_))))
 refine sp (.slice al l.length cl) ?_
 refine sw (o_eqnil Tryz.underlying27 al l.length cl rfl ?_)
 refine qw (t_n ?_)
 refine qV (al.isNone) rfl (fun h1 => ?_) (fun h1 => ?_)
 ·skip
  refine qm (qy ?_)
  refine sp (.slice none 0 0) ?_
  refine qw (t_n (xx (t_r ?_)))
  replace H := H.nilRow 22 1
  replace H := H.Q5 (α := List Int)
  refine ret1 (.slice none 0 0) rfl rfl ⟨_, rfl, ?_, H.base⟩
  obtain rfl := H.nilOf 1 rfl ‹_›
  replace H := H.unfree 0 rfl
  exact ⟨none, 0, 0, [], [], rfl, (by intro b hb; first | (simp at hb; done) | exact id b (by simpa using hb)), H.pick [0] [0]⟩
 refine xh (t_n (qm (qy ?_)))
 refine sw (QW H Tryz.underlying27 ti22 fun b2 w3 H => ?_)
 refine sp (.slice al l.length cl) ?_
 replace H := H.boxRow 0 rfl 1 0 rfl (by decide)
 try dsimp only [List.set] at H
 replace H := H.Q5 (α := List Int)
 refine sw (o_appendFR H 0 rfl 1 rfl Tryz.underlying27 ti22 rfl (by decide) rfl rfl (by unfold maxLen; omega) (by omega) fun a4 c5 w6 us7 G8 H hG9 => ?_)
 try dsimp only [List.set] at H
 replace H := H.repsCat false 1 rfl 0 rfl (by simp)
 refine sp (.slice a4 (0 + l.length) c5) ?_
 refine qw (t_n (xx ?_))
 refine ret1 (.slice a4 (0 + l.length) c5) rfl rfl ⟨_, rfl, ?_, H.base⟩
 exact ⟨a4, 0 + l.length, c5, [] ++ us7, ([] ++ G8), rfl, (by intro b hb; first | (simp at hb; done) | exact hG9 b (by simpa using hb)), H.pick [0] [0]⟩

theorem applicable_ok (w : World) (s : qU) (t : qP) (qp : Option Addr) (qo : Nat) (qO : List Nat) (qF : Option Addr) (qC : Nat) (xq : List Nat) (qN : Option Addr) (qH : Nat) (xK : List Nat) (xG : Option Addr) (xy : Nat) (zk : List Nat) (qL : Option Addr) (qK : Nat) (xH : List Nat) (xn : qQ.rep w qO [.slice qp s.qf.length qo] s.qf) (xM : qQ.rep w xq [.slice qF s.qg.length qC] s.qg) (zl : qQ.rep w xK [.slice qN t.qh.length qH] t.qh) (zV : qQ.rep w zk [.slice xG t.qx.length xy] t.qx) (xX : qQ.rep w xH [.slice qL t.ql.length qK] t.ql) (p0 : Qb s) (p1 : zM s t) : Calls Tryz.prog 65 #[.agg #[.int .i64 s.qI, .slice qp s.qf.length qo, .slice qF s.qg.length qC], .agg #[.slice qN t.qh.length qH, .slice xG t.qx.length xy, .slice qL t.ql.length qK]] w (Ret (fun v w' => ∃ (ra : Option Addr) (rn : Nat) (rc : Nat), v = .slice ra rn rc ∧ Fresh w.heap.size [] ∧ St w w' [.row (.slice ra rn rc) 2 1 rn ((appls s t).map (Value.int .i64))] []) w) := by
 refine enter (n := 69) Tryz.func65 rfl Tryz.ntmps65 (Nat.le_of_ble_eq_true rfl) ?_
 have H := (((((St.start w).arg xX).arg zV).arg zl).arg xM).arg xn
 have vk := qJ xn
 have jr := qJ xM
 have QX := qJ zl
 have XH := qJ zV
 have yZ := qJ xX
 clear xn xM zl zV xX
 have N := Fresh.nil w.heap.size
 have p2 := p0.2.1
 have p3 := p0.1.2.1
 refine qm (qy ?_)
 refine sw (jW H [.int .i64 s.qI, .slice qp s.qf.length qo, .slice qF s.qg.length qC] fun b1 w2 H => ?_)
 refine sw (jW H [.slice qN t.qh.length qH, .slice xG t.qx.length xy, .slice qL t.ql.length qK] fun b3 w4 H => ?_)
 refine sp (.slice none 0 0) ?_
 refine qw (t_n (qm (qy ?_)))
 refine sw (jQ [.int .i64 0, .int .i64 0, .int .i64 0, .int .i64 0, .int .i64 0, .int .i64 0] [] ?_)
 refine sw (zL H ti134 [.int .i64 0, .int .i64 0, .int .i64 0, .int .i64 0, .int .i64 0, .int .i64 0] fun b5 w6 H => ?_)
 refine sw (zn H 0 [.int .i64 0, .int .i64 0, .int .i64 0, .int .i64 0, .int .i64 0, .int .i64 0] Tryz.sizeOf134 fun w7 H => ?_)
 try dsimp only [List.set] at H
 refine qw (t_n (qm (qm (qy ?_))))
 refine sp (.int .i64 0) ?_
 refine qw (t_n (xu ?_))
 try dsimp only [List.set] at H
 refine zG (fun m' ρ w8 => ∃ (junk : Env) (c : Nat) (top : List Int), ρ = upd (upd (upd (upd junk 2 (pp b1 0)) 3 (pp b3 0)) 5 (pp b5 0)) 13 (.int .i64 c) ∧ top = minus c ∧ ((c : Int) ≤ 6) ∧ m' = (6 - (c : Int)).toNat ∧ Fresh w.heap.size [] ∧ St w w8 [.box b5 (top.map (Value.int .i64)) 134, .box b3 [.slice qN t.qh.length qH, .slice xG t.qx.length xy, .slice qL t.ql.length qK] 38, .box b1 [.int .i64 s.qI, .slice qp s.qf.length qo, .slice qF s.qg.length qC] 36] [isF false qO (.slice qp s.qf.length qo) s.qf, isF false xq (.slice qF s.qg.length qC) s.qg, isF false xK (.slice qN t.qh.length qH) t.qh, isF false zk (.slice xG t.qx.length xy) t.qx, isF false xH (.slice qL t.ql.length qK) t.ql]) ((6 - (0 : Int)).toNat) ⟨_, 0, [0, 0, 0, 0, 0, 0], (by exact qj (qj (qj (qj (rfl) rfl) rfl) rfl) rfl), (by rfl), (by omega), rfl, N, H⟩ ?_
 clear H N
 rintro m' ρ w9 ⟨junk, c, top, rfl, rfl, i0, rfl, N, H⟩
 refine qm (qy ?_)
 refine sp (.bool (decide ((c : Int) < 6))) ?_
 refine qw (t_n (qm ?_))
 refine qV (decide ((c : Int) < 6)) rfl (fun h10 => ?_) (fun h10 => ?_)
 ·skip
  replace h10 := of_decide_eq_true h10
  refine xh (t_n (qm (xu (qm (qy ?_)))))
  refine sps [.int .i64 c, .int .i64 c] ?_
  refine qw (t_n (qy ?_))
  refine sp (.int .i64 c) ?_
  refine sw (o_idxArr c Tryz.underlying134 ti2 rfl rfl (by omega) (by omega) ?_)
  refine sw (o_storeArr H 0 rfl (-1) Tryz.sizeOf2 rfl rfl (i := c) (by omega) (by simp only [List.length_set, List.length_cons, List.length_nil, minus_len, Xr]; omega) fun w11 H => ?_)
  try dsimp only [List.set] at H
  refine qw (b_n (t_n (qy ?_)))
  refine sw (zJ c 1 rfl rfl (by omega) ?_)
  refine sp (.int .i64 (c + 1)) ?_
  refine qw ?_
  refine xF (m' := (6 - ((c + 1) : Int)).toNat) (by omega) ⟨_, c + 1, ((minus c).set c (-1)), (by exact qj (qj (qj (qj (rfl) rfl) rfl) rfl) rfl), ?_, ?_, rfl, N, H⟩
  · exact minus_set (by omega)
  · omega
 replace h10 := of_decide_eq_false h10
 refine zy (t_x (t_x (b_x (t_n (qm (qm (qy ?_)))))))
 refine sw (qM b1 (0) 2 Tryz.underlying36 rfl rfl Tryz.sizeOf34 rfl ?_)
 refine sw (qE (.slice qF s.qg.length qC) Tryz.isAgg34 rfl (H.cell 2 rfl rfl) ?_)
 refine sw (zD Tryz.underlying34 qF s.qg.length qC rfl ?_)
 refine sp (.int .i64 0) ?_
 refine qw (t_n (xu ?_))
 refine zG (fun m' ρ w12 => ∃ (junk : Env) (k : Nat) (top_1 : List Int), ρ = upd (upd (upd (upd (upd (upd junk 2 (pp b1 0)) 3 (pp b3 0)) 5 (pp b5 0)) 20 (.slice qF s.qg.length qC)) 21 (.int .i64 s.qg.length)) 22 (.int .i64 k) ∧ top_1 = bests s t (-1) 6 k ∧ ((k : Int) ≤ s.qg.length) ∧ m' = (s.qg.length - (k : Int)).toNat ∧ Fresh w.heap.size [] ∧ St w w12 [.box b5 (top_1.map (Value.int .i64)) 134, .box b3 [.slice qN t.qh.length qH, .slice xG t.qx.length xy, .slice qL t.ql.length qK] 38, .box b1 [.int .i64 s.qI, .slice qp s.qf.length qo, .slice qF s.qg.length qC] 36] [isF false qO (.slice qp s.qf.length qo) s.qf, isF false xq (.slice qF s.qg.length qC) s.qg, isF false xK (.slice qN t.qh.length qH) t.qh, isF false zk (.slice xG t.qx.length xy) t.qx, isF false xH (.slice qL t.ql.length qK) t.ql]) ((s.qg.length - (0 : Int)).toNat) ⟨_, 0, (minus c), (by exact qj (qj (qj (qj (qj (qj (rfl) rfl) rfl) rfl) rfl) rfl) rfl), (by exact minus_six (by omega) s t), (by omega), rfl, N, H⟩ ?_
 clear H N
 rintro m' ρ w13 ⟨junk, k, top_1, rfl, rfl, i0, rfl, N, H⟩
 refine qm (qy ?_)
 refine sp (.bool (decide ((k : Int) < s.qg.length))) ?_
 refine qw (t_n (qm ?_))
 refine qV (decide ((k : Int) < s.qg.length)) rfl (fun h14 => ?_) (fun h14 => ?_)
 ·skip
  replace h14 := of_decide_eq_true h14
  have q := p0.rule (i := k) (by omega)
  have qc := q.1
  have qk := q.cell
  have qr := q.2.1
  have q6 : (s.qg[k]!).qA.toNat < 6 := by omega
  refine xh (t_n (qm (xu (qm (qy ?_)))))
  obtain ⟨b15, o16, rfl⟩ := H.addr 1 rfl (by omega)
  obtain ⟨ae18Need, ce18Need, Fe18Need, ae18Have, ce18Have, Fe18Have, ae18Lack, ce18Lack, Fe18Lack, ae18Here, ce18Here, Fe18Here, ae18Out, ce18Out, Fe18Out, ae18Into, ce18Into, Fe18Into, H⟩ := H.yE 1 rfl k k (by omega) (by omega) (by omega)
  refine sw (xJ k Tryz.underlying34 ti110 rfl rfl (by omega) (by omega) ?_)
  refine sw (zi [.int .i64 ((s.qg[k]!).qA), .int .i64 ((s.qg[k]!).xZ), .slice ae18Need (((s.qg[k]!).qW).length) ce18Need, .slice ae18Have (((s.qg[k]!).xg).length) ce18Have, .slice ae18Lack (((s.qg[k]!).xk).length) ce18Lack, .slice ae18Here (((s.qg[k]!).xw).length) ce18Here, .slice ae18Out (((s.qg[k]!).zf).length) ce18Out, .slice ae18Into (((s.qg[k]!).qB).length) ce18Into, .bool ((s.qg[k]!).xP)] Tryz.isAgg110 Tryz.sizeOf110 rfl (qG (H.get 6 rfl) 0 9) ?_)
  refine sw (zL H ti110 [.int .i64 0, .int .i64 0, .slice none 0 0, .slice none 0 0, .slice none 0 0, .slice none 0 0, .slice none 0 0, .slice none 0 0, .bool false] fun b19 w20 H => ?_)
  refine sw (zn H 0 [.int .i64 ((s.qg[k]!).qA), .int .i64 ((s.qg[k]!).xZ), .slice ae18Need (((s.qg[k]!).qW).length) ce18Need, .slice ae18Have (((s.qg[k]!).xg).length) ce18Have, .slice ae18Lack (((s.qg[k]!).xk).length) ce18Lack, .slice ae18Here (((s.qg[k]!).xw).length) ce18Here, .slice ae18Out (((s.qg[k]!).zf).length) ce18Out, .slice ae18Into (((s.qg[k]!).qB).length) ce18Into, .bool ((s.qg[k]!).xP)] Tryz.sizeOf110 fun w21 H => ?_)
  try dsimp only [List.set] at H
  refine qw (t_n (qm (qy ?_)))
  refine sw (zi [.int .i64 s.qI, .slice qp s.qf.length qo, .slice (aa b15 o16) s.qg.length qC] Tryz.isAgg36 Tryz.sizeOf36 rfl (qG (H.cells 3 rfl) 0 3) ?_)
  refine sw (zi [.slice qN t.qh.length qH, .slice xG t.qx.length xy, .slice qL t.ql.length qK] Tryz.isAgg38 Tryz.sizeOf38 rfl (qG (H.cells 2 rfl) 0 3) ?_)
  refine sw (zi [.int .i64 ((s.qg[k]!).qA), .int .i64 ((s.qg[k]!).xZ), .slice ae18Need (((s.qg[k]!).qW).length) ce18Need, .slice ae18Have (((s.qg[k]!).xg).length) ce18Have, .slice ae18Lack (((s.qg[k]!).xk).length) ce18Lack, .slice ae18Here (((s.qg[k]!).xw).length) ce18Here, .slice ae18Out (((s.qg[k]!).zf).length) ce18Out, .slice ae18Into (((s.qg[k]!).qB).length) ce18Into, .bool ((s.qg[k]!).xP)] Tryz.isAgg110 Tryz.sizeOf110 rfl (qG (H.cells 0 rfl) 0 9) ?_)
  refine sw (xf #[.agg #[.int .i64 s.qI, .slice qp s.qf.length qo, .slice (aa b15 o16) s.qg.length qC], .agg #[.slice qN t.qh.length qH, .slice xG t.qx.length xy, .slice qL t.ql.length qK], .agg #[.int .i64 ((s.qg[k]!).qA), .int .i64 ((s.qg[k]!).xZ), .slice ae18Need (((s.qg[k]!).qW).length) ce18Need, .slice ae18Have (((s.qg[k]!).xg).length) ce18Have, .slice ae18Lack (((s.qg[k]!).xk).length) ce18Lack, .slice ae18Here (((s.qg[k]!).xw).length) ce18Here, .slice ae18Out (((s.qg[k]!).zf).length) ce18Out, .slice ae18Into (((s.qg[k]!).qB).length) ce18Into, .bool ((s.qg[k]!).xP)]] rfl rfl Tryz.call112 (isEnabled_ok w21 s t (s.qg[k]!) qp qo qO (aa b15 o16) qC xq qN qH xK xG xy zk qL qK xH ae18Need ce18Need Fe18Need ae18Have ce18Have Fe18Have ae18Lack ce18Lack Fe18Lack ae18Here ce18Here Fe18Here ae18Out ce18Out Fe18Out ae18Into ce18Into Fe18Into (H.get 7 rfl).1 (H.get 8 rfl).1 (H.get 9 rfl).1 (H.get 10 rfl).1 (H.get 11 rfl).1 (H.get 0 rfl).1 (H.get 1 rfl).1 (H.get 2 rfl).1 (H.get 3 rfl).1 (H.get 4 rfl).1 (H.get 5 rfl).1 (by first | assumption | omega) (by first | assumption | omega) (by first | assumption | omega)) ?_)
  rintro _ w23 rfl x24
  replace H := H.ext x24
  refine qw (t_n ?_)
  refine qV (dec (EnOk s t (s.qg[k]!))) rfl (fun h25 => ?_) (fun h25 => ?_)
  ·skip
   replace h25 := jA h25
   refine Qa rfl H [0, 2, 3] fun H => ?_
   have S := H.Qc [0, 2, 3] [0, 1, 2, 3, 4, 5, 6, 7, 8, 9, 10, 11]
   refine rt 0 (pp b19 (0 + 0)) (xE b19 (0) 0 Tryz.underlying110 rfl rfl Tryz.sizeOf2 rfl) S ?_
   refine rt 1 (.int .i64 ((s.qg[k]!).qA)) (xm Tryz.isAgg2 rfl (fun _ h => h.cell 0 rfl rfl)) S ?_
   refine rt 2 (pp b19 (0 + 0)) (xE b19 (0) 0 Tryz.underlying110 rfl rfl Tryz.sizeOf2 rfl) S ?_
   refine rt 3 (.int .i64 ((s.qg[k]!).qA)) (xm Tryz.isAgg2 rfl (fun _ h => h.cell 0 rfl rfl)) S ?_
   refine rt 4 (pp b5 (0 + ((s.qg[k]!).qA : Int).toNat * 1)) (y_idxArr b5 (0) 6 ((s.qg[k]!).qA) Tryz.underlying134 ti2 rfl rfl (by omega) (by omega)) S ?_
   refine rt 6 (pp b19 (0 + 1)) (xE b19 (0) 1 Tryz.underlying110 rfl rfl Tryz.sizeOf2 rfl) S ?_
   refine rt 7 (.int .i64 ((s.qg[k]!).xZ)) (xm Tryz.isAgg2 rfl (fun _ h => h.cell 0 rfl rfl)) S ?_
   refine xB [5] (by kernel_rfl) (by simp) (zh rfl ?_ xC)
   refine qE (.int .i64 ((bests s t (-1) 6 k)[((s.qg[k]!).qA).toNat]!)) Tryz.isAgg2 rfl (H.cell 1 rfl (ints_at (iv := (s.qg[k]!).qA) (i := (((s.qg[k]!).qA).toNat)) (by omega) (by simp only [List.length_set, List.length_cons, List.length_nil, minus_len, Xr]; omega))) ?_
   refine ⟨H.pick [0, 2, 3] [0, 1, 2, 3, 4, 5, 6, 7, 8, 9, 10, 11], ?_⟩
   have S := H.Qc [0, 2, 3] [0, 1, 2, 3, 4, 5, 6, 7, 8, 9, 10, 11]
   refine rt 8 (.int .i64 (max ((bests s t (-1) 6 k)[((s.qg[k]!).qA).toNat]!) ((s.qg[k]!).xZ))) (y_max ((bests s t (-1) 6 k)[((s.qg[k]!).qA).toNat]!) ((s.qg[k]!).xZ) rfl rfl) S ?_
   refine rt 9 (pp b5 (0 + ((s.qg[k]!).qA : Int).toNat * 1)) (y_idxArr b5 (0) 6 ((s.qg[k]!).qA) Tryz.underlying134 ti2 rfl rfl (by omega) (by omega)) S ?_
   refine xB [10] (by kernel_rfl) (by simp) (zh rfl ?_ xC)
   refine o_storeArr H 1 rfl (max ((bests s t (-1) 6 k)[((s.qg[k]!).qA).toNat]!) ((s.qg[k]!).xZ)) Tryz.sizeOf2 rfl rfl (i := (((s.qg[k]!).qA).toNat)) (by omega) (by simp only [List.length_set, List.length_cons, List.length_nil, minus_len, Xr]; omega) fun w27 H => ?_
   try dsimp only [List.set] at H
   refine ⟨H.pick [0, 2, 3] [0, 1, 2, 3, 4, 5, 6, 7, 8, 9, 10, 11], ?_⟩
   refine xO (by kernel_rfl) (b_n (t_n ?_))
   refine qy ?_
   refine sw (zJ k 1 rfl rfl (by omega) ?_)
   refine sp (.int .i64 (k + 1)) ?_
   refine qw ?_
   refine xF (m' := (s.qg.length - ((k + 1) : Int)).toNat) (by omega) ⟨_, k + 1, ((bests s t (-1) 6 k).set (((s.qg[k]!).qA).toNat) (max ((bests s t (-1) 6 k)[((s.qg[k]!).qA).toNat]!) ((s.qg[k]!).xZ))), (by exact qj (qj (qj (qj (qj (qj (rfl) rfl) rfl) rfl) rfl) rfl) rfl), ?_, ?_, rfl, N, H.pick [1, 2, 3] [7, 8, 9, 10, 11]⟩
   · first | exact bests_set ‹_› (by omega) | exact bests_skip ‹_›
   · omega
  replace h25 := zg h25
  refine xh (b_n (t_n (qy ?_)))
  refine sw (zJ k 1 rfl rfl (by omega) ?_)
  refine sp (.int .i64 (k + 1)) ?_
  refine qw ?_
  refine xF (m' := (s.qg.length - ((k + 1) : Int)).toNat) (by omega) ⟨_, k + 1, (bests s t (-1) 6 k), (by exact qj (qj (qj (qj (qj (qj (rfl) rfl) rfl) rfl) rfl) rfl) rfl), ?_, ?_, rfl, N, H.pick [1, 2, 3] [7, 8, 9, 10, 11]⟩
  · first | exact bests_set ‹_› (by omega) | exact bests_skip ‹_›
  · omega
 replace h14 := of_decide_eq_false h14
 refine zy (t_x (t_x (b_x (t_n (qm (qy ?_))))))
 refine sw (QW H Tryz.underlying22 ti2 fun b28 w29 H => ?_)
 refine sp (.slice (aa b28 0) 0 0) ?_
 refine qw (t_n (qm (qm (qy ?_))))
 refine sw (qM b1 (0) 2 Tryz.underlying36 rfl rfl Tryz.sizeOf34 rfl ?_)
 refine sw (qE (.slice qF s.qg.length qC) Tryz.isAgg34 rfl (H.cell 3 rfl rfl) ?_)
 refine sw (zD Tryz.underlying34 qF s.qg.length qC rfl ?_)
 refine sp (.int .i64 0) ?_
 refine qw (t_n (xu ?_))
 replace H := H.boxRowI 0 [] 0
 try dsimp only [List.set] at H
 refine zG (fun m' ρ w30 => ∃ (junk : Env) (yH : Option Addr) (vZ : Nat) (yt : Nat) (out : List Int) (i : Nat), ρ = upd (upd (upd (upd (upd (upd (upd junk 2 (pp b1 0)) 3 (pp b3 0)) 5 (pp b5 0)) 9 (.slice yH vZ yt)) 43 (.slice qF s.qg.length qC)) 44 (.int .i64 s.qg.length)) 45 (.int .i64 i) ∧ out = XI s t i ∧ ((i : Int) ≤ s.qg.length) ∧ m' = (s.qg.length - (i : Int)).toNat ∧ Fresh w.heap.size [] ∧ St w w30 [.row (.slice yH vZ yt) 2 1 vZ (out.map (Value.int .i64)), .box b5 ((bests s t (-1) 6 k).map (Value.int .i64)) 134, .box b3 [.slice qN t.qh.length qH, .slice xG t.qx.length xy, .slice qL t.ql.length qK] 38, .box b1 [.int .i64 s.qI, .slice qp s.qf.length qo, .slice qF s.qg.length qC] 36] [isF false qO (.slice qp s.qf.length qo) s.qf, isF false xq (.slice qF s.qg.length qC) s.qg, isF false xK (.slice qN t.qh.length qH) t.qh, isF false zk (.slice xG t.qx.length xy) t.qx, isF false xH (.slice qL t.ql.length qK) t.ql]) ((s.qg.length - (0 : Int)).toNat) ⟨_, (aa b28 0), 0, 0, ([] : List Int), 0, (by exact qj (qj (qj (qj (qj (qj (qj (rfl) rfl) rfl) rfl) rfl) rfl) rfl) rfl), (by rfl), (by omega), rfl, N, H⟩ ?_
 clear H N
 rintro m' ρ w31 ⟨junk, yH, vZ, yt, out, i, rfl, rfl, i0, rfl, N, H⟩
 have hn_out := H.VB 0 rfl
 have ll := applL_le s t i
 refine qm (qy ?_)
 refine sp (.bool (decide ((i : Int) < s.qg.length))) ?_
 refine qw (t_n (qm ?_))
 refine qV (decide ((i : Int) < s.qg.length)) rfl (fun h32 => ?_) (fun h32 => ?_)
 ·skip
  replace h32 := of_decide_eq_true h32
  have q := p0.rule (i := i) (by omega)
  have qc := q.1
  have qk := q.cell
  have qr := q.2.1
  have q6 : (s.qg[i]!).qA.toNat < 6 := by omega
  refine xh (t_n (qm (xu (qm (qy ?_)))))
  refine sp (.int .i64 i) ?_
  obtain ⟨b33, o34, rfl⟩ := H.addr 1 rfl (by omega)
  obtain ⟨ae36Need, ce36Need, Fe36Need, ae36Have, ce36Have, Fe36Have, ae36Lack, ce36Lack, Fe36Lack, ae36Here, ce36Here, Fe36Here, ae36Out, ce36Out, Fe36Out, ae36Into, ce36Into, Fe36Into, H⟩ := H.yE 1 rfl i i (by omega) (by omega) (by omega)
  refine sw (xJ i Tryz.underlying34 ti110 rfl rfl (by omega) (by omega) ?_)
  refine sw (zi [.int .i64 ((s.qg[i]!).qA), .int .i64 ((s.qg[i]!).xZ), .slice ae36Need (((s.qg[i]!).qW).length) ce36Need, .slice ae36Have (((s.qg[i]!).xg).length) ce36Have, .slice ae36Lack (((s.qg[i]!).xk).length) ce36Lack, .slice ae36Here (((s.qg[i]!).xw).length) ce36Here, .slice ae36Out (((s.qg[i]!).zf).length) ce36Out, .slice ae36Into (((s.qg[i]!).qB).length) ce36Into, .bool ((s.qg[i]!).xP)] Tryz.isAgg110 Tryz.sizeOf110 rfl (qG (H.get 6 rfl) 0 9) ?_)
  refine sw (zL H ti110 [.int .i64 0, .int .i64 0, .slice none 0 0, .slice none 0 0, .slice none 0 0, .slice none 0 0, .slice none 0 0, .slice none 0 0, .bool false] fun b37 w38 H => ?_)
  refine sp (.int .i64 i) ?_
  refine sw (zn H 0 [.int .i64 ((s.qg[i]!).qA), .int .i64 ((s.qg[i]!).xZ), .slice ae36Need (((s.qg[i]!).qW).length) ce36Need, .slice ae36Have (((s.qg[i]!).xg).length) ce36Have, .slice ae36Lack (((s.qg[i]!).xk).length) ce36Lack, .slice ae36Here (((s.qg[i]!).xw).length) ce36Here, .slice ae36Out (((s.qg[i]!).zf).length) ce36Out, .slice ae36Into (((s.qg[i]!).qB).length) ce36Into, .bool ((s.qg[i]!).xP)] Tryz.sizeOf110 fun w39 H => ?_)
  try dsimp only [List.set] at H
  refine qw (t_n (qm ?_))
  refine jk rfl H fun H => ?_
  refine rt 0 (pp b37 (0 + 1)) (xE b37 (0) 1 Tryz.underlying110 rfl rfl Tryz.sizeOf2 rfl) H ?_
  refine rt 1 (.int .i64 ((s.qg[i]!).xZ)) (xm Tryz.isAgg2 rfl (fun _ h => h.cell 0 rfl rfl)) H ?_
  refine rt 2 (pp b37 (0 + 0)) (xE b37 (0) 0 Tryz.underlying110 rfl rfl Tryz.sizeOf2 rfl) H ?_
  refine rt 3 (.int .i64 ((s.qg[i]!).qA)) (xm Tryz.isAgg2 rfl (fun _ h => h.cell 0 rfl rfl)) H ?_
  refine rt 4 (pp b5 (0 + ((s.qg[i]!).qA : Int).toNat * 1)) (y_idxArr b5 (0) 6 ((s.qg[i]!).qA) Tryz.underlying134 ti2 rfl rfl (by omega) (by omega)) H ?_
  refine rt 5 (.int .i64 ((bests s t (-1) 6 k)[((s.qg[i]!).qA).toNat]!)) (xm Tryz.isAgg2 rfl (fun _ h => h.cell 2 rfl (ints_at (iv := (s.qg[i]!).qA) (i := (((s.qg[i]!).qA).toNat)) (by omega) (by simp only [List.length_set, List.length_cons, List.length_nil, minus_len, Xr]; omega)))) H ?_
  refine rtp 6 (.bool (((s.qg[i]!).xZ : Int) == ((bests s t (-1) 6 k)[((s.qg[i]!).qA).toNat]!))) H ?_
  refine rtp 7 (.bool (((s.qg[i]!).xZ : Int) == ((bests s t (-1) 6 k)[((s.qg[i]!).qA).toNat]!))) H ?_
  cases h41 : (((s.qg[i]!).xZ : Int) == ((bests s t (-1) 6 k)[((s.qg[i]!).qA).toNat]!))
  ·skip
   replace h41 := ne_of_beq_false h41
   refine zC [8, 9, 10, 11] 4 (H) ?_
   refine rtp 12 (.bool false) H ?_
   refine xO (by kernel_rfl) (t_n ?_)
   refine qV false rfl (fun h => absurd h (by decide)) (fun _ => ?_)
   refine xh (b_n (t_n (qy ?_)))
   refine sw (zJ i 1 rfl rfl (by omega) ?_)
   refine sp (.int .i64 (i + 1)) ?_
   refine qw ?_
   refine xF (m' := (s.qg.length - ((i + 1) : Int)).toNat) (by omega) ⟨_, yH, vZ, yt, (XI s t i), i + 1, (by exact qj (qj (qj (qj (qj (qj (qj (rfl) rfl) rfl) rfl) rfl) rfl) rfl) rfl), ?_, ?_, rfl, N, H.pick [1, 2, 3, 4] [7, 8, 9, 10, 11]⟩
   · first | exact applL_yes (appl_yes (n := 6) (z := -1) (k := k) (by omega) (by omega) (by omega) q6 ‹_› ‹_›) | exact applL_no (appl_no (n := 6) (z := -1) (k := k) (by omega) (by omega) (by omega) q6 ‹_›) | exact applL_no (fun h => ‹¬ EnOk _ _ _› h.1)
   · omega
  replace h41 := eq_of_beq h41
  refine rg 8 (.agg #[.int .i64 s.qI, .slice qp s.qf.length qo, .slice (aa b33 o34) s.qg.length qC]) 57 (Qx (cs := [.int .i64 s.qI, .slice qp s.qf.length qo, .slice (aa b33 o34) s.qg.length qC]) Tryz.isAgg36 Tryz.sizeOf36 rfl (fun _ h => qG (h.cells 4 rfl) 0 3)) H ?_
  refine rg 9 (.agg #[.slice qN t.qh.length qH, .slice xG t.qx.length xy, .slice qL t.ql.length qK]) 57 (Qx (cs := [.slice qN t.qh.length qH, .slice xG t.qx.length xy, .slice qL t.ql.length qK]) Tryz.isAgg38 Tryz.sizeOf38 rfl (fun _ h => qG (h.cells 3 rfl) 0 3)) H ?_
  refine rg 10 (.agg #[.int .i64 ((s.qg[i]!).qA), .int .i64 ((s.qg[i]!).xZ), .slice ae36Need (((s.qg[i]!).qW).length) ce36Need, .slice ae36Have (((s.qg[i]!).xg).length) ce36Have, .slice ae36Lack (((s.qg[i]!).xk).length) ce36Lack, .slice ae36Here (((s.qg[i]!).xw).length) ce36Here, .slice ae36Out (((s.qg[i]!).zf).length) ce36Out, .slice ae36Into (((s.qg[i]!).qB).length) ce36Into, .bool ((s.qg[i]!).xP)]) 57 (Qx (cs := [.int .i64 ((s.qg[i]!).qA), .int .i64 ((s.qg[i]!).xZ), .slice ae36Need (((s.qg[i]!).qW).length) ce36Need, .slice ae36Have (((s.qg[i]!).xg).length) ce36Have, .slice ae36Lack (((s.qg[i]!).xk).length) ce36Lack, .slice ae36Here (((s.qg[i]!).xw).length) ce36Here, .slice ae36Out (((s.qg[i]!).zf).length) ce36Out, .slice ae36Into (((s.qg[i]!).qB).length) ce36Into, .bool ((s.qg[i]!).xP)]) Tryz.isAgg110 Tryz.sizeOf110 rfl (fun _ h => qG (h.cells 0 rfl) 0 9)) H ?_
  refine xB [11] (by kernel_rfl) (by simp) (r_opG rfl (e := 57) rfl rfl ?_ xC)
  refine xf #[.agg #[.int .i64 s.qI, .slice qp s.qf.length qo, .slice (aa b33 o34) s.qg.length qC], .agg #[.slice qN t.qh.length qH, .slice xG t.qx.length xy, .slice qL t.ql.length qK], .agg #[.int .i64 ((s.qg[i]!).qA), .int .i64 ((s.qg[i]!).xZ), .slice ae36Need (((s.qg[i]!).qW).length) ce36Need, .slice ae36Have (((s.qg[i]!).xg).length) ce36Have, .slice ae36Lack (((s.qg[i]!).xk).length) ce36Lack, .slice ae36Here (((s.qg[i]!).xw).length) ce36Here, .slice ae36Out (((s.qg[i]!).zf).length) ce36Out, .slice ae36Into (((s.qg[i]!).qB).length) ce36Into, .bool ((s.qg[i]!).xP)]] rfl rfl Tryz.call112 (isEnabled_ok w39.drew s t (s.qg[i]!) qp qo qO (aa b33 o34) qC xq qN qH xK xG xy zk qL qK xH ae36Need ce36Need Fe36Need ae36Have ce36Have Fe36Have ae36Lack ce36Lack Fe36Lack ae36Here ce36Here Fe36Here ae36Out ce36Out Fe36Out ae36Into ce36Into Fe36Into (H.get 7 rfl).1 (H.get 8 rfl).1 (H.get 9 rfl).1 (H.get 10 rfl).1 (H.get 11 rfl).1 (H.get 0 rfl).1 (H.get 1 rfl).1 (H.get 2 rfl).1 (H.get 3 rfl).1 (H.get 4 rfl).1 (H.get 5 rfl).1 (by first | assumption | omega) (by first | assumption | omega) (by first | assumption | omega)) ?_
  rintro _ w43 rfl x44
  replace H := H.ext x44
  refine ⟨H, ?_⟩
  refine rtp 12 (.bool (dec (EnOk s t (s.qg[i]!)))) H ?_
  refine xO (by kernel_rfl) (t_n ?_)
  refine qV (dec (EnOk s t (s.qg[i]!))) rfl (fun h45 => ?_) (fun h45 => ?_)
  ·skip
   replace h45 := jA h45
   refine qy ?_
   refine sps [.slice yH vZ yt, .int .i64 i] ?_
   refine sw (Qq H Tryz.underlying22 ti2 [.int .i64 i] fun b46 w47 H => ?_)
   refine sw (Qr H 2 rfl 0 rfl Tryz.underlying22 ti2 rfl (by decide) rfl rfl rfl (by simp [Value.oneCell', Value.cells]) (by unfold maxLen; omega) (by omega) fun a48 c49 w50 H => ?_)
   rw [snocI] at H
   try dsimp only [List.set] at H
   refine sp (.slice a48 (vZ + 1) c49) ?_
   refine qw (b_n (t_n (qy ?_)))
   refine sw (zJ i 1 rfl rfl (by omega) ?_)
   refine sp (.int .i64 (i + 1)) ?_
   refine qw ?_
   refine xF (m' := (s.qg.length - ((i + 1) : Int)).toNat) (by omega) ⟨_, a48, vZ + 1, c49, ((XI s t i) ++ [(i : Int)]), i + 1, (by exact qj (qj (qj (qj (qj (qj (qj (rfl) rfl) rfl) rfl) rfl) rfl) rfl) rfl), ?_, ?_, rfl, N, H.pick [2, 3, 4, 5] [7, 8, 9, 10, 11]⟩
   · first | exact applL_yes (appl_yes (n := 6) (z := -1) (k := k) (by omega) (by omega) (by omega) q6 ‹_› ‹_›) | exact applL_no (appl_no (n := 6) (z := -1) (k := k) (by omega) (by omega) (by omega) q6 ‹_›) | exact applL_no (fun h => ‹¬ EnOk _ _ _› h.1)
   · omega
  replace h45 := zg h45
  refine xh (b_n (t_n (qy ?_)))
  refine sw (zJ i 1 rfl rfl (by omega) ?_)
  refine sp (.int .i64 (i + 1)) ?_
  refine qw ?_
  refine xF (m' := (s.qg.length - ((i + 1) : Int)).toNat) (by omega) ⟨_, yH, vZ, yt, (XI s t i), i + 1, (by exact qj (qj (qj (qj (qj (qj (qj (rfl) rfl) rfl) rfl) rfl) rfl) rfl) rfl), ?_, ?_, rfl, N, H.pick [1, 2, 3, 4] [7, 8, 9, 10, 11]⟩
  · first | exact applL_yes (appl_yes (n := 6) (z := -1) (k := k) (by omega) (by omega) (by omega) q6 ‹_› ‹_›) | exact applL_no (appl_no (n := 6) (z := -1) (k := k) (by omega) (by omega) (by omega) q6 ‹_›) | exact applL_no (fun h => ‹¬ EnOk _ _ _› h.1)
  · omega
 replace h32 := of_decide_eq_false h32
 refine zy (t_x (t_x (b_x (t_n (qm (qy ?_))))))
 refine sps [.slice yH vZ yt, .slice yH vZ yt] ?_
 refine qw (t_n (xx ?_))
 refine ret1 (.slice yH vZ yt) rfl rfl ⟨_, rfl, ?_, H.base⟩
 obtain rfl : i = s.qg.length := by omega
 exact ⟨yH, vZ, yt, rfl, N, H.pick [0] []⟩

end Go.Proofs.YtkmlihdacnfhdaaGreat
