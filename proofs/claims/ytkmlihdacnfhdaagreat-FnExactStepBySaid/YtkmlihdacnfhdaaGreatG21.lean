/- Walks, printed by program (wip/tools/gv.py): what each function comes to, for all arguments. -/
import Derived.Test.YtkmlihdacnfhdaaGreatG20
namespace Go.Proofs.YtkmlihdacnfhdaaGreat
open Go.Proofs.YtkmlihdacnfhdaaGreat.Tot (tot)
open Go.Proofs.YtkmlihdacnfhdaaGreat.Mark (cnt mrk mkd mkd_mark cnt_mark)
open Go.RowKit
set_option linter.unusedVariables false
set_option linter.unusedSimpArgs false
set_option maxRecDepth 100000
set_option maxHeartbeats 4000000



theorem law_StepBy (w : World) (aS : qY) (aT : qU) (aN : List Int) (zC : Option Addr) (zB : Nat) (jR : List Nat) (vT : Option Addr) (vS : Nat) (QC : List Nat) (vJ : Option Addr) (vH : Nat) (Ql : List Nat) (jo : Option Addr) (jm : Nat) (QS : List Nat) (zL : Option Addr) (zK : Nat) (yh : List Nat) (aaN : Option Addr) (caN : Nat) (FaN : List Nat) (haSParents : qQ.rep w jR [.slice zC aS.qf.length zB] aS.qf) (haSRules : qQ.rep w QC [.slice vT aS.qg.length vS] aS.qg) (haTAlive : qQ.rep w Ql [.slice vJ aT.qh.length vH] aT.qh) (haTBags : qQ.rep w QS [.slice jo aT.qo.length jm] aT.qo) (haTAround : qQ.rep w yh [.slice zL aT.ql.length zK] aT.ql) (haN : qQ.rep w FaN [.slice aaN aN.length caN] aN) : Calls Tryz.prog 5 #[.agg #[.int .i64 aS.qH, .slice zC aS.qf.length zB, .slice vT aS.qg.length vS], .agg #[.slice vJ aT.qh.length vH, .slice jo aT.qo.length jm, .slice zL aT.ql.length zK], .slice aaN aN.length caN] w (Ret (fun v w' => v = .bool true) w) := by
 refine enter (n := 140) Tryz.func5 rfl Tryz.ntmps5 (Nat.le_of_ble_eq_true rfl) ?_
 have H := ((((((St.start w).arg haN).arg haTAround).arg haTBags).arg haTAlive).arg haSRules).arg haSParents
 have nhaSParents := qM haSParents
 have nhaSRules := qM haSRules
 have nhaTAlive := qM haTAlive
 have nhaTBags := qM haTBags
 have nhaTAround := qM haTAround
 have nhaN := qM haN
 clear haSParents haSRules haTAlive haTBags haTAround haN
 have N := Fresh.nil w.heap.size
 have A := H.ltN (L := [jR, QC, Ql, QS, yh, FaN]) [0, 1, 2, 3, 4, 5]
 have t1 := tot_SystemD aS
 have t2 := tot_StateD aT
 have c0 := Xk aS.qf
 have c1 := Xk aS.qg
 have c2 := Xk aT.qh
 have c3 := Xk aT.qo
 have c4 := Xk aT.ql
 have t3 := tot_ints aN
 have c9 := Xk aN
 obtain ⟨f1, f2, f3⟩ := few_by aS aT aN
 refine qm (qA ?_)
 refine sw (yG H [.int .i64 aS.qH, .slice zC aS.qf.length zB, .slice vT aS.qg.length vS] fun b1 w2 H => ?_)
 refine sw (yG H [.slice vJ aT.qh.length vH, .slice jo aT.qo.length jm, .slice zL aT.ql.length zK] fun b3 w4 H => ?_)
 refine sp (.bool false) ?_
 refine qx (t_n (qm (qm (qA ?_))))
 refine sp (.slice aaN aN.length caN) ?_
 refine sw (zZ Tryz.underlying22 aaN aN.length caN rfl ?_)
 refine sp (.bool (decide ((aN.length : Int) > 1048576))) ?_
 refine qx (t_n ?_)
 refine qW (decide ((aN.length : Int) > 1048576)) rfl (fun h5 => ?_) (fun h5 => ?_)
 ·skip
  replace h5 := of_decide_eq_true h5
  refine qm (qA ?_)
  refine sp (.bool true) ?_
  refine qx (t_n (xB (t_r ?_)))
  refine ret1 (.bool true) rfl rfl ⟨_, rfl, ?_, H.base⟩
  rfl
 replace h5 := of_decide_eq_false h5
 refine xu (t_n (qm (qA ?_)))
 refine sp (.int .i64 1048576) ?_
 refine qx (t_n (qm (qA ?_)))
 refine sw (zl [.int .i64 aS.qH, .slice zC aS.qf.length zB, .slice vT aS.qg.length vS] Tryz.isAgg25 Tryz.sizeOf25 rfl (qI (H.cells 1 rfl) 0 3) ?_)
 refine sp (.int .i64 1048576) ?_
 refine sw (xe #[.agg #[.int .i64 aS.qH, .slice zC aS.qf.length zB, .slice vT aS.qg.length vS], .int .i64 1048576] rfl rfl Tryz.call8 (szSystem_ok w4 aS 1048576 zC zB jR vT vS QC (H.get 0 rfl).1 (H.get 1 rfl).1 (by omega)) ?_)
 rintro _ w6 rfl x7
 replace H := H.ext x7
 have := zq (tot aS) 1048576
 refine sp (.int .i64 (szR (tot aS) 1048576)) ?_
 refine qx (t_n (qm (qm (qA ?_))))
 refine sps [.int .i64 (szR (tot aS) 1048576), .bool (decide ((szR (tot aS) 1048576 : Int) < 0))] ?_
 refine qx (t_n ?_)
 refine qW (decide ((szR (tot aS) 1048576 : Int) < 0)) rfl (fun h8 => ?_) (fun h8 => ?_)
 ·skip
  replace h8 := of_decide_eq_true h8
  refine qm (qA ?_)
  refine sp (.bool true) ?_
  refine qx (t_n (xB (t_r ?_)))
  refine ret1 (.bool true) rfl rfl ⟨_, rfl, ?_, H.base⟩
  rfl
 replace h8 := of_decide_eq_false h8
 refine xu (t_n (qm (qA ?_)))
 refine sw (zl [.slice vJ aT.qh.length vH, .slice jo aT.qo.length jm, .slice zL aT.ql.length zK] Tryz.isAgg29 Tryz.sizeOf29 rfl (qI (H.cells 0 rfl) 0 3) ?_)
 refine sp (.int .i64 (szR (tot aS) 1048576)) ?_
 refine sw (xe #[.agg #[.slice vJ aT.qh.length vH, .slice jo aT.qo.length jm, .slice zL aT.ql.length zK], .int .i64 (szR (tot aS) 1048576)] rfl rfl Tryz.call9 (szState_ok w6 aT (szR (tot aS) 1048576) vJ vH Ql jo jm QS zL zK yh (H.get 2 rfl).1 (H.get 3 rfl).1 (H.get 4 rfl).1 (by omega)) ?_)
 rintro _ w9 rfl x10
 replace H := H.ext x10
 have := zq (tot aT) (szR (tot aS) 1048576)
 refine sp (.int .i64 (szR (tot aT) (szR (tot aS) 1048576))) ?_
 refine qx (t_n (qm (qm (qA ?_))))
 refine sps [.int .i64 (szR (tot aT) (szR (tot aS) 1048576)), .bool (decide ((szR (tot aT) (szR (tot aS) 1048576) : Int) < 0))] ?_
 refine qx (t_n ?_)
 refine qW (decide ((szR (tot aT) (szR (tot aS) 1048576) : Int) < 0)) rfl (fun h11 => ?_) (fun h11 => ?_)
 ·skip
  replace h11 := of_decide_eq_true h11
  refine qm (qA ?_)
  refine sp (.bool true) ?_
  refine qx (t_n (xB (t_r ?_)))
  refine ret1 (.bool true) rfl rfl ⟨_, rfl, ?_, H.base⟩
  rfl
 replace h11 := of_decide_eq_false h11
 refine xu (t_n (qm ?_))
 refine c_cut (fun ρ w12 => ∃ (junk : Env) (b13 : Nat) (ra14 : Option Addr) (rc15 : Nat) (ra16 : Option Addr) (rc17 : Nat) (ra18 : Option Addr) (rc19 : Nat) (rx20 : List Value) (rF21 : List Nat), ρ = upd (upd (upd (upd (upd junk 2 (.slice aaN aN.length caN)) 3 (pp b1 0)) 4 (pp b3 0)) 8 (pp b13 0)) 9 (.int .i64 ((qF aS aT aN).2)) ∧ Fresh w.heap.size [rF21] ∧ St w w12 [.box b13 [.slice ra14 ((((qF aS aT aN).1).qh).length) rc15, .slice ra16 ((((qF aS aT aN).1).qo).length) rc17, .slice ra18 ((((qF aS aT aN).1).ql).length) rc19] 38, .row (.slice ra14 ((((qF aS aT aN).1).qh).length) rc15) 4 1 ((((qF aS aT aN).1).qh).length) ((((qF aS aT aN).1).qh).map (Value.bool)), .row (.slice ra16 ((((qF aS aT aN).1).qo).length) rc17) 22 1 ((((qF aS aT aN).1).qo).length) rx20, .row (.slice ra18 ((((qF aS aT aN).1).ql).length) rc19) 2 1 ((((qF aS aT aN).1).ql).length) ((((qF aS aT aN).1).ql).map (Value.int .i64)), .box b3 [.slice vJ aT.qh.length vH, .slice jo aT.qo.length jm, .slice zL aT.ql.length zK] 29, .box b1 [.int .i64 aS.qH, .slice zC aS.qf.length zB, .slice vT aS.qg.length vS] 25] [jk true rF21 rx20 (((qF aS aT aN).1).qo), isF false jR (.slice zC aS.qf.length zB) aS.qf, isF false QC (.slice vT aS.qg.length vS) aS.qg, isF false Ql (.slice vJ aT.qh.length vH) aT.qh, isF false QS (.slice jo aT.qo.length jm) aT.qo, isF false yh (.slice zL aT.ql.length zK) aT.ql, isF false FaN (.slice aaN aN.length caN) aN]) ?_ ?_
 ·skip
  refine yA rfl H fun H => ?_
  refine rt 0 (.agg #[.int .i64 aS.qH, .slice zC aS.qf.length zB, .slice vT aS.qg.length vS]) (Qm (cs := [.int .i64 aS.qH, .slice zC aS.qf.length zB, .slice vT aS.qg.length vS]) Tryz.isAgg25 Tryz.sizeOf25 rfl (fun _ h => qI (h.cells 1 rfl) 0 3)) H ?_
  refine rt 2 (.agg #[.slice vJ aT.qh.length vH, .slice jo aT.qo.length jm, .slice zL aT.ql.length zK]) (Qm (cs := [.slice vJ aT.qh.length vH, .slice jo aT.qo.length jm, .slice zL aT.ql.length zK]) Tryz.isAgg29 Tryz.sizeOf29 rfl (fun _ h => qI (h.cells 0 rfl) 0 3)) H ?_
  refine rtp 4 (.slice aaN aN.length caN) H ?_
  refine xn [1, 10] (by kernel_rfl) (by simp) (xX rfl ?_ (xX rfl ?_ xq))
  ·skip
   have sz23 := H.base.size
   refine xe #[.agg #[.int .i64 aS.qH, .slice zC aS.qf.length zB, .slice vT aS.qg.length vS]] rfl rfl Tryz.call11 (toSystem_ok w9.drew aS zC zB jR vT vS QC (H.get 0 rfl).1 (H.get 1 rfl).1 (by first | assumption | omega)) ?_
   rintro v28 w26 r28 x27
   obtain ⟨Vb, X9, QF, a28Rules, c28Rules, XC, rfl, f28, H⟩ := H.add_SystemD x27 r28
   replace N := N.cons f28 sz23 (by intro F hF; simp at hF)
   replace N := N.split
   refine ⟨H.pick [0, 1] [2, 3, 4, 5, 6, 7], ?_⟩
   refine xn [3, 10] (by kernel_rfl) (by simp) (xX rfl ?_ (xX rfl ?_ xq))
   ·skip
    have sz29 := H.base.size
    have lt30 := H.ltN (L := [QF, XC]) [0, 1]
    refine xe #[.agg #[.slice vJ aT.qh.length vH, .slice jo aT.qo.length jm, .slice zL aT.ql.length zK]] rfl rfl Tryz.call12 (X4 w26 aT vJ vH Ql jo jm QS zL zK yh (H.get 4 rfl).1 (H.get 5 rfl).1 (H.get 6 rfl).1 (by first | assumption | omega)) ?_
    rintro v34 w32 r34 x33
    obtain ⟨a34Alive, c34Alive, F34Alive, a34Bags, c34Bags, F34Bags, a34Around, c34Around, F34Around, rfl, f34, H⟩ := H.Va x33 r34
    replace N := N.cons f34 sz29 lt30
    replace N := N.split
    replace N := N.split
    refine ⟨H.pick [0, 1] [5, 6, 7, 8, 9, 10], ?_⟩
    refine xn [5, 10] (by kernel_rfl) (by simp) (xX rfl ?_ (xX rfl ?_ xq))
    ·skip
     have sz35 := H.base.size
     have lt36 := H.ltN (L := [F34Alive, F34Bags, F34Around, QF, XC]) [0, 1, 2, 3, 4]
     refine xe #[.slice aaN aN.length caN] rfl rfl Tryz.call25 (jv w32 aN aaN caN FaN (H.get 10 rfl).1 (by first | omega | (have := p2 (by omega); omega))) ?_
     rintro v40 w38 r40 x39
     replace H := H.zf x39 r40
     obtain ⟨a41, c42, rfl, hc43, hm44⟩ := H.jd 0 rfl
     refine ⟨H.pick [1, 2] [5, 6, 7, 8, 9, 10], ?_⟩
     refine xn [6, 10] (by kernel_rfl) (by simp) (xX rfl ?_ (xX rfl ?_ xq))
     ·skip
      obtain ⟨G45, hn46, h47⟩ := H.Xd 0 rfl
      have sz51 := H.base.size
      have lt52 := H.ltN (L := [F34Alive, F34Bags, F34Around, QF, XC]) [0, 1, 2, 3, 4]
      refine xe #[.agg #[.int .i64 aS.qH, .slice Vb aS.qf.length X9, .slice a28Rules aS.qg.length c28Rules], .agg #[.slice a34Alive aT.qh.length c34Alive, .slice a34Bags aT.qo.length c34Bags, .slice a34Around aT.ql.length c34Around], .slice a41 aN.length c42] rfl rfl Tryz.call24 (specBy_ok w38 aS aT aN Vb X9 QF a28Rules c28Rules XC a34Alive c34Alive F34Alive a34Bags c34Bags F34Bags a34Around c34Around F34Around a41 c42 G45 (H.get 3 rfl).1 (H.get 4 rfl).1 (H.get 0 rfl).1 (H.get 1 rfl).1 (H.get 2 rfl).1 h47) ?_
      rintro _ w49 ⟨ra48aAlive, rn48aAlive, rc48aAlive, ra48aBags, rn48aBags, rc48aBags, rx48aBags, rF48aBags, ra48aAround, rn48aAround, rc48aAround, rfl, M, K⟩ _
      replace N := N.merge sz51 lt52 M
      replace H := H.merge K M
      dsimp only [List.cons_append, List.nil_append] at H
      obtain rfl := H.QQ 0 rfl
      obtain rfl := H.zu (α := List Int) 1 rfl 0 rfl (by decide)
      obtain rfl := H.Xb 2 rfl
      refine ⟨H.pick [4, 5] [6, 7, 8, 9, 10, 11], ?_⟩
      have S := H.yw [4, 5] [6, 7, 8, 9, 10, 11]
      refine rtp 7 (.tuple #[.agg #[.slice ra48aAlive ((((qF aS aT aN).1).qh).length) rc48aAlive, .slice ra48aBags ((((qF aS aT aN).1).qo).length) rc48aBags, .slice ra48aAround ((((qF aS aT aN).1).ql).length) rc48aAround], .int .i64 ((qF aS aT aN).2)]) S ?_
      refine rtp 8 (.agg #[.slice ra48aAlive ((((qF aS aT aN).1).qh).length) rc48aAlive, .slice ra48aBags ((((qF aS aT aN).1).qo).length) rc48aBags, .slice ra48aAround ((((qF aS aT aN).1).ql).length) rc48aAround]) S ?_
      refine rtp 9 (.int .i64 ((qF aS aT aN).2)) S ?_
      refine xn [10] (by kernel_rfl) (by simp) (xX rfl ?_ xq)
      refine zn H ti38 [.slice none 0 0, .slice none 0 0, .slice none 0 0] fun b56 w57 H => ?_
      refine ⟨H.pick [5, 6] [6, 7, 8, 9, 10, 11], ?_⟩
      refine xn [11] (by kernel_rfl) (by simp) (xX rfl ?_ xq)
      refine xU H 0 [.slice ra48aAlive ((((qF aS aT aN).1).qh).length) rc48aAlive, .slice ra48aBags ((((qF aS aT aN).1).qo).length) rc48aBags, .slice ra48aAround ((((qF aS aT aN).1).ql).length) rc48aAround] Tryz.sizeOf38 fun w58 H => ?_
      try dsimp only [List.set] at H
      refine ⟨H.pick [5, 6] [6, 7, 8, 9, 10, 11], ?_⟩
      refine rtp 12 (.int .i64 ((qF aS aT aN).2)) (H.pick [5, 6] [6, 7, 8, 9, 10, 11]) ?_
      refine xN (by kernel_rfl) (?_)
      exact meet ⟨_, b56, ra48aAlive, rc48aAlive, ra48aBags, rc48aBags, ra48aAround, rc48aAround, rx48aBags, rF48aBags, (by exact qj (qj (qj (qj (qj (rfl) rfl) rfl) rfl) rfl) rfl), (N.pick [0]), H.pick [0, 1, 2, 3, 5, 6] [0, 6, 7, 8, 9, 10, 11]⟩
     refine zn H ti38 [.slice none 0 0, .slice none 0 0, .slice none 0 0] fun b59 w60 H => ?_
     refine ⟨H.pick [2, 3] [5, 6, 7, 8, 9, 10], ?_⟩
     refine xn [6] (by kernel_rfl) (by simp) (xX rfl ?_ xq)
     obtain ⟨G61, hn62, h63⟩ := H.Xd 1 rfl
     have sz67 := H.base.size
     have lt68 := H.ltN (L := [F34Alive, F34Bags, F34Around, QF, XC]) [0, 1, 2, 3, 4]
     refine xe #[.agg #[.int .i64 aS.qH, .slice Vb aS.qf.length X9, .slice a28Rules aS.qg.length c28Rules], .agg #[.slice a34Alive aT.qh.length c34Alive, .slice a34Bags aT.qo.length c34Bags, .slice a34Around aT.ql.length c34Around], .slice a41 aN.length c42] rfl rfl Tryz.call24 (specBy_ok w60 aS aT aN Vb X9 QF a28Rules c28Rules XC a34Alive c34Alive F34Alive a34Bags c34Bags F34Bags a34Around c34Around F34Around a41 c42 G61 (H.get 3 rfl).1 (H.get 4 rfl).1 (H.get 0 rfl).1 (H.get 1 rfl).1 (H.get 2 rfl).1 h63) ?_
     rintro _ w65 ⟨ra64aAlive, rn64aAlive, rc64aAlive, ra64aBags, rn64aBags, rc64aBags, rx64aBags, rF64aBags, ra64aAround, rn64aAround, rc64aAround, rfl, M, K⟩ _
     replace N := N.merge sz67 lt68 M
     replace H := H.merge K M
     dsimp only [List.cons_append, List.nil_append] at H
     obtain rfl := H.QQ 0 rfl
     obtain rfl := H.zu (α := List Int) 1 rfl 0 rfl (by decide)
     obtain rfl := H.Xb 2 rfl
     refine ⟨H.pick [5, 6] [6, 7, 8, 9, 10, 11], ?_⟩
     have S := H.yw [5, 6] [6, 7, 8, 9, 10, 11]
     refine rtp 7 (.tuple #[.agg #[.slice ra64aAlive ((((qF aS aT aN).1).qh).length) rc64aAlive, .slice ra64aBags ((((qF aS aT aN).1).qo).length) rc64aBags, .slice ra64aAround ((((qF aS aT aN).1).ql).length) rc64aAround], .int .i64 ((qF aS aT aN).2)]) S ?_
     refine rtp 8 (.agg #[.slice ra64aAlive ((((qF aS aT aN).1).qh).length) rc64aAlive, .slice ra64aBags ((((qF aS aT aN).1).qo).length) rc64aBags, .slice ra64aAround ((((qF aS aT aN).1).ql).length) rc64aAround]) S ?_
     refine rtp 9 (.int .i64 ((qF aS aT aN).2)) S ?_
     refine xn [11] (by kernel_rfl) (by simp) (xX rfl ?_ xq)
     refine xU H 3 [.slice ra64aAlive ((((qF aS aT aN).1).qh).length) rc64aAlive, .slice ra64aBags ((((qF aS aT aN).1).qo).length) rc64aBags, .slice ra64aAround ((((qF aS aT aN).1).ql).length) rc64aAround] Tryz.sizeOf38 fun w72 H => ?_
     try dsimp only [List.set] at H
     refine ⟨H.pick [5, 6] [6, 7, 8, 9, 10, 11], ?_⟩
     refine rtp 12 (.int .i64 ((qF aS aT aN).2)) (H.pick [5, 6] [6, 7, 8, 9, 10, 11]) ?_
     refine xN (by kernel_rfl) (?_)
     exact meet ⟨_, b59, ra64aAlive, rc64aAlive, ra64aBags, rc64aBags, ra64aAround, rc64aAround, rx64aBags, rF64aBags, (by exact qj (qj (qj (qj (qj (rfl) rfl) rfl) rfl) rfl) rfl), (N.pick [0]), H.pick [3, 0, 1, 2, 5, 6] [0, 6, 7, 8, 9, 10, 11]⟩
    refine zn H ti38 [.slice none 0 0, .slice none 0 0, .slice none 0 0] fun b73 w74 H => ?_
    refine ⟨H.pick [1, 2] [5, 6, 7, 8, 9, 10], ?_⟩
    refine xn [5] (by kernel_rfl) (by simp) (xX rfl ?_ xq)
    have sz75 := H.base.size
    have lt76 := H.ltN (L := [F34Alive, F34Bags, F34Around, QF, XC]) [0, 1, 2, 3, 4]
    refine xe #[.slice aaN aN.length caN] rfl rfl Tryz.call25 (jv w74 aN aaN caN FaN (H.get 10 rfl).1 (by first | omega | (have := p2 (by omega); omega))) ?_
    rintro v80 w78 r80 x79
    replace H := H.zf x79 r80
    obtain ⟨a81, c82, rfl, hc83, hm84⟩ := H.jd 0 rfl
    refine ⟨H.pick [2, 3] [5, 6, 7, 8, 9, 10], ?_⟩
    refine xn [6] (by kernel_rfl) (by simp) (xX rfl ?_ xq)
    obtain ⟨G85, hn86, h87⟩ := H.Xd 0 rfl
    have sz91 := H.base.size
    have lt92 := H.ltN (L := [F34Alive, F34Bags, F34Around, QF, XC]) [0, 1, 2, 3, 4]
    refine xe #[.agg #[.int .i64 aS.qH, .slice Vb aS.qf.length X9, .slice a28Rules aS.qg.length c28Rules], .agg #[.slice a34Alive aT.qh.length c34Alive, .slice a34Bags aT.qo.length c34Bags, .slice a34Around aT.ql.length c34Around], .slice a81 aN.length c82] rfl rfl Tryz.call24 (specBy_ok w78 aS aT aN Vb X9 QF a28Rules c28Rules XC a34Alive c34Alive F34Alive a34Bags c34Bags F34Bags a34Around c34Around F34Around a81 c82 G85 (H.get 3 rfl).1 (H.get 4 rfl).1 (H.get 0 rfl).1 (H.get 1 rfl).1 (H.get 2 rfl).1 h87) ?_
    rintro _ w89 ⟨ra88aAlive, rn88aAlive, rc88aAlive, ra88aBags, rn88aBags, rc88aBags, rx88aBags, rF88aBags, ra88aAround, rn88aAround, rc88aAround, rfl, M, K⟩ _
    replace N := N.merge sz91 lt92 M
    replace H := H.merge K M
    dsimp only [List.cons_append, List.nil_append] at H
    obtain rfl := H.QQ 0 rfl
    obtain rfl := H.zu (α := List Int) 1 rfl 0 rfl (by decide)
    obtain rfl := H.Xb 2 rfl
    refine ⟨H.pick [5, 6] [6, 7, 8, 9, 10, 11], ?_⟩
    have S := H.yw [5, 6] [6, 7, 8, 9, 10, 11]
    refine rtp 7 (.tuple #[.agg #[.slice ra88aAlive ((((qF aS aT aN).1).qh).length) rc88aAlive, .slice ra88aBags ((((qF aS aT aN).1).qo).length) rc88aBags, .slice ra88aAround ((((qF aS aT aN).1).ql).length) rc88aAround], .int .i64 ((qF aS aT aN).2)]) S ?_
    refine rtp 8 (.agg #[.slice ra88aAlive ((((qF aS aT aN).1).qh).length) rc88aAlive, .slice ra88aBags ((((qF aS aT aN).1).qo).length) rc88aBags, .slice ra88aAround ((((qF aS aT aN).1).ql).length) rc88aAround]) S ?_
    refine rtp 9 (.int .i64 ((qF aS aT aN).2)) S ?_
    refine xn [11] (by kernel_rfl) (by simp) (xX rfl ?_ xq)
    refine xU H 4 [.slice ra88aAlive ((((qF aS aT aN).1).qh).length) rc88aAlive, .slice ra88aBags ((((qF aS aT aN).1).qo).length) rc88aBags, .slice ra88aAround ((((qF aS aT aN).1).ql).length) rc88aAround] Tryz.sizeOf38 fun w96 H => ?_
    try dsimp only [List.set] at H
    refine ⟨H.pick [5, 6] [6, 7, 8, 9, 10, 11], ?_⟩
    refine rtp 12 (.int .i64 ((qF aS aT aN).2)) (H.pick [5, 6] [6, 7, 8, 9, 10, 11]) ?_
    refine xN (by kernel_rfl) (?_)
    exact meet ⟨_, b73, ra88aAlive, rc88aAlive, ra88aBags, rc88aBags, ra88aAround, rc88aAround, rx88aBags, rF88aBags, (by exact qj (qj (qj (qj (qj (rfl) rfl) rfl) rfl) rfl) rfl), (N.pick [0]), H.pick [4, 0, 1, 2, 5, 6] [0, 6, 7, 8, 9, 10, 11]⟩
   refine zn H ti38 [.slice none 0 0, .slice none 0 0, .slice none 0 0] fun b97 w98 H => ?_
   refine ⟨H.pick [1, 2] [2, 3, 4, 5, 6, 7], ?_⟩
   refine xn [3] (by kernel_rfl) (by simp) (xX rfl ?_ xq)
   have sz99 := H.base.size
   have lt100 := H.ltN (L := [QF, XC]) [0, 1]
   refine xe #[.agg #[.slice vJ aT.qh.length vH, .slice jo aT.qo.length jm, .slice zL aT.ql.length zK]] rfl rfl Tryz.call12 (X4 w98 aT vJ vH Ql jo jm QS zL zK yh (H.get 4 rfl).1 (H.get 5 rfl).1 (H.get 6 rfl).1 (by first | assumption | omega)) ?_
   rintro v104 w102 r104 x103
   obtain ⟨a104Alive, c104Alive, F104Alive, a104Bags, c104Bags, F104Bags, a104Around, c104Around, F104Around, rfl, f104, H⟩ := H.Va x103 r104
   replace N := N.cons f104 sz99 lt100
   replace N := N.split
   replace N := N.split
   refine ⟨H.pick [1, 2] [5, 6, 7, 8, 9, 10], ?_⟩
   refine xn [5] (by kernel_rfl) (by simp) (xX rfl ?_ xq)
   have sz105 := H.base.size
   have lt106 := H.ltN (L := [F104Alive, F104Bags, F104Around, QF, XC]) [0, 1, 2, 3, 4]
   refine xe #[.slice aaN aN.length caN] rfl rfl Tryz.call25 (jv w102 aN aaN caN FaN (H.get 10 rfl).1 (by first | omega | (have := p2 (by omega); omega))) ?_
   rintro v110 w108 r110 x109
   replace H := H.zf x109 r110
   obtain ⟨a111, c112, rfl, hc113, hm114⟩ := H.jd 0 rfl
   refine ⟨H.pick [2, 3] [5, 6, 7, 8, 9, 10], ?_⟩
   refine xn [6] (by kernel_rfl) (by simp) (xX rfl ?_ xq)
   obtain ⟨G115, hn116, h117⟩ := H.Xd 0 rfl
   have sz121 := H.base.size
   have lt122 := H.ltN (L := [F104Alive, F104Bags, F104Around, QF, XC]) [0, 1, 2, 3, 4]
   refine xe #[.agg #[.int .i64 aS.qH, .slice Vb aS.qf.length X9, .slice a28Rules aS.qg.length c28Rules], .agg #[.slice a104Alive aT.qh.length c104Alive, .slice a104Bags aT.qo.length c104Bags, .slice a104Around aT.ql.length c104Around], .slice a111 aN.length c112] rfl rfl Tryz.call24 (specBy_ok w108 aS aT aN Vb X9 QF a28Rules c28Rules XC a104Alive c104Alive F104Alive a104Bags c104Bags F104Bags a104Around c104Around F104Around a111 c112 G115 (H.get 3 rfl).1 (H.get 4 rfl).1 (H.get 0 rfl).1 (H.get 1 rfl).1 (H.get 2 rfl).1 h117) ?_
   rintro _ w119 ⟨ra118aAlive, rn118aAlive, rc118aAlive, ra118aBags, rn118aBags, rc118aBags, rx118aBags, rF118aBags, ra118aAround, rn118aAround, rc118aAround, rfl, M, K⟩ _
   replace N := N.merge sz121 lt122 M
   replace H := H.merge K M
   dsimp only [List.cons_append, List.nil_append] at H
   obtain rfl := H.QQ 0 rfl
   obtain rfl := H.zu (α := List Int) 1 rfl 0 rfl (by decide)
   obtain rfl := H.Xb 2 rfl
   refine ⟨H.pick [5, 6] [6, 7, 8, 9, 10, 11], ?_⟩
   have S := H.yw [5, 6] [6, 7, 8, 9, 10, 11]
   refine rtp 7 (.tuple #[.agg #[.slice ra118aAlive ((((qF aS aT aN).1).qh).length) rc118aAlive, .slice ra118aBags ((((qF aS aT aN).1).qo).length) rc118aBags, .slice ra118aAround ((((qF aS aT aN).1).ql).length) rc118aAround], .int .i64 ((qF aS aT aN).2)]) S ?_
   refine rtp 8 (.agg #[.slice ra118aAlive ((((qF aS aT aN).1).qh).length) rc118aAlive, .slice ra118aBags ((((qF aS aT aN).1).qo).length) rc118aBags, .slice ra118aAround ((((qF aS aT aN).1).ql).length) rc118aAround]) S ?_
   refine rtp 9 (.int .i64 ((qF aS aT aN).2)) S ?_
   refine xn [11] (by kernel_rfl) (by simp) (xX rfl ?_ xq)
   refine xU H 4 [.slice ra118aAlive ((((qF aS aT aN).1).qh).length) rc118aAlive, .slice ra118aBags ((((qF aS aT aN).1).qo).length) rc118aBags, .slice ra118aAround ((((qF aS aT aN).1).ql).length) rc118aAround] Tryz.sizeOf38 fun w126 H => ?_
   try dsimp only [List.set] at H
   refine ⟨H.pick [5, 6] [6, 7, 8, 9, 10, 11], ?_⟩
   refine rtp 12 (.int .i64 ((qF aS aT aN).2)) (H.pick [5, 6] [6, 7, 8, 9, 10, 11]) ?_
   refine xN (by kernel_rfl) (?_)
   exact meet ⟨_, b97, ra118aAlive, rc118aAlive, ra118aBags, rc118aBags, ra118aAround, rc118aAround, rx118aBags, rF118aBags, (by exact qj (qj (qj (qj (qj (rfl) rfl) rfl) rfl) rfl) rfl), (N.pick [0]), H.pick [4, 0, 1, 2, 5, 6] [0, 6, 7, 8, 9, 10, 11]⟩
  refine zn H ti38 [.slice none 0 0, .slice none 0 0, .slice none 0 0] fun b127 w128 H => ?_
  refine ⟨H.pick [1, 2] [0, 1, 2, 3, 4, 5], ?_⟩
  refine xn [1] (by kernel_rfl) (by simp) (xX rfl ?_ xq)
  have sz129 := H.base.size
  refine xe #[.agg #[.int .i64 aS.qH, .slice zC aS.qf.length zB, .slice vT aS.qg.length vS]] rfl rfl Tryz.call11 (toSystem_ok w128 aS zC zB jR vT vS QC (H.get 0 rfl).1 (H.get 1 rfl).1 (by first | assumption | omega)) ?_
  rintro v134 w132 r134 x133
  obtain ⟨a134Parents, c134Parents, F134Parents, a134Rules, c134Rules, F134Rules, rfl, f134, H⟩ := H.add_SystemD x133 r134
  replace N := N.cons f134 sz129 (by intro F hF; simp at hF)
  replace N := N.split
  refine ⟨H.pick [1, 2] [2, 3, 4, 5, 6, 7], ?_⟩
  refine xn [3] (by kernel_rfl) (by simp) (xX rfl ?_ xq)
  have sz135 := H.base.size
  have lt136 := H.ltN (L := [F134Parents, F134Rules]) [0, 1]
  refine xe #[.agg #[.slice vJ aT.qh.length vH, .slice jo aT.qo.length jm, .slice zL aT.ql.length zK]] rfl rfl Tryz.call12 (X4 w132 aT vJ vH Ql jo jm QS zL zK yh (H.get 4 rfl).1 (H.get 5 rfl).1 (H.get 6 rfl).1 (by first | assumption | omega)) ?_
  rintro v140 w138 r140 x139
  obtain ⟨a140Alive, c140Alive, F140Alive, a140Bags, c140Bags, F140Bags, a140Around, c140Around, F140Around, rfl, f140, H⟩ := H.Va x139 r140
  replace N := N.cons f140 sz135 lt136
  replace N := N.split
  replace N := N.split
  refine ⟨H.pick [1, 2] [5, 6, 7, 8, 9, 10], ?_⟩
  refine xn [5] (by kernel_rfl) (by simp) (xX rfl ?_ xq)
  have sz141 := H.base.size
  have lt142 := H.ltN (L := [F140Alive, F140Bags, F140Around, F134Parents, F134Rules]) [0, 1, 2, 3, 4]
  refine xe #[.slice aaN aN.length caN] rfl rfl Tryz.call25 (jv w138 aN aaN caN FaN (H.get 10 rfl).1 (by first | omega | (have := p2 (by omega); omega))) ?_
  rintro v146 w144 r146 x145
  replace H := H.zf x145 r146
  obtain ⟨a147, c148, rfl, hc149, hm150⟩ := H.jd 0 rfl
  refine ⟨H.pick [2, 3] [5, 6, 7, 8, 9, 10], ?_⟩
  refine xn [6] (by kernel_rfl) (by simp) (xX rfl ?_ xq)
  obtain ⟨G151, hn152, h153⟩ := H.Xd 0 rfl
  have sz157 := H.base.size
  have lt158 := H.ltN (L := [F140Alive, F140Bags, F140Around, F134Parents, F134Rules]) [0, 1, 2, 3, 4]
  refine xe #[.agg #[.int .i64 aS.qH, .slice a134Parents aS.qf.length c134Parents, .slice a134Rules aS.qg.length c134Rules], .agg #[.slice a140Alive aT.qh.length c140Alive, .slice a140Bags aT.qo.length c140Bags, .slice a140Around aT.ql.length c140Around], .slice a147 aN.length c148] rfl rfl Tryz.call24 (specBy_ok w144 aS aT aN a134Parents c134Parents F134Parents a134Rules c134Rules F134Rules a140Alive c140Alive F140Alive a140Bags c140Bags F140Bags a140Around c140Around F140Around a147 c148 G151 (H.get 3 rfl).1 (H.get 4 rfl).1 (H.get 0 rfl).1 (H.get 1 rfl).1 (H.get 2 rfl).1 h153) ?_
  rintro _ w155 ⟨ra154aAlive, rn154aAlive, rc154aAlive, ra154aBags, rn154aBags, rc154aBags, rx154aBags, rF154aBags, ra154aAround, rn154aAround, rc154aAround, rfl, M, K⟩ _
  replace N := N.merge sz157 lt158 M
  replace H := H.merge K M
  dsimp only [List.cons_append, List.nil_append] at H
  obtain rfl := H.QQ 0 rfl
  obtain rfl := H.zu (α := List Int) 1 rfl 0 rfl (by decide)
  obtain rfl := H.Xb 2 rfl
  refine ⟨H.pick [5, 6] [6, 7, 8, 9, 10, 11], ?_⟩
  have S := H.yw [5, 6] [6, 7, 8, 9, 10, 11]
  refine rtp 7 (.tuple #[.agg #[.slice ra154aAlive ((((qF aS aT aN).1).qh).length) rc154aAlive, .slice ra154aBags ((((qF aS aT aN).1).qo).length) rc154aBags, .slice ra154aAround ((((qF aS aT aN).1).ql).length) rc154aAround], .int .i64 ((qF aS aT aN).2)]) S ?_
  refine rtp 8 (.agg #[.slice ra154aAlive ((((qF aS aT aN).1).qh).length) rc154aAlive, .slice ra154aBags ((((qF aS aT aN).1).qo).length) rc154aBags, .slice ra154aAround ((((qF aS aT aN).1).ql).length) rc154aAround]) S ?_
  refine rtp 9 (.int .i64 ((qF aS aT aN).2)) S ?_
  refine xn [11] (by kernel_rfl) (by simp) (xX rfl ?_ xq)
  refine xU H 4 [.slice ra154aAlive ((((qF aS aT aN).1).qh).length) rc154aAlive, .slice ra154aBags ((((qF aS aT aN).1).qo).length) rc154aBags, .slice ra154aAround ((((qF aS aT aN).1).ql).length) rc154aAround] Tryz.sizeOf38 fun w162 H => ?_
  try dsimp only [List.set] at H
  refine ⟨H.pick [5, 6] [6, 7, 8, 9, 10, 11], ?_⟩
  refine rtp 12 (.int .i64 ((qF aS aT aN).2)) (H.pick [5, 6] [6, 7, 8, 9, 10, 11]) ?_
  refine xN (by kernel_rfl) (?_)
  exact meet ⟨_, b127, ra154aAlive, rc154aAlive, ra154aBags, rc154aBags, ra154aAround, rc154aAround, rx154aBags, rF154aBags, (by exact qj (qj (qj (qj (qj (rfl) rfl) rfl) rfl) rfl) rfl), (N.pick [0]), H.pick [4, 0, 1, 2, 5, 6] [0, 6, 7, 8, 9, 10, 11]⟩
 clear H N
 rintro ρ w163 ⟨junk, b13, ra14, rc15, ra16, rc17, ra18, rc19, rx20, rF21, rfl, N, H⟩
 refine t_n (qm (qA ?_))
 refine sw (zl [.int .i64 aS.qH, .slice zC aS.qf.length zB, .slice vT aS.qg.length vS] Tryz.isAgg25 Tryz.sizeOf25 rfl (qI (H.cells 5 rfl) 0 3) ?_)
 have sz164 := H.base.size
 have lt165 := H.ltN (L := [rF21]) [0]
 refine sw (xe #[.agg #[.int .i64 aS.qH, .slice zC aS.qf.length zB, .slice vT aS.qg.length vS]] rfl rfl Tryz.call11 (toSystem_ok w163 aS zC zB jR vT vS QC (H.get 1 rfl).1 (H.get 2 rfl).1 (by first | assumption | omega)) ?_)
 rintro v169 w167 r169 x168
 obtain ⟨vX, vW, zk, jV, jT, zO, rfl, f169, H⟩ := H.add_SystemD x168 r169
 replace N := N.cons f169 sz164 lt165
 replace N := N.split
 refine sw (zn H ti36 [.int .i64 0, .slice none 0 0, .slice none 0 0] fun b170 w171 H => ?_)
 refine sw (xU H 0 [.int .i64 aS.qH, .slice vX aS.qf.length vW, .slice jV aS.qg.length jT] Tryz.sizeOf36 fun w172 H => ?_)
 try dsimp only [List.set] at H
 refine qx (t_n (qm (qA ?_)))
 refine sw (zl [.slice vJ aT.qh.length vH, .slice jo aT.qo.length jm, .slice zL aT.ql.length zK] Tryz.isAgg29 Tryz.sizeOf29 rfl (qI (H.cells 5 rfl) 0 3) ?_)
 have sz173 := H.base.size
 have lt174 := H.ltN (L := [zk, zO, rF21]) [0, 1, 2]
 refine sw (xe #[.agg #[.slice vJ aT.qh.length vH, .slice jo aT.qo.length jm, .slice zL aT.ql.length zK]] rfl rfl Tryz.call12 (X4 w172 aT vJ vH Ql jo jm QS zL zK yh (H.get 5 rfl).1 (H.get 6 rfl).1 (H.get 7 rfl).1 (by first | assumption | omega)) ?_)
 rintro v178 w176 r178 x177
 obtain ⟨jU, jS, zT, yP, yM, vM, jr, jq, zx, rfl, f178, H⟩ := H.Va x177 r178
 replace N := N.cons f178 sz173 lt174
 replace N := N.split
 replace N := N.split
 refine sw (zn H ti38 [.slice none 0 0, .slice none 0 0, .slice none 0 0] fun b179 w180 H => ?_)
 refine sw (xU H 0 [.slice jU aT.qh.length jS, .slice yP aT.qo.length yM, .slice jr aT.ql.length jq] Tryz.sizeOf38 fun w181 H => ?_)
 try dsimp only [List.set] at H
 refine qx (t_n (qm (qA ?_)))
 refine sp (.slice aaN aN.length caN) ?_
 have sz182 := H.base.size
 have lt183 := H.ltN (L := [zT, vM, zx, zk, zO, rF21]) [0, 1, 2, 3, 4, 5]
 refine sw (xe #[.slice aaN aN.length caN] rfl rfl Tryz.call25 (jv w181 aN aaN caN FaN (H.get 11 rfl).1 (by first | omega | (have := p2 (by omega); omega))) ?_)
 rintro v187 w185 r187 x186
 replace H := H.zf x186 r187
 obtain ⟨a188, c189, rfl, hc190, hm191⟩ := H.jd 0 rfl
 refine sp (.slice a188 aN.length c189) ?_
 refine qx (t_n (qm (qA ?_)))
 refine sw (zl [.int .i64 aS.qH, .slice vX aS.qf.length vW, .slice jV aS.qg.length jT] Tryz.isAgg36 Tryz.sizeOf36 rfl (qI (H.cells 2 rfl) 0 3) ?_)
 refine sw (zl [.slice jU aT.qh.length jS, .slice yP aT.qo.length yM, .slice jr aT.ql.length jq] Tryz.isAgg38 Tryz.sizeOf38 rfl (qI (H.cells 1 rfl) 0 3) ?_)
 refine sp (.slice a188 aN.length c189) ?_
 obtain ⟨G192, hn193, h194⟩ := H.Xd 0 rfl
 have sz198 := H.base.size
 have lt199 := H.ltN (L := [zT, vM, zx, zk, zO, rF21]) [0, 1, 2, 3, 4, 5]
 refine sw (xe #[.agg #[.int .i64 aS.qH, .slice vX aS.qf.length vW, .slice jV aS.qg.length jT], .agg #[.slice jU aT.qh.length jS, .slice yP aT.qo.length yM, .slice jr aT.ql.length jq], .slice a188 aN.length c189] rfl rfl Tryz.call26 (implBy_ok w185 aS aT aN vX vW zk jV jT zO jU jS zT yP yM vM jr jq zx a188 c189 G192 (H.get 3 rfl).1 (H.get 4 rfl).1 (H.get 0 rfl).1 (H.get 1 rfl).1 (H.get 2 rfl).1 h194) ?_)
 rintro _ w196 ⟨ra195aAlive, rn195aAlive, rc195aAlive, ra195aBags, rn195aBags, rc195aBags, rx195aBags, rF195aBags, ra195aAround, rn195aAround, rc195aAround, rfl, M, K⟩ _
 replace N := N.merge sz198 lt199 M
 replace H := H.merge K M
 dsimp only [List.cons_append, List.nil_append] at H
 obtain rfl := H.QQ 0 rfl
 obtain rfl := H.zu (α := List Int) 1 rfl 0 rfl (by decide)
 obtain rfl := H.Xb 2 rfl
 refine sps [.tuple #[.agg #[.slice ra195aAlive ((((qF aS aT aN).1).qh).length) rc195aAlive, .slice ra195aBags ((((qF aS aT aN).1).qo).length) rc195aBags, .slice ra195aAround ((((qF aS aT aN).1).ql).length) rc195aAround], .int .i64 ((qF aS aT aN).2)], .agg #[.slice ra195aAlive ((((qF aS aT aN).1).qh).length) rc195aAlive, .slice ra195aBags ((((qF aS aT aN).1).qo).length) rc195aBags, .slice ra195aAround ((((qF aS aT aN).1).ql).length) rc195aAround], .int .i64 ((qF aS aT aN).2)] ?_
 refine sw (zn H ti38 [.slice none 0 0, .slice none 0 0, .slice none 0 0] fun b203 w204 H => ?_)
 refine sw (xU H 0 [.slice ra195aAlive ((((qF aS aT aN).1).qh).length) rc195aAlive, .slice ra195aBags ((((qF aS aT aN).1).qo).length) rc195aBags, .slice ra195aAround ((((qF aS aT aN).1).ql).length) rc195aAround] Tryz.sizeOf38 fun w205 H => ?_)
 try dsimp only [List.set] at H
 refine sp (.int .i64 ((qF aS aT aN).2)) ?_
 refine qx (t_n (qm (qm (qA ?_))))
 refine sw (zl [.slice ra195aAlive ((((qF aS aT aN).1).qh).length) rc195aAlive, .slice ra195aBags ((((qF aS aT aN).1).qo).length) rc195aBags, .slice ra195aAround ((((qF aS aT aN).1).ql).length) rc195aAround] Tryz.isAgg38 Tryz.sizeOf38 rfl (qI (H.cells 0 rfl) 0 3) ?_)
 refine sw (zl [.slice ra14 ((((qF aS aT aN).1).qh).length) rc15, .slice ra16 ((((qF aS aT aN).1).qo).length) rc17, .slice ra18 ((((qF aS aT aN).1).ql).length) rc19] Tryz.isAgg38 Tryz.sizeOf38 rfl (qI (H.cells 7 rfl) 0 3) ?_)
 obtain ⟨G206, hn207, h208⟩ := H.rowIsB 1 rfl
 obtain ⟨G209, hn210, h211⟩ := H.rowIsR (α := List Int) 2 rfl 0 rfl (by decide)
 obtain ⟨G212, hn213, h214⟩ := H.Xd 3 rfl
 obtain ⟨G215, hn216, h217⟩ := H.rowIsB 8 rfl
 obtain ⟨G218, hn219, h220⟩ := H.rowIsR (α := List Int) 9 rfl 6 rfl (by decide)
 obtain ⟨G221, hn222, h223⟩ := H.Xd 10 rfl
 refine sw (xe #[.agg #[.slice ra195aAlive ((((qF aS aT aN).1).qh).length) rc195aAlive, .slice ra195aBags ((((qF aS aT aN).1).qo).length) rc195aBags, .slice ra195aAround ((((qF aS aT aN).1).ql).length) rc195aAround], .agg #[.slice ra14 ((((qF aS aT aN).1).qh).length) rc15, .slice ra16 ((((qF aS aT aN).1).qo).length) rc17, .slice ra18 ((((qF aS aT aN).1).ql).length) rc19]] rfl rfl Tryz.call16 (eqState_ok w205 ((qF aS aT aN).1) ((qF aS aT aN).1) ra195aAlive rc195aAlive G206 ra195aBags rc195aBags G209 ra195aAround rc195aAround G212 ra14 rc15 G215 ra16 rc17 G218 ra18 rc19 G221 h208 h211 h214 h217 h220 h223) ?_)
 rintro _ w224 rfl x225
 replace H := H.ext x225
 refine sps [.bool (!(decide (((qF aS aT aN).1) = ((qF aS aT aN).1)))), .bool (!(decide (((qF aS aT aN).1) = ((qF aS aT aN).1))))] ?_
 cases h226 : (!(decide (((qF aS aT aN).1) = ((qF aS aT aN).1))))
 ·skip
  replace h226 := qX h226
  refine qR 60 rfl rfl ?_
  refine sp (.int .i64 ((qF aS aT aN).2)) ?_
  refine qR 60 rfl rfl ?_
  refine sp (.int .i64 ((qF aS aT aN).2)) ?_
  refine qR 60 rfl rfl ?_
  refine sps [.bool (((qF aS aT aN).2 : Int) != ((qF aS aT aN).2)), .bool (((qF aS aT aN).2 : Int) != ((qF aS aT aN).2))] ?_
  refine qx (t_n ?_)
  refine qW (((qF aS aT aN).2 : Int) != ((qF aS aT aN).2)) rfl (fun h => absurd rfl (bne_iff_ne.1 h)) (fun h227 => ?_)
  replace h227 := xR h227
  refine xu (t_n (qm (qm ?_)))
  refine yA rfl H fun H => ?_
  refine rt 0 (.agg #[.int .i64 aS.qH, .slice vX aS.qf.length vW, .slice jV aS.qg.length jT]) (Qm (cs := [.int .i64 aS.qH, .slice vX aS.qf.length vW, .slice jV aS.qg.length jT]) Tryz.isAgg36 Tryz.sizeOf36 rfl (fun _ h => qI (h.cells 6 rfl) 0 3)) H ?_
  refine rt 1 (.agg #[.int .i64 aS.qH, .slice zC aS.qf.length zB, .slice vT aS.qg.length vS]) (Qm (cs := [.int .i64 aS.qH, .slice zC aS.qf.length zB, .slice vT aS.qg.length vS]) Tryz.isAgg25 Tryz.sizeOf25 rfl (fun _ h => qI (h.cells 12 rfl) 0 3)) H ?_
  refine xn [2] (by kernel_rfl) (by simp) (xX rfl ?_ xq)
  have sz229 := H.base.size
  have lt230 := H.ltN (L := [rF195aBags, zT, vM, zx, zk, zO, rF21]) [0, 1, 2, 3, 4, 5, 6]
  refine xe #[.agg #[.int .i64 aS.qH, .slice zC aS.qf.length zB, .slice vT aS.qg.length vS]] rfl rfl Tryz.call11 (toSystem_ok w224.drew aS zC zB jR vT vS QC (H.get 7 rfl).1 (H.get 8 rfl).1 (by first | assumption | omega)) ?_
  rintro v234 w232 r234 x233
  obtain ⟨a234Parents, c234Parents, zM, a234Rules, c234Rules, vV, rfl, f234, H⟩ := H.add_SystemD x233 r234
  replace N := N.cons f234 sz229 lt230
  replace N := N.split
  refine ⟨H.pick [0, 1, 2, 3, 4, 5, 6, 7, 8, 9, 10, 11, 12] [2, 3, 4, 5, 6, 7, 8, 9, 10, 11, 12, 13, 14], ?_⟩
  refine xn [3] (by kernel_rfl) (by simp) (xX rfl ?_ xq)
  refine xe #[.agg #[.int .i64 aS.qH, .slice vX aS.qf.length vW, .slice jV aS.qg.length jT], .agg #[.int .i64 aS.qH, .slice a234Parents aS.qf.length c234Parents, .slice a234Rules aS.qg.length c234Rules]] rfl rfl Tryz.call15 (eqSystem_ok w232 aS aS vX vW zk jV jT zO a234Parents c234Parents zM a234Rules c234Rules vV (H.get 6 rfl).1 (H.get 7 rfl).1 (H.get 0 rfl).1 (H.get 1 rfl).1) ?_
  rintro _ w235 rfl x236
  replace H := H.ext x236
  refine ⟨H.pick [0, 1, 2, 3, 4, 5, 6, 7, 8, 9, 10, 11, 12] [2, 3, 4, 5, 6, 7, 8, 9, 10, 11, 12, 13, 14], ?_⟩
  refine rtp 4 (.bool (!(decide (aS = aS)))) (H.pick [0, 1, 2, 3, 4, 5, 6, 7, 8, 9, 10, 11, 12] [2, 3, 4, 5, 6, 7, 8, 9, 10, 11, 12, 13, 14]) ?_
  refine xN (by kernel_rfl) (t_n ?_)
  refine qW (!(decide (aS = aS))) rfl (fun h => absurd (xg h) (by simp)) (fun h237 => ?_)
  replace h237 := qX h237
  refine xu (t_n (qm (qm ?_)))
  refine yA rfl H fun H => ?_
  refine rt 0 (.agg #[.slice jU aT.qh.length jS, .slice yP aT.qo.length yM, .slice jr aT.ql.length jq]) (Qm (cs := [.slice jU aT.qh.length jS, .slice yP aT.qo.length yM, .slice jr aT.ql.length jq]) Tryz.isAgg38 Tryz.sizeOf38 rfl (fun _ h => qI (h.cells 5 rfl) 0 3)) H ?_
  refine rt 1 (.agg #[.slice vJ aT.qh.length vH, .slice jo aT.qo.length jm, .slice zL aT.ql.length zK]) (Qm (cs := [.slice vJ aT.qh.length vH, .slice jo aT.qo.length jm, .slice zL aT.ql.length zK]) Tryz.isAgg29 Tryz.sizeOf29 rfl (fun _ h => qI (h.cells 11 rfl) 0 3)) H ?_
  refine xn [2] (by kernel_rfl) (by simp) (xX rfl ?_ xq)
  have sz239 := H.base.size
  have lt240 := H.ltN (L := [zM, vV, rF195aBags, zT, vM, zx, zk, zO, rF21]) [0, 1, 2, 3, 4, 5, 6, 7, 8]
  refine xe #[.agg #[.slice vJ aT.qh.length vH, .slice jo aT.qo.length jm, .slice zL aT.ql.length zK]] rfl rfl Tryz.call12 (X4 w235.drew aT vJ vH Ql jo jm QS zL zK yh (H.get 11 rfl).1 (H.get 12 rfl).1 (H.get 13 rfl).1 (by first | assumption | omega)) ?_
  rintro v244 w242 r244 x243
  obtain ⟨a244Alive, c244Alive, jb, a244Bags, c244Bags, jG, a244Around, c244Around, vK, rfl, f244, H⟩ := H.Va x243 r244
  replace N := N.cons f244 sz239 lt240
  replace N := N.split
  replace N := N.split
  refine ⟨H.pick [0, 1, 2, 3, 4, 5, 6, 7, 8, 9, 10, 11, 12] [3, 4, 5, 6, 7, 8, 9, 10, 11, 12, 13, 14, 15, 16, 17], ?_⟩
  refine xn [3] (by kernel_rfl) (by simp) (xX rfl ?_ xq)
  refine xe #[.agg #[.slice jU aT.qh.length jS, .slice yP aT.qo.length yM, .slice jr aT.ql.length jq], .agg #[.slice a244Alive aT.qh.length c244Alive, .slice a244Bags aT.qo.length c244Bags, .slice a244Around aT.ql.length c244Around]] rfl rfl Tryz.call16 (eqState_ok w242 aT aT jU jS zT yP yM vM jr jq zx a244Alive c244Alive jb a244Bags c244Bags jG a244Around c244Around vK (H.get 6 rfl).1 (H.get 7 rfl).1 (H.get 8 rfl).1 (H.get 0 rfl).1 (H.get 1 rfl).1 (H.get 2 rfl).1) ?_
  rintro _ w245 rfl x246
  replace H := H.ext x246
  refine ⟨H.pick [0, 1, 2, 3, 4, 5, 6, 7, 8, 9, 10, 11, 12] [3, 4, 5, 6, 7, 8, 9, 10, 11, 12, 13, 14, 15, 16, 17], ?_⟩
  refine rtp 4 (.bool (!(decide (aT = aT)))) (H.pick [0, 1, 2, 3, 4, 5, 6, 7, 8, 9, 10, 11, 12] [3, 4, 5, 6, 7, 8, 9, 10, 11, 12, 13, 14, 15, 16, 17]) ?_
  refine xN (by kernel_rfl) (t_n ?_)
  refine qW (!(decide (aT = aT))) rfl (fun h => absurd (xg h) (by simp)) (fun h247 => ?_)
  replace h247 := qX h247
  refine xu (t_n (qm (qm (qA ?_))))
  refine sps [.slice a188 aN.length c189, .slice aaN aN.length caN] ?_
  have sz248 := H.base.size
  have lt249 := H.ltN (L := [jb, jG, vK, zM, vV, rF195aBags, zT, vM, zx, zk, zO, rF21]) [0, 1, 2, 3, 4, 5, 6, 7, 8, 9, 10, 11]
  refine sw (xe #[.slice aaN aN.length caN] rfl rfl Tryz.call25 (jv w245 aN aaN caN FaN (H.get 17 rfl).1 (by first | omega | (have := p2 (by omega); omega))) ?_)
  rintro v253 w251 r253 x252
  replace H := H.zf x252 r253
  obtain ⟨a254, c255, rfl, hc256, hm257⟩ := H.jd 0 rfl
  obtain ⟨G258, hn259, h260⟩ := H.Xd 5 rfl
  obtain ⟨G261, hn262, h263⟩ := H.Xd 0 rfl
  refine sw (xe #[.slice a188 aN.length c189, .slice a254 aN.length c255] rfl rfl Tryz.call27 (QI w251 aN aN a188 c189 G258 a254 c255 G261 h260 h263) ?_)
  rintro _ w264 rfl x265
  replace H := H.ext x265
  refine sp (.bool (!(decide (aN = aN)))) ?_
  refine qx (t_n ?_)
  refine qW (!(decide (aN = aN))) rfl (fun h => absurd (xg h) (by simp)) (fun h266 => ?_)
  replace h266 := qX h266
  refine xu (t_n (qm (qA ?_)))
  refine sp (.int .i64 1) ?_
  refine qx (t_n (qm (qA ?_)))
  refine sw (zl [.int .i64 aS.qH, .slice vX aS.qf.length vW, .slice jV aS.qg.length jT] Tryz.isAgg36 Tryz.sizeOf36 rfl (qI (H.cells 7 rfl) 0 3) ?_)
  refine sp (.int .i64 1) ?_
  have N267 : Fresh w.heap.size [zk, zO, jb, jG, vK, zM, vV, rF195aBags, zT, vM, zx, rF21] := (N.pick [9, 10, 0, 1, 2, 3, 4, 5, 6, 7, 8, 11])
  refine sw (Xr #[.agg #[.int .i64 aS.qH, .slice vX aS.qf.length vW, .slice jV aS.qg.length jT], .int .i64 1] rfl rfl Tryz.call17 (markSystem_ok w264 aS 1 vX vW zk jV jT zO (H.get 9 rfl).1 (H.get 10 rfl).1 (N267.pick [0, 1] : Fresh _ [zk, zO]).join.one.2 (((H.get 9 rfl).2 rfl).app ((H.get 10 rfl).2 rfl)) (by omega) (by omega)) ?_)
  rintro _ w268 ⟨rfl, m270⟩ x269
  replace H : St _ _ [.row (.slice a254 aN.length c255) 2 1 aN.length (aN.map (Value.int .i64)), .box b203 [.slice ra195aAlive ((((qF aS aT aN).1).qh).length) rc195aAlive, .slice ra195aBags ((((qF aS aT aN).1).qo).length) rc195aBags, .slice ra195aAround ((((qF aS aT aN).1).ql).length) rc195aAround] 38, .row (.slice ra195aAlive ((((qF aS aT aN).1).qh).length) rc195aAlive) 4 1 ((((qF aS aT aN).1).qh).length) ((((qF aS aT aN).1).qh).map (Value.bool)), .row (.slice ra195aBags ((((qF aS aT aN).1).qo).length) rc195aBags) 22 1 ((((qF aS aT aN).1).qo).length) rx195aBags, .row (.slice ra195aAround ((((qF aS aT aN).1).ql).length) rc195aAround) 2 1 ((((qF aS aT aN).1).ql).length) ((((qF aS aT aN).1).ql).map (Value.int .i64)), .row (.slice a188 aN.length c189) 2 1 aN.length (aN.map (Value.int .i64)), .box b179 [.slice jU aT.qh.length jS, .slice yP aT.qo.length yM, .slice jr aT.ql.length jq] 38, .box b170 [.int .i64 aS.qH, .slice vX aS.qf.length vW, .slice jV aS.qg.length jT] 36, .box b13 [.slice ra14 ((((qF aS aT aN).1).qh).length) rc15, .slice ra16 ((((qF aS aT aN).1).qo).length) rc17, .slice ra18 ((((qF aS aT aN).1).ql).length) rc19] 38, .row (.slice ra14 ((((qF aS aT aN).1).qh).length) rc15) 4 1 ((((qF aS aT aN).1).qh).length) ((((qF aS aT aN).1).qh).map (Value.bool)), .row (.slice ra16 ((((qF aS aT aN).1).qo).length) rc17) 22 1 ((((qF aS aT aN).1).qo).length) rx20, .row (.slice ra18 ((((qF aS aT aN).1).ql).length) rc19) 2 1 ((((qF aS aT aN).1).ql).length) ((((qF aS aT aN).1).ql).map (Value.int .i64)), .box b3 [.slice vJ aT.qh.length vH, .slice jo aT.qo.length jm, .slice zL aT.ql.length zK] 29, .box b1 [.int .i64 aS.qH, .slice zC aS.qf.length zB, .slice vT aS.qg.length vS] 25] [isF true zk (.slice vX aS.qf.length vW) (mrk aS.qf (1)), isF true zO (.slice jV aS.qg.length jT) (mrk aS.qg (1 + (cnt aS.qf : Nat))), isF true jb (.slice a244Alive aT.qh.length c244Alive) aT.qh, isF true jG (.slice a244Bags aT.qo.length c244Bags) aT.qo, isF true vK (.slice a244Around aT.ql.length c244Around) aT.ql, isF true zM (.slice a234Parents aS.qf.length c234Parents) aS.qf, isF true vV (.slice a234Rules aS.qg.length c234Rules) aS.qg, jk true rF195aBags rx195aBags (((qF aS aT aN).1).qo), isF true zT (.slice jU aT.qh.length jS) aT.qh, isF true vM (.slice yP aT.qo.length yM) aT.qo, isF true zx (.slice jr aT.ql.length jq) aT.ql, jk true rF21 rx20 (((qF aS aT aN).1).qo), isF false jR (.slice zC aS.qf.length zB) aS.qf, isF false QC (.slice vT aS.qg.length vS) aS.qg, isF false Ql (.slice vJ aT.qh.length vH) aT.qh, isF false QS (.slice jo aT.qo.length jm) aT.qo, isF false yh (.slice zL aT.ql.length zK) aT.ql, isF false FaN (.slice aaN aN.length caN) aN] := H.chgFacts (Fs := [zk, zO]) (L := [jb, jG, vK, zM, vV, rF195aBags, zT, vM, zx, rF21]) (A := [jR, QC, Ql, QS, yh, FaN]) N267 A (x269.mono (by intro z hz; simpa using hz)) [9, 10] [isF true zk (.slice vX aS.qf.length vW) (mrk aS.qf (1)), isF true zO (.slice jV aS.qg.length jT) (mrk aS.qg (1 + (cnt aS.qf : Nat)))] (all_of ⟨m270.1, ⟨m270.2, trivial⟩⟩) [0, 1, 2, 3, 4, 5, 6, 7, 8, 11, 12, 13, 14, 15, 16, 17] [0, 1, 2, 3, 4, 5, 6, 7, 8, 9, 10, 11, 12, 13, 14, 15]
  replace N := N267
  refine sp (.int .i64 (1 + (cnt aS.qf : Nat) + (cnt aS.qg : Nat))) ?_
  refine qx (t_n (qm (qA ?_)))
  refine sw (zl [.slice jU aT.qh.length jS, .slice yP aT.qo.length yM, .slice jr aT.ql.length jq] Tryz.isAgg38 Tryz.sizeOf38 rfl (qI (H.cells 6 rfl) 0 3) ?_)
  refine sp (.int .i64 (1 + (cnt aS.qf : Nat) + (cnt aS.qg : Nat))) ?_
  have N271 : Fresh w.heap.size [zT, vM, zx, zk, zO, jb, jG, vK, zM, vV, rF195aBags, rF21] := (N.pick [8, 9, 10, 0, 1, 2, 3, 4, 5, 6, 7, 11])
  refine sw (Xr #[.agg #[.slice jU aT.qh.length jS, .slice yP aT.qo.length yM, .slice jr aT.ql.length jq], .int .i64 (1 + (cnt aS.qf : Nat) + (cnt aS.qg : Nat))] rfl rfl Tryz.call18 (markState_ok w268 aT (1 + (cnt aS.qf : Nat) + (cnt aS.qg : Nat)) jU jS zT yP yM vM jr jq zx (H.get 8 rfl).1 (H.get 9 rfl).1 (H.get 10 rfl).1 (N271.pick [0, 1, 2] : Fresh _ [zT, vM, zx]).join.join.one.2 ((((H.get 8 rfl).2 rfl).app ((H.get 9 rfl).2 rfl)).app ((H.get 10 rfl).2 rfl)) (by omega) (by omega)) ?_)
  rintro _ w272 ⟨rfl, m274⟩ x273
  replace H : St _ _ [.row (.slice a254 aN.length c255) 2 1 aN.length (aN.map (Value.int .i64)), .box b203 [.slice ra195aAlive ((((qF aS aT aN).1).qh).length) rc195aAlive, .slice ra195aBags ((((qF aS aT aN).1).qo).length) rc195aBags, .slice ra195aAround ((((qF aS aT aN).1).ql).length) rc195aAround] 38, .row (.slice ra195aAlive ((((qF aS aT aN).1).qh).length) rc195aAlive) 4 1 ((((qF aS aT aN).1).qh).length) ((((qF aS aT aN).1).qh).map (Value.bool)), .row (.slice ra195aBags ((((qF aS aT aN).1).qo).length) rc195aBags) 22 1 ((((qF aS aT aN).1).qo).length) rx195aBags, .row (.slice ra195aAround ((((qF aS aT aN).1).ql).length) rc195aAround) 2 1 ((((qF aS aT aN).1).ql).length) ((((qF aS aT aN).1).ql).map (Value.int .i64)), .row (.slice a188 aN.length c189) 2 1 aN.length (aN.map (Value.int .i64)), .box b179 [.slice jU aT.qh.length jS, .slice yP aT.qo.length yM, .slice jr aT.ql.length jq] 38, .box b170 [.int .i64 aS.qH, .slice vX aS.qf.length vW, .slice jV aS.qg.length jT] 36, .box b13 [.slice ra14 ((((qF aS aT aN).1).qh).length) rc15, .slice ra16 ((((qF aS aT aN).1).qo).length) rc17, .slice ra18 ((((qF aS aT aN).1).ql).length) rc19] 38, .row (.slice ra14 ((((qF aS aT aN).1).qh).length) rc15) 4 1 ((((qF aS aT aN).1).qh).length) ((((qF aS aT aN).1).qh).map (Value.bool)), .row (.slice ra16 ((((qF aS aT aN).1).qo).length) rc17) 22 1 ((((qF aS aT aN).1).qo).length) rx20, .row (.slice ra18 ((((qF aS aT aN).1).ql).length) rc19) 2 1 ((((qF aS aT aN).1).ql).length) ((((qF aS aT aN).1).ql).map (Value.int .i64)), .box b3 [.slice vJ aT.qh.length vH, .slice jo aT.qo.length jm, .slice zL aT.ql.length zK] 29, .box b1 [.int .i64 aS.qH, .slice zC aS.qf.length zB, .slice vT aS.qg.length vS] 25] [isF true zT (.slice jU aT.qh.length jS) (mrk aT.qh (1 + (cnt aS.qf : Nat) + (cnt aS.qg : Nat))), isF true vM (.slice yP aT.qo.length yM) (mrk aT.qo (1 + (cnt aS.qf : Nat) + (cnt aS.qg : Nat) + (cnt aT.qh : Nat))), isF true zx (.slice jr aT.ql.length jq) (mrk aT.ql (1 + (cnt aS.qf : Nat) + (cnt aS.qg : Nat) + (cnt aT.qh : Nat) + (cnt aT.qo : Nat))), isF true zk (.slice vX aS.qf.length vW) (mrk aS.qf (1)), isF true zO (.slice jV aS.qg.length jT) (mrk aS.qg (1 + (cnt aS.qf : Nat))), isF true jb (.slice a244Alive aT.qh.length c244Alive) aT.qh, isF true jG (.slice a244Bags aT.qo.length c244Bags) aT.qo, isF true vK (.slice a244Around aT.ql.length c244Around) aT.ql, isF true zM (.slice a234Parents aS.qf.length c234Parents) aS.qf, isF true vV (.slice a234Rules aS.qg.length c234Rules) aS.qg, jk true rF195aBags rx195aBags (((qF aS aT aN).1).qo), jk true rF21 rx20 (((qF aS aT aN).1).qo), isF false jR (.slice zC aS.qf.length zB) aS.qf, isF false QC (.slice vT aS.qg.length vS) aS.qg, isF false Ql (.slice vJ aT.qh.length vH) aT.qh, isF false QS (.slice jo aT.qo.length jm) aT.qo, isF false yh (.slice zL aT.ql.length zK) aT.ql, isF false FaN (.slice aaN aN.length caN) aN] := H.chgFacts (Fs := [zT, vM, zx]) (L := [zk, zO, jb, jG, vK, zM, vV, rF195aBags, rF21]) (A := [jR, QC, Ql, QS, yh, FaN]) N271 A (x273.mono (by intro z hz; simpa using hz)) [8, 9, 10] [isF true zT (.slice jU aT.qh.length jS) (mrk aT.qh (1 + (cnt aS.qf : Nat) + (cnt aS.qg : Nat))), isF true vM (.slice yP aT.qo.length yM) (mrk aT.qo (1 + (cnt aS.qf : Nat) + (cnt aS.qg : Nat) + (cnt aT.qh : Nat))), isF true zx (.slice jr aT.ql.length jq) (mrk aT.ql (1 + (cnt aS.qf : Nat) + (cnt aS.qg : Nat) + (cnt aT.qh : Nat) + (cnt aT.qo : Nat)))] (all_of ⟨m274.1, ⟨m274.2.1, ⟨m274.2.2, trivial⟩⟩⟩) [0, 1, 2, 3, 4, 5, 6, 7, 11, 12, 13, 14, 15, 16, 17] [0, 1, 2, 3, 4, 5, 6, 7, 8, 9, 10, 11, 12, 13, 14]
  replace N := N271
  refine sp (.int .i64 (1 + (cnt aS.qf : Nat) + (cnt aS.qg : Nat) + (cnt aT.qh : Nat) + (cnt aT.qo : Nat) + (cnt aT.ql : Nat))) ?_
  refine qx (t_n (qm (qA ?_)))
  refine sps [.slice a188 aN.length c189, .int .i64 (1 + (cnt aS.qf : Nat) + (cnt aS.qg : Nat) + (cnt aT.qh : Nat) + (cnt aT.qo : Nat) + (cnt aT.ql : Nat))] ?_
  obtain ⟨G275, N, hn276, H⟩ := H.yH 5 rfl N (H.XR [0, 1, 2, 3, 4, 5, 6, 7, 8, 9, 10, 11])
  try dsimp only [List.set] at H
  have N277 : Fresh w.heap.size [G275, zT, vM, zx, zk, zO, jb, jG, vK, zM, vV, rF195aBags, rF21] := N
  refine sw (Xr #[.slice a188 aN.length c189, .int .i64 (1 + (cnt aS.qf : Nat) + (cnt aS.qg : Nat) + (cnt aT.qh : Nat) + (cnt aT.qo : Nat) + (cnt aT.ql : Nat))] rfl rfl Tryz.call28 (Qe w272 aN (1 + (cnt aS.qf : Nat) + (cnt aS.qg : Nat) + (cnt aT.qh : Nat) + (cnt aT.qo : Nat) + (cnt aT.ql : Nat)) a188 c189 G275 (H.get 0 rfl).1 (N277.pick [0] : Fresh _ [G275]).one.2 ((H.get 0 rfl).2 rfl) (by omega) (by omega)) ?_)
  rintro _ w278 ⟨rfl, m280⟩ x279
  replace H : St _ _ [.row (.slice a254 aN.length c255) 2 1 aN.length (aN.map (Value.int .i64)), .box b203 [.slice ra195aAlive ((((qF aS aT aN).1).qh).length) rc195aAlive, .slice ra195aBags ((((qF aS aT aN).1).qo).length) rc195aBags, .slice ra195aAround ((((qF aS aT aN).1).ql).length) rc195aAround] 38, .row (.slice ra195aAlive ((((qF aS aT aN).1).qh).length) rc195aAlive) 4 1 ((((qF aS aT aN).1).qh).length) ((((qF aS aT aN).1).qh).map (Value.bool)), .row (.slice ra195aBags ((((qF aS aT aN).1).qo).length) rc195aBags) 22 1 ((((qF aS aT aN).1).qo).length) rx195aBags, .row (.slice ra195aAround ((((qF aS aT aN).1).ql).length) rc195aAround) 2 1 ((((qF aS aT aN).1).ql).length) ((((qF aS aT aN).1).ql).map (Value.int .i64)), .row (.slice none 0 0) 0 1 0 [], .box b179 [.slice jU aT.qh.length jS, .slice yP aT.qo.length yM, .slice jr aT.ql.length jq] 38, .box b170 [.int .i64 aS.qH, .slice vX aS.qf.length vW, .slice jV aS.qg.length jT] 36, .box b13 [.slice ra14 ((((qF aS aT aN).1).qh).length) rc15, .slice ra16 ((((qF aS aT aN).1).qo).length) rc17, .slice ra18 ((((qF aS aT aN).1).ql).length) rc19] 38, .row (.slice ra14 ((((qF aS aT aN).1).qh).length) rc15) 4 1 ((((qF aS aT aN).1).qh).length) ((((qF aS aT aN).1).qh).map (Value.bool)), .row (.slice ra16 ((((qF aS aT aN).1).qo).length) rc17) 22 1 ((((qF aS aT aN).1).qo).length) rx20, .row (.slice ra18 ((((qF aS aT aN).1).ql).length) rc19) 2 1 ((((qF aS aT aN).1).ql).length) ((((qF aS aT aN).1).ql).map (Value.int .i64)), .box b3 [.slice vJ aT.qh.length vH, .slice jo aT.qo.length jm, .slice zL aT.ql.length zK] 29, .box b1 [.int .i64 aS.qH, .slice zC aS.qf.length zB, .slice vT aS.qg.length vS] 25] [isF true G275 (.slice a188 aN.length c189) (mrk aN (1 + (cnt aS.qf : Nat) + (cnt aS.qg : Nat) + (cnt aT.qh : Nat) + (cnt aT.qo : Nat) + (cnt aT.ql : Nat))), isF true zT (.slice jU aT.qh.length jS) (mrk aT.qh (1 + (cnt aS.qf : Nat) + (cnt aS.qg : Nat))), isF true vM (.slice yP aT.qo.length yM) (mrk aT.qo (1 + (cnt aS.qf : Nat) + (cnt aS.qg : Nat) + (cnt aT.qh : Nat))), isF true zx (.slice jr aT.ql.length jq) (mrk aT.ql (1 + (cnt aS.qf : Nat) + (cnt aS.qg : Nat) + (cnt aT.qh : Nat) + (cnt aT.qo : Nat))), isF true zk (.slice vX aS.qf.length vW) (mrk aS.qf (1)), isF true zO (.slice jV aS.qg.length jT) (mrk aS.qg (1 + (cnt aS.qf : Nat))), isF true jb (.slice a244Alive aT.qh.length c244Alive) aT.qh, isF true jG (.slice a244Bags aT.qo.length c244Bags) aT.qo, isF true vK (.slice a244Around aT.ql.length c244Around) aT.ql, isF true zM (.slice a234Parents aS.qf.length c234Parents) aS.qf, isF true vV (.slice a234Rules aS.qg.length c234Rules) aS.qg, jk true rF195aBags rx195aBags (((qF aS aT aN).1).qo), jk true rF21 rx20 (((qF aS aT aN).1).qo), isF false jR (.slice zC aS.qf.length zB) aS.qf, isF false QC (.slice vT aS.qg.length vS) aS.qg, isF false Ql (.slice vJ aT.qh.length vH) aT.qh, isF false QS (.slice jo aT.qo.length jm) aT.qo, isF false yh (.slice zL aT.ql.length zK) aT.ql, isF false FaN (.slice aaN aN.length caN) aN] := H.chgFacts (Fs := [G275]) (L := [zT, vM, zx, zk, zO, jb, jG, vK, zM, vV, rF195aBags, rF21]) (A := [jR, QC, Ql, QS, yh, FaN]) N277 A (x279.mono (by intro z hz; simpa using hz)) [0] [isF true G275 (.slice a188 aN.length c189) (mrk aN (1 + (cnt aS.qf : Nat) + (cnt aS.qg : Nat) + (cnt aT.qh : Nat) + (cnt aT.qo : Nat) + (cnt aT.ql : Nat)))] (all_of ⟨m280, trivial⟩) [1, 2, 3, 4, 5, 6, 7, 8, 9, 10, 11, 12, 13, 14, 15, 16, 17, 18] [0, 1, 2, 3, 4, 5, 6, 7, 8, 9, 10, 11, 12, 13, 14, 15, 16, 17]
  replace N := N277
  refine sp (.int .i64 (1 + (cnt aS.qf : Nat) + (cnt aS.qg : Nat) + (cnt aT.qh : Nat) + (cnt aT.qo : Nat) + (cnt aT.ql : Nat) + (cnt aN : Nat))) ?_
  refine qx (t_n (qm (qm (qA ?_))))
  refine sps [.int .i64 (1 + (cnt aS.qf : Nat) + (cnt aS.qg : Nat) + (cnt aT.qh : Nat) + (cnt aT.qo : Nat) + (cnt aT.ql : Nat) + (cnt aN : Nat)), .bool (decide ((1 + (cnt aS.qf : Nat) + (cnt aS.qg : Nat) + (cnt aT.qh : Nat) + (cnt aT.qo : Nat) + (cnt aT.ql : Nat) + (cnt aN : Nat) : Int) < 0)), .bool (decide ((1 + (cnt aS.qf : Nat) + (cnt aS.qg : Nat) + (cnt aT.qh : Nat) + (cnt aT.qo : Nat) + (cnt aT.ql : Nat) + (cnt aN : Nat) : Int) < 0))] ?_
  cases h281 : (decide ((1 + (cnt aS.qf : Nat) + (cnt aS.qg : Nat) + (cnt aT.qh : Nat) + (cnt aT.qo : Nat) + (cnt aT.ql : Nat) + (cnt aN : Nat) : Int) < 0))
  ·skip
   replace h281 := of_decide_eq_false h281
   refine qR 91 rfl rfl ?_
   refine sw (zl [.slice ra195aAlive ((((qF aS aT aN).1).qh).length) rc195aAlive, .slice ra195aBags ((((qF aS aT aN).1).qo).length) rc195aBags, .slice ra195aAround ((((qF aS aT aN).1).ql).length) rc195aAround] Tryz.isAgg38 Tryz.sizeOf38 rfl (qI (H.cells 1 rfl) 0 3) ?_)
   refine qR 91 rfl rfl ?_
   refine sw (zl [.slice ra14 ((((qF aS aT aN).1).qh).length) rc15, .slice ra16 ((((qF aS aT aN).1).qo).length) rc17, .slice ra18 ((((qF aS aT aN).1).ql).length) rc19] Tryz.isAgg38 Tryz.sizeOf38 rfl (qI (H.cells 8 rfl) 0 3) ?_)
   refine qR 91 rfl rfl ?_
   obtain ⟨G282, hn283, h284⟩ := H.rowIsB 2 rfl
   obtain ⟨G285, hn286, h287⟩ := H.rowIsR (α := List Int) 3 rfl 11 rfl (by decide)
   obtain ⟨G288, hn289, h290⟩ := H.Xd 4 rfl
   obtain ⟨G291, hn292, h293⟩ := H.rowIsB 9 rfl
   obtain ⟨G294, hn295, h296⟩ := H.rowIsR (α := List Int) 10 rfl 12 rfl (by decide)
   obtain ⟨G297, hn298, h299⟩ := H.Xd 11 rfl
   refine sw (xe #[.agg #[.slice ra195aAlive ((((qF aS aT aN).1).qh).length) rc195aAlive, .slice ra195aBags ((((qF aS aT aN).1).qo).length) rc195aBags, .slice ra195aAround ((((qF aS aT aN).1).ql).length) rc195aAround], .agg #[.slice ra14 ((((qF aS aT aN).1).qh).length) rc15, .slice ra16 ((((qF aS aT aN).1).qo).length) rc17, .slice ra18 ((((qF aS aT aN).1).ql).length) rc19]] rfl rfl Tryz.call16 (eqState_ok w278 ((qF aS aT aN).1) ((qF aS aT aN).1) ra195aAlive rc195aAlive G282 ra195aBags rc195aBags G285 ra195aAround rc195aAround G288 ra14 rc15 G291 ra16 rc17 G294 ra18 rc19 G297 h284 h287 h290 h293 h296 h299) ?_)
   rintro _ w300 rfl x301
   replace H := H.ext x301
   refine qR 91 rfl rfl ?_
   refine sps [.bool (!(decide (((qF aS aT aN).1) = ((qF aS aT aN).1)))), .bool (!(decide (((qF aS aT aN).1) = ((qF aS aT aN).1)))), .bool (!(decide (((qF aS aT aN).1) = ((qF aS aT aN).1))))] ?_
   cases h302 : (!(decide (((qF aS aT aN).1) = ((qF aS aT aN).1))))
   ·skip
    replace h302 := qX h302
    refine qR 97 rfl rfl ?_
    refine sp (.int .i64 ((qF aS aT aN).2)) ?_
    refine qR 97 rfl rfl ?_
    refine sp (.int .i64 ((qF aS aT aN).2)) ?_
    refine qR 97 rfl rfl ?_
    refine sps [.bool (((qF aS aT aN).2 : Int) != ((qF aS aT aN).2)), .bool (((qF aS aT aN).2 : Int) != ((qF aS aT aN).2))] ?_
    refine qx (t_n ?_)
    refine qW (((qF aS aT aN).2 : Int) != ((qF aS aT aN).2)) rfl (fun h => absurd rfl (bne_iff_ne.1 h)) (fun h303 => ?_)
    replace h303 := xR h303
    refine xu (t_n (qm (qA ?_)))
    refine sp (.int .i64 1) ?_
    refine qx (t_n (qm (qA ?_)))
    refine sw (zl [.slice ra195aAlive ((((qF aS aT aN).1).qh).length) rc195aAlive, .slice ra195aBags ((((qF aS aT aN).1).qo).length) rc195aBags, .slice ra195aAround ((((qF aS aT aN).1).ql).length) rc195aAround] Tryz.isAgg38 Tryz.sizeOf38 rfl (qI (H.cells 1 rfl) 0 3) ?_)
    refine sp (.int .i64 1) ?_
    obtain ⟨G304, N, hn305, H⟩ := H.freezeB 2 rfl N (H.XR [0, 1, 2, 3, 4, 5, 6, 7, 8, 9, 10, 11, 12])
    try dsimp only [List.set] at H
    have H0 := H
    obtain ⟨G306, hg308, hn307, H⟩ := H.freezeR (α := List Int) 3 rfl 12 rfl (by decide)
    replace N : Fresh w.heap.size [G306, G304, G275, zT, vM, zx, zk, zO, jb, jG, vK, zM, vV, rF21] := Fresh.ice (N.pick [12, 0, 1, 2, 3, 4, 5, 6, 7, 8, 9, 10, 11, 13]) H0 3 hg308.1 hg308.2 (H0.XR [0, 1, 2, 3, 4, 5, 6, 7, 8, 9, 10, 11, 13])
    clear H0
    try dsimp only [List.set] at H
    obtain ⟨G309, N, hn310, H⟩ := H.yH 4 rfl N (H.XR [0, 1, 2, 3, 4, 5, 6, 7, 8, 9, 10, 11, 12, 14])
    try dsimp only [List.set] at H
    have N311 : Fresh w.heap.size [G304, G306, G309, G275, zT, vM, zx, zk, zO, jb, jG, vK, zM, vV, rF21] := (N.pick [2, 1, 0, 3, 4, 5, 6, 7, 8, 9, 10, 11, 12, 13, 14])
    refine sw (Xr #[.agg #[.slice ra195aAlive ((((qF aS aT aN).1).qh).length) rc195aAlive, .slice ra195aBags ((((qF aS aT aN).1).qo).length) rc195aBags, .slice ra195aAround ((((qF aS aT aN).1).ql).length) rc195aAround], .int .i64 1] rfl rfl Tryz.call18 (markState_ok w300 ((qF aS aT aN).1) 1 ra195aAlive rc195aAlive G304 ra195aBags rc195aBags G306 ra195aAround rc195aAround G309 (H.get 2 rfl).1 (H.get 1 rfl).1 (H.get 0 rfl).1 (N311.pick [0, 1, 2] : Fresh _ [G304, G306, G309]).join.join.one.2 ((((H.get 2 rfl).2 rfl).app ((H.get 1 rfl).2 rfl)).app ((H.get 0 rfl).2 rfl)) (by omega) (by omega)) ?_)
    rintro _ w312 ⟨rfl, m314⟩ x313
    replace H : St _ _ [.row (.slice a254 aN.length c255) 2 1 aN.length (aN.map (Value.int .i64)), .box b203 [.slice ra195aAlive ((((qF aS aT aN).1).qh).length) rc195aAlive, .slice ra195aBags ((((qF aS aT aN).1).qo).length) rc195aBags, .slice ra195aAround ((((qF aS aT aN).1).ql).length) rc195aAround] 38, .row (.slice none 0 0) 0 1 0 [], .row (.slice none 0 0) 0 1 0 [], .row (.slice none 0 0) 0 1 0 [], .row (.slice none 0 0) 0 1 0 [], .box b179 [.slice jU aT.qh.length jS, .slice yP aT.qo.length yM, .slice jr aT.ql.length jq] 38, .box b170 [.int .i64 aS.qH, .slice vX aS.qf.length vW, .slice jV aS.qg.length jT] 36, .box b13 [.slice ra14 ((((qF aS aT aN).1).qh).length) rc15, .slice ra16 ((((qF aS aT aN).1).qo).length) rc17, .slice ra18 ((((qF aS aT aN).1).ql).length) rc19] 38, .row (.slice ra14 ((((qF aS aT aN).1).qh).length) rc15) 4 1 ((((qF aS aT aN).1).qh).length) ((((qF aS aT aN).1).qh).map (Value.bool)), .row (.slice ra16 ((((qF aS aT aN).1).qo).length) rc17) 22 1 ((((qF aS aT aN).1).qo).length) rx20, .row (.slice ra18 ((((qF aS aT aN).1).ql).length) rc19) 2 1 ((((qF aS aT aN).1).ql).length) ((((qF aS aT aN).1).ql).map (Value.int .i64)), .box b3 [.slice vJ aT.qh.length vH, .slice jo aT.qo.length jm, .slice zL aT.ql.length zK] 29, .box b1 [.int .i64 aS.qH, .slice zC aS.qf.length zB, .slice vT aS.qg.length vS] 25] [isF true G304 (.slice ra195aAlive ((((qF aS aT aN).1).qh).length) rc195aAlive) (mrk (((qF aS aT aN).1).qh) (1)), isF true G306 (.slice ra195aBags ((((qF aS aT aN).1).qo).length) rc195aBags) (mrk (((qF aS aT aN).1).qo) (1 + (cnt (((qF aS aT aN).1).qh) : Nat))), isF true G309 (.slice ra195aAround ((((qF aS aT aN).1).ql).length) rc195aAround) (mrk (((qF aS aT aN).1).ql) (1 + (cnt (((qF aS aT aN).1).qh) : Nat) + (cnt (((qF aS aT aN).1).qo) : Nat))), isF true G275 (.slice a188 aN.length c189) (mrk aN (1 + (cnt aS.qf : Nat) + (cnt aS.qg : Nat) + (cnt aT.qh : Nat) + (cnt aT.qo : Nat) + (cnt aT.ql : Nat))), isF true zT (.slice jU aT.qh.length jS) (mrk aT.qh (1 + (cnt aS.qf : Nat) + (cnt aS.qg : Nat))), isF true vM (.slice yP aT.qo.length yM) (mrk aT.qo (1 + (cnt aS.qf : Nat) + (cnt aS.qg : Nat) + (cnt aT.qh : Nat))), isF true zx (.slice jr aT.ql.length jq) (mrk aT.ql (1 + (cnt aS.qf : Nat) + (cnt aS.qg : Nat) + (cnt aT.qh : Nat) + (cnt aT.qo : Nat))), isF true zk (.slice vX aS.qf.length vW) (mrk aS.qf (1)), isF true zO (.slice jV aS.qg.length jT) (mrk aS.qg (1 + (cnt aS.qf : Nat))), isF true jb (.slice a244Alive aT.qh.length c244Alive) aT.qh, isF true jG (.slice a244Bags aT.qo.length c244Bags) aT.qo, isF true vK (.slice a244Around aT.ql.length c244Around) aT.ql, isF true zM (.slice a234Parents aS.qf.length c234Parents) aS.qf, isF true vV (.slice a234Rules aS.qg.length c234Rules) aS.qg, jk true rF21 rx20 (((qF aS aT aN).1).qo), isF false jR (.slice zC aS.qf.length zB) aS.qf, isF false QC (.slice vT aS.qg.length vS) aS.qg, isF false Ql (.slice vJ aT.qh.length vH) aT.qh, isF false QS (.slice jo aT.qo.length jm) aT.qo, isF false yh (.slice zL aT.ql.length zK) aT.ql, isF false FaN (.slice aaN aN.length caN) aN] := H.chgFacts (Fs := [G304, G306, G309]) (L := [G275, zT, vM, zx, zk, zO, jb, jG, vK, zM, vV, rF21]) (A := [jR, QC, Ql, QS, yh, FaN]) N311 A (x313.mono (by intro z hz; simpa using hz)) [2, 1, 0] [isF true G304 (.slice ra195aAlive ((((qF aS aT aN).1).qh).length) rc195aAlive) (mrk (((qF aS aT aN).1).qh) (1)), isF true G306 (.slice ra195aBags ((((qF aS aT aN).1).qo).length) rc195aBags) (mrk (((qF aS aT aN).1).qo) (1 + (cnt (((qF aS aT aN).1).qh) : Nat))), isF true G309 (.slice ra195aAround ((((qF aS aT aN).1).ql).length) rc195aAround) (mrk (((qF aS aT aN).1).ql) (1 + (cnt (((qF aS aT aN).1).qh) : Nat) + (cnt (((qF aS aT aN).1).qo) : Nat)))] (all_of ⟨m314.1, ⟨m314.2.1, ⟨m314.2.2, trivial⟩⟩⟩) [3, 4, 5, 6, 7, 8, 9, 10, 11, 12, 13, 15, 16, 17, 18, 19, 20, 21] [0, 1, 2, 3, 4, 5, 6, 7, 8, 9, 10, 11, 12, 13, 14, 15, 16, 17]
    replace N := N311
    refine sp (.int .i64 (1 + (cnt (((qF aS aT aN).1).qh) : Nat) + (cnt (((qF aS aT aN).1).qo) : Nat) + (cnt (((qF aS aT aN).1).ql) : Nat))) ?_
    refine qx (t_n (qm (qA ?_)))
    refine sp (.int .i64 1) ?_
    refine qx (t_n (qm (qA ?_)))
    refine sw (zl [.slice ra195aAlive ((((qF aS aT aN).1).qh).length) rc195aAlive, .slice ra195aBags ((((qF aS aT aN).1).qo).length) rc195aBags, .slice ra195aAround ((((qF aS aT aN).1).ql).length) rc195aAround] Tryz.isAgg38 Tryz.sizeOf38 rfl (qI (H.cells 1 rfl) 0 3) ?_)
    refine sp (.int .i64 1) ?_
    have hn315 := H.isLen 0 rfl
    have hn316 := H.isLen 1 rfl
    have hn317 := H.isLen 2 rfl
    refine sw (xe #[.agg #[.slice ra195aAlive ((((qF aS aT aN).1).qh).length) rc195aAlive, .slice ra195aBags ((((qF aS aT aN).1).qo).length) rc195aBags, .slice ra195aAround ((((qF aS aT aN).1).ql).length) rc195aAround], .int .i64 1] rfl rfl Tryz.call23 (args_eq (by rw [← hn315, ← hn316, ← hn317]) (heldState_ok w312 (⟨(mrk (((qF aS aT aN).1).qh) (1)), (mrk (((qF aS aT aN).1).qo) (1 + (cnt (((qF aS aT aN).1).qh) : Nat))), (mrk (((qF aS aT aN).1).ql) (1 + (cnt (((qF aS aT aN).1).qh) : Nat) + (cnt (((qF aS aT aN).1).qo) : Nat)))⟩ : qU) 1 ra195aAlive rc195aAlive G304 ra195aBags rc195aBags G306 ra195aAround rc195aAround G309 (hn315 ▸ (H.get 0 rfl).1) (hn316 ▸ (H.get 1 rfl).1) (hn317 ▸ (H.get 2 rfl).1) (by first | exact mkd_mark _ _ | omega | (simp only [cnt_mark]; first | exact mkd_mark _ _ | omega)) (by first | exact mkd_mark _ _ | omega | (simp only [cnt_mark]; first | exact mkd_mark _ _ | omega)) (by first | exact mkd_mark _ _ | omega | (simp only [cnt_mark]; first | exact mkd_mark _ _ | omega)) (by first | exact mkd_mark _ _ | omega | (simp only [cnt_mark]; first | exact mkd_mark _ _ | omega)) (by first | exact mkd_mark _ _ | omega | (simp only [cnt_mark]; first | exact mkd_mark _ _ | omega)))) ?_)
    rintro _ w318 rfl x319
    replace H := H.ext x319
    refine sp (.int .i64 (1 + (cnt (⟨(mrk (((qF aS aT aN).1).qh) (1)), (mrk (((qF aS aT aN).1).qo) (1 + (cnt (((qF aS aT aN).1).qh) : Nat))), (mrk (((qF aS aT aN).1).ql) (1 + (cnt (((qF aS aT aN).1).qh) : Nat) + (cnt (((qF aS aT aN).1).qo) : Nat)))⟩ : qU).qh : Nat) + (cnt (⟨(mrk (((qF aS aT aN).1).qh) (1)), (mrk (((qF aS aT aN).1).qo) (1 + (cnt (((qF aS aT aN).1).qh) : Nat))), (mrk (((qF aS aT aN).1).ql) (1 + (cnt (((qF aS aT aN).1).qh) : Nat) + (cnt (((qF aS aT aN).1).qo) : Nat)))⟩ : qU).qo : Nat) + (cnt (⟨(mrk (((qF aS aT aN).1).qh) (1)), (mrk (((qF aS aT aN).1).qo) (1 + (cnt (((qF aS aT aN).1).qh) : Nat))), (mrk (((qF aS aT aN).1).ql) (1 + (cnt (((qF aS aT aN).1).qh) : Nat) + (cnt (((qF aS aT aN).1).qo) : Nat)))⟩ : qU).ql : Nat))) ?_
    refine qx (t_n (qm (qm (qA ?_))))
    refine sps [.int .i64 (1 + (cnt (⟨(mrk (((qF aS aT aN).1).qh) (1)), (mrk (((qF aS aT aN).1).qo) (1 + (cnt (((qF aS aT aN).1).qh) : Nat))), (mrk (((qF aS aT aN).1).ql) (1 + (cnt (((qF aS aT aN).1).qh) : Nat) + (cnt (((qF aS aT aN).1).qo) : Nat)))⟩ : qU).qh : Nat) + (cnt (⟨(mrk (((qF aS aT aN).1).qh) (1)), (mrk (((qF aS aT aN).1).qo) (1 + (cnt (((qF aS aT aN).1).qh) : Nat))), (mrk (((qF aS aT aN).1).ql) (1 + (cnt (((qF aS aT aN).1).qh) : Nat) + (cnt (((qF aS aT aN).1).qo) : Nat)))⟩ : qU).qo : Nat) + (cnt (⟨(mrk (((qF aS aT aN).1).qh) (1)), (mrk (((qF aS aT aN).1).qo) (1 + (cnt (((qF aS aT aN).1).qh) : Nat))), (mrk (((qF aS aT aN).1).ql) (1 + (cnt (((qF aS aT aN).1).qh) : Nat) + (cnt (((qF aS aT aN).1).qo) : Nat)))⟩ : qU).ql : Nat)), .bool (decide ((1 + (cnt (⟨(mrk (((qF aS aT aN).1).qh) (1)), (mrk (((qF aS aT aN).1).qo) (1 + (cnt (((qF aS aT aN).1).qh) : Nat))), (mrk (((qF aS aT aN).1).ql) (1 + (cnt (((qF aS aT aN).1).qh) : Nat) + (cnt (((qF aS aT aN).1).qo) : Nat)))⟩ : qU).qh : Nat) + (cnt (⟨(mrk (((qF aS aT aN).1).qh) (1)), (mrk (((qF aS aT aN).1).qo) (1 + (cnt (((qF aS aT aN).1).qh) : Nat))), (mrk (((qF aS aT aN).1).ql) (1 + (cnt (((qF aS aT aN).1).qh) : Nat) + (cnt (((qF aS aT aN).1).qo) : Nat)))⟩ : qU).qo : Nat) + (cnt (⟨(mrk (((qF aS aT aN).1).qh) (1)), (mrk (((qF aS aT aN).1).qo) (1 + (cnt (((qF aS aT aN).1).qh) : Nat))), (mrk (((qF aS aT aN).1).ql) (1 + (cnt (((qF aS aT aN).1).qh) : Nat) + (cnt (((qF aS aT aN).1).qo) : Nat)))⟩ : qU).ql : Nat) : Int) < 0))] ?_
    refine qx (t_n ?_)
    refine qW (decide ((1 + (cnt (⟨(mrk (((qF aS aT aN).1).qh) (1)), (mrk (((qF aS aT aN).1).qo) (1 + (cnt (((qF aS aT aN).1).qh) : Nat))), (mrk (((qF aS aT aN).1).ql) (1 + (cnt (((qF aS aT aN).1).qh) : Nat) + (cnt (((qF aS aT aN).1).qo) : Nat)))⟩ : qU).qh : Nat) + (cnt (⟨(mrk (((qF aS aT aN).1).qh) (1)), (mrk (((qF aS aT aN).1).qo) (1 + (cnt (((qF aS aT aN).1).qh) : Nat))), (mrk (((qF aS aT aN).1).ql) (1 + (cnt (((qF aS aT aN).1).qh) : Nat) + (cnt (((qF aS aT aN).1).qo) : Nat)))⟩ : qU).qo : Nat) + (cnt (⟨(mrk (((qF aS aT aN).1).qh) (1)), (mrk (((qF aS aT aN).1).qo) (1 + (cnt (((qF aS aT aN).1).qh) : Nat))), (mrk (((qF aS aT aN).1).ql) (1 + (cnt (((qF aS aT aN).1).qh) : Nat) + (cnt (((qF aS aT aN).1).qo) : Nat)))⟩ : qU).ql : Nat) : Int) < 0)) rfl (fun h320 => ?_) (fun h320 => ?_)
    ·skip
     replace h320 := of_decide_eq_true h320
     refine qm (qA ?_)
     refine sp (.bool false) ?_
     refine qx (t_n (xB (t_r ?_)))
     refine ret1 (.bool false) rfl rfl ⟨_, rfl, ?_, H.base⟩
     exfalso; first | omega
    replace h320 := of_decide_eq_false h320
    refine xu (t_n (qm (qm (qA ?_))))
    refine sps [.int .i64 (1 + (cnt (⟨(mrk (((qF aS aT aN).1).qh) (1)), (mrk (((qF aS aT aN).1).qo) (1 + (cnt (((qF aS aT aN).1).qh) : Nat))), (mrk (((qF aS aT aN).1).ql) (1 + (cnt (((qF aS aT aN).1).qh) : Nat) + (cnt (((qF aS aT aN).1).qo) : Nat)))⟩ : qU).qh : Nat) + (cnt (⟨(mrk (((qF aS aT aN).1).qh) (1)), (mrk (((qF aS aT aN).1).qo) (1 + (cnt (((qF aS aT aN).1).qh) : Nat))), (mrk (((qF aS aT aN).1).ql) (1 + (cnt (((qF aS aT aN).1).qh) : Nat) + (cnt (((qF aS aT aN).1).qo) : Nat)))⟩ : qU).qo : Nat) + (cnt (⟨(mrk (((qF aS aT aN).1).qh) (1)), (mrk (((qF aS aT aN).1).qo) (1 + (cnt (((qF aS aT aN).1).qh) : Nat))), (mrk (((qF aS aT aN).1).ql) (1 + (cnt (((qF aS aT aN).1).qh) : Nat) + (cnt (((qF aS aT aN).1).qo) : Nat)))⟩ : qU).ql : Nat)), .int .i64 (1 + (cnt (((qF aS aT aN).1).qh) : Nat) + (cnt (((qF aS aT aN).1).qo) : Nat) + (cnt (((qF aS aT aN).1).ql) : Nat)), .bool ((1 + (cnt (⟨(mrk (((qF aS aT aN).1).qh) (1)), (mrk (((qF aS aT aN).1).qo) (1 + (cnt (((qF aS aT aN).1).qh) : Nat))), (mrk (((qF aS aT aN).1).ql) (1 + (cnt (((qF aS aT aN).1).qh) : Nat) + (cnt (((qF aS aT aN).1).qo) : Nat)))⟩ : qU).qh : Nat) + (cnt (⟨(mrk (((qF aS aT aN).1).qh) (1)), (mrk (((qF aS aT aN).1).qo) (1 + (cnt (((qF aS aT aN).1).qh) : Nat))), (mrk (((qF aS aT aN).1).ql) (1 + (cnt (((qF aS aT aN).1).qh) : Nat) + (cnt (((qF aS aT aN).1).qo) : Nat)))⟩ : qU).qo : Nat) + (cnt (⟨(mrk (((qF aS aT aN).1).qh) (1)), (mrk (((qF aS aT aN).1).qo) (1 + (cnt (((qF aS aT aN).1).qh) : Nat))), (mrk (((qF aS aT aN).1).ql) (1 + (cnt (((qF aS aT aN).1).qh) : Nat) + (cnt (((qF aS aT aN).1).qo) : Nat)))⟩ : qU).ql : Nat) : Int) != (1 + (cnt (((qF aS aT aN).1).qh) : Nat) + (cnt (((qF aS aT aN).1).qo) : Nat) + (cnt (((qF aS aT aN).1).ql) : Nat)))] ?_
    refine qx (t_n ?_)
    refine qW ((1 + (cnt (⟨(mrk (((qF aS aT aN).1).qh) (1)), (mrk (((qF aS aT aN).1).qo) (1 + (cnt (((qF aS aT aN).1).qh) : Nat))), (mrk (((qF aS aT aN).1).ql) (1 + (cnt (((qF aS aT aN).1).qh) : Nat) + (cnt (((qF aS aT aN).1).qo) : Nat)))⟩ : qU).qh : Nat) + (cnt (⟨(mrk (((qF aS aT aN).1).qh) (1)), (mrk (((qF aS aT aN).1).qo) (1 + (cnt (((qF aS aT aN).1).qh) : Nat))), (mrk (((qF aS aT aN).1).ql) (1 + (cnt (((qF aS aT aN).1).qh) : Nat) + (cnt (((qF aS aT aN).1).qo) : Nat)))⟩ : qU).qo : Nat) + (cnt (⟨(mrk (((qF aS aT aN).1).qh) (1)), (mrk (((qF aS aT aN).1).qo) (1 + (cnt (((qF aS aT aN).1).qh) : Nat))), (mrk (((qF aS aT aN).1).ql) (1 + (cnt (((qF aS aT aN).1).qh) : Nat) + (cnt (((qF aS aT aN).1).qo) : Nat)))⟩ : qU).ql : Nat) : Int) != (1 + (cnt (((qF aS aT aN).1).qh) : Nat) + (cnt (((qF aS aT aN).1).qo) : Nat) + (cnt (((qF aS aT aN).1).ql) : Nat))) rfl (fun h321 => ?_) (fun h321 => ?_)
    ·skip
     replace h321 := bne_iff_ne.1 h321
     refine qm (qA ?_)
     refine sp (.bool false) ?_
     refine qx (t_n (xB (t_r ?_)))
     refine ret1 (.bool false) rfl rfl ⟨_, rfl, ?_, H.base⟩
     exfalso; first | omega | exact h321 (by simp only [cnt_mark])
    replace h321 := xR h321
    refine xu (t_n (qm ?_))
    refine c_cut (fun ρ w322 => ∃ (junk : Env) (b323 : Nat) (ra324 : Option Addr) (rc325 : Nat) (ra326 : Option Addr) (rc327 : Nat) (ra328 : Option Addr) (rc329 : Nat) (rx330 : List Value) (rF331 : List Nat), ρ = upd (upd (upd (upd (upd (upd junk 8 (pp b13 0)) 9 (.int .i64 ((qF aS aT aN).2))) 13 (pp b203 0)) 16 (.int .i64 (1 + (cnt (((qF aS aT aN).1).qh) : Nat) + (cnt (((qF aS aT aN).1).qo) : Nat) + (cnt (((qF aS aT aN).1).ql) : Nat)))) 18 (pp b323 0)) 19 (.int .i64 ((qF aS aT aN).2)) ∧ Fresh w.heap.size [rF331, G304, G306, G309, zT, vM, zx, zk, zO, rF21] ∧ St w w322 [.box b323 [.slice ra324 ((((qF aS aT aN).1).qh).length) rc325, .slice ra326 ((((qF aS aT aN).1).qo).length) rc327, .slice ra328 ((((qF aS aT aN).1).ql).length) rc329] 38, .row (.slice ra324 ((((qF aS aT aN).1).qh).length) rc325) 4 1 ((((qF aS aT aN).1).qh).length) ((((qF aS aT aN).1).qh).map (Value.bool)), .row (.slice ra326 ((((qF aS aT aN).1).qo).length) rc327) 22 1 ((((qF aS aT aN).1).qo).length) rx330, .row (.slice ra328 ((((qF aS aT aN).1).ql).length) rc329) 2 1 ((((qF aS aT aN).1).ql).length) ((((qF aS aT aN).1).ql).map (Value.int .i64)), .row (.slice a254 aN.length c255) 2 1 aN.length (aN.map (Value.int .i64)), .box b203 [.slice ra195aAlive ((((qF aS aT aN).1).qh).length) rc195aAlive, .slice ra195aBags ((((qF aS aT aN).1).qo).length) rc195aBags, .slice ra195aAround ((((qF aS aT aN).1).ql).length) rc195aAround] 38, .row (.slice none 0 0) 0 1 0 [], .row (.slice none 0 0) 0 1 0 [], .row (.slice none 0 0) 0 1 0 [], .row (.slice none 0 0) 0 1 0 [], .box b179 [.slice jU aT.qh.length jS, .slice yP aT.qo.length yM, .slice jr aT.ql.length jq] 38, .box b170 [.int .i64 aS.qH, .slice vX aS.qf.length vW, .slice jV aS.qg.length jT] 36, .box b13 [.slice ra14 ((((qF aS aT aN).1).qh).length) rc15, .slice ra16 ((((qF aS aT aN).1).qo).length) rc17, .slice ra18 ((((qF aS aT aN).1).ql).length) rc19] 38, .row (.slice ra14 ((((qF aS aT aN).1).qh).length) rc15) 4 1 ((((qF aS aT aN).1).qh).length) ((((qF aS aT aN).1).qh).map (Value.bool)), .row (.slice ra16 ((((qF aS aT aN).1).qo).length) rc17) 22 1 ((((qF aS aT aN).1).qo).length) rx20, .row (.slice ra18 ((((qF aS aT aN).1).ql).length) rc19) 2 1 ((((qF aS aT aN).1).ql).length) ((((qF aS aT aN).1).ql).map (Value.int .i64)), .box b3 [.slice vJ aT.qh.length vH, .slice jo aT.qo.length jm, .slice zL aT.ql.length zK] 29, .box b1 [.int .i64 aS.qH, .slice zC aS.qf.length zB, .slice vT aS.qg.length vS] 25] [jk true rF331 rx330 (((qF aS aT aN).1).qo), isF true G304 (.slice ra195aAlive ((((qF aS aT aN).1).qh).length) rc195aAlive) (mrk (((qF aS aT aN).1).qh) (1)), isF true G306 (.slice ra195aBags ((((qF aS aT aN).1).qo).length) rc195aBags) (mrk (((qF aS aT aN).1).qo) (1 + (cnt (((qF aS aT aN).1).qh) : Nat))), isF true G309 (.slice ra195aAround ((((qF aS aT aN).1).ql).length) rc195aAround) (mrk (((qF aS aT aN).1).ql) (1 + (cnt (((qF aS aT aN).1).qh) : Nat) + (cnt (((qF aS aT aN).1).qo) : Nat))), isF true zT (.slice jU aT.qh.length jS) (mrk aT.qh (1 + (cnt aS.qf : Nat) + (cnt aS.qg : Nat))), isF true vM (.slice yP aT.qo.length yM) (mrk aT.qo (1 + (cnt aS.qf : Nat) + (cnt aS.qg : Nat) + (cnt aT.qh : Nat))), isF true zx (.slice jr aT.ql.length jq) (mrk aT.ql (1 + (cnt aS.qf : Nat) + (cnt aS.qg : Nat) + (cnt aT.qh : Nat) + (cnt aT.qo : Nat))), isF true zk (.slice vX aS.qf.length vW) (mrk aS.qf (1)), isF true zO (.slice jV aS.qg.length jT) (mrk aS.qg (1 + (cnt aS.qf : Nat))), jk true rF21 rx20 (((qF aS aT aN).1).qo), isF false jR (.slice zC aS.qf.length zB) aS.qf, isF false QC (.slice vT aS.qg.length vS) aS.qg, isF false Ql (.slice vJ aT.qh.length vH) aT.qh, isF false QS (.slice jo aT.qo.length jm) aT.qo, isF false yh (.slice zL aT.ql.length zK) aT.ql]) ?_ ?_
    ·skip
     refine yA rfl H fun H => ?_
     refine rt 0 (.agg #[.int .i64 aS.qH, .slice zC aS.qf.length zB, .slice vT aS.qg.length vS]) (Qm (cs := [.int .i64 aS.qH, .slice zC aS.qf.length zB, .slice vT aS.qg.length vS]) Tryz.isAgg25 Tryz.sizeOf25 rfl (fun _ h => qI (h.cells 13 rfl) 0 3)) H ?_
     refine rt 2 (.agg #[.slice vJ aT.qh.length vH, .slice jo aT.qo.length jm, .slice zL aT.ql.length zK]) (Qm (cs := [.slice vJ aT.qh.length vH, .slice jo aT.qo.length jm, .slice zL aT.ql.length zK]) Tryz.isAgg29 Tryz.sizeOf29 rfl (fun _ h => qI (h.cells 12 rfl) 0 3)) H ?_
     refine rtp 4 (.slice aaN aN.length caN) H ?_
     refine xn [1, 10] (by kernel_rfl) (by simp) (xX rfl ?_ (xX rfl ?_ xq))
     ·skip
      have sz333 := H.base.size
      have lt334 := H.ltN (L := [G304, G306, G309, G275, zT, vM, zx, zk, zO, jb, jG, vK, zM, vV, rF21]) [0, 1, 2, 3, 4, 5, 6, 7, 8, 9, 10, 11, 12, 13, 14]
      refine xe #[.agg #[.int .i64 aS.qH, .slice zC aS.qf.length zB, .slice vT aS.qg.length vS]] rfl rfl Tryz.call11 (toSystem_ok w318.drew aS zC zB jR vT vS QC (H.get 15 rfl).1 (H.get 16 rfl).1 (by first | assumption | omega)) ?_
      rintro v338 w336 r338 x337
      obtain ⟨Xx, Xw, yT, a338Rules, c338Rules, Q8, rfl, f338, H⟩ := H.add_SystemD x337 r338
      replace N := N.cons f338 sz333 lt334
      replace N := N.split
      refine ⟨H.pick [0, 1, 2, 3, 4, 5, 6, 7, 8, 9, 10, 11, 12, 13] [2, 3, 4, 5, 6, 7, 8, 9, 10, 11, 12, 13, 14, 15, 16, 17, 18, 19, 20, 21, 22], ?_⟩
      refine xn [3, 10] (by kernel_rfl) (by simp) (xX rfl ?_ (xX rfl ?_ xq))
      ·skip
       have sz339 := H.base.size
       have lt340 := H.ltN (L := [yT, Q8, G304, G306, G309, G275, zT, vM, zx, zk, zO, jb, jG, vK, zM, vV, rF21]) [0, 1, 2, 3, 4, 5, 6, 7, 8, 9, 10, 11, 12, 13, 14, 15, 16]
       refine xe #[.agg #[.slice vJ aT.qh.length vH, .slice jo aT.qo.length jm, .slice zL aT.ql.length zK]] rfl rfl Tryz.call12 (X4 w336 aT vJ vH Ql jo jm QS zL zK yh (H.get 19 rfl).1 (H.get 20 rfl).1 (H.get 21 rfl).1 (by first | assumption | omega)) ?_
       rintro v344 w342 r344 x343
       obtain ⟨a344Alive, c344Alive, F344Alive, a344Bags, c344Bags, F344Bags, a344Around, c344Around, Vd, rfl, f344, H⟩ := H.Va x343 r344
       replace N := N.cons f344 sz339 lt340
       replace N := N.split
       replace N := N.split
       refine ⟨H.pick [0, 1, 2, 3, 4, 5, 6, 7, 8, 9, 10, 11, 12, 13] [5, 6, 7, 8, 9, 10, 11, 12, 13, 14, 15, 16, 17, 18, 19, 20, 21, 22, 23, 24, 25], ?_⟩
       refine xn [5, 10] (by kernel_rfl) (by simp) (xX rfl ?_ (xX rfl ?_ xq))
       ·skip
        have sz345 := H.base.size
        have lt346 := H.ltN (L := [F344Alive, F344Bags, Vd, yT, Q8, G304, G306, G309, G275, zT, vM, zx, zk, zO, jb, jG, vK, zM, vV, rF21]) [0, 1, 2, 3, 4, 5, 6, 7, 8, 9, 10, 11, 12, 13, 14, 15, 16, 17, 18, 19]
        refine xe #[.slice aaN aN.length caN] rfl rfl Tryz.call25 (jv w342 aN aaN caN FaN (H.get 25 rfl).1 (by first | omega | (have := p2 (by omega); omega))) ?_
        rintro v350 w348 r350 x349
        replace H := H.zf x349 r350
        obtain ⟨a351, c352, rfl, hc353, hm354⟩ := H.jd 0 rfl
        refine ⟨H.pick [1, 2, 3, 4, 5, 6, 7, 8, 9, 10, 11, 12, 13, 14] [5, 6, 7, 8, 9, 10, 11, 12, 13, 14, 15, 16, 17, 18, 19, 20, 21, 22, 23, 24, 25], ?_⟩
        refine xn [6, 10] (by kernel_rfl) (by simp) (xX rfl ?_ (xX rfl ?_ xq))
        ·skip
         obtain ⟨G355, hn356, h357⟩ := H.Xd 0 rfl
         have sz361 := H.base.size
         have lt362 := H.ltN (L := [F344Alive, F344Bags, Vd, yT, Q8, G304, G306, G309, G275, zT, vM, zx, zk, zO, jb, jG, vK, zM, vV, rF21]) [0, 1, 2, 3, 4, 5, 6, 7, 8, 9, 10, 11, 12, 13, 14, 15, 16, 17, 18, 19]
         refine xe #[.agg #[.int .i64 aS.qH, .slice Xx aS.qf.length Xw, .slice a338Rules aS.qg.length c338Rules], .agg #[.slice a344Alive aT.qh.length c344Alive, .slice a344Bags aT.qo.length c344Bags, .slice a344Around aT.ql.length c344Around], .slice a351 aN.length c352] rfl rfl Tryz.call26 (implBy_ok w348 aS aT aN Xx Xw yT a338Rules c338Rules Q8 a344Alive c344Alive F344Alive a344Bags c344Bags F344Bags a344Around c344Around Vd a351 c352 G355 (H.get 3 rfl).1 (H.get 4 rfl).1 (H.get 0 rfl).1 (H.get 1 rfl).1 (H.get 2 rfl).1 h357) ?_
         rintro _ w359 ⟨ra358aAlive, rn358aAlive, rc358aAlive, ra358aBags, rn358aBags, rc358aBags, rx358aBags, rF358aBags, ra358aAround, rn358aAround, rc358aAround, rfl, M, K⟩ _
         replace N := N.merge sz361 lt362 M
         replace H := H.merge K M
         dsimp only [List.cons_append, List.nil_append] at H
         obtain rfl := H.QQ 0 rfl
         obtain rfl := H.zu (α := List Int) 1 rfl 0 rfl (by decide)
         obtain rfl := H.Xb 2 rfl
         refine ⟨H.pick [4, 5, 6, 7, 8, 9, 10, 11, 12, 13, 14, 15, 16, 17] [6, 7, 8, 9, 10, 11, 12, 13, 14, 15, 16, 17, 18, 19, 20, 21, 22, 23, 24, 25, 26], ?_⟩
         have S := H.yw [4, 5, 6, 7, 8, 9, 10, 11, 12, 13, 14, 15, 16, 17] [6, 7, 8, 9, 10, 11, 12, 13, 14, 15, 16, 17, 18, 19, 20, 21, 22, 23, 24, 25, 26]
         refine rtp 7 (.tuple #[.agg #[.slice ra358aAlive ((((qF aS aT aN).1).qh).length) rc358aAlive, .slice ra358aBags ((((qF aS aT aN).1).qo).length) rc358aBags, .slice ra358aAround ((((qF aS aT aN).1).ql).length) rc358aAround], .int .i64 ((qF aS aT aN).2)]) S ?_
         refine rtp 8 (.agg #[.slice ra358aAlive ((((qF aS aT aN).1).qh).length) rc358aAlive, .slice ra358aBags ((((qF aS aT aN).1).qo).length) rc358aBags, .slice ra358aAround ((((qF aS aT aN).1).ql).length) rc358aAround]) S ?_
         refine rtp 9 (.int .i64 ((qF aS aT aN).2)) S ?_
         refine xn [10] (by kernel_rfl) (by simp) (xX rfl ?_ xq)
         refine zn H ti38 [.slice none 0 0, .slice none 0 0, .slice none 0 0] fun b366 w367 H => ?_
         refine ⟨H.pick [5, 6, 7, 8, 9, 10, 11, 12, 13, 14, 15, 16, 17, 18] [6, 7, 8, 9, 10, 11, 12, 13, 14, 15, 16, 17, 18, 19, 20, 21, 22, 23, 24, 25, 26], ?_⟩
         refine xn [11] (by kernel_rfl) (by simp) (xX rfl ?_ xq)
         refine xU H 0 [.slice ra358aAlive ((((qF aS aT aN).1).qh).length) rc358aAlive, .slice ra358aBags ((((qF aS aT aN).1).qo).length) rc358aBags, .slice ra358aAround ((((qF aS aT aN).1).ql).length) rc358aAround] Tryz.sizeOf38 fun w368 H => ?_
         try dsimp only [List.set] at H
         refine ⟨H.pick [5, 6, 7, 8, 9, 10, 11, 12, 13, 14, 15, 16, 17, 18] [6, 7, 8, 9, 10, 11, 12, 13, 14, 15, 16, 17, 18, 19, 20, 21, 22, 23, 24, 25, 26], ?_⟩
         refine rtp 12 (.int .i64 ((qF aS aT aN).2)) (H.pick [5, 6, 7, 8, 9, 10, 11, 12, 13, 14, 15, 16, 17, 18] [6, 7, 8, 9, 10, 11, 12, 13, 14, 15, 16, 17, 18, 19, 20, 21, 22, 23, 24, 25, 26]) ?_
         refine xN (by kernel_rfl) (?_)
         exact meet ⟨_, b366, ra358aAlive, rc358aAlive, ra358aBags, rc358aBags, ra358aAround, rc358aAround, rx358aBags, rF358aBags, (by exact qj (qj (qj (qj (qj (qj (rfl) rfl) rfl) rfl) rfl) rfl) rfl), (N.pick [0, 6, 7, 8, 10, 11, 12, 13, 14, 20]), H.pick [0, 1, 2, 3, 5, 6, 7, 8, 9, 10, 11, 12, 13, 14, 15, 16, 17, 18] [0, 6, 7, 8, 10, 11, 12, 13, 14, 20, 21, 22, 23, 24, 25]⟩
        refine zn H ti38 [.slice none 0 0, .slice none 0 0, .slice none 0 0] fun b369 w370 H => ?_
        refine ⟨H.pick [2, 3, 4, 5, 6, 7, 8, 9, 10, 11, 12, 13, 14, 15] [5, 6, 7, 8, 9, 10, 11, 12, 13, 14, 15, 16, 17, 18, 19, 20, 21, 22, 23, 24, 25], ?_⟩
        refine xn [6] (by kernel_rfl) (by simp) (xX rfl ?_ xq)
        obtain ⟨G371, hn372, h373⟩ := H.Xd 1 rfl
        have sz377 := H.base.size
        have lt378 := H.ltN (L := [F344Alive, F344Bags, Vd, yT, Q8, G304, G306, G309, G275, zT, vM, zx, zk, zO, jb, jG, vK, zM, vV, rF21]) [0, 1, 2, 3, 4, 5, 6, 7, 8, 9, 10, 11, 12, 13, 14, 15, 16, 17, 18, 19]
        refine xe #[.agg #[.int .i64 aS.qH, .slice Xx aS.qf.length Xw, .slice a338Rules aS.qg.length c338Rules], .agg #[.slice a344Alive aT.qh.length c344Alive, .slice a344Bags aT.qo.length c344Bags, .slice a344Around aT.ql.length c344Around], .slice a351 aN.length c352] rfl rfl Tryz.call26 (implBy_ok w370 aS aT aN Xx Xw yT a338Rules c338Rules Q8 a344Alive c344Alive F344Alive a344Bags c344Bags F344Bags a344Around c344Around Vd a351 c352 G371 (H.get 3 rfl).1 (H.get 4 rfl).1 (H.get 0 rfl).1 (H.get 1 rfl).1 (H.get 2 rfl).1 h373) ?_
        rintro _ w375 ⟨ra374aAlive, rn374aAlive, rc374aAlive, ra374aBags, rn374aBags, rc374aBags, rx374aBags, rF374aBags, ra374aAround, rn374aAround, rc374aAround, rfl, M, K⟩ _
        replace N := N.merge sz377 lt378 M
        replace H := H.merge K M
        dsimp only [List.cons_append, List.nil_append] at H
        obtain rfl := H.QQ 0 rfl
        obtain rfl := H.zu (α := List Int) 1 rfl 0 rfl (by decide)
        obtain rfl := H.Xb 2 rfl
        refine ⟨H.pick [5, 6, 7, 8, 9, 10, 11, 12, 13, 14, 15, 16, 17, 18] [6, 7, 8, 9, 10, 11, 12, 13, 14, 15, 16, 17, 18, 19, 20, 21, 22, 23, 24, 25, 26], ?_⟩
        have S := H.yw [5, 6, 7, 8, 9, 10, 11, 12, 13, 14, 15, 16, 17, 18] [6, 7, 8, 9, 10, 11, 12, 13, 14, 15, 16, 17, 18, 19, 20, 21, 22, 23, 24, 25, 26]
        refine rtp 7 (.tuple #[.agg #[.slice ra374aAlive ((((qF aS aT aN).1).qh).length) rc374aAlive, .slice ra374aBags ((((qF aS aT aN).1).qo).length) rc374aBags, .slice ra374aAround ((((qF aS aT aN).1).ql).length) rc374aAround], .int .i64 ((qF aS aT aN).2)]) S ?_
        refine rtp 8 (.agg #[.slice ra374aAlive ((((qF aS aT aN).1).qh).length) rc374aAlive, .slice ra374aBags ((((qF aS aT aN).1).qo).length) rc374aBags, .slice ra374aAround ((((qF aS aT aN).1).ql).length) rc374aAround]) S ?_
        refine rtp 9 (.int .i64 ((qF aS aT aN).2)) S ?_
        refine xn [11] (by kernel_rfl) (by simp) (xX rfl ?_ xq)
        refine xU H 3 [.slice ra374aAlive ((((qF aS aT aN).1).qh).length) rc374aAlive, .slice ra374aBags ((((qF aS aT aN).1).qo).length) rc374aBags, .slice ra374aAround ((((qF aS aT aN).1).ql).length) rc374aAround] Tryz.sizeOf38 fun w382 H => ?_
        try dsimp only [List.set] at H
        refine ⟨H.pick [5, 6, 7, 8, 9, 10, 11, 12, 13, 14, 15, 16, 17, 18] [6, 7, 8, 9, 10, 11, 12, 13, 14, 15, 16, 17, 18, 19, 20, 21, 22, 23, 24, 25, 26], ?_⟩
        refine rtp 12 (.int .i64 ((qF aS aT aN).2)) (H.pick [5, 6, 7, 8, 9, 10, 11, 12, 13, 14, 15, 16, 17, 18] [6, 7, 8, 9, 10, 11, 12, 13, 14, 15, 16, 17, 18, 19, 20, 21, 22, 23, 24, 25, 26]) ?_
        refine xN (by kernel_rfl) (?_)
        exact meet ⟨_, b369, ra374aAlive, rc374aAlive, ra374aBags, rc374aBags, ra374aAround, rc374aAround, rx374aBags, rF374aBags, (by exact qj (qj (qj (qj (qj (qj (rfl) rfl) rfl) rfl) rfl) rfl) rfl), (N.pick [0, 6, 7, 8, 10, 11, 12, 13, 14, 20]), H.pick [3, 0, 1, 2, 5, 6, 7, 8, 9, 10, 11, 12, 13, 14, 15, 16, 17, 18] [0, 6, 7, 8, 10, 11, 12, 13, 14, 20, 21, 22, 23, 24, 25]⟩
       refine zn H ti38 [.slice none 0 0, .slice none 0 0, .slice none 0 0] fun b383 w384 H => ?_
       refine ⟨H.pick [1, 2, 3, 4, 5, 6, 7, 8, 9, 10, 11, 12, 13, 14] [5, 6, 7, 8, 9, 10, 11, 12, 13, 14, 15, 16, 17, 18, 19, 20, 21, 22, 23, 24, 25], ?_⟩
       refine xn [5] (by kernel_rfl) (by simp) (xX rfl ?_ xq)
       have sz385 := H.base.size
       have lt386 := H.ltN (L := [F344Alive, F344Bags, Vd, yT, Q8, G304, G306, G309, G275, zT, vM, zx, zk, zO, jb, jG, vK, zM, vV, rF21]) [0, 1, 2, 3, 4, 5, 6, 7, 8, 9, 10, 11, 12, 13, 14, 15, 16, 17, 18, 19]
       refine xe #[.slice aaN aN.length caN] rfl rfl Tryz.call25 (jv w384 aN aaN caN FaN (H.get 25 rfl).1 (by first | omega | (have := p2 (by omega); omega))) ?_
       rintro v390 w388 r390 x389
       replace H := H.zf x389 r390
       obtain ⟨a391, c392, rfl, hc393, hm394⟩ := H.jd 0 rfl
       refine ⟨H.pick [2, 3, 4, 5, 6, 7, 8, 9, 10, 11, 12, 13, 14, 15] [5, 6, 7, 8, 9, 10, 11, 12, 13, 14, 15, 16, 17, 18, 19, 20, 21, 22, 23, 24, 25], ?_⟩
       refine xn [6] (by kernel_rfl) (by simp) (xX rfl ?_ xq)
       obtain ⟨G395, hn396, h397⟩ := H.Xd 0 rfl
       have sz401 := H.base.size
       have lt402 := H.ltN (L := [F344Alive, F344Bags, Vd, yT, Q8, G304, G306, G309, G275, zT, vM, zx, zk, zO, jb, jG, vK, zM, vV, rF21]) [0, 1, 2, 3, 4, 5, 6, 7, 8, 9, 10, 11, 12, 13, 14, 15, 16, 17, 18, 19]
       refine xe #[.agg #[.int .i64 aS.qH, .slice Xx aS.qf.length Xw, .slice a338Rules aS.qg.length c338Rules], .agg #[.slice a344Alive aT.qh.length c344Alive, .slice a344Bags aT.qo.length c344Bags, .slice a344Around aT.ql.length c344Around], .slice a391 aN.length c392] rfl rfl Tryz.call26 (implBy_ok w388 aS aT aN Xx Xw yT a338Rules c338Rules Q8 a344Alive c344Alive F344Alive a344Bags c344Bags F344Bags a344Around c344Around Vd a391 c392 G395 (H.get 3 rfl).1 (H.get 4 rfl).1 (H.get 0 rfl).1 (H.get 1 rfl).1 (H.get 2 rfl).1 h397) ?_
       rintro _ w399 ⟨ra398aAlive, rn398aAlive, rc398aAlive, ra398aBags, rn398aBags, rc398aBags, rx398aBags, rF398aBags, ra398aAround, rn398aAround, rc398aAround, rfl, M, K⟩ _
       replace N := N.merge sz401 lt402 M
       replace H := H.merge K M
       dsimp only [List.cons_append, List.nil_append] at H
       obtain rfl := H.QQ 0 rfl
       obtain rfl := H.zu (α := List Int) 1 rfl 0 rfl (by decide)
       obtain rfl := H.Xb 2 rfl
       refine ⟨H.pick [5, 6, 7, 8, 9, 10, 11, 12, 13, 14, 15, 16, 17, 18] [6, 7, 8, 9, 10, 11, 12, 13, 14, 15, 16, 17, 18, 19, 20, 21, 22, 23, 24, 25, 26], ?_⟩
       have S := H.yw [5, 6, 7, 8, 9, 10, 11, 12, 13, 14, 15, 16, 17, 18] [6, 7, 8, 9, 10, 11, 12, 13, 14, 15, 16, 17, 18, 19, 20, 21, 22, 23, 24, 25, 26]
       refine rtp 7 (.tuple #[.agg #[.slice ra398aAlive ((((qF aS aT aN).1).qh).length) rc398aAlive, .slice ra398aBags ((((qF aS aT aN).1).qo).length) rc398aBags, .slice ra398aAround ((((qF aS aT aN).1).ql).length) rc398aAround], .int .i64 ((qF aS aT aN).2)]) S ?_
       refine rtp 8 (.agg #[.slice ra398aAlive ((((qF aS aT aN).1).qh).length) rc398aAlive, .slice ra398aBags ((((qF aS aT aN).1).qo).length) rc398aBags, .slice ra398aAround ((((qF aS aT aN).1).ql).length) rc398aAround]) S ?_
       refine rtp 9 (.int .i64 ((qF aS aT aN).2)) S ?_
       refine xn [11] (by kernel_rfl) (by simp) (xX rfl ?_ xq)
       refine xU H 4 [.slice ra398aAlive ((((qF aS aT aN).1).qh).length) rc398aAlive, .slice ra398aBags ((((qF aS aT aN).1).qo).length) rc398aBags, .slice ra398aAround ((((qF aS aT aN).1).ql).length) rc398aAround] Tryz.sizeOf38 fun w406 H => ?_
       try dsimp only [List.set] at H
       refine ⟨H.pick [5, 6, 7, 8, 9, 10, 11, 12, 13, 14, 15, 16, 17, 18] [6, 7, 8, 9, 10, 11, 12, 13, 14, 15, 16, 17, 18, 19, 20, 21, 22, 23, 24, 25, 26], ?_⟩
       refine rtp 12 (.int .i64 ((qF aS aT aN).2)) (H.pick [5, 6, 7, 8, 9, 10, 11, 12, 13, 14, 15, 16, 17, 18] [6, 7, 8, 9, 10, 11, 12, 13, 14, 15, 16, 17, 18, 19, 20, 21, 22, 23, 24, 25, 26]) ?_
       refine xN (by kernel_rfl) (?_)
       exact meet ⟨_, b383, ra398aAlive, rc398aAlive, ra398aBags, rc398aBags, ra398aAround, rc398aAround, rx398aBags, rF398aBags, (by exact qj (qj (qj (qj (qj (qj (rfl) rfl) rfl) rfl) rfl) rfl) rfl), (N.pick [0, 6, 7, 8, 10, 11, 12, 13, 14, 20]), H.pick [4, 0, 1, 2, 5, 6, 7, 8, 9, 10, 11, 12, 13, 14, 15, 16, 17, 18] [0, 6, 7, 8, 10, 11, 12, 13, 14, 20, 21, 22, 23, 24, 25]⟩
      refine zn H ti38 [.slice none 0 0, .slice none 0 0, .slice none 0 0] fun b407 w408 H => ?_
      refine ⟨H.pick [1, 2, 3, 4, 5, 6, 7, 8, 9, 10, 11, 12, 13, 14] [2, 3, 4, 5, 6, 7, 8, 9, 10, 11, 12, 13, 14, 15, 16, 17, 18, 19, 20, 21, 22], ?_⟩
      refine xn [3] (by kernel_rfl) (by simp) (xX rfl ?_ xq)
      have sz409 := H.base.size
      have lt410 := H.ltN (L := [yT, Q8, G304, G306, G309, G275, zT, vM, zx, zk, zO, jb, jG, vK, zM, vV, rF21]) [0, 1, 2, 3, 4, 5, 6, 7, 8, 9, 10, 11, 12, 13, 14, 15, 16]
      refine xe #[.agg #[.slice vJ aT.qh.length vH, .slice jo aT.qo.length jm, .slice zL aT.ql.length zK]] rfl rfl Tryz.call12 (X4 w408 aT vJ vH Ql jo jm QS zL zK yh (H.get 19 rfl).1 (H.get 20 rfl).1 (H.get 21 rfl).1 (by first | assumption | omega)) ?_
      rintro v414 w412 r414 x413
      obtain ⟨a414Alive, c414Alive, F414Alive, a414Bags, c414Bags, F414Bags, a414Around, c414Around, F414Around, rfl, f414, H⟩ := H.Va x413 r414
      replace N := N.cons f414 sz409 lt410
      replace N := N.split
      replace N := N.split
      refine ⟨H.pick [1, 2, 3, 4, 5, 6, 7, 8, 9, 10, 11, 12, 13, 14] [5, 6, 7, 8, 9, 10, 11, 12, 13, 14, 15, 16, 17, 18, 19, 20, 21, 22, 23, 24, 25], ?_⟩
      refine xn [5] (by kernel_rfl) (by simp) (xX rfl ?_ xq)
      have sz415 := H.base.size
      have lt416 := H.ltN (L := [F414Alive, F414Bags, F414Around, yT, Q8, G304, G306, G309, G275, zT, vM, zx, zk, zO, jb, jG, vK, zM, vV, rF21]) [0, 1, 2, 3, 4, 5, 6, 7, 8, 9, 10, 11, 12, 13, 14, 15, 16, 17, 18, 19]
      refine xe #[.slice aaN aN.length caN] rfl rfl Tryz.call25 (jv w412 aN aaN caN FaN (H.get 25 rfl).1 (by first | omega | (have := p2 (by omega); omega))) ?_
      rintro v420 w418 r420 x419
      replace H := H.zf x419 r420
      obtain ⟨a421, c422, rfl, hc423, hm424⟩ := H.jd 0 rfl
      refine ⟨H.pick [2, 3, 4, 5, 6, 7, 8, 9, 10, 11, 12, 13, 14, 15] [5, 6, 7, 8, 9, 10, 11, 12, 13, 14, 15, 16, 17, 18, 19, 20, 21, 22, 23, 24, 25], ?_⟩
      refine xn [6] (by kernel_rfl) (by simp) (xX rfl ?_ xq)
      obtain ⟨G425, hn426, h427⟩ := H.Xd 0 rfl
      have sz431 := H.base.size
      have lt432 := H.ltN (L := [F414Alive, F414Bags, F414Around, yT, Q8, G304, G306, G309, G275, zT, vM, zx, zk, zO, jb, jG, vK, zM, vV, rF21]) [0, 1, 2, 3, 4, 5, 6, 7, 8, 9, 10, 11, 12, 13, 14, 15, 16, 17, 18, 19]
      refine xe #[.agg #[.int .i64 aS.qH, .slice Xx aS.qf.length Xw, .slice a338Rules aS.qg.length c338Rules], .agg #[.slice a414Alive aT.qh.length c414Alive, .slice a414Bags aT.qo.length c414Bags, .slice a414Around aT.ql.length c414Around], .slice a421 aN.length c422] rfl rfl Tryz.call26 (implBy_ok w418 aS aT aN Xx Xw yT a338Rules c338Rules Q8 a414Alive c414Alive F414Alive a414Bags c414Bags F414Bags a414Around c414Around F414Around a421 c422 G425 (H.get 3 rfl).1 (H.get 4 rfl).1 (H.get 0 rfl).1 (H.get 1 rfl).1 (H.get 2 rfl).1 h427) ?_
      rintro _ w429 ⟨ra428aAlive, rn428aAlive, rc428aAlive, ra428aBags, rn428aBags, rc428aBags, rx428aBags, rF428aBags, ra428aAround, rn428aAround, rc428aAround, rfl, M, K⟩ _
      replace N := N.merge sz431 lt432 M
      replace H := H.merge K M
      dsimp only [List.cons_append, List.nil_append] at H
      obtain rfl := H.QQ 0 rfl
      obtain rfl := H.zu (α := List Int) 1 rfl 0 rfl (by decide)
      obtain rfl := H.Xb 2 rfl
      refine ⟨H.pick [5, 6, 7, 8, 9, 10, 11, 12, 13, 14, 15, 16, 17, 18] [6, 7, 8, 9, 10, 11, 12, 13, 14, 15, 16, 17, 18, 19, 20, 21, 22, 23, 24, 25, 26], ?_⟩
      have S := H.yw [5, 6, 7, 8, 9, 10, 11, 12, 13, 14, 15, 16, 17, 18] [6, 7, 8, 9, 10, 11, 12, 13, 14, 15, 16, 17, 18, 19, 20, 21, 22, 23, 24, 25, 26]
      refine rtp 7 (.tuple #[.agg #[.slice ra428aAlive ((((qF aS aT aN).1).qh).length) rc428aAlive, .slice ra428aBags ((((qF aS aT aN).1).qo).length) rc428aBags, .slice ra428aAround ((((qF aS aT aN).1).ql).length) rc428aAround], .int .i64 ((qF aS aT aN).2)]) S ?_
      refine rtp 8 (.agg #[.slice ra428aAlive ((((qF aS aT aN).1).qh).length) rc428aAlive, .slice ra428aBags ((((qF aS aT aN).1).qo).length) rc428aBags, .slice ra428aAround ((((qF aS aT aN).1).ql).length) rc428aAround]) S ?_
      refine rtp 9 (.int .i64 ((qF aS aT aN).2)) S ?_
      refine xn [11] (by kernel_rfl) (by simp) (xX rfl ?_ xq)
      refine xU H 4 [.slice ra428aAlive ((((qF aS aT aN).1).qh).length) rc428aAlive, .slice ra428aBags ((((qF aS aT aN).1).qo).length) rc428aBags, .slice ra428aAround ((((qF aS aT aN).1).ql).length) rc428aAround] Tryz.sizeOf38 fun w436 H => ?_
      try dsimp only [List.set] at H
      refine ⟨H.pick [5, 6, 7, 8, 9, 10, 11, 12, 13, 14, 15, 16, 17, 18] [6, 7, 8, 9, 10, 11, 12, 13, 14, 15, 16, 17, 18, 19, 20, 21, 22, 23, 24, 25, 26], ?_⟩
      refine rtp 12 (.int .i64 ((qF aS aT aN).2)) (H.pick [5, 6, 7, 8, 9, 10, 11, 12, 13, 14, 15, 16, 17, 18] [6, 7, 8, 9, 10, 11, 12, 13, 14, 15, 16, 17, 18, 19, 20, 21, 22, 23, 24, 25, 26]) ?_
      refine xN (by kernel_rfl) (?_)
      exact meet ⟨_, b407, ra428aAlive, rc428aAlive, ra428aBags, rc428aBags, ra428aAround, rc428aAround, rx428aBags, rF428aBags, (by exact qj (qj (qj (qj (qj (qj (rfl) rfl) rfl) rfl) rfl) rfl) rfl), (N.pick [0, 6, 7, 8, 10, 11, 12, 13, 14, 20]), H.pick [4, 0, 1, 2, 5, 6, 7, 8, 9, 10, 11, 12, 13, 14, 15, 16, 17, 18] [0, 6, 7, 8, 10, 11, 12, 13, 14, 20, 21, 22, 23, 24, 25]⟩
     refine zn H ti38 [.slice none 0 0, .slice none 0 0, .slice none 0 0] fun b437 w438 H => ?_
     refine ⟨H.pick [1, 2, 3, 4, 5, 6, 7, 8, 9, 10, 11, 12, 13, 14] [0, 1, 2, 3, 4, 5, 6, 7, 8, 9, 10, 11, 12, 13, 14, 15, 16, 17, 18, 19, 20], ?_⟩
     refine xn [1] (by kernel_rfl) (by simp) (xX rfl ?_ xq)
     have sz439 := H.base.size
     have lt440 := H.ltN (L := [G304, G306, G309, G275, zT, vM, zx, zk, zO, jb, jG, vK, zM, vV, rF21]) [0, 1, 2, 3, 4, 5, 6, 7, 8, 9, 10, 11, 12, 13, 14]
     refine xe #[.agg #[.int .i64 aS.qH, .slice zC aS.qf.length zB, .slice vT aS.qg.length vS]] rfl rfl Tryz.call11 (toSystem_ok w438 aS zC zB jR vT vS QC (H.get 15 rfl).1 (H.get 16 rfl).1 (by first | assumption | omega)) ?_
     rintro v444 w442 r444 x443
     obtain ⟨a444Parents, c444Parents, F444Parents, a444Rules, c444Rules, F444Rules, rfl, f444, H⟩ := H.add_SystemD x443 r444
     replace N := N.cons f444 sz439 lt440
     replace N := N.split
     refine ⟨H.pick [1, 2, 3, 4, 5, 6, 7, 8, 9, 10, 11, 12, 13, 14] [2, 3, 4, 5, 6, 7, 8, 9, 10, 11, 12, 13, 14, 15, 16, 17, 18, 19, 20, 21, 22], ?_⟩
     refine xn [3] (by kernel_rfl) (by simp) (xX rfl ?_ xq)
     have sz445 := H.base.size
     have lt446 := H.ltN (L := [F444Parents, F444Rules, G304, G306, G309, G275, zT, vM, zx, zk, zO, jb, jG, vK, zM, vV, rF21]) [0, 1, 2, 3, 4, 5, 6, 7, 8, 9, 10, 11, 12, 13, 14, 15, 16]
     refine xe #[.agg #[.slice vJ aT.qh.length vH, .slice jo aT.qo.length jm, .slice zL aT.ql.length zK]] rfl rfl Tryz.call12 (X4 w442 aT vJ vH Ql jo jm QS zL zK yh (H.get 19 rfl).1 (H.get 20 rfl).1 (H.get 21 rfl).1 (by first | assumption | omega)) ?_
     rintro v450 w448 r450 x449
     obtain ⟨a450Alive, c450Alive, F450Alive, a450Bags, c450Bags, F450Bags, a450Around, c450Around, F450Around, rfl, f450, H⟩ := H.Va x449 r450
     replace N := N.cons f450 sz445 lt446
     replace N := N.split
     replace N := N.split
     refine ⟨H.pick [1, 2, 3, 4, 5, 6, 7, 8, 9, 10, 11, 12, 13, 14] [5, 6, 7, 8, 9, 10, 11, 12, 13, 14, 15, 16, 17, 18, 19, 20, 21, 22, 23, 24, 25], ?_⟩
     refine xn [5] (by kernel_rfl) (by simp) (xX rfl ?_ xq)
     have sz451 := H.base.size
     have lt452 := H.ltN (L := [F450Alive, F450Bags, F450Around, F444Parents, F444Rules, G304, G306, G309, G275, zT, vM, zx, zk, zO, jb, jG, vK, zM, vV, rF21]) [0, 1, 2, 3, 4, 5, 6, 7, 8, 9, 10, 11, 12, 13, 14, 15, 16, 17, 18, 19]
     refine xe #[.slice aaN aN.length caN] rfl rfl Tryz.call25 (jv w448 aN aaN caN FaN (H.get 25 rfl).1 (by first | omega | (have := p2 (by omega); omega))) ?_
     rintro v456 w454 r456 x455
     replace H := H.zf x455 r456
     obtain ⟨a457, c458, rfl, hc459, hm460⟩ := H.jd 0 rfl
     refine ⟨H.pick [2, 3, 4, 5, 6, 7, 8, 9, 10, 11, 12, 13, 14, 15] [5, 6, 7, 8, 9, 10, 11, 12, 13, 14, 15, 16, 17, 18, 19, 20, 21, 22, 23, 24, 25], ?_⟩
     refine xn [6] (by kernel_rfl) (by simp) (xX rfl ?_ xq)
     obtain ⟨G461, hn462, h463⟩ := H.Xd 0 rfl
     have sz467 := H.base.size
     have lt468 := H.ltN (L := [F450Alive, F450Bags, F450Around, F444Parents, F444Rules, G304, G306, G309, G275, zT, vM, zx, zk, zO, jb, jG, vK, zM, vV, rF21]) [0, 1, 2, 3, 4, 5, 6, 7, 8, 9, 10, 11, 12, 13, 14, 15, 16, 17, 18, 19]
     refine xe #[.agg #[.int .i64 aS.qH, .slice a444Parents aS.qf.length c444Parents, .slice a444Rules aS.qg.length c444Rules], .agg #[.slice a450Alive aT.qh.length c450Alive, .slice a450Bags aT.qo.length c450Bags, .slice a450Around aT.ql.length c450Around], .slice a457 aN.length c458] rfl rfl Tryz.call26 (implBy_ok w454 aS aT aN a444Parents c444Parents F444Parents a444Rules c444Rules F444Rules a450Alive c450Alive F450Alive a450Bags c450Bags F450Bags a450Around c450Around F450Around a457 c458 G461 (H.get 3 rfl).1 (H.get 4 rfl).1 (H.get 0 rfl).1 (H.get 1 rfl).1 (H.get 2 rfl).1 h463) ?_
     rintro _ w465 ⟨ra464aAlive, rn464aAlive, rc464aAlive, ra464aBags, rn464aBags, rc464aBags, rx464aBags, rF464aBags, ra464aAround, rn464aAround, rc464aAround, rfl, M, K⟩ _
     replace N := N.merge sz467 lt468 M
     replace H := H.merge K M
     dsimp only [List.cons_append, List.nil_append] at H
     obtain rfl := H.QQ 0 rfl
     obtain rfl := H.zu (α := List Int) 1 rfl 0 rfl (by decide)
     obtain rfl := H.Xb 2 rfl
     refine ⟨H.pick [5, 6, 7, 8, 9, 10, 11, 12, 13, 14, 15, 16, 17, 18] [6, 7, 8, 9, 10, 11, 12, 13, 14, 15, 16, 17, 18, 19, 20, 21, 22, 23, 24, 25, 26], ?_⟩
     have S := H.yw [5, 6, 7, 8, 9, 10, 11, 12, 13, 14, 15, 16, 17, 18] [6, 7, 8, 9, 10, 11, 12, 13, 14, 15, 16, 17, 18, 19, 20, 21, 22, 23, 24, 25, 26]
     refine rtp 7 (.tuple #[.agg #[.slice ra464aAlive ((((qF aS aT aN).1).qh).length) rc464aAlive, .slice ra464aBags ((((qF aS aT aN).1).qo).length) rc464aBags, .slice ra464aAround ((((qF aS aT aN).1).ql).length) rc464aAround], .int .i64 ((qF aS aT aN).2)]) S ?_
     refine rtp 8 (.agg #[.slice ra464aAlive ((((qF aS aT aN).1).qh).length) rc464aAlive, .slice ra464aBags ((((qF aS aT aN).1).qo).length) rc464aBags, .slice ra464aAround ((((qF aS aT aN).1).ql).length) rc464aAround]) S ?_
     refine rtp 9 (.int .i64 ((qF aS aT aN).2)) S ?_
     refine xn [11] (by kernel_rfl) (by simp) (xX rfl ?_ xq)
     refine xU H 4 [.slice ra464aAlive ((((qF aS aT aN).1).qh).length) rc464aAlive, .slice ra464aBags ((((qF aS aT aN).1).qo).length) rc464aBags, .slice ra464aAround ((((qF aS aT aN).1).ql).length) rc464aAround] Tryz.sizeOf38 fun w472 H => ?_
     try dsimp only [List.set] at H
     refine ⟨H.pick [5, 6, 7, 8, 9, 10, 11, 12, 13, 14, 15, 16, 17, 18] [6, 7, 8, 9, 10, 11, 12, 13, 14, 15, 16, 17, 18, 19, 20, 21, 22, 23, 24, 25, 26], ?_⟩
     refine rtp 12 (.int .i64 ((qF aS aT aN).2)) (H.pick [5, 6, 7, 8, 9, 10, 11, 12, 13, 14, 15, 16, 17, 18] [6, 7, 8, 9, 10, 11, 12, 13, 14, 15, 16, 17, 18, 19, 20, 21, 22, 23, 24, 25, 26]) ?_
     refine xN (by kernel_rfl) (?_)
     exact meet ⟨_, b437, ra464aAlive, rc464aAlive, ra464aBags, rc464aBags, ra464aAround, rc464aAround, rx464aBags, rF464aBags, (by exact qj (qj (qj (qj (qj (qj (rfl) rfl) rfl) rfl) rfl) rfl) rfl), (N.pick [0, 6, 7, 8, 10, 11, 12, 13, 14, 20]), H.pick [4, 0, 1, 2, 5, 6, 7, 8, 9, 10, 11, 12, 13, 14, 15, 16, 17, 18] [0, 6, 7, 8, 10, 11, 12, 13, 14, 20, 21, 22, 23, 24, 25]⟩
    clear H N
    rintro ρ w473 ⟨junk, b323, ra324, rc325, ra326, rc327, ra328, rc329, rx330, rF331, rfl, N, H⟩
    refine t_n (qm (qm (qA ?_)))
    refine sw (zl [.slice ra324 ((((qF aS aT aN).1).qh).length) rc325, .slice ra326 ((((qF aS aT aN).1).qo).length) rc327, .slice ra328 ((((qF aS aT aN).1).ql).length) rc329] Tryz.isAgg38 Tryz.sizeOf38 rfl (qI (H.cells 0 rfl) 0 3) ?_)
    refine sw (zl [.slice ra14 ((((qF aS aT aN).1).qh).length) rc15, .slice ra16 ((((qF aS aT aN).1).qo).length) rc17, .slice ra18 ((((qF aS aT aN).1).ql).length) rc19] Tryz.isAgg38 Tryz.sizeOf38 rfl (qI (H.cells 12 rfl) 0 3) ?_)
    obtain ⟨G474, hn475, h476⟩ := H.rowIsB 1 rfl
    obtain ⟨G477, hn478, h479⟩ := H.rowIsR (α := List Int) 2 rfl 0 rfl (by decide)
    obtain ⟨G480, hn481, h482⟩ := H.Xd 3 rfl
    obtain ⟨G483, hn484, h485⟩ := H.rowIsB 13 rfl
    obtain ⟨G486, hn487, h488⟩ := H.rowIsR (α := List Int) 14 rfl 9 rfl (by decide)
    obtain ⟨G489, hn490, h491⟩ := H.Xd 15 rfl
    refine sw (xe #[.agg #[.slice ra324 ((((qF aS aT aN).1).qh).length) rc325, .slice ra326 ((((qF aS aT aN).1).qo).length) rc327, .slice ra328 ((((qF aS aT aN).1).ql).length) rc329], .agg #[.slice ra14 ((((qF aS aT aN).1).qh).length) rc15, .slice ra16 ((((qF aS aT aN).1).qo).length) rc17, .slice ra18 ((((qF aS aT aN).1).ql).length) rc19]] rfl rfl Tryz.call16 (eqState_ok w473 ((qF aS aT aN).1) ((qF aS aT aN).1) ra324 rc325 G474 ra326 rc327 G477 ra328 rc329 G480 ra14 rc15 G483 ra16 rc17 G486 ra18 rc19 G489 h476 h479 h482 h485 h488 h491) ?_)
    rintro _ w492 rfl x493
    replace H := H.ext x493
    refine sps [.bool (!(decide (((qF aS aT aN).1) = ((qF aS aT aN).1)))), .bool (!(decide (((qF aS aT aN).1) = ((qF aS aT aN).1))))] ?_
    cases h494 : (!(decide (((qF aS aT aN).1) = ((qF aS aT aN).1))))
    ·skip
     replace h494 := qX h494
     refine qR 127 rfl rfl ?_
     refine sp (.int .i64 ((qF aS aT aN).2)) ?_
     refine qR 127 rfl rfl ?_
     refine sp (.int .i64 ((qF aS aT aN).2)) ?_
     refine qR 127 rfl rfl ?_
     refine sps [.bool (((qF aS aT aN).2 : Int) != ((qF aS aT aN).2)), .bool (((qF aS aT aN).2 : Int) != ((qF aS aT aN).2))] ?_
     refine qx (t_n ?_)
     refine qW (((qF aS aT aN).2 : Int) != ((qF aS aT aN).2)) rfl (fun h => absurd rfl (bne_iff_ne.1 h)) (fun h495 => ?_)
     replace h495 := xR h495
     refine xu (t_n (qm (qA ?_)))
     refine sp (.int .i64 1) ?_
     refine qx (t_n (qm (qA ?_)))
     refine sw (zl [.slice ra195aAlive ((((qF aS aT aN).1).qh).length) rc195aAlive, .slice ra195aBags ((((qF aS aT aN).1).qo).length) rc195aBags, .slice ra195aAround ((((qF aS aT aN).1).ql).length) rc195aAround] Tryz.isAgg38 Tryz.sizeOf38 rfl (qI (H.cells 5 rfl) 0 3) ?_)
     refine sp (.int .i64 1) ?_
     have hn496 := H.isLen 1 rfl
     have hn497 := H.isLen 2 rfl
     have hn498 := H.isLen 3 rfl
     refine sw (xe #[.agg #[.slice ra195aAlive ((((qF aS aT aN).1).qh).length) rc195aAlive, .slice ra195aBags ((((qF aS aT aN).1).qo).length) rc195aBags, .slice ra195aAround ((((qF aS aT aN).1).ql).length) rc195aAround], .int .i64 1] rfl rfl Tryz.call23 (args_eq (by rw [← hn496, ← hn497, ← hn498]) (heldState_ok w492 (⟨(mrk (((qF aS aT aN).1).qh) (1)), (mrk (((qF aS aT aN).1).qo) (1 + (cnt (((qF aS aT aN).1).qh) : Nat))), (mrk (((qF aS aT aN).1).ql) (1 + (cnt (((qF aS aT aN).1).qh) : Nat) + (cnt (((qF aS aT aN).1).qo) : Nat)))⟩ : qU) 1 ra195aAlive rc195aAlive G304 ra195aBags rc195aBags G306 ra195aAround rc195aAround G309 (hn496 ▸ (H.get 1 rfl).1) (hn497 ▸ (H.get 2 rfl).1) (hn498 ▸ (H.get 3 rfl).1) (by first | exact mkd_mark _ _ | omega | (simp only [cnt_mark]; first | exact mkd_mark _ _ | omega)) (by first | exact mkd_mark _ _ | omega | (simp only [cnt_mark]; first | exact mkd_mark _ _ | omega)) (by first | exact mkd_mark _ _ | omega | (simp only [cnt_mark]; first | exact mkd_mark _ _ | omega)) (by first | exact mkd_mark _ _ | omega | (simp only [cnt_mark]; first | exact mkd_mark _ _ | omega)) (by first | exact mkd_mark _ _ | omega | (simp only [cnt_mark]; first | exact mkd_mark _ _ | omega)))) ?_)
     rintro _ w499 rfl x500
     replace H := H.ext x500
     refine sp (.int .i64 (1 + (cnt (⟨(mrk (((qF aS aT aN).1).qh) (1)), (mrk (((qF aS aT aN).1).qo) (1 + (cnt (((qF aS aT aN).1).qh) : Nat))), (mrk (((qF aS aT aN).1).ql) (1 + (cnt (((qF aS aT aN).1).qh) : Nat) + (cnt (((qF aS aT aN).1).qo) : Nat)))⟩ : qU).qh : Nat) + (cnt (⟨(mrk (((qF aS aT aN).1).qh) (1)), (mrk (((qF aS aT aN).1).qo) (1 + (cnt (((qF aS aT aN).1).qh) : Nat))), (mrk (((qF aS aT aN).1).ql) (1 + (cnt (((qF aS aT aN).1).qh) : Nat) + (cnt (((qF aS aT aN).1).qo) : Nat)))⟩ : qU).qo : Nat) + (cnt (⟨(mrk (((qF aS aT aN).1).qh) (1)), (mrk (((qF aS aT aN).1).qo) (1 + (cnt (((qF aS aT aN).1).qh) : Nat))), (mrk (((qF aS aT aN).1).ql) (1 + (cnt (((qF aS aT aN).1).qh) : Nat) + (cnt (((qF aS aT aN).1).qo) : Nat)))⟩ : qU).ql : Nat))) ?_
     refine qx (t_n (qm (qm (qA ?_))))
     refine sps [.int .i64 (1 + (cnt (⟨(mrk (((qF aS aT aN).1).qh) (1)), (mrk (((qF aS aT aN).1).qo) (1 + (cnt (((qF aS aT aN).1).qh) : Nat))), (mrk (((qF aS aT aN).1).ql) (1 + (cnt (((qF aS aT aN).1).qh) : Nat) + (cnt (((qF aS aT aN).1).qo) : Nat)))⟩ : qU).qh : Nat) + (cnt (⟨(mrk (((qF aS aT aN).1).qh) (1)), (mrk (((qF aS aT aN).1).qo) (1 + (cnt (((qF aS aT aN).1).qh) : Nat))), (mrk (((qF aS aT aN).1).ql) (1 + (cnt (((qF aS aT aN).1).qh) : Nat) + (cnt (((qF aS aT aN).1).qo) : Nat)))⟩ : qU).qo : Nat) + (cnt (⟨(mrk (((qF aS aT aN).1).qh) (1)), (mrk (((qF aS aT aN).1).qo) (1 + (cnt (((qF aS aT aN).1).qh) : Nat))), (mrk (((qF aS aT aN).1).ql) (1 + (cnt (((qF aS aT aN).1).qh) : Nat) + (cnt (((qF aS aT aN).1).qo) : Nat)))⟩ : qU).ql : Nat)), .bool (decide ((1 + (cnt (⟨(mrk (((qF aS aT aN).1).qh) (1)), (mrk (((qF aS aT aN).1).qo) (1 + (cnt (((qF aS aT aN).1).qh) : Nat))), (mrk (((qF aS aT aN).1).ql) (1 + (cnt (((qF aS aT aN).1).qh) : Nat) + (cnt (((qF aS aT aN).1).qo) : Nat)))⟩ : qU).qh : Nat) + (cnt (⟨(mrk (((qF aS aT aN).1).qh) (1)), (mrk (((qF aS aT aN).1).qo) (1 + (cnt (((qF aS aT aN).1).qh) : Nat))), (mrk (((qF aS aT aN).1).ql) (1 + (cnt (((qF aS aT aN).1).qh) : Nat) + (cnt (((qF aS aT aN).1).qo) : Nat)))⟩ : qU).qo : Nat) + (cnt (⟨(mrk (((qF aS aT aN).1).qh) (1)), (mrk (((qF aS aT aN).1).qo) (1 + (cnt (((qF aS aT aN).1).qh) : Nat))), (mrk (((qF aS aT aN).1).ql) (1 + (cnt (((qF aS aT aN).1).qh) : Nat) + (cnt (((qF aS aT aN).1).qo) : Nat)))⟩ : qU).ql : Nat) : Int) < 0))] ?_
     refine qx (t_n ?_)
     refine qW (decide ((1 + (cnt (⟨(mrk (((qF aS aT aN).1).qh) (1)), (mrk (((qF aS aT aN).1).qo) (1 + (cnt (((qF aS aT aN).1).qh) : Nat))), (mrk (((qF aS aT aN).1).ql) (1 + (cnt (((qF aS aT aN).1).qh) : Nat) + (cnt (((qF aS aT aN).1).qo) : Nat)))⟩ : qU).qh : Nat) + (cnt (⟨(mrk (((qF aS aT aN).1).qh) (1)), (mrk (((qF aS aT aN).1).qo) (1 + (cnt (((qF aS aT aN).1).qh) : Nat))), (mrk (((qF aS aT aN).1).ql) (1 + (cnt (((qF aS aT aN).1).qh) : Nat) + (cnt (((qF aS aT aN).1).qo) : Nat)))⟩ : qU).qo : Nat) + (cnt (⟨(mrk (((qF aS aT aN).1).qh) (1)), (mrk (((qF aS aT aN).1).qo) (1 + (cnt (((qF aS aT aN).1).qh) : Nat))), (mrk (((qF aS aT aN).1).ql) (1 + (cnt (((qF aS aT aN).1).qh) : Nat) + (cnt (((qF aS aT aN).1).qo) : Nat)))⟩ : qU).ql : Nat) : Int) < 0)) rfl (fun h501 => ?_) (fun h501 => ?_)
     ·skip
      replace h501 := of_decide_eq_true h501
      refine qm (qA ?_)
      refine sp (.bool false) ?_
      refine qx (t_n (xB (t_r ?_)))
      refine ret1 (.bool false) rfl rfl ⟨_, rfl, ?_, H.base⟩
      exfalso; first | omega
     replace h501 := of_decide_eq_false h501
     refine xu (t_n (qm (qm (qA ?_))))
     refine sps [.int .i64 (1 + (cnt (⟨(mrk (((qF aS aT aN).1).qh) (1)), (mrk (((qF aS aT aN).1).qo) (1 + (cnt (((qF aS aT aN).1).qh) : Nat))), (mrk (((qF aS aT aN).1).ql) (1 + (cnt (((qF aS aT aN).1).qh) : Nat) + (cnt (((qF aS aT aN).1).qo) : Nat)))⟩ : qU).qh : Nat) + (cnt (⟨(mrk (((qF aS aT aN).1).qh) (1)), (mrk (((qF aS aT aN).1).qo) (1 + (cnt (((qF aS aT aN).1).qh) : Nat))), (mrk (((qF aS aT aN).1).ql) (1 + (cnt (((qF aS aT aN).1).qh) : Nat) + (cnt (((qF aS aT aN).1).qo) : Nat)))⟩ : qU).qo : Nat) + (cnt (⟨(mrk (((qF aS aT aN).1).qh) (1)), (mrk (((qF aS aT aN).1).qo) (1 + (cnt (((qF aS aT aN).1).qh) : Nat))), (mrk (((qF aS aT aN).1).ql) (1 + (cnt (((qF aS aT aN).1).qh) : Nat) + (cnt (((qF aS aT aN).1).qo) : Nat)))⟩ : qU).ql : Nat)), .int .i64 (1 + (cnt (((qF aS aT aN).1).qh) : Nat) + (cnt (((qF aS aT aN).1).qo) : Nat) + (cnt (((qF aS aT aN).1).ql) : Nat)), .bool ((1 + (cnt (⟨(mrk (((qF aS aT aN).1).qh) (1)), (mrk (((qF aS aT aN).1).qo) (1 + (cnt (((qF aS aT aN).1).qh) : Nat))), (mrk (((qF aS aT aN).1).ql) (1 + (cnt (((qF aS aT aN).1).qh) : Nat) + (cnt (((qF aS aT aN).1).qo) : Nat)))⟩ : qU).qh : Nat) + (cnt (⟨(mrk (((qF aS aT aN).1).qh) (1)), (mrk (((qF aS aT aN).1).qo) (1 + (cnt (((qF aS aT aN).1).qh) : Nat))), (mrk (((qF aS aT aN).1).ql) (1 + (cnt (((qF aS aT aN).1).qh) : Nat) + (cnt (((qF aS aT aN).1).qo) : Nat)))⟩ : qU).qo : Nat) + (cnt (⟨(mrk (((qF aS aT aN).1).qh) (1)), (mrk (((qF aS aT aN).1).qo) (1 + (cnt (((qF aS aT aN).1).qh) : Nat))), (mrk (((qF aS aT aN).1).ql) (1 + (cnt (((qF aS aT aN).1).qh) : Nat) + (cnt (((qF aS aT aN).1).qo) : Nat)))⟩ : qU).ql : Nat) : Int) != (1 + (cnt (((qF aS aT aN).1).qh) : Nat) + (cnt (((qF aS aT aN).1).qo) : Nat) + (cnt (((qF aS aT aN).1).ql) : Nat)))] ?_
     refine qx (t_n ?_)
     refine qW ((1 + (cnt (⟨(mrk (((qF aS aT aN).1).qh) (1)), (mrk (((qF aS aT aN).1).qo) (1 + (cnt (((qF aS aT aN).1).qh) : Nat))), (mrk (((qF aS aT aN).1).ql) (1 + (cnt (((qF aS aT aN).1).qh) : Nat) + (cnt (((qF aS aT aN).1).qo) : Nat)))⟩ : qU).qh : Nat) + (cnt (⟨(mrk (((qF aS aT aN).1).qh) (1)), (mrk (((qF aS aT aN).1).qo) (1 + (cnt (((qF aS aT aN).1).qh) : Nat))), (mrk (((qF aS aT aN).1).ql) (1 + (cnt (((qF aS aT aN).1).qh) : Nat) + (cnt (((qF aS aT aN).1).qo) : Nat)))⟩ : qU).qo : Nat) + (cnt (⟨(mrk (((qF aS aT aN).1).qh) (1)), (mrk (((qF aS aT aN).1).qo) (1 + (cnt (((qF aS aT aN).1).qh) : Nat))), (mrk (((qF aS aT aN).1).ql) (1 + (cnt (((qF aS aT aN).1).qh) : Nat) + (cnt (((qF aS aT aN).1).qo) : Nat)))⟩ : qU).ql : Nat) : Int) != (1 + (cnt (((qF aS aT aN).1).qh) : Nat) + (cnt (((qF aS aT aN).1).qo) : Nat) + (cnt (((qF aS aT aN).1).ql) : Nat))) rfl (fun h => absurd h321 (bne_iff_ne.1 h)) (fun h502 => ?_)
     replace h502 := xR h502
     refine xu (t_n (qm (qA ?_)))
     refine sp (.bool true) ?_
     refine qx (t_n (xB ?_))
     refine ret1 (.bool true) rfl rfl ⟨_, rfl, ?_, H.base⟩
     rfl
    · exact absurd (xg h494) (by simp)
   · exact absurd (xg h302) (by simp)
  replace h281 := of_decide_eq_true h281
  refine xY [92, 93, 94, 95] ?_
  refine sps [.bool true, .bool true] ?_
  refine xY [98, 99, 100] ?_
  refine sp (.bool true) ?_
  refine qx (t_n ?_)
  refine qW true rfl (fun _ => ?_) (fun h => absurd h (by decide))
  refine qm (qA ?_)
  refine sp (.bool false) ?_
  refine qx (t_n (xB (t_r ?_)))
  refine ret1 (.bool false) rfl rfl ⟨_, rfl, ?_, H.base⟩
  exfalso; first | omega
 · exact absurd (xg h226) (by simp)

end Go.Proofs.YtkmlihdacnfhdaaGreat
