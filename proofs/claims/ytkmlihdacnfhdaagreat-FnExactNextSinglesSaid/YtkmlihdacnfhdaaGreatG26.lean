/- Walks, printed by program (wip/tools/gv.py): what each function comes to, for all arguments. -/
import Derived.Test.YtkmlihdacnfhdaaGreatG25
namespace Go.Proofs.YtkmlihdacnfhdaaGreat
open Go.Proofs.YtkmlihdacnfhdaaGreat.Tot (tot)
open Go.Proofs.YtkmlihdacnfhdaaGreat.Mark (cnt mrk mkd mkd_mark cnt_mark)
open Go.RowKit
set_option linter.unusedVariables false
set_option linter.unusedSimpArgs false
set_option maxRecDepth 100000
set_option maxHeartbeats 4000000



theorem law_NextSingles (w : World) (aS : qU) (aT : qP) (vG : Option Addr) (vF : Nat) (QC : List Nat) (jG : Option Addr) (jE : Nat) (XY : List Nat) (jF : Option Addr) (jD : Nat) (XX : List Nat) (yG : Option Addr) (yF : Nat) (FaTBags : List Nat) (vX : Option Addr) (vW : Nat) (Xk : List Nat) (haSParents : qQ.rep w QC [.slice vG aS.qf.length vF] aS.qf) (haSRules : qQ.rep w XY [.slice jG aS.qg.length jE] aS.qg) (haTAlive : qQ.rep w XX [.slice jF aT.qh.length jD] aT.qh) (haTBags : qQ.rep w FaTBags [.slice yG aT.qx.length yF] aT.qx) (haTAround : qQ.rep w Xk [.slice vX aT.ql.length vW] aT.ql) : Calls Tryz.prog 7 #[.agg #[.int .i64 aS.qI, .slice vG aS.qf.length vF, .slice jG aS.qg.length jE], .agg #[.slice jF aT.qh.length jD, .slice yG aT.qx.length yF, .slice vX aT.ql.length vW]] w (Ret (fun v w' => v = .bool true) w) := by
 refine enter (n := 119) Tryz.func7 rfl Tryz.ntmps7 (Nat.le_of_ble_eq_true rfl) ?_
 have H := (((((St.start w).arg haTAround).arg haTBags).arg haTAlive).arg haSRules).arg haSParents
 have nhaSParents := qJ haSParents
 have nhaSRules := qJ haSRules
 have nhaTAlive := qJ haTAlive
 have nhaTBags := qJ haTBags
 have nhaTAround := qJ haTAround
 clear haSParents haSRules haTAlive haTBags haTAround
 have N := Fresh.nil w.heap.size
 have A := H.ltN (L := [QC, XY, XX, FaTBags, Xk]) [0, 1, 2, 3, 4]
 have t1 := tot_SystemD aS
 have t2 := tot_StateD aT
 have c0 := XR aS.qf
 have c1 := XR aS.qg
 have c2 := XR aT.qh
 have c3 := XR aT.qx
 have c4 := XR aT.ql
 have f1 := few_ns aS aT
 refine qm (qy ?_)
 refine sw (jW H [.int .i64 aS.qI, .slice vG aS.qf.length vF, .slice jG aS.qg.length jE] fun b1 w2 H => ?_)
 refine sw (jW H [.slice jF aT.qh.length jD, .slice yG aT.qx.length yF, .slice vX aT.ql.length vW] fun b3 w4 H => ?_)
 refine sp (.bool false) ?_
 refine qw (t_n (qm (qy ?_)))
 refine sp (.int .i64 1048576) ?_
 refine qw (t_n (qm (qy ?_)))
 refine sw (zi [.int .i64 aS.qI, .slice vG aS.qf.length vF, .slice jG aS.qg.length jE] Tryz.isAgg25 Tryz.sizeOf25 rfl (qG (H.cells 1 rfl) 0 3) ?_)
 refine sp (.int .i64 1048576) ?_
 refine sw (xf #[.agg #[.int .i64 aS.qI, .slice vG aS.qf.length vF, .slice jG aS.qg.length jE], .int .i64 1048576] rfl rfl Tryz.call8 (szSystem_ok w4 aS 1048576 vG vF QC jG jE XY (H.get 0 rfl).1 (H.get 1 rfl).1 (by omega)) ?_)
 rintro _ w5 rfl x6
 replace H := H.ext x6
 have := zo (tot aS) 1048576
 refine sp (.int .i64 (szR (tot aS) 1048576)) ?_
 refine qw (t_n (qm (qm (qy ?_))))
 refine sps [.int .i64 (szR (tot aS) 1048576), .bool (decide ((szR (tot aS) 1048576 : Int) < 0))] ?_
 refine qw (t_n ?_)
 refine qV (decide ((szR (tot aS) 1048576 : Int) < 0)) rfl (fun h7 => ?_) (fun h7 => ?_)
 ·skip
  replace h7 := of_decide_eq_true h7
  refine qm (qy ?_)
  refine sp (.bool true) ?_
  refine qw (t_n (xx (t_r ?_)))
  refine ret1 (.bool true) rfl rfl ⟨_, rfl, ?_, H.base⟩
  rfl
 replace h7 := of_decide_eq_false h7
 refine xh (t_n (qm (qy ?_)))
 refine sw (zi [.slice jF aT.qh.length jD, .slice yG aT.qx.length yF, .slice vX aT.ql.length vW] Tryz.isAgg29 Tryz.sizeOf29 rfl (qG (H.cells 0 rfl) 0 3) ?_)
 refine sp (.int .i64 (szR (tot aS) 1048576)) ?_
 refine sw (xf #[.agg #[.slice jF aT.qh.length jD, .slice yG aT.qx.length yF, .slice vX aT.ql.length vW], .int .i64 (szR (tot aS) 1048576)] rfl rfl Tryz.call9 (szState_ok w5 aT (szR (tot aS) 1048576) jF jD XX yG yF FaTBags vX vW Xk (H.get 2 rfl).1 (H.get 3 rfl).1 (H.get 4 rfl).1 (by omega)) ?_)
 rintro _ w8 rfl x9
 replace H := H.ext x9
 have := zo (tot aT) (szR (tot aS) 1048576)
 refine sp (.int .i64 (szR (tot aT) (szR (tot aS) 1048576))) ?_
 refine qw (t_n (qm (qm (qy ?_))))
 refine sps [.int .i64 (szR (tot aT) (szR (tot aS) 1048576)), .bool (decide ((szR (tot aT) (szR (tot aS) 1048576) : Int) < 0))] ?_
 refine qw (t_n ?_)
 refine qV (decide ((szR (tot aT) (szR (tot aS) 1048576) : Int) < 0)) rfl (fun h10 => ?_) (fun h10 => ?_)
 ·skip
  replace h10 := of_decide_eq_true h10
  refine qm (qy ?_)
  refine sp (.bool true) ?_
  refine qw (t_n (xx (t_r ?_)))
  refine ret1 (.bool true) rfl rfl ⟨_, rfl, ?_, H.base⟩
  rfl
 replace h10 := of_decide_eq_false h10
 refine xh (t_n (qm ?_))
 refine jk rfl H fun H => ?_
 refine rt 0 (.agg #[.int .i64 aS.qI, .slice vG aS.qf.length vF, .slice jG aS.qg.length jE]) (Qx (cs := [.int .i64 aS.qI, .slice vG aS.qf.length vF, .slice jG aS.qg.length jE]) Tryz.isAgg25 Tryz.sizeOf25 rfl (fun _ h => qG (h.cells 1 rfl) 0 3)) H ?_
 refine rt 2 (.agg #[.slice jF aT.qh.length jD, .slice yG aT.qx.length yF, .slice vX aT.ql.length vW]) (Qx (cs := [.slice jF aT.qh.length jD, .slice yG aT.qx.length yF, .slice vX aT.ql.length vW]) Tryz.isAgg29 Tryz.sizeOf29 rfl (fun _ h => qG (h.cells 0 rfl) 0 3)) H ?_
 refine xB [1] (by kernel_rfl) (by simp) (zh rfl ?_ xC)
 have sz12 := H.base.size
 refine xf #[.agg #[.int .i64 aS.qI, .slice vG aS.qf.length vF, .slice jG aS.qg.length jE]] rfl rfl Tryz.call11 (toSystem_ok w8.drew aS vG vF QC jG jE XY (H.get 0 rfl).1 (H.get 1 rfl).1 (by first | assumption | omega)) ?_
 rintro v17 w15 r17 x16
 obtain ⟨a17Parents, c17Parents, jg, a17Rules, c17Rules, yY, rfl, f17, H⟩ := H.add_SystemD x16 r17
 replace N := N.cons f17 sz12 (by intro F hF; simp at hF)
 replace N := N.split
 refine ⟨H.pick [0, 1] [2, 3, 4, 5, 6], ?_⟩
 refine xB [3] (by kernel_rfl) (by simp) (zh rfl ?_ xC)
 have sz18 := H.base.size
 have lt19 := H.ltN (L := [jg, yY]) [0, 1]
 refine xf #[.agg #[.slice jF aT.qh.length jD, .slice yG aT.qx.length yF, .slice vX aT.ql.length vW]] rfl rfl Tryz.call12 (toState_ok w15 aT jF jD XX yG yF FaTBags vX vW Xk (H.get 4 rfl).1 (H.get 5 rfl).1 (H.get 6 rfl).1 (by first | assumption | omega)) ?_
 rintro v23 w21 r23 x22
 obtain ⟨a23Alive, c23Alive, Qm, a23Bags, c23Bags, Xl, a23Around, c23Around, yg, rfl, f23, H⟩ := H.add_StateD x22 r23
 replace N := N.cons f23 sz18 lt19
 replace N := N.split
 replace N := N.split
 refine ⟨H.pick [0, 1] [5, 6, 7, 8, 9], ?_⟩
 refine xB [4] (by kernel_rfl) (by simp) (zh rfl ?_ xC)
 have sz27 := H.base.size
 have lt28 := H.ltN (L := [Qm, Xl, yg, jg, yY]) [0, 1, 2, 3, 4]
 refine xf #[.agg #[.int .i64 aS.qI, .slice a17Parents aS.qf.length c17Parents, .slice a17Rules aS.qg.length c17Rules], .agg #[.slice a23Alive aT.qh.length c23Alive, .slice a23Bags aT.qx.length c23Bags, .slice a23Around aT.ql.length c23Around]] rfl rfl Tryz.call33 (specNs_ok w21 aS aT a17Parents c17Parents jg a17Rules c17Rules yY a23Alive c23Alive Qm a23Bags c23Bags Xl a23Around c23Around yg (H.get 3 rfl).1 (H.get 4 rfl).1 (H.get 0 rfl).1 (H.get 1 rfl).1 (H.get 2 rfl).1) ?_
 rintro _ w25 ⟨ra24a, rn24a, rc24a, rx24a, rF24a, rfl, M, K⟩ _
 replace N := N.merge sz27 lt28 M
 replace H := H.merge K M
 dsimp only [List.cons_append, List.nil_append] at H
 obtain rfl := H.zB (α := qP) 0 rfl 0 rfl (by decide)
 refine ⟨H.pick [1, 2] [6, 7, 8, 9, 10], ?_⟩
 have S := H.Qc [1, 2] [6, 7, 8, 9, 10]
 refine rtp 5 (.tuple #[.slice ra24a (((zt aS aT).1).length) rc24a, .int .i64 ((zt aS aT).2)]) S ?_
 refine rtp 6 (.slice ra24a (((zt aS aT).1).length) rc24a) S ?_
 refine rtp 7 (.int .i64 ((zt aS aT).2)) S ?_
 refine rtp 8 (.slice ra24a (((zt aS aT).1).length) rc24a) S ?_
 refine rtp 9 (.int .i64 ((zt aS aT).2)) S ?_
 refine xO (by kernel_rfl) (t_n ?_)
 refine qm (qy ?_)
 refine sw (zi [.int .i64 aS.qI, .slice vG aS.qf.length vF, .slice jG aS.qg.length jE] Tryz.isAgg25 Tryz.sizeOf25 rfl (qG (H.cells 2 rfl) 0 3) ?_)
 have sz30 := H.base.size
 have lt31 := H.ltN (L := [rF24a, Qm, Xl, yg, jg, yY]) [0, 1, 2, 3, 4, 5]
 refine sw (xf #[.agg #[.int .i64 aS.qI, .slice vG aS.qf.length vF, .slice jG aS.qg.length jE]] rfl rfl Tryz.call11 (toSystem_ok w25 aS vG vF QC jG jE XY (H.get 6 rfl).1 (H.get 7 rfl).1 (by first | assumption | omega)) ?_)
 rintro v35 w33 r35 x34
 obtain ⟨jO, jM, jb, QP, QM, yA, rfl, f35, H⟩ := H.add_SystemD x34 r35
 replace N := N.cons f35 sz30 lt31
 replace N := N.split
 refine sw (zL H ti36 [.int .i64 0, .slice none 0 0, .slice none 0 0] fun b36 w37 H => ?_)
 refine sw (zn H 0 [.int .i64 aS.qI, .slice jO aS.qf.length jM, .slice QP aS.qg.length QM] Tryz.sizeOf36 fun w38 H => ?_)
 try dsimp only [List.set] at H
 refine qw (t_n (qm (qy ?_)))
 refine sw (zi [.slice jF aT.qh.length jD, .slice yG aT.qx.length yF, .slice vX aT.ql.length vW] Tryz.isAgg29 Tryz.sizeOf29 rfl (qG (H.cells 2 rfl) 0 3) ?_)
 have sz39 := H.base.size
 have lt40 := H.ltN (L := [jb, yA, rF24a, Qm, Xl, yg, jg, yY]) [0, 1, 2, 3, 4, 5, 6, 7]
 refine sw (xf #[.agg #[.slice jF aT.qh.length jD, .slice yG aT.qx.length yF, .slice vX aT.ql.length vW]] rfl rfl Tryz.call12 (toState_ok w38 aT jF jD XX yG yF FaTBags vX vW Xk (H.get 10 rfl).1 (H.get 11 rfl).1 (H.get 12 rfl).1 (by first | assumption | omega)) ?_)
 rintro v44 w42 r44 x43
 obtain ⟨QO, QL, yX, Xy, Xw, Q9, yC, yB, jS, rfl, f44, H⟩ := H.add_StateD x43 r44
 replace N := N.cons f44 sz39 lt40
 replace N := N.split
 replace N := N.split
 refine sw (zL H ti38 [.slice none 0 0, .slice none 0 0, .slice none 0 0] fun b45 w46 H => ?_)
 refine sw (zn H 0 [.slice QO aT.qh.length QL, .slice Xy aT.qx.length Xw, .slice yC aT.ql.length yB] Tryz.sizeOf38 fun w47 H => ?_)
 try dsimp only [List.set] at H
 refine qw (t_n (qm (qy ?_)))
 refine sw (zi [.int .i64 aS.qI, .slice jO aS.qf.length jM, .slice QP aS.qg.length QM] Tryz.isAgg36 Tryz.sizeOf36 rfl (qG (H.cells 1 rfl) 0 3) ?_)
 refine sw (zi [.slice QO aT.qh.length QL, .slice Xy aT.qx.length Xw, .slice yC aT.ql.length yB] Tryz.isAgg38 Tryz.sizeOf38 rfl (qG (H.cells 0 rfl) 0 3) ?_)
 have sz51 := H.base.size
 have lt52 := H.ltN (L := [yX, Q9, jS, jb, yA, rF24a, Qm, Xl, yg, jg, yY]) [0, 1, 2, 3, 4, 5, 6, 7, 8, 9, 10]
 refine sw (xf #[.agg #[.int .i64 aS.qI, .slice jO aS.qf.length jM, .slice QP aS.qg.length QM], .agg #[.slice QO aT.qh.length QL, .slice Xy aT.qx.length Xw, .slice yC aT.ql.length yB]] rfl rfl Tryz.call34 (implNs_ok w47 aS aT jO jM jb QP QM yA QO QL yX Xy Xw Q9 yC yB jS (H.get 3 rfl).1 (H.get 4 rfl).1 (H.get 0 rfl).1 (H.get 1 rfl).1 (H.get 2 rfl).1) ?_)
 rintro _ w49 ⟨ra48a, rn48a, rc48a, rx48a, rF48a, rfl, M, K⟩ _
 replace N := N.merge sz51 lt52 M
 replace H := H.merge K M
 dsimp only [List.cons_append, List.nil_append] at H
 obtain rfl := H.zB (α := qP) 0 rfl 0 rfl (by decide)
 refine sps [.tuple #[.slice ra48a (((zt aS aT).1).length) rc48a, .int .i64 ((zt aS aT).2)], .slice ra48a (((zt aS aT).1).length) rc48a, .int .i64 ((zt aS aT).2), .slice ra48a (((zt aS aT).1).length) rc48a, .int .i64 ((zt aS aT).2)] ?_
 refine qw (t_n (qm (qm (qy ?_))))
 refine sps [.slice ra48a (((zt aS aT).1).length) rc48a, .slice ra24a (((zt aS aT).1).length) rc24a] ?_
 obtain ⟨G54, hn55, h56⟩ := H.rowIsR (α := qP) 0 rfl 0 rfl (by decide)
 obtain ⟨G57, hn58, h59⟩ := H.rowIsR (α := qP) 3 rfl 6 rfl (by decide)
 refine sw (xf #[.slice ra48a (((zt aS aT).1).length) rc48a, .slice ra24a (((zt aS aT).1).length) rc24a] rfl rfl Tryz.call35 (eqStateS_ok w49 ((zt aS aT).1) ((zt aS aT).1) ra48a rc48a G54 ra24a rc24a G57 h56 h59) ?_)
 rintro _ w60 rfl x61
 replace H := H.ext x61
 refine sps [.bool (!(decide (((zt aS aT).1) = ((zt aS aT).1)))), .bool (!(decide (((zt aS aT).1) = ((zt aS aT).1))))] ?_
 cases h62 : (!(decide (((zt aS aT).1) = ((zt aS aT).1))))
 ·skip
  replace h62 := qX h62
  refine qR 49 rfl rfl ?_
  refine sp (.int .i64 ((zt aS aT).2)) ?_
  refine qR 49 rfl rfl ?_
  refine sp (.int .i64 ((zt aS aT).2)) ?_
  refine qR 49 rfl rfl ?_
  refine sps [.bool (((zt aS aT).2 : Int) != ((zt aS aT).2)), .bool (((zt aS aT).2 : Int) != ((zt aS aT).2))] ?_
  refine qw (t_n ?_)
  refine qV (((zt aS aT).2 : Int) != ((zt aS aT).2)) rfl (fun h => absurd rfl (bne_iff_ne.1 h)) (fun h63 => ?_)
  replace h63 := xI h63
  refine xh (t_n (qm (qm ?_)))
  refine jk rfl H fun H => ?_
  refine rt 0 (.agg #[.int .i64 aS.qI, .slice jO aS.qf.length jM, .slice QP aS.qg.length QM]) (Qx (cs := [.int .i64 aS.qI, .slice jO aS.qf.length jM, .slice QP aS.qg.length QM]) Tryz.isAgg36 Tryz.sizeOf36 rfl (fun _ h => qG (h.cells 2 rfl) 0 3)) H ?_
  refine rt 1 (.agg #[.int .i64 aS.qI, .slice vG aS.qf.length vF, .slice jG aS.qg.length jE]) (Qx (cs := [.int .i64 aS.qI, .slice vG aS.qf.length vF, .slice jG aS.qg.length jE]) Tryz.isAgg25 Tryz.sizeOf25 rfl (fun _ h => qG (h.cells 5 rfl) 0 3)) H ?_
  refine xB [2] (by kernel_rfl) (by simp) (zh rfl ?_ xC)
  have sz65 := H.base.size
  have lt66 := H.ltN (L := [rF48a, yX, Q9, jS, jb, yA, rF24a, Qm, Xl, yg, jg, yY]) [0, 1, 2, 3, 4, 5, 6, 7, 8, 9, 10, 11]
  refine xf #[.agg #[.int .i64 aS.qI, .slice vG aS.qf.length vF, .slice jG aS.qg.length jE]] rfl rfl Tryz.call11 (toSystem_ok w60.drew aS vG vF QC jG jE XY (H.get 12 rfl).1 (H.get 13 rfl).1 (by first | assumption | omega)) ?_
  rintro v70 w68 r70 x69
  obtain ⟨a70Parents, c70Parents, yI, a70Rules, c70Rules, Xq, rfl, f70, H⟩ := H.add_SystemD x69 r70
  replace N := N.cons f70 sz65 lt66
  replace N := N.split
  refine ⟨H.pick [0, 1, 2, 3, 4, 5] [2, 3, 4, 5, 6, 7, 8, 9, 10, 11, 12, 13, 14, 15, 16, 17, 18], ?_⟩
  refine xB [3] (by kernel_rfl) (by simp) (zh rfl ?_ xC)
  refine xf #[.agg #[.int .i64 aS.qI, .slice jO aS.qf.length jM, .slice QP aS.qg.length QM], .agg #[.int .i64 aS.qI, .slice a70Parents aS.qf.length c70Parents, .slice a70Rules aS.qg.length c70Rules]] rfl rfl Tryz.call15 (eqSystem_ok w68 aS aS jO jM jb QP QM yA a70Parents c70Parents yI a70Rules c70Rules Xq (H.get 6 rfl).1 (H.get 7 rfl).1 (H.get 0 rfl).1 (H.get 1 rfl).1) ?_
  rintro _ w71 rfl x72
  replace H := H.ext x72
  refine ⟨H.pick [0, 1, 2, 3, 4, 5] [2, 3, 4, 5, 6, 7, 8, 9, 10, 11, 12, 13, 14, 15, 16, 17, 18], ?_⟩
  refine rtp 4 (.bool (!(decide (aS = aS)))) (H.pick [0, 1, 2, 3, 4, 5] [2, 3, 4, 5, 6, 7, 8, 9, 10, 11, 12, 13, 14, 15, 16, 17, 18]) ?_
  refine xO (by kernel_rfl) (t_n ?_)
  refine qV (!(decide (aS = aS))) rfl (fun h => absurd (xe h) (by simp)) (fun h73 => ?_)
  replace h73 := qX h73
  refine xh (t_n (qm (qm ?_)))
  refine jk rfl H fun H => ?_
  refine rt 0 (.agg #[.slice QO aT.qh.length QL, .slice Xy aT.qx.length Xw, .slice yC aT.ql.length yB]) (Qx (cs := [.slice QO aT.qh.length QL, .slice Xy aT.qx.length Xw, .slice yC aT.ql.length yB]) Tryz.isAgg38 Tryz.sizeOf38 rfl (fun _ h => qG (h.cells 1 rfl) 0 3)) H ?_
  refine rt 1 (.agg #[.slice jF aT.qh.length jD, .slice yG aT.qx.length yF, .slice vX aT.ql.length vW]) (Qx (cs := [.slice jF aT.qh.length jD, .slice yG aT.qx.length yF, .slice vX aT.ql.length vW]) Tryz.isAgg29 Tryz.sizeOf29 rfl (fun _ h => qG (h.cells 4 rfl) 0 3)) H ?_
  refine xB [2] (by kernel_rfl) (by simp) (zh rfl ?_ xC)
  have sz75 := H.base.size
  have lt76 := H.ltN (L := [yI, Xq, rF48a, yX, Q9, jS, jb, yA, rF24a, Qm, Xl, yg, jg, yY]) [0, 1, 2, 3, 4, 5, 6, 7, 8, 9, 10, 11, 12, 13]
  refine xf #[.agg #[.slice jF aT.qh.length jD, .slice yG aT.qx.length yF, .slice vX aT.ql.length vW]] rfl rfl Tryz.call12 (toState_ok w71.drew aT jF jD XX yG yF FaTBags vX vW Xk (H.get 16 rfl).1 (H.get 17 rfl).1 (H.get 18 rfl).1 (by first | assumption | omega)) ?_
  rintro v80 w78 r80 x79
  obtain ⟨a80Alive, c80Alive, XB, a80Bags, c80Bags, F80Bags, a80Around, c80Around, Q4, rfl, f80, H⟩ := H.add_StateD x79 r80
  replace N := N.cons f80 sz75 lt76
  replace N := N.split
  replace N := N.split
  refine ⟨H.pick [0, 1, 2, 3, 4, 5] [3, 4, 5, 6, 7, 8, 9, 10, 11, 12, 13, 14, 15, 16, 17, 18, 19, 20, 21], ?_⟩
  refine xB [3] (by kernel_rfl) (by simp) (zh rfl ?_ xC)
  refine xf #[.agg #[.slice QO aT.qh.length QL, .slice Xy aT.qx.length Xw, .slice yC aT.ql.length yB], .agg #[.slice a80Alive aT.qh.length c80Alive, .slice a80Bags aT.qx.length c80Bags, .slice a80Around aT.ql.length c80Around]] rfl rfl Tryz.call16 (eqState_ok w78 aT aT QO QL yX Xy Xw Q9 yC yB jS a80Alive c80Alive XB a80Bags c80Bags F80Bags a80Around c80Around Q4 (H.get 6 rfl).1 (H.get 7 rfl).1 (H.get 8 rfl).1 (H.get 0 rfl).1 (H.get 1 rfl).1 (H.get 2 rfl).1) ?_
  rintro _ w81 rfl x82
  replace H := H.ext x82
  refine ⟨H.pick [0, 1, 2, 3, 4, 5] [3, 4, 5, 6, 7, 8, 9, 10, 11, 12, 13, 14, 15, 16, 17, 18, 19, 20, 21], ?_⟩
  refine rtp 4 (.bool (!(decide (aT = aT)))) (H.pick [0, 1, 2, 3, 4, 5] [3, 4, 5, 6, 7, 8, 9, 10, 11, 12, 13, 14, 15, 16, 17, 18, 19, 20, 21]) ?_
  refine xO (by kernel_rfl) (t_n ?_)
  refine qV (!(decide (aT = aT))) rfl (fun h => absurd (xe h) (by simp)) (fun h83 => ?_)
  replace h83 := qX h83
  refine xh (t_n (qm (qy ?_)))
  refine sp (.int .i64 1) ?_
  refine qw (t_n (qm (qy ?_)))
  refine sw (zi [.int .i64 aS.qI, .slice jO aS.qf.length jM, .slice QP aS.qg.length QM] Tryz.isAgg36 Tryz.sizeOf36 rfl (qG (H.cells 2 rfl) 0 3) ?_)
  refine sp (.int .i64 1) ?_
  have N84 : Fresh w.heap.size [jb, yA, XB, F80Bags, Q4, yI, Xq, rF48a, yX, Q9, jS, rF24a, Qm, Xl, yg, jg, yY] := (N.pick [9, 10, 0, 1, 2, 3, 4, 5, 6, 7, 8, 11, 12, 13, 14, 15, 16])
  refine sw (Xo #[.agg #[.int .i64 aS.qI, .slice jO aS.qf.length jM, .slice QP aS.qg.length QM], .int .i64 1] rfl rfl Tryz.call17 (markSystem_ok w81 aS 1 jO jM jb QP QM yA (H.get 9 rfl).1 (H.get 10 rfl).1 (N84.pick [0, 1] : Fresh _ [jb, yA]).join.one.2 (((H.get 9 rfl).2 rfl).app ((H.get 10 rfl).2 rfl)) (by omega) (by omega)) ?_)
  rintro _ w85 ⟨rfl, m87⟩ x86
  replace H : St _ _ [.row (.slice ra48a (((zt aS aT).1).length) rc48a) 38 3 (((zt aS aT).1).length) rx48a, .box b45 [.slice QO aT.qh.length QL, .slice Xy aT.qx.length Xw, .slice yC aT.ql.length yB] 38, .box b36 [.int .i64 aS.qI, .slice jO aS.qf.length jM, .slice QP aS.qg.length QM] 36, .row (.slice ra24a (((zt aS aT).1).length) rc24a) 38 3 (((zt aS aT).1).length) rx24a, .box b3 [.slice jF aT.qh.length jD, .slice yG aT.qx.length yF, .slice vX aT.ql.length vW] 29, .box b1 [.int .i64 aS.qI, .slice vG aS.qf.length vF, .slice jG aS.qg.length jE] 25] [isF true jb (.slice jO aS.qf.length jM) (mrk aS.qf (1)), isF true yA (.slice QP aS.qg.length QM) (mrk aS.qg (1 + (cnt aS.qf : Nat))), isF true XB (.slice a80Alive aT.qh.length c80Alive) aT.qh, isF true F80Bags (.slice a80Bags aT.qx.length c80Bags) aT.qx, isF true Q4 (.slice a80Around aT.ql.length c80Around) aT.ql, isF true yI (.slice a70Parents aS.qf.length c70Parents) aS.qf, isF true Xq (.slice a70Rules aS.qg.length c70Rules) aS.qg, vK true rF48a rx48a ((zt aS aT).1), isF true yX (.slice QO aT.qh.length QL) aT.qh, isF true Q9 (.slice Xy aT.qx.length Xw) aT.qx, isF true jS (.slice yC aT.ql.length yB) aT.ql, vK true rF24a rx24a ((zt aS aT).1), isF true Qm (.slice a23Alive aT.qh.length c23Alive) aT.qh, isF true Xl (.slice a23Bags aT.qx.length c23Bags) aT.qx, isF true yg (.slice a23Around aT.ql.length c23Around) aT.ql, isF true jg (.slice a17Parents aS.qf.length c17Parents) aS.qf, isF true yY (.slice a17Rules aS.qg.length c17Rules) aS.qg, isF false QC (.slice vG aS.qf.length vF) aS.qf, isF false XY (.slice jG aS.qg.length jE) aS.qg, isF false XX (.slice jF aT.qh.length jD) aT.qh, isF false FaTBags (.slice yG aT.qx.length yF) aT.qx, isF false Xk (.slice vX aT.ql.length vW) aT.ql] := H.chgFacts (Fs := [jb, yA]) (L := [XB, F80Bags, Q4, yI, Xq, rF48a, yX, Q9, jS, rF24a, Qm, Xl, yg, jg, yY]) (A := [QC, XY, XX, FaTBags, Xk]) N84 A (x86.mono (by intro z hz; simpa using hz)) [9, 10] [isF true jb (.slice jO aS.qf.length jM) (mrk aS.qf (1)), isF true yA (.slice QP aS.qg.length QM) (mrk aS.qg (1 + (cnt aS.qf : Nat)))] (all_of ⟨m87.1, ⟨m87.2, trivial⟩⟩) [0, 1, 2, 3, 4, 5, 6, 7, 8, 11, 12, 13, 14, 15, 16, 17, 18, 19, 20, 21] [0, 1, 2, 3, 4, 5, 6, 7, 8, 9, 10, 11, 12, 13, 14, 15, 16, 17, 18, 19]
  replace N := N84
  refine sp (.int .i64 (1 + (cnt aS.qf : Nat) + (cnt aS.qg : Nat))) ?_
  refine qw (t_n (qm (qy ?_)))
  refine sw (zi [.slice QO aT.qh.length QL, .slice Xy aT.qx.length Xw, .slice yC aT.ql.length yB] Tryz.isAgg38 Tryz.sizeOf38 rfl (qG (H.cells 1 rfl) 0 3) ?_)
  refine sp (.int .i64 (1 + (cnt aS.qf : Nat) + (cnt aS.qg : Nat))) ?_
  have N88 : Fresh w.heap.size [yX, Q9, jS, jb, yA, XB, F80Bags, Q4, yI, Xq, rF48a, rF24a, Qm, Xl, yg, jg, yY] := (N.pick [8, 9, 10, 0, 1, 2, 3, 4, 5, 6, 7, 11, 12, 13, 14, 15, 16])
  refine sw (Xo #[.agg #[.slice QO aT.qh.length QL, .slice Xy aT.qx.length Xw, .slice yC aT.ql.length yB], .int .i64 (1 + (cnt aS.qf : Nat) + (cnt aS.qg : Nat))] rfl rfl Tryz.call18 (markState_ok w85 aT (1 + (cnt aS.qf : Nat) + (cnt aS.qg : Nat)) QO QL yX Xy Xw Q9 yC yB jS (H.get 8 rfl).1 (H.get 9 rfl).1 (H.get 10 rfl).1 (N88.pick [0, 1, 2] : Fresh _ [yX, Q9, jS]).join.join.one.2 ((((H.get 8 rfl).2 rfl).app ((H.get 9 rfl).2 rfl)).app ((H.get 10 rfl).2 rfl)) (by omega) (by omega)) ?_)
  rintro _ w89 ⟨rfl, m91⟩ x90
  replace H : St _ _ [.row (.slice ra48a (((zt aS aT).1).length) rc48a) 38 3 (((zt aS aT).1).length) rx48a, .box b45 [.slice QO aT.qh.length QL, .slice Xy aT.qx.length Xw, .slice yC aT.ql.length yB] 38, .box b36 [.int .i64 aS.qI, .slice jO aS.qf.length jM, .slice QP aS.qg.length QM] 36, .row (.slice ra24a (((zt aS aT).1).length) rc24a) 38 3 (((zt aS aT).1).length) rx24a, .box b3 [.slice jF aT.qh.length jD, .slice yG aT.qx.length yF, .slice vX aT.ql.length vW] 29, .box b1 [.int .i64 aS.qI, .slice vG aS.qf.length vF, .slice jG aS.qg.length jE] 25] [isF true yX (.slice QO aT.qh.length QL) (mrk aT.qh (1 + (cnt aS.qf : Nat) + (cnt aS.qg : Nat))), isF true Q9 (.slice Xy aT.qx.length Xw) (mrk aT.qx (1 + (cnt aS.qf : Nat) + (cnt aS.qg : Nat) + (cnt aT.qh : Nat))), isF true jS (.slice yC aT.ql.length yB) (mrk aT.ql (1 + (cnt aS.qf : Nat) + (cnt aS.qg : Nat) + (cnt aT.qh : Nat) + (cnt aT.qx : Nat))), isF true jb (.slice jO aS.qf.length jM) (mrk aS.qf (1)), isF true yA (.slice QP aS.qg.length QM) (mrk aS.qg (1 + (cnt aS.qf : Nat))), isF true XB (.slice a80Alive aT.qh.length c80Alive) aT.qh, isF true F80Bags (.slice a80Bags aT.qx.length c80Bags) aT.qx, isF true Q4 (.slice a80Around aT.ql.length c80Around) aT.ql, isF true yI (.slice a70Parents aS.qf.length c70Parents) aS.qf, isF true Xq (.slice a70Rules aS.qg.length c70Rules) aS.qg, vK true rF48a rx48a ((zt aS aT).1), vK true rF24a rx24a ((zt aS aT).1), isF true Qm (.slice a23Alive aT.qh.length c23Alive) aT.qh, isF true Xl (.slice a23Bags aT.qx.length c23Bags) aT.qx, isF true yg (.slice a23Around aT.ql.length c23Around) aT.ql, isF true jg (.slice a17Parents aS.qf.length c17Parents) aS.qf, isF true yY (.slice a17Rules aS.qg.length c17Rules) aS.qg, isF false QC (.slice vG aS.qf.length vF) aS.qf, isF false XY (.slice jG aS.qg.length jE) aS.qg, isF false XX (.slice jF aT.qh.length jD) aT.qh, isF false FaTBags (.slice yG aT.qx.length yF) aT.qx, isF false Xk (.slice vX aT.ql.length vW) aT.ql] := H.chgFacts (Fs := [yX, Q9, jS]) (L := [jb, yA, XB, F80Bags, Q4, yI, Xq, rF48a, rF24a, Qm, Xl, yg, jg, yY]) (A := [QC, XY, XX, FaTBags, Xk]) N88 A (x90.mono (by intro z hz; simpa using hz)) [8, 9, 10] [isF true yX (.slice QO aT.qh.length QL) (mrk aT.qh (1 + (cnt aS.qf : Nat) + (cnt aS.qg : Nat))), isF true Q9 (.slice Xy aT.qx.length Xw) (mrk aT.qx (1 + (cnt aS.qf : Nat) + (cnt aS.qg : Nat) + (cnt aT.qh : Nat))), isF true jS (.slice yC aT.ql.length yB) (mrk aT.ql (1 + (cnt aS.qf : Nat) + (cnt aS.qg : Nat) + (cnt aT.qh : Nat) + (cnt aT.qx : Nat)))] (all_of ⟨m91.1, ⟨m91.2.1, ⟨m91.2.2, trivial⟩⟩⟩) [0, 1, 2, 3, 4, 5, 6, 7, 11, 12, 13, 14, 15, 16, 17, 18, 19, 20, 21] [0, 1, 2, 3, 4, 5, 6, 7, 8, 9, 10, 11, 12, 13, 14, 15, 16, 17, 18]
  replace N := N88
  refine sp (.int .i64 (1 + (cnt aS.qf : Nat) + (cnt aS.qg : Nat) + (cnt aT.qh : Nat) + (cnt aT.qx : Nat) + (cnt aT.ql : Nat))) ?_
  refine qw (t_n (qm (qm (qy ?_))))
  refine sps [.int .i64 (1 + (cnt aS.qf : Nat) + (cnt aS.qg : Nat) + (cnt aT.qh : Nat) + (cnt aT.qx : Nat) + (cnt aT.ql : Nat)), .bool (decide ((1 + (cnt aS.qf : Nat) + (cnt aS.qg : Nat) + (cnt aT.qh : Nat) + (cnt aT.qx : Nat) + (cnt aT.ql : Nat) : Int) < 0)), .bool (decide ((1 + (cnt aS.qf : Nat) + (cnt aS.qg : Nat) + (cnt aT.qh : Nat) + (cnt aT.qx : Nat) + (cnt aT.ql : Nat) : Int) < 0))] ?_
  cases h92 : (decide ((1 + (cnt aS.qf : Nat) + (cnt aS.qg : Nat) + (cnt aT.qh : Nat) + (cnt aT.qx : Nat) + (cnt aT.ql : Nat) : Int) < 0))
  ·skip
   replace h92 := of_decide_eq_false h92
   refine qR 72 rfl rfl ?_
   refine sp (.slice ra48a (((zt aS aT).1).length) rc48a) ?_
   refine qR 72 rfl rfl ?_
   refine sp (.slice ra24a (((zt aS aT).1).length) rc24a) ?_
   refine qR 72 rfl rfl ?_
   obtain ⟨G93, hn94, h95⟩ := H.rowIsR (α := qP) 0 rfl 10 rfl (by decide)
   obtain ⟨G96, hn97, h98⟩ := H.rowIsR (α := qP) 3 rfl 11 rfl (by decide)
   refine sw (xf #[.slice ra48a (((zt aS aT).1).length) rc48a, .slice ra24a (((zt aS aT).1).length) rc24a] rfl rfl Tryz.call35 (eqStateS_ok w89 ((zt aS aT).1) ((zt aS aT).1) ra48a rc48a G93 ra24a rc24a G96 h95 h98) ?_)
   rintro _ w99 rfl x100
   replace H := H.ext x100
   refine qR 72 rfl rfl ?_
   refine sps [.bool (!(decide (((zt aS aT).1) = ((zt aS aT).1)))), .bool (!(decide (((zt aS aT).1) = ((zt aS aT).1)))), .bool (!(decide (((zt aS aT).1) = ((zt aS aT).1))))] ?_
   cases h101 : (!(decide (((zt aS aT).1) = ((zt aS aT).1))))
   ·skip
    replace h101 := qX h101
    refine qR 78 rfl rfl ?_
    refine sp (.int .i64 ((zt aS aT).2)) ?_
    refine qR 78 rfl rfl ?_
    refine sp (.int .i64 ((zt aS aT).2)) ?_
    refine qR 78 rfl rfl ?_
    refine sps [.bool (((zt aS aT).2 : Int) != ((zt aS aT).2)), .bool (((zt aS aT).2 : Int) != ((zt aS aT).2))] ?_
    refine qw (t_n ?_)
    refine qV (((zt aS aT).2 : Int) != ((zt aS aT).2)) rfl (fun h => absurd rfl (bne_iff_ne.1 h)) (fun h102 => ?_)
    replace h102 := xI h102
    refine xh (t_n (qm (qy ?_)))
    refine sp (.int .i64 1) ?_
    refine qw (t_n (qm (qy ?_)))
    refine sps [.slice ra48a (((zt aS aT).1).length) rc48a, .int .i64 1] ?_
    have H0 := H
    obtain ⟨G103, hg105, hn104, H⟩ := H.Vt (α := qP) 0 rfl 10 rfl (by decide)
    replace N : Fresh w.heap.size [G103, yX, Q9, jS, jb, yA, XB, F80Bags, Q4, yI, Xq, rF24a, Qm, Xl, yg, jg, yY] := Fresh.ice (N.pick [10, 0, 1, 2, 3, 4, 5, 6, 7, 8, 9, 11, 12, 13, 14, 15, 16]) H0 0 hg105.1 hg105.2 (H0.XF [0, 1, 2, 3, 4, 5, 6, 7, 8, 9, 11, 12, 13, 14, 15, 16])
    clear H0
    try dsimp only [List.set] at H
    have N106 : Fresh w.heap.size [G103, yX, Q9, jS, jb, yA, XB, F80Bags, Q4, yI, Xq, rF24a, Qm, Xl, yg, jg, yY] := N
    refine sw (Xo #[.slice ra48a (((zt aS aT).1).length) rc48a, .int .i64 1] rfl rfl Tryz.call36 (markStateS_ok w99 ((zt aS aT).1) 1 ra48a rc48a G103 (H.get 0 rfl).1 (N106.pick [0] : Fresh _ [G103]).one.2 ((H.get 0 rfl).2 rfl) (by omega) (by omega)) ?_)
    rintro _ w107 ⟨rfl, m109⟩ x108
    replace H : St _ _ [.row (.slice none 0 0) 0 1 0 [], .box b45 [.slice QO aT.qh.length QL, .slice Xy aT.qx.length Xw, .slice yC aT.ql.length yB] 38, .box b36 [.int .i64 aS.qI, .slice jO aS.qf.length jM, .slice QP aS.qg.length QM] 36, .row (.slice ra24a (((zt aS aT).1).length) rc24a) 38 3 (((zt aS aT).1).length) rx24a, .box b3 [.slice jF aT.qh.length jD, .slice yG aT.qx.length yF, .slice vX aT.ql.length vW] 29, .box b1 [.int .i64 aS.qI, .slice vG aS.qf.length vF, .slice jG aS.qg.length jE] 25] [isF true G103 (.slice ra48a (((zt aS aT).1).length) rc48a) (mrk ((zt aS aT).1) (1)), isF true yX (.slice QO aT.qh.length QL) (mrk aT.qh (1 + (cnt aS.qf : Nat) + (cnt aS.qg : Nat))), isF true Q9 (.slice Xy aT.qx.length Xw) (mrk aT.qx (1 + (cnt aS.qf : Nat) + (cnt aS.qg : Nat) + (cnt aT.qh : Nat))), isF true jS (.slice yC aT.ql.length yB) (mrk aT.ql (1 + (cnt aS.qf : Nat) + (cnt aS.qg : Nat) + (cnt aT.qh : Nat) + (cnt aT.qx : Nat))), isF true jb (.slice jO aS.qf.length jM) (mrk aS.qf (1)), isF true yA (.slice QP aS.qg.length QM) (mrk aS.qg (1 + (cnt aS.qf : Nat))), isF true XB (.slice a80Alive aT.qh.length c80Alive) aT.qh, isF true F80Bags (.slice a80Bags aT.qx.length c80Bags) aT.qx, isF true Q4 (.slice a80Around aT.ql.length c80Around) aT.ql, isF true yI (.slice a70Parents aS.qf.length c70Parents) aS.qf, isF true Xq (.slice a70Rules aS.qg.length c70Rules) aS.qg, vK true rF24a rx24a ((zt aS aT).1), isF true Qm (.slice a23Alive aT.qh.length c23Alive) aT.qh, isF true Xl (.slice a23Bags aT.qx.length c23Bags) aT.qx, isF true yg (.slice a23Around aT.ql.length c23Around) aT.ql, isF true jg (.slice a17Parents aS.qf.length c17Parents) aS.qf, isF true yY (.slice a17Rules aS.qg.length c17Rules) aS.qg, isF false QC (.slice vG aS.qf.length vF) aS.qf, isF false XY (.slice jG aS.qg.length jE) aS.qg, isF false XX (.slice jF aT.qh.length jD) aT.qh, isF false FaTBags (.slice yG aT.qx.length yF) aT.qx, isF false Xk (.slice vX aT.ql.length vW) aT.ql] := H.chgFacts (Fs := [G103]) (L := [yX, Q9, jS, jb, yA, XB, F80Bags, Q4, yI, Xq, rF24a, Qm, Xl, yg, jg, yY]) (A := [QC, XY, XX, FaTBags, Xk]) N106 A (x108.mono (by intro z hz; simpa using hz)) [0] [isF true G103 (.slice ra48a (((zt aS aT).1).length) rc48a) (mrk ((zt aS aT).1) (1))] (all_of ⟨m109, trivial⟩) [1, 2, 3, 4, 5, 6, 7, 8, 9, 10, 12, 13, 14, 15, 16, 17, 18, 19, 20, 21, 22] [0, 1, 2, 3, 4, 5, 6, 7, 8, 9, 10, 11, 12, 13, 14, 15, 16, 17, 18, 19, 20]
    replace N := N106
    refine sp (.int .i64 (1 + (cnt ((zt aS aT).1) : Nat))) ?_
    refine qw (t_n (qm (qy ?_)))
    refine sp (.int .i64 1) ?_
    refine qw (t_n (qm (qy ?_)))
    refine sps [.slice ra48a (((zt aS aT).1).length) rc48a, .int .i64 1] ?_
    have hn110 := H.isLen 0 rfl
    refine sw (xf #[.slice ra48a (((zt aS aT).1).length) rc48a, .int .i64 1] rfl rfl Tryz.call37 (args_eq (by rw [← hn110]) (heldStateS_ok w107 (mrk ((zt aS aT).1) (1)) 1 ra48a rc48a G103 (hn110 ▸ (H.get 0 rfl).1) (by first | exact mkd_mark _ _ | omega | (simp only [cnt_mark]; first | exact mkd_mark _ _ | omega)) (by first | exact mkd_mark _ _ | omega | (simp only [cnt_mark]; first | exact mkd_mark _ _ | omega)) (by first | exact mkd_mark _ _ | omega | (simp only [cnt_mark]; first | exact mkd_mark _ _ | omega)))) ?_)
    rintro _ w111 rfl x112
    replace H := H.ext x112
    refine sp (.int .i64 (1 + (cnt (mrk ((zt aS aT).1) (1)) : Nat))) ?_
    refine qw (t_n (qm (qm (qy ?_))))
    refine sps [.int .i64 (1 + (cnt (mrk ((zt aS aT).1) (1)) : Nat)), .bool (decide ((1 + (cnt (mrk ((zt aS aT).1) (1)) : Nat) : Int) < 0))] ?_
    refine qw (t_n ?_)
    refine qV (decide ((1 + (cnt (mrk ((zt aS aT).1) (1)) : Nat) : Int) < 0)) rfl (fun h113 => ?_) (fun h113 => ?_)
    ·skip
     replace h113 := of_decide_eq_true h113
     refine qm (qy ?_)
     refine sp (.bool false) ?_
     refine qw (t_n (xx (t_r ?_)))
     refine ret1 (.bool false) rfl rfl ⟨_, rfl, ?_, H.base⟩
     exfalso; first | omega
    replace h113 := of_decide_eq_false h113
    refine xh (t_n (qm (qm (qy ?_))))
    refine sps [.int .i64 (1 + (cnt (mrk ((zt aS aT).1) (1)) : Nat)), .int .i64 (1 + (cnt ((zt aS aT).1) : Nat)), .bool ((1 + (cnt (mrk ((zt aS aT).1) (1)) : Nat) : Int) != (1 + (cnt ((zt aS aT).1) : Nat)))] ?_
    refine qw (t_n ?_)
    refine qV ((1 + (cnt (mrk ((zt aS aT).1) (1)) : Nat) : Int) != (1 + (cnt ((zt aS aT).1) : Nat))) rfl (fun h114 => ?_) (fun h114 => ?_)
    ·skip
     replace h114 := bne_iff_ne.1 h114
     refine qm (qy ?_)
     refine sp (.bool false) ?_
     refine qw (t_n (xx (t_r ?_)))
     refine ret1 (.bool false) rfl rfl ⟨_, rfl, ?_, H.base⟩
     exfalso; first | omega | exact h114 (by simp only [cnt_mark])
    replace h114 := xI h114
    refine xh (t_n (qm ?_))
    refine jk rfl H fun H => ?_
    refine rt 0 (.agg #[.int .i64 aS.qI, .slice vG aS.qf.length vF, .slice jG aS.qg.length jE]) (Qx (cs := [.int .i64 aS.qI, .slice vG aS.qf.length vF, .slice jG aS.qg.length jE]) Tryz.isAgg25 Tryz.sizeOf25 rfl (fun _ h => qG (h.cells 5 rfl) 0 3)) H ?_
    refine rt 2 (.agg #[.slice jF aT.qh.length jD, .slice yG aT.qx.length yF, .slice vX aT.ql.length vW]) (Qx (cs := [.slice jF aT.qh.length jD, .slice yG aT.qx.length yF, .slice vX aT.ql.length vW]) Tryz.isAgg29 Tryz.sizeOf29 rfl (fun _ h => qG (h.cells 4 rfl) 0 3)) H ?_
    refine xB [1] (by kernel_rfl) (by simp) (zh rfl ?_ xC)
    have sz116 := H.base.size
    have lt117 := H.ltN (L := [G103, yX, Q9, jS, jb, yA, XB, F80Bags, Q4, yI, Xq, rF24a, Qm, Xl, yg, jg, yY]) [0, 1, 2, 3, 4, 5, 6, 7, 8, 9, 10, 11, 12, 13, 14, 15, 16]
    refine xf #[.agg #[.int .i64 aS.qI, .slice vG aS.qf.length vF, .slice jG aS.qg.length jE]] rfl rfl Tryz.call11 (toSystem_ok w111.drew aS vG vF QC jG jE XY (H.get 17 rfl).1 (H.get 18 rfl).1 (by first | assumption | omega)) ?_
    rintro v121 w119 r121 x120
    obtain ⟨a121Parents, c121Parents, F121Parents, a121Rules, c121Rules, F121Rules, rfl, f121, H⟩ := H.add_SystemD x120 r121
    replace N := N.cons f121 sz116 lt117
    replace N := N.split
    refine ⟨H.pick [0, 1, 2, 3, 4, 5] [2, 3, 4, 5, 6, 7, 8, 9, 10, 11, 12, 13, 14, 15, 16, 17, 18, 19, 20, 21, 22, 23], ?_⟩
    refine xB [3] (by kernel_rfl) (by simp) (zh rfl ?_ xC)
    have sz122 := H.base.size
    have lt123 := H.ltN (L := [F121Parents, F121Rules, G103, yX, Q9, jS, jb, yA, XB, F80Bags, Q4, yI, Xq, rF24a, Qm, Xl, yg, jg, yY]) [0, 1, 2, 3, 4, 5, 6, 7, 8, 9, 10, 11, 12, 13, 14, 15, 16, 17, 18]
    refine xf #[.agg #[.slice jF aT.qh.length jD, .slice yG aT.qx.length yF, .slice vX aT.ql.length vW]] rfl rfl Tryz.call12 (toState_ok w119 aT jF jD XX yG yF FaTBags vX vW Xk (H.get 21 rfl).1 (H.get 22 rfl).1 (H.get 23 rfl).1 (by first | assumption | omega)) ?_
    rintro v127 w125 r127 x126
    obtain ⟨a127Alive, c127Alive, F127Alive, a127Bags, c127Bags, F127Bags, a127Around, c127Around, F127Around, rfl, f127, H⟩ := H.add_StateD x126 r127
    replace N := N.cons f127 sz122 lt123
    replace N := N.split
    replace N := N.split
    refine ⟨H.pick [0, 1, 2, 3, 4, 5] [5, 6, 7, 8, 9, 10, 11, 12, 13, 14, 15, 16, 17, 18, 19, 20, 21, 22, 23, 24, 25, 26], ?_⟩
    refine xB [4] (by kernel_rfl) (by simp) (zh rfl ?_ xC)
    have sz131 := H.base.size
    have lt132 := H.ltN (L := [F127Alive, F127Bags, F127Around, F121Parents, F121Rules, G103, yX, Q9, jS, jb, yA, XB, F80Bags, Q4, yI, Xq, rF24a, Qm, Xl, yg, jg, yY]) [0, 1, 2, 3, 4, 5, 6, 7, 8, 9, 10, 11, 12, 13, 14, 15, 16, 17, 18, 19, 20, 21]
    refine xf #[.agg #[.int .i64 aS.qI, .slice a121Parents aS.qf.length c121Parents, .slice a121Rules aS.qg.length c121Rules], .agg #[.slice a127Alive aT.qh.length c127Alive, .slice a127Bags aT.qx.length c127Bags, .slice a127Around aT.ql.length c127Around]] rfl rfl Tryz.call34 (implNs_ok w125 aS aT a121Parents c121Parents F121Parents a121Rules c121Rules F121Rules a127Alive c127Alive F127Alive a127Bags c127Bags F127Bags a127Around c127Around F127Around (H.get 3 rfl).1 (H.get 4 rfl).1 (H.get 0 rfl).1 (H.get 1 rfl).1 (H.get 2 rfl).1) ?_
    rintro _ w129 ⟨ra128a, rn128a, rc128a, rx128a, rF128a, rfl, M, K⟩ _
    replace N := N.merge sz131 lt132 M
    replace H := H.merge K M
    dsimp only [List.cons_append, List.nil_append] at H
    obtain rfl := H.zB (α := qP) 0 rfl 0 rfl (by decide)
    refine ⟨H.pick [1, 2, 3, 4, 5, 6] [6, 7, 8, 9, 10, 11, 12, 13, 14, 15, 16, 17, 18, 19, 20, 21, 22, 23, 24, 25, 26, 27], ?_⟩
    have S := H.Qc [1, 2, 3, 4, 5, 6] [6, 7, 8, 9, 10, 11, 12, 13, 14, 15, 16, 17, 18, 19, 20, 21, 22, 23, 24, 25, 26, 27]
    refine rtp 5 (.tuple #[.slice ra128a (((zt aS aT).1).length) rc128a, .int .i64 ((zt aS aT).2)]) S ?_
    refine rtp 6 (.slice ra128a (((zt aS aT).1).length) rc128a) S ?_
    refine rtp 7 (.int .i64 ((zt aS aT).2)) S ?_
    refine rtp 8 (.slice ra128a (((zt aS aT).1).length) rc128a) S ?_
    refine rtp 9 (.int .i64 ((zt aS aT).2)) S ?_
    refine xO (by kernel_rfl) (t_n ?_)
    refine qm (qm (qy ?_))
    refine sps [.slice ra128a (((zt aS aT).1).length) rc128a, .slice ra24a (((zt aS aT).1).length) rc24a] ?_
    obtain ⟨G134, hn135, h136⟩ := H.rowIsR (α := qP) 0 rfl 0 rfl (by decide)
    obtain ⟨G137, hn138, h139⟩ := H.rowIsR (α := qP) 4 rfl 17 rfl (by decide)
    refine sw (xf #[.slice ra128a (((zt aS aT).1).length) rc128a, .slice ra24a (((zt aS aT).1).length) rc24a] rfl rfl Tryz.call35 (eqStateS_ok w129 ((zt aS aT).1) ((zt aS aT).1) ra128a rc128a G134 ra24a rc24a G137 h136 h139) ?_)
    rintro _ w140 rfl x141
    replace H := H.ext x141
    refine sps [.bool (!(decide (((zt aS aT).1) = ((zt aS aT).1)))), .bool (!(decide (((zt aS aT).1) = ((zt aS aT).1))))] ?_
    cases h142 : (!(decide (((zt aS aT).1) = ((zt aS aT).1))))
    ·skip
     replace h142 := qX h142
     refine qR 106 rfl rfl ?_
     refine sp (.int .i64 ((zt aS aT).2)) ?_
     refine qR 106 rfl rfl ?_
     refine sp (.int .i64 ((zt aS aT).2)) ?_
     refine qR 106 rfl rfl ?_
     refine sps [.bool (((zt aS aT).2 : Int) != ((zt aS aT).2)), .bool (((zt aS aT).2 : Int) != ((zt aS aT).2))] ?_
     refine qw (t_n ?_)
     refine qV (((zt aS aT).2 : Int) != ((zt aS aT).2)) rfl (fun h => absurd rfl (bne_iff_ne.1 h)) (fun h143 => ?_)
     replace h143 := xI h143
     refine xh (t_n (qm (qy ?_)))
     refine sp (.int .i64 1) ?_
     refine qw (t_n (qm (qy ?_)))
     refine sps [.slice ra48a (((zt aS aT).1).length) rc48a, .int .i64 1] ?_
     have hn144 := H.isLen 6 rfl
     refine sw (xf #[.slice ra48a (((zt aS aT).1).length) rc48a, .int .i64 1] rfl rfl Tryz.call37 (args_eq (by rw [← hn144]) (heldStateS_ok w140 (mrk ((zt aS aT).1) (1)) 1 ra48a rc48a G103 (hn144 ▸ (H.get 6 rfl).1) (by first | exact mkd_mark _ _ | omega | (simp only [cnt_mark]; first | exact mkd_mark _ _ | omega)) (by first | exact mkd_mark _ _ | omega | (simp only [cnt_mark]; first | exact mkd_mark _ _ | omega)) (by first | exact mkd_mark _ _ | omega | (simp only [cnt_mark]; first | exact mkd_mark _ _ | omega)))) ?_)
     rintro _ w145 rfl x146
     replace H := H.ext x146
     refine sp (.int .i64 (1 + (cnt (mrk ((zt aS aT).1) (1)) : Nat))) ?_
     refine qw (t_n (qm (qm (qy ?_))))
     refine sps [.int .i64 (1 + (cnt (mrk ((zt aS aT).1) (1)) : Nat)), .bool (decide ((1 + (cnt (mrk ((zt aS aT).1) (1)) : Nat) : Int) < 0))] ?_
     refine qw (t_n ?_)
     refine qV (decide ((1 + (cnt (mrk ((zt aS aT).1) (1)) : Nat) : Int) < 0)) rfl (fun h147 => ?_) (fun h147 => ?_)
     ·skip
      replace h147 := of_decide_eq_true h147
      refine qm (qy ?_)
      refine sp (.bool false) ?_
      refine qw (t_n (xx (t_r ?_)))
      refine ret1 (.bool false) rfl rfl ⟨_, rfl, ?_, H.base⟩
      exfalso; first | omega
     replace h147 := of_decide_eq_false h147
     refine xh (t_n (qm (qm (qy ?_))))
     refine sps [.int .i64 (1 + (cnt (mrk ((zt aS aT).1) (1)) : Nat)), .int .i64 (1 + (cnt ((zt aS aT).1) : Nat)), .bool ((1 + (cnt (mrk ((zt aS aT).1) (1)) : Nat) : Int) != (1 + (cnt ((zt aS aT).1) : Nat)))] ?_
     refine qw (t_n ?_)
     refine qV ((1 + (cnt (mrk ((zt aS aT).1) (1)) : Nat) : Int) != (1 + (cnt ((zt aS aT).1) : Nat))) rfl (fun h => absurd h114 (bne_iff_ne.1 h)) (fun h148 => ?_)
     replace h148 := xI h148
     refine xh (t_n (qm (qy ?_)))
     refine sp (.bool true) ?_
     refine qw (t_n (xx ?_))
     refine ret1 (.bool true) rfl rfl ⟨_, rfl, ?_, H.base⟩
     rfl
    · exact absurd (xe h142) (by simp)
   · exact absurd (xe h101) (by simp)
  replace h92 := of_decide_eq_true h92
  refine xY [73, 74, 75, 76] ?_
  refine sps [.bool true, .bool true] ?_
  refine xY [79, 80, 81] ?_
  refine sp (.bool true) ?_
  refine qw (t_n ?_)
  refine qV true rfl (fun _ => ?_) (fun h => absurd h (by decide))
  refine qm (qy ?_)
  refine sp (.bool false) ?_
  refine qw (t_n (xx (t_r ?_)))
  refine ret1 (.bool false) rfl rfl ⟨_, rfl, ?_, H.base⟩
  exfalso; first | omega
 · exact absurd (xe h62) (by simp)

end Go.Proofs.YtkmlihdacnfhdaaGreat
