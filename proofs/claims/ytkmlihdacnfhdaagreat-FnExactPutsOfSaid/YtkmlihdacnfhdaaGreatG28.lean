/- Walks, printed by program (wip/tools/gv.py): what each function comes to, for all arguments. -/
import Derived.Test.YtkmlihdacnfhdaaGreatG27
namespace Go.Proofs.YtkmlihdacnfhdaaGreat
open Go.Proofs.YtkmlihdacnfhdaaGreat.Tot (tot)
open Go.Proofs.YtkmlihdacnfhdaaGreat.Mark (cnt mrk mkd mkd_mark cnt_mark)
open Go.RowKit
set_option linter.unusedVariables false
set_option linter.unusedSimpArgs false
set_option maxRecDepth 100000
set_option maxHeartbeats 4000000



theorem law_PutsOf (w : World) (aS : qR) (aT : xF) (aC : Int) (zN : Option Addr) (zM : Nat) (yE : List Nat) (vX : Option Addr) (vV : Nat) (QZ : List Nat) (vW : Option Addr) (vU : Nat) (QY : List Nat) (jL : Option Addr) (jJ : Nat) (FaTBags : List Nat) (vC : Option Addr) (vz : Nat) (Ql : List Nat) (haSParents : qM.rep w yE [.slice zN aS.qg.length zM] aS.qg) (haSRules : qM.rep w QZ [.slice vX aS.qf.length vV] aS.qf) (haTAlive : qM.rep w QY [.slice vW aT.qy.length vU] aT.qy) (haTBags : qM.rep w FaTBags [.slice jL aT.qG.length jJ] aT.qG) (haTAround : qM.rep w Ql [.slice vC aT.qB.length vz] aT.qB) : Calls Tryz.prog 3 #[.agg #[.int .i64 aS.qF, .slice zN aS.qg.length zM, .slice vX aS.qf.length vV], .agg #[.slice vW aT.qy.length vU, .slice jL aT.qG.length jJ, .slice vC aT.qB.length vz], .int .i64 aC] w (Ret (fun v w' => v = .bool true) w) := by
 refine enter (n := 124) Tryz.func3 rfl Tryz.ntmps3 (Nat.le_of_ble_eq_true rfl) ?_
 have H := (((((St.start w).arg haTAround).arg haTBags).arg haTAlive).arg haSRules).arg haSParents
 have nhaSParents := qJ haSParents
 have nhaSRules := qJ haSRules
 have nhaTAlive := qJ haTAlive
 have nhaTBags := qJ haTBags
 have nhaTAround := qJ haTAround
 clear haSParents haSRules haTAlive haTBags haTAround
 have N := Fresh.nil w.heap.size
 have A := H.ltN (L := [yE, QZ, QY, FaTBags, Ql]) [0, 1, 2, 3, 4]
 have t1 := tot_SystemD aS
 have t2 := tot_StateD aT
 have c0 := QR aS.qg
 have c1 := QR aS.qf
 have c2 := QR aT.qy
 have c3 := QR aT.qG
 have c4 := QR aT.qB
 have f1 := few_puts aS aT aC
 refine qh (qp ?_)
 refine sw (jy H [.int .i64 aS.qF, .slice zN aS.qg.length zM, .slice vX aS.qf.length vV] fun b1 w2 H => ?_)
 refine sw (jy H [.slice vW aT.qy.length vU, .slice jL aT.qG.length jJ, .slice vC aT.qB.length vz] fun b3 w4 H => ?_)
 refine sp (.bool false) ?_
 refine qo (t_n (qh (qp ?_)))
 refine sp (.int .i64 1048576) ?_
 refine qo (t_n (qh (qp ?_)))
 refine sw (zn [.int .i64 aS.qF, .slice zN aS.qg.length zM, .slice vX aS.qf.length vV] Tryz.isAgg25 Tryz.sizeOf25 rfl (qK (H.cells 1 rfl) 0 3) ?_)
 refine sp (.int .i64 1048576) ?_
 refine sw (xm #[.agg #[.int .i64 aS.qF, .slice zN aS.qg.length zM, .slice vX aS.qf.length vV], .int .i64 1048576] rfl rfl Tryz.call8 (szSystem_ok w4 aS 1048576 zN zM yE vX vV QZ (H.get 0 rfl).1 (H.get 1 rfl).1 (by omega)) ?_)
 rintro _ w5 rfl x6
 replace H := H.ext x6
 have := xX (tot aS) 1048576
 refine sp (.int .i64 (szR (tot aS) 1048576)) ?_
 refine qo (t_n (qh (qh (qp ?_))))
 refine sps [.int .i64 (szR (tot aS) 1048576), .bool (decide ((szR (tot aS) 1048576 : Int) < 0))] ?_
 refine qo (t_n ?_)
 refine qP (decide ((szR (tot aS) 1048576 : Int) < 0)) rfl (fun h7 => ?_) (fun h7 => ?_)
 ·skip
  replace h7 := of_decide_eq_true h7
  refine qh (qp ?_)
  refine sp (.bool true) ?_
  refine qo (t_n (xh (t_r ?_)))
  refine ret1 (.bool true) rfl rfl ⟨_, rfl, ?_, H.base⟩
  rfl
 replace h7 := of_decide_eq_false h7
 refine xg (t_n (qh (qp ?_)))
 refine sw (zn [.slice vW aT.qy.length vU, .slice jL aT.qG.length jJ, .slice vC aT.qB.length vz] Tryz.isAgg29 Tryz.sizeOf29 rfl (qK (H.cells 0 rfl) 0 3) ?_)
 refine sp (.int .i64 (szR (tot aS) 1048576)) ?_
 refine sw (xm #[.agg #[.slice vW aT.qy.length vU, .slice jL aT.qG.length jJ, .slice vC aT.qB.length vz], .int .i64 (szR (tot aS) 1048576)] rfl rfl Tryz.call9 (szState_ok w5 aT (szR (tot aS) 1048576) vW vU QY jL jJ FaTBags vC vz Ql (H.get 2 rfl).1 (H.get 3 rfl).1 (H.get 4 rfl).1 (by omega)) ?_)
 rintro _ w8 rfl x9
 replace H := H.ext x9
 have := xX (tot aT) (szR (tot aS) 1048576)
 refine sp (.int .i64 (szR (tot aT) (szR (tot aS) 1048576))) ?_
 refine qo (t_n (qh (qh (qp ?_))))
 refine sps [.int .i64 (szR (tot aT) (szR (tot aS) 1048576)), .bool (decide ((szR (tot aT) (szR (tot aS) 1048576) : Int) < 0))] ?_
 refine qo (t_n ?_)
 refine qP (decide ((szR (tot aT) (szR (tot aS) 1048576) : Int) < 0)) rfl (fun h10 => ?_) (fun h10 => ?_)
 ·skip
  replace h10 := of_decide_eq_true h10
  refine qh (qp ?_)
  refine sp (.bool true) ?_
  refine qo (t_n (xh (t_r ?_)))
  refine ret1 (.bool true) rfl rfl ⟨_, rfl, ?_, H.base⟩
  rfl
 replace h10 := of_decide_eq_false h10
 refine xg (t_n (qh ?_))
 refine jf rfl H fun H => ?_
 refine rt 0 (.agg #[.int .i64 aS.qF, .slice zN aS.qg.length zM, .slice vX aS.qf.length vV]) (yu (cs := [.int .i64 aS.qF, .slice zN aS.qg.length zM, .slice vX aS.qf.length vV]) Tryz.isAgg25 Tryz.sizeOf25 rfl (fun _ h => qK (h.cells 1 rfl) 0 3)) H ?_
 refine rt 2 (.agg #[.slice vW aT.qy.length vU, .slice jL aT.qG.length jJ, .slice vC aT.qB.length vz]) (yu (cs := [.slice vW aT.qy.length vU, .slice jL aT.qG.length jJ, .slice vC aT.qB.length vz]) Tryz.isAgg29 Tryz.sizeOf29 rfl (fun _ h => qK (h.cells 0 rfl) 0 3)) H ?_
 refine rtp 4 (.int .i64 aC) H ?_
 refine zt [1] (by kernel_rfl) (by simp) (yF rfl ?_ zu)
 have sz12 := H.base.size
 refine xm #[.agg #[.int .i64 aS.qF, .slice zN aS.qg.length zM, .slice vX aS.qf.length vV]] rfl rfl Tryz.call11 (toSystem_ok w8.drew aS zN zM yE vX vV QZ (H.get 0 rfl).1 (H.get 1 rfl).1 (by first | assumption | omega)) ?_
 rintro v17 w15 r17 x16
 obtain ⟨a17Parents, c17Parents, vK, a17Rules, c17Rules, jZ, rfl, f17, H⟩ := H.add_SystemD x16 r17
 replace N := N.cons f17 sz12 (by intro F hF; simp at hF)
 replace N := N.split
 refine ⟨H.pick [0, 1] [2, 3, 4, 5, 6], ?_⟩
 refine zt [3] (by kernel_rfl) (by simp) (yF rfl ?_ zu)
 have sz18 := H.base.size
 have lt19 := H.ltN (L := [vK, jZ]) [0, 1]
 refine xm #[.agg #[.slice vW aT.qy.length vU, .slice jL aT.qG.length jJ, .slice vC aT.qB.length vz]] rfl rfl Tryz.call12 (toState_ok w15 aT vW vU QY jL jJ FaTBags vC vz Ql (H.get 4 rfl).1 (H.get 5 rfl).1 (H.get 6 rfl).1 (by first | assumption | omega)) ?_
 rintro v23 w21 r23 x22
 obtain ⟨a23Alive, c23Alive, yf, a23Bags, c23Bags, Qm, a23Around, c23Around, jm, rfl, f23, H⟩ := H.add_StateD x22 r23
 replace N := N.cons f23 sz18 lt19
 replace N := N.split
 replace N := N.split
 refine ⟨H.pick [0, 1] [5, 6, 7, 8, 9], ?_⟩
 refine zt [5] (by kernel_rfl) (by simp) (yF rfl ?_ zu)
 have sz27 := H.base.size
 have lt28 := H.ltN (L := [yf, Qm, jm, vK, jZ]) [0, 1, 2, 3, 4]
 refine xm #[.agg #[.int .i64 aS.qF, .slice a17Parents aS.qg.length c17Parents, .slice a17Rules aS.qf.length c17Rules], .agg #[.slice a23Alive aT.qy.length c23Alive, .slice a23Bags aT.qG.length c23Bags, .slice a23Around aT.qB.length c23Around], .int .i64 aC] rfl rfl Tryz.call10 (specPuts_ok w21 aS aT aC a17Parents c17Parents vK a17Rules c17Rules jZ a23Alive c23Alive yf a23Bags c23Bags Qm a23Around c23Around jm (H.get 3 rfl).1 (H.get 4 rfl).1 (H.get 0 rfl).1 (H.get 1 rfl).1 (H.get 2 rfl).1) ?_
 rintro _ w25 ⟨ra24a, rn24a, rc24a, rx24a, rF24a, rfl, M, K⟩ _
 replace N := N.merge sz27 lt28 M
 replace H := H.merge K M
 dsimp only [List.cons_append, List.nil_append] at H
 obtain rfl := H.jB (α := List Int) 0 rfl 0 rfl (by decide)
 refine ⟨H.pick [1, 2] [6, 7, 8, 9, 10], ?_⟩
 have S := H.QN [1, 2] [6, 7, 8, 9, 10]
 refine rtp 6 (.tuple #[.slice ra24a (((xq aS aT aC).1).length) rc24a, .int .i64 ((xq aS aT aC).2)]) S ?_
 refine rtp 7 (.slice ra24a (((xq aS aT aC).1).length) rc24a) S ?_
 refine rtp 8 (.int .i64 ((xq aS aT aC).2)) S ?_
 refine rtp 9 (.slice ra24a (((xq aS aT aC).1).length) rc24a) S ?_
 refine rtp 10 (.int .i64 ((xq aS aT aC).2)) S ?_
 refine xZ (by kernel_rfl) (t_n ?_)
 refine qh (qp ?_)
 refine sw (zn [.int .i64 aS.qF, .slice zN aS.qg.length zM, .slice vX aS.qf.length vV] Tryz.isAgg25 Tryz.sizeOf25 rfl (qK (H.cells 2 rfl) 0 3) ?_)
 have sz30 := H.base.size
 have lt31 := H.ltN (L := [rF24a, yf, Qm, jm, vK, jZ]) [0, 1, 2, 3, 4, 5]
 refine sw (xm #[.agg #[.int .i64 aS.qF, .slice zN aS.qg.length zM, .slice vX aS.qf.length vV]] rfl rfl Tryz.call11 (toSystem_ok w25 aS zN zM yE vX vV QZ (H.get 6 rfl).1 (H.get 7 rfl).1 (by first | assumption | omega)) ?_)
 rintro v35 w33 r35 x34
 obtain ⟨je, jd, vF, yO, yL, jE, rfl, f35, H⟩ := H.add_SystemD x34 r35
 replace N := N.cons f35 sz30 lt31
 replace N := N.split
 refine sw (QP H ti36 [.int .i64 0, .slice none 0 0, .slice none 0 0] fun b36 w37 H => ?_)
 refine sw (QO H 0 [.int .i64 aS.qF, .slice je aS.qg.length jd, .slice yO aS.qf.length yL] Tryz.sizeOf36 fun w38 H => ?_)
 try dsimp only [List.set] at H
 refine qo (t_n (qh (qp ?_)))
 refine sw (zn [.slice vW aT.qy.length vU, .slice jL aT.qG.length jJ, .slice vC aT.qB.length vz] Tryz.isAgg29 Tryz.sizeOf29 rfl (qK (H.cells 2 rfl) 0 3) ?_)
 have sz39 := H.base.size
 have lt40 := H.ltN (L := [vF, jE, rF24a, yf, Qm, jm, vK, jZ]) [0, 1, 2, 3, 4, 5, 6, 7]
 refine sw (xm #[.agg #[.slice vW aT.qy.length vU, .slice jL aT.qG.length jJ, .slice vC aT.qB.length vz]] rfl rfl Tryz.call12 (toState_ok w38 aT vW vU QY jL jJ FaTBags vC vz Ql (H.get 10 rfl).1 (H.get 11 rfl).1 (H.get 12 rfl).1 (by first | assumption | omega)) ?_)
 rintro v44 w42 r44 x43
 obtain ⟨yN, yK, jY, Qz, Qy, Qa, jH, jG, jg, rfl, f44, H⟩ := H.add_StateD x43 r44
 replace N := N.cons f44 sz39 lt40
 replace N := N.split
 replace N := N.split
 refine sw (QP H ti38 [.slice none 0 0, .slice none 0 0, .slice none 0 0] fun b45 w46 H => ?_)
 refine sw (QO H 0 [.slice yN aT.qy.length yK, .slice Qz aT.qG.length Qy, .slice jH aT.qB.length jG] Tryz.sizeOf38 fun w47 H => ?_)
 try dsimp only [List.set] at H
 refine qo (t_n (qh (qp ?_)))
 refine sw (zn [.int .i64 aS.qF, .slice je aS.qg.length jd, .slice yO aS.qf.length yL] Tryz.isAgg36 Tryz.sizeOf36 rfl (qK (H.cells 1 rfl) 0 3) ?_)
 refine sw (zn [.slice yN aT.qy.length yK, .slice Qz aT.qG.length Qy, .slice jH aT.qB.length jG] Tryz.isAgg38 Tryz.sizeOf38 rfl (qK (H.cells 0 rfl) 0 3) ?_)
 refine sp (.int .i64 aC) ?_
 have sz51 := H.base.size
 have lt52 := H.ltN (L := [jY, Qa, jg, vF, jE, rF24a, yf, Qm, jm, vK, jZ]) [0, 1, 2, 3, 4, 5, 6, 7, 8, 9, 10]
 refine sw (xm #[.agg #[.int .i64 aS.qF, .slice je aS.qg.length jd, .slice yO aS.qf.length yL], .agg #[.slice yN aT.qy.length yK, .slice Qz aT.qG.length Qy, .slice jH aT.qB.length jG], .int .i64 aC] rfl rfl Tryz.call13 (implPuts_ok w47 aS aT aC je jd vF yO yL jE yN yK jY Qz Qy Qa jH jG jg (H.get 3 rfl).1 (H.get 4 rfl).1 (H.get 0 rfl).1 (H.get 1 rfl).1 (H.get 2 rfl).1) ?_)
 rintro _ w49 ⟨ra48a, rn48a, rc48a, rx48a, rF48a, rfl, M, K⟩ _
 replace N := N.merge sz51 lt52 M
 replace H := H.merge K M
 dsimp only [List.cons_append, List.nil_append] at H
 obtain rfl := H.jB (α := List Int) 0 rfl 0 rfl (by decide)
 refine sps [.tuple #[.slice ra48a (((xq aS aT aC).1).length) rc48a, .int .i64 ((xq aS aT aC).2)], .slice ra48a (((xq aS aT aC).1).length) rc48a, .int .i64 ((xq aS aT aC).2), .slice ra48a (((xq aS aT aC).1).length) rc48a, .int .i64 ((xq aS aT aC).2)] ?_
 refine qo (t_n (qh (qh (qp ?_))))
 refine sps [.slice ra48a (((xq aS aT aC).1).length) rc48a, .slice ra24a (((xq aS aT aC).1).length) rc24a] ?_
 obtain ⟨G54, hn55, h56⟩ := H.rowIsR (α := List Int) 0 rfl 0 rfl (by decide)
 obtain ⟨G57, hn58, h59⟩ := H.rowIsR (α := List Int) 3 rfl 6 rfl (by decide)
 refine sw (xm #[.slice ra48a (((xq aS aT aC).1).length) rc48a, .slice ra24a (((xq aS aT aC).1).length) rc24a] rfl rfl Tryz.call14 (eqInt64SS_ok w49 ((xq aS aT aC).1) ((xq aS aT aC).1) ra48a rc48a G54 ra24a rc24a G57 h56 h59) ?_)
 rintro _ w60 rfl x61
 replace H := H.ext x61
 refine sps [.bool (!(decide (((xq aS aT aC).1) = ((xq aS aT aC).1)))), .bool (!(decide (((xq aS aT aC).1) = ((xq aS aT aC).1))))] ?_
 cases h62 : (!(decide (((xq aS aT aC).1) = ((xq aS aT aC).1))))
 ·skip
  replace h62 := qN h62
  refine qO 53 rfl rfl ?_
  refine sp (.int .i64 ((xq aS aT aC).2)) ?_
  refine qO 53 rfl rfl ?_
  refine sp (.int .i64 ((xq aS aT aC).2)) ?_
  refine qO 53 rfl rfl ?_
  refine sps [.bool (((xq aS aT aC).2 : Int) != ((xq aS aT aC).2)), .bool (((xq aS aT aC).2 : Int) != ((xq aS aT aC).2))] ?_
  refine qo (t_n ?_)
  refine qP (((xq aS aT aC).2 : Int) != ((xq aS aT aC).2)) rfl (fun h => absurd rfl (bne_iff_ne.1 h)) (fun h63 => ?_)
  replace h63 := xI h63
  refine xg (t_n (qh (qh ?_)))
  refine jf rfl H fun H => ?_
  refine rt 0 (.agg #[.int .i64 aS.qF, .slice je aS.qg.length jd, .slice yO aS.qf.length yL]) (yu (cs := [.int .i64 aS.qF, .slice je aS.qg.length jd, .slice yO aS.qf.length yL]) Tryz.isAgg36 Tryz.sizeOf36 rfl (fun _ h => qK (h.cells 2 rfl) 0 3)) H ?_
  refine rt 1 (.agg #[.int .i64 aS.qF, .slice zN aS.qg.length zM, .slice vX aS.qf.length vV]) (yu (cs := [.int .i64 aS.qF, .slice zN aS.qg.length zM, .slice vX aS.qf.length vV]) Tryz.isAgg25 Tryz.sizeOf25 rfl (fun _ h => qK (h.cells 5 rfl) 0 3)) H ?_
  refine zt [2] (by kernel_rfl) (by simp) (yF rfl ?_ zu)
  have sz65 := H.base.size
  have lt66 := H.ltN (L := [rF48a, jY, Qa, jg, vF, jE, rF24a, yf, Qm, jm, vK, jZ]) [0, 1, 2, 3, 4, 5, 6, 7, 8, 9, 10, 11]
  refine xm #[.agg #[.int .i64 aS.qF, .slice zN aS.qg.length zM, .slice vX aS.qf.length vV]] rfl rfl Tryz.call11 (toSystem_ok w60.drew aS zN zM yE vX vV QZ (H.get 12 rfl).1 (H.get 13 rfl).1 (by first | assumption | omega)) ?_
  rintro v70 w68 r70 x69
  obtain ⟨a70Parents, c70Parents, jM, a70Rules, c70Rules, Qu, rfl, f70, H⟩ := H.add_SystemD x69 r70
  replace N := N.cons f70 sz65 lt66
  replace N := N.split
  refine ⟨H.pick [0, 1, 2, 3, 4, 5] [2, 3, 4, 5, 6, 7, 8, 9, 10, 11, 12, 13, 14, 15, 16, 17, 18], ?_⟩
  refine zt [3] (by kernel_rfl) (by simp) (yF rfl ?_ zu)
  refine xm #[.agg #[.int .i64 aS.qF, .slice je aS.qg.length jd, .slice yO aS.qf.length yL], .agg #[.int .i64 aS.qF, .slice a70Parents aS.qg.length c70Parents, .slice a70Rules aS.qf.length c70Rules]] rfl rfl Tryz.call15 (eqSystem_ok w68 aS aS je jd vF yO yL jE a70Parents c70Parents jM a70Rules c70Rules Qu (H.get 6 rfl).1 (H.get 7 rfl).1 (H.get 0 rfl).1 (H.get 1 rfl).1) ?_
  rintro _ w71 rfl x72
  replace H := H.ext x72
  refine ⟨H.pick [0, 1, 2, 3, 4, 5] [2, 3, 4, 5, 6, 7, 8, 9, 10, 11, 12, 13, 14, 15, 16, 17, 18], ?_⟩
  refine rtp 4 (.bool (!(decide (aS = aS)))) (H.pick [0, 1, 2, 3, 4, 5] [2, 3, 4, 5, 6, 7, 8, 9, 10, 11, 12, 13, 14, 15, 16, 17, 18]) ?_
  refine xZ (by kernel_rfl) (t_n ?_)
  refine qP (!(decide (aS = aS))) rfl (fun h => absurd (qQ h) (by simp)) (fun h73 => ?_)
  replace h73 := qN h73
  refine xg (t_n (qh (qh ?_)))
  refine jf rfl H fun H => ?_
  refine rt 0 (.agg #[.slice yN aT.qy.length yK, .slice Qz aT.qG.length Qy, .slice jH aT.qB.length jG]) (yu (cs := [.slice yN aT.qy.length yK, .slice Qz aT.qG.length Qy, .slice jH aT.qB.length jG]) Tryz.isAgg38 Tryz.sizeOf38 rfl (fun _ h => qK (h.cells 1 rfl) 0 3)) H ?_
  refine rt 1 (.agg #[.slice vW aT.qy.length vU, .slice jL aT.qG.length jJ, .slice vC aT.qB.length vz]) (yu (cs := [.slice vW aT.qy.length vU, .slice jL aT.qG.length jJ, .slice vC aT.qB.length vz]) Tryz.isAgg29 Tryz.sizeOf29 rfl (fun _ h => qK (h.cells 4 rfl) 0 3)) H ?_
  refine zt [2] (by kernel_rfl) (by simp) (yF rfl ?_ zu)
  have sz75 := H.base.size
  have lt76 := H.ltN (L := [jM, Qu, rF48a, jY, Qa, jg, vF, jE, rF24a, yf, Qm, jm, vK, jZ]) [0, 1, 2, 3, 4, 5, 6, 7, 8, 9, 10, 11, 12, 13]
  refine xm #[.agg #[.slice vW aT.qy.length vU, .slice jL aT.qG.length jJ, .slice vC aT.qB.length vz]] rfl rfl Tryz.call12 (toState_ok w71.drew aT vW vU QY jL jJ FaTBags vC vz Ql (H.get 16 rfl).1 (H.get 17 rfl).1 (H.get 18 rfl).1 (by first | assumption | omega)) ?_
  rintro v80 w78 r80 x79
  obtain ⟨a80Alive, c80Alive, QE, a80Bags, c80Bags, F80Bags, a80Around, c80Around, yX, rfl, f80, H⟩ := H.add_StateD x79 r80
  replace N := N.cons f80 sz75 lt76
  replace N := N.split
  replace N := N.split
  refine ⟨H.pick [0, 1, 2, 3, 4, 5] [3, 4, 5, 6, 7, 8, 9, 10, 11, 12, 13, 14, 15, 16, 17, 18, 19, 20, 21], ?_⟩
  refine zt [3] (by kernel_rfl) (by simp) (yF rfl ?_ zu)
  refine xm #[.agg #[.slice yN aT.qy.length yK, .slice Qz aT.qG.length Qy, .slice jH aT.qB.length jG], .agg #[.slice a80Alive aT.qy.length c80Alive, .slice a80Bags aT.qG.length c80Bags, .slice a80Around aT.qB.length c80Around]] rfl rfl Tryz.call16 (eqState_ok w78 aT aT yN yK jY Qz Qy Qa jH jG jg a80Alive c80Alive QE a80Bags c80Bags F80Bags a80Around c80Around yX (H.get 6 rfl).1 (H.get 7 rfl).1 (H.get 8 rfl).1 (H.get 0 rfl).1 (H.get 1 rfl).1 (H.get 2 rfl).1) ?_
  rintro _ w81 rfl x82
  replace H := H.ext x82
  refine ⟨H.pick [0, 1, 2, 3, 4, 5] [3, 4, 5, 6, 7, 8, 9, 10, 11, 12, 13, 14, 15, 16, 17, 18, 19, 20, 21], ?_⟩
  refine rtp 4 (.bool (!(decide (aT = aT)))) (H.pick [0, 1, 2, 3, 4, 5] [3, 4, 5, 6, 7, 8, 9, 10, 11, 12, 13, 14, 15, 16, 17, 18, 19, 20, 21]) ?_
  refine xZ (by kernel_rfl) (t_n ?_)
  refine qP (!(decide (aT = aT))) rfl (fun h => absurd (qQ h) (by simp)) (fun h83 => ?_)
  replace h83 := qN h83
  refine xg (t_n (qh (qp ?_)))
  refine sp (.int .i64 1) ?_
  refine qo (t_n (qh (qp ?_)))
  refine sw (zn [.int .i64 aS.qF, .slice je aS.qg.length jd, .slice yO aS.qf.length yL] Tryz.isAgg36 Tryz.sizeOf36 rfl (qK (H.cells 2 rfl) 0 3) ?_)
  refine sp (.int .i64 1) ?_
  have N84 : Fresh w.heap.size [vF, jE, QE, F80Bags, yX, jM, Qu, rF48a, jY, Qa, jg, rF24a, yf, Qm, jm, vK, jZ] := (N.pick [9, 10, 0, 1, 2, 3, 4, 5, 6, 7, 8, 11, 12, 13, 14, 15, 16])
  refine sw (Xf #[.agg #[.int .i64 aS.qF, .slice je aS.qg.length jd, .slice yO aS.qf.length yL], .int .i64 1] rfl rfl Tryz.call17 (markSystem_ok w81 aS 1 je jd vF yO yL jE (H.get 9 rfl).1 (H.get 10 rfl).1 (N84.pick [0, 1] : Fresh _ [vF, jE]).join.one.2 (((H.get 9 rfl).2 rfl).app ((H.get 10 rfl).2 rfl)) (by omega) (by omega)) ?_)
  rintro _ w85 ⟨rfl, m87⟩ x86
  replace H : St _ _ [.row (.slice ra48a (((xq aS aT aC).1).length) rc48a) 22 1 (((xq aS aT aC).1).length) rx48a, .box b45 [.slice yN aT.qy.length yK, .slice Qz aT.qG.length Qy, .slice jH aT.qB.length jG] 38, .box b36 [.int .i64 aS.qF, .slice je aS.qg.length jd, .slice yO aS.qf.length yL] 36, .row (.slice ra24a (((xq aS aT aC).1).length) rc24a) 22 1 (((xq aS aT aC).1).length) rx24a, .box b3 [.slice vW aT.qy.length vU, .slice jL aT.qG.length jJ, .slice vC aT.qB.length vz] 29, .box b1 [.int .i64 aS.qF, .slice zN aS.qg.length zM, .slice vX aS.qf.length vV] 25] [isF true vF (.slice je aS.qg.length jd) (mrk aS.qg (1)), isF true jE (.slice yO aS.qf.length yL) (mrk aS.qf (1 + (cnt aS.qg : Nat))), isF true QE (.slice a80Alive aT.qy.length c80Alive) aT.qy, isF true F80Bags (.slice a80Bags aT.qG.length c80Bags) aT.qG, isF true yX (.slice a80Around aT.qB.length c80Around) aT.qB, isF true jM (.slice a70Parents aS.qg.length c70Parents) aS.qg, isF true Qu (.slice a70Rules aS.qf.length c70Rules) aS.qf, jo true rF48a rx48a ((xq aS aT aC).1), isF true jY (.slice yN aT.qy.length yK) aT.qy, isF true Qa (.slice Qz aT.qG.length Qy) aT.qG, isF true jg (.slice jH aT.qB.length jG) aT.qB, jo true rF24a rx24a ((xq aS aT aC).1), isF true yf (.slice a23Alive aT.qy.length c23Alive) aT.qy, isF true Qm (.slice a23Bags aT.qG.length c23Bags) aT.qG, isF true jm (.slice a23Around aT.qB.length c23Around) aT.qB, isF true vK (.slice a17Parents aS.qg.length c17Parents) aS.qg, isF true jZ (.slice a17Rules aS.qf.length c17Rules) aS.qf, isF false yE (.slice zN aS.qg.length zM) aS.qg, isF false QZ (.slice vX aS.qf.length vV) aS.qf, isF false QY (.slice vW aT.qy.length vU) aT.qy, isF false FaTBags (.slice jL aT.qG.length jJ) aT.qG, isF false Ql (.slice vC aT.qB.length vz) aT.qB] := H.chgFacts (Fs := [vF, jE]) (L := [QE, F80Bags, yX, jM, Qu, rF48a, jY, Qa, jg, rF24a, yf, Qm, jm, vK, jZ]) (A := [yE, QZ, QY, FaTBags, Ql]) N84 A (x86.mono (by intro z hz; simpa using hz)) [9, 10] [isF true vF (.slice je aS.qg.length jd) (mrk aS.qg (1)), isF true jE (.slice yO aS.qf.length yL) (mrk aS.qf (1 + (cnt aS.qg : Nat)))] (all_of ⟨m87.1, ⟨m87.2, trivial⟩⟩) [0, 1, 2, 3, 4, 5, 6, 7, 8, 11, 12, 13, 14, 15, 16, 17, 18, 19, 20, 21] [0, 1, 2, 3, 4, 5, 6, 7, 8, 9, 10, 11, 12, 13, 14, 15, 16, 17, 18, 19]
  replace N := N84
  refine sp (.int .i64 (1 + (cnt aS.qg : Nat) + (cnt aS.qf : Nat))) ?_
  refine qo (t_n (qh (qp ?_)))
  refine sw (zn [.slice yN aT.qy.length yK, .slice Qz aT.qG.length Qy, .slice jH aT.qB.length jG] Tryz.isAgg38 Tryz.sizeOf38 rfl (qK (H.cells 1 rfl) 0 3) ?_)
  refine sp (.int .i64 (1 + (cnt aS.qg : Nat) + (cnt aS.qf : Nat))) ?_
  have N88 : Fresh w.heap.size [jY, Qa, jg, vF, jE, QE, F80Bags, yX, jM, Qu, rF48a, rF24a, yf, Qm, jm, vK, jZ] := (N.pick [8, 9, 10, 0, 1, 2, 3, 4, 5, 6, 7, 11, 12, 13, 14, 15, 16])
  refine sw (Xf #[.agg #[.slice yN aT.qy.length yK, .slice Qz aT.qG.length Qy, .slice jH aT.qB.length jG], .int .i64 (1 + (cnt aS.qg : Nat) + (cnt aS.qf : Nat))] rfl rfl Tryz.call18 (markState_ok w85 aT (1 + (cnt aS.qg : Nat) + (cnt aS.qf : Nat)) yN yK jY Qz Qy Qa jH jG jg (H.get 8 rfl).1 (H.get 9 rfl).1 (H.get 10 rfl).1 (N88.pick [0, 1, 2] : Fresh _ [jY, Qa, jg]).join.join.one.2 ((((H.get 8 rfl).2 rfl).app ((H.get 9 rfl).2 rfl)).app ((H.get 10 rfl).2 rfl)) (by omega) (by omega)) ?_)
  rintro _ w89 ⟨rfl, m91⟩ x90
  replace H : St _ _ [.row (.slice ra48a (((xq aS aT aC).1).length) rc48a) 22 1 (((xq aS aT aC).1).length) rx48a, .box b45 [.slice yN aT.qy.length yK, .slice Qz aT.qG.length Qy, .slice jH aT.qB.length jG] 38, .box b36 [.int .i64 aS.qF, .slice je aS.qg.length jd, .slice yO aS.qf.length yL] 36, .row (.slice ra24a (((xq aS aT aC).1).length) rc24a) 22 1 (((xq aS aT aC).1).length) rx24a, .box b3 [.slice vW aT.qy.length vU, .slice jL aT.qG.length jJ, .slice vC aT.qB.length vz] 29, .box b1 [.int .i64 aS.qF, .slice zN aS.qg.length zM, .slice vX aS.qf.length vV] 25] [isF true jY (.slice yN aT.qy.length yK) (mrk aT.qy (1 + (cnt aS.qg : Nat) + (cnt aS.qf : Nat))), isF true Qa (.slice Qz aT.qG.length Qy) (mrk aT.qG (1 + (cnt aS.qg : Nat) + (cnt aS.qf : Nat) + (cnt aT.qy : Nat))), isF true jg (.slice jH aT.qB.length jG) (mrk aT.qB (1 + (cnt aS.qg : Nat) + (cnt aS.qf : Nat) + (cnt aT.qy : Nat) + (cnt aT.qG : Nat))), isF true vF (.slice je aS.qg.length jd) (mrk aS.qg (1)), isF true jE (.slice yO aS.qf.length yL) (mrk aS.qf (1 + (cnt aS.qg : Nat))), isF true QE (.slice a80Alive aT.qy.length c80Alive) aT.qy, isF true F80Bags (.slice a80Bags aT.qG.length c80Bags) aT.qG, isF true yX (.slice a80Around aT.qB.length c80Around) aT.qB, isF true jM (.slice a70Parents aS.qg.length c70Parents) aS.qg, isF true Qu (.slice a70Rules aS.qf.length c70Rules) aS.qf, jo true rF48a rx48a ((xq aS aT aC).1), jo true rF24a rx24a ((xq aS aT aC).1), isF true yf (.slice a23Alive aT.qy.length c23Alive) aT.qy, isF true Qm (.slice a23Bags aT.qG.length c23Bags) aT.qG, isF true jm (.slice a23Around aT.qB.length c23Around) aT.qB, isF true vK (.slice a17Parents aS.qg.length c17Parents) aS.qg, isF true jZ (.slice a17Rules aS.qf.length c17Rules) aS.qf, isF false yE (.slice zN aS.qg.length zM) aS.qg, isF false QZ (.slice vX aS.qf.length vV) aS.qf, isF false QY (.slice vW aT.qy.length vU) aT.qy, isF false FaTBags (.slice jL aT.qG.length jJ) aT.qG, isF false Ql (.slice vC aT.qB.length vz) aT.qB] := H.chgFacts (Fs := [jY, Qa, jg]) (L := [vF, jE, QE, F80Bags, yX, jM, Qu, rF48a, rF24a, yf, Qm, jm, vK, jZ]) (A := [yE, QZ, QY, FaTBags, Ql]) N88 A (x90.mono (by intro z hz; simpa using hz)) [8, 9, 10] [isF true jY (.slice yN aT.qy.length yK) (mrk aT.qy (1 + (cnt aS.qg : Nat) + (cnt aS.qf : Nat))), isF true Qa (.slice Qz aT.qG.length Qy) (mrk aT.qG (1 + (cnt aS.qg : Nat) + (cnt aS.qf : Nat) + (cnt aT.qy : Nat))), isF true jg (.slice jH aT.qB.length jG) (mrk aT.qB (1 + (cnt aS.qg : Nat) + (cnt aS.qf : Nat) + (cnt aT.qy : Nat) + (cnt aT.qG : Nat)))] (all_of ⟨m91.1, ⟨m91.2.1, ⟨m91.2.2, trivial⟩⟩⟩) [0, 1, 2, 3, 4, 5, 6, 7, 11, 12, 13, 14, 15, 16, 17, 18, 19, 20, 21] [0, 1, 2, 3, 4, 5, 6, 7, 8, 9, 10, 11, 12, 13, 14, 15, 16, 17, 18]
  replace N := N88
  refine sp (.int .i64 (1 + (cnt aS.qg : Nat) + (cnt aS.qf : Nat) + (cnt aT.qy : Nat) + (cnt aT.qG : Nat) + (cnt aT.qB : Nat))) ?_
  refine qo (t_n (qh (qh (qp ?_))))
  refine sps [.int .i64 (1 + (cnt aS.qg : Nat) + (cnt aS.qf : Nat) + (cnt aT.qy : Nat) + (cnt aT.qG : Nat) + (cnt aT.qB : Nat)), .bool (decide ((1 + (cnt aS.qg : Nat) + (cnt aS.qf : Nat) + (cnt aT.qy : Nat) + (cnt aT.qG : Nat) + (cnt aT.qB : Nat) : Int) < 0)), .bool (decide ((1 + (cnt aS.qg : Nat) + (cnt aS.qf : Nat) + (cnt aT.qy : Nat) + (cnt aT.qG : Nat) + (cnt aT.qB : Nat) : Int) < 0))] ?_
  cases h92 : (decide ((1 + (cnt aS.qg : Nat) + (cnt aS.qf : Nat) + (cnt aT.qy : Nat) + (cnt aT.qG : Nat) + (cnt aT.qB : Nat) : Int) < 0))
  ·skip
   replace h92 := of_decide_eq_false h92
   refine qO 76 rfl rfl ?_
   refine sp (.slice ra48a (((xq aS aT aC).1).length) rc48a) ?_
   refine qO 76 rfl rfl ?_
   refine sp (.slice ra24a (((xq aS aT aC).1).length) rc24a) ?_
   refine qO 76 rfl rfl ?_
   obtain ⟨G93, hn94, h95⟩ := H.rowIsR (α := List Int) 0 rfl 10 rfl (by decide)
   obtain ⟨G96, hn97, h98⟩ := H.rowIsR (α := List Int) 3 rfl 11 rfl (by decide)
   refine sw (xm #[.slice ra48a (((xq aS aT aC).1).length) rc48a, .slice ra24a (((xq aS aT aC).1).length) rc24a] rfl rfl Tryz.call14 (eqInt64SS_ok w89 ((xq aS aT aC).1) ((xq aS aT aC).1) ra48a rc48a G93 ra24a rc24a G96 h95 h98) ?_)
   rintro _ w99 rfl x100
   replace H := H.ext x100
   refine qO 76 rfl rfl ?_
   refine sps [.bool (!(decide (((xq aS aT aC).1) = ((xq aS aT aC).1)))), .bool (!(decide (((xq aS aT aC).1) = ((xq aS aT aC).1)))), .bool (!(decide (((xq aS aT aC).1) = ((xq aS aT aC).1))))] ?_
   cases h101 : (!(decide (((xq aS aT aC).1) = ((xq aS aT aC).1))))
   ·skip
    replace h101 := qN h101
    refine qO 82 rfl rfl ?_
    refine sp (.int .i64 ((xq aS aT aC).2)) ?_
    refine qO 82 rfl rfl ?_
    refine sp (.int .i64 ((xq aS aT aC).2)) ?_
    refine qO 82 rfl rfl ?_
    refine sps [.bool (((xq aS aT aC).2 : Int) != ((xq aS aT aC).2)), .bool (((xq aS aT aC).2 : Int) != ((xq aS aT aC).2))] ?_
    refine qo (t_n ?_)
    refine qP (((xq aS aT aC).2 : Int) != ((xq aS aT aC).2)) rfl (fun h => absurd rfl (bne_iff_ne.1 h)) (fun h102 => ?_)
    replace h102 := xI h102
    refine xg (t_n (qh (qp ?_)))
    refine sp (.int .i64 1) ?_
    refine qo (t_n (qh (qp ?_)))
    refine sps [.slice ra48a (((xq aS aT aC).1).length) rc48a, .int .i64 1] ?_
    have H0 := H
    obtain ⟨G103, hg105, hn104, H⟩ := H.freezeR (α := List Int) 0 rfl 10 rfl (by decide)
    replace N : Fresh w.heap.size [G103, jY, Qa, jg, vF, jE, QE, F80Bags, yX, jM, Qu, rF24a, yf, Qm, jm, vK, jZ] := Fresh.ice (N.pick [10, 0, 1, 2, 3, 4, 5, 6, 7, 8, 9, 11, 12, 13, 14, 15, 16]) H0 0 hg105.1 hg105.2 (H0.awayN [0, 1, 2, 3, 4, 5, 6, 7, 8, 9, 11, 12, 13, 14, 15, 16])
    clear H0
    try dsimp only [List.set] at H
    have N106 : Fresh w.heap.size [G103, jY, Qa, jg, vF, jE, QE, F80Bags, yX, jM, Qu, rF24a, yf, Qm, jm, vK, jZ] := N
    refine sw (Xf #[.slice ra48a (((xq aS aT aC).1).length) rc48a, .int .i64 1] rfl rfl Tryz.call19 (markInt64SS_ok w99 ((xq aS aT aC).1) 1 ra48a rc48a G103 (H.get 0 rfl).1 (N106.pick [0] : Fresh _ [G103]).one.2 ((H.get 0 rfl).2 rfl) (by omega) (by omega)) ?_)
    rintro _ w107 ⟨rfl, m109⟩ x108
    replace H : St _ _ [.row (.slice none 0 0) 0 1 0 [], .box b45 [.slice yN aT.qy.length yK, .slice Qz aT.qG.length Qy, .slice jH aT.qB.length jG] 38, .box b36 [.int .i64 aS.qF, .slice je aS.qg.length jd, .slice yO aS.qf.length yL] 36, .row (.slice ra24a (((xq aS aT aC).1).length) rc24a) 22 1 (((xq aS aT aC).1).length) rx24a, .box b3 [.slice vW aT.qy.length vU, .slice jL aT.qG.length jJ, .slice vC aT.qB.length vz] 29, .box b1 [.int .i64 aS.qF, .slice zN aS.qg.length zM, .slice vX aS.qf.length vV] 25] [isF true G103 (.slice ra48a (((xq aS aT aC).1).length) rc48a) (mrk ((xq aS aT aC).1) (1)), isF true jY (.slice yN aT.qy.length yK) (mrk aT.qy (1 + (cnt aS.qg : Nat) + (cnt aS.qf : Nat))), isF true Qa (.slice Qz aT.qG.length Qy) (mrk aT.qG (1 + (cnt aS.qg : Nat) + (cnt aS.qf : Nat) + (cnt aT.qy : Nat))), isF true jg (.slice jH aT.qB.length jG) (mrk aT.qB (1 + (cnt aS.qg : Nat) + (cnt aS.qf : Nat) + (cnt aT.qy : Nat) + (cnt aT.qG : Nat))), isF true vF (.slice je aS.qg.length jd) (mrk aS.qg (1)), isF true jE (.slice yO aS.qf.length yL) (mrk aS.qf (1 + (cnt aS.qg : Nat))), isF true QE (.slice a80Alive aT.qy.length c80Alive) aT.qy, isF true F80Bags (.slice a80Bags aT.qG.length c80Bags) aT.qG, isF true yX (.slice a80Around aT.qB.length c80Around) aT.qB, isF true jM (.slice a70Parents aS.qg.length c70Parents) aS.qg, isF true Qu (.slice a70Rules aS.qf.length c70Rules) aS.qf, jo true rF24a rx24a ((xq aS aT aC).1), isF true yf (.slice a23Alive aT.qy.length c23Alive) aT.qy, isF true Qm (.slice a23Bags aT.qG.length c23Bags) aT.qG, isF true jm (.slice a23Around aT.qB.length c23Around) aT.qB, isF true vK (.slice a17Parents aS.qg.length c17Parents) aS.qg, isF true jZ (.slice a17Rules aS.qf.length c17Rules) aS.qf, isF false yE (.slice zN aS.qg.length zM) aS.qg, isF false QZ (.slice vX aS.qf.length vV) aS.qf, isF false QY (.slice vW aT.qy.length vU) aT.qy, isF false FaTBags (.slice jL aT.qG.length jJ) aT.qG, isF false Ql (.slice vC aT.qB.length vz) aT.qB] := H.chgFacts (Fs := [G103]) (L := [jY, Qa, jg, vF, jE, QE, F80Bags, yX, jM, Qu, rF24a, yf, Qm, jm, vK, jZ]) (A := [yE, QZ, QY, FaTBags, Ql]) N106 A (x108.mono (by intro z hz; simpa using hz)) [0] [isF true G103 (.slice ra48a (((xq aS aT aC).1).length) rc48a) (mrk ((xq aS aT aC).1) (1))] (all_of ⟨m109, trivial⟩) [1, 2, 3, 4, 5, 6, 7, 8, 9, 10, 12, 13, 14, 15, 16, 17, 18, 19, 20, 21, 22] [0, 1, 2, 3, 4, 5, 6, 7, 8, 9, 10, 11, 12, 13, 14, 15, 16, 17, 18, 19, 20]
    replace N := N106
    refine sp (.int .i64 (1 + (cnt ((xq aS aT aC).1) : Nat))) ?_
    refine qo (t_n (qh (qp ?_)))
    refine sp (.int .i64 1) ?_
    refine qo (t_n (qh (qp ?_)))
    refine sps [.slice ra48a (((xq aS aT aC).1).length) rc48a, .int .i64 1] ?_
    have hn110 := H.isLen 0 rfl
    refine sw (xm #[.slice ra48a (((xq aS aT aC).1).length) rc48a, .int .i64 1] rfl rfl Tryz.call20 (args_eq (by rw [← hn110]) (heldInt64SS_ok w107 (mrk ((xq aS aT aC).1) (1)) 1 ra48a rc48a G103 (hn110 ▸ (H.get 0 rfl).1) (by first | exact mkd_mark _ _ | omega | (simp only [cnt_mark]; first | exact mkd_mark _ _ | omega)) (by first | exact mkd_mark _ _ | omega | (simp only [cnt_mark]; first | exact mkd_mark _ _ | omega)) (by first | exact mkd_mark _ _ | omega | (simp only [cnt_mark]; first | exact mkd_mark _ _ | omega)))) ?_)
    rintro _ w111 rfl x112
    replace H := H.ext x112
    refine sp (.int .i64 (1 + (cnt (mrk ((xq aS aT aC).1) (1)) : Nat))) ?_
    refine qo (t_n (qh (qh (qp ?_))))
    refine sps [.int .i64 (1 + (cnt (mrk ((xq aS aT aC).1) (1)) : Nat)), .bool (decide ((1 + (cnt (mrk ((xq aS aT aC).1) (1)) : Nat) : Int) < 0))] ?_
    refine qo (t_n ?_)
    refine qP (decide ((1 + (cnt (mrk ((xq aS aT aC).1) (1)) : Nat) : Int) < 0)) rfl (fun h113 => ?_) (fun h113 => ?_)
    ·skip
     replace h113 := of_decide_eq_true h113
     refine qh (qp ?_)
     refine sp (.bool false) ?_
     refine qo (t_n (xh (t_r ?_)))
     refine ret1 (.bool false) rfl rfl ⟨_, rfl, ?_, H.base⟩
     exfalso; first | omega
    replace h113 := of_decide_eq_false h113
    refine xg (t_n (qh (qh (qp ?_))))
    refine sps [.int .i64 (1 + (cnt (mrk ((xq aS aT aC).1) (1)) : Nat)), .int .i64 (1 + (cnt ((xq aS aT aC).1) : Nat)), .bool ((1 + (cnt (mrk ((xq aS aT aC).1) (1)) : Nat) : Int) != (1 + (cnt ((xq aS aT aC).1) : Nat)))] ?_
    refine qo (t_n ?_)
    refine qP ((1 + (cnt (mrk ((xq aS aT aC).1) (1)) : Nat) : Int) != (1 + (cnt ((xq aS aT aC).1) : Nat))) rfl (fun h114 => ?_) (fun h114 => ?_)
    ·skip
     replace h114 := bne_iff_ne.1 h114
     refine qh (qp ?_)
     refine sp (.bool false) ?_
     refine qo (t_n (xh (t_r ?_)))
     refine ret1 (.bool false) rfl rfl ⟨_, rfl, ?_, H.base⟩
     exfalso; first | omega | exact h114 (by simp only [cnt_mark])
    replace h114 := xI h114
    refine xg (t_n (qh ?_))
    refine jf rfl H fun H => ?_
    refine rt 0 (.agg #[.int .i64 aS.qF, .slice zN aS.qg.length zM, .slice vX aS.qf.length vV]) (yu (cs := [.int .i64 aS.qF, .slice zN aS.qg.length zM, .slice vX aS.qf.length vV]) Tryz.isAgg25 Tryz.sizeOf25 rfl (fun _ h => qK (h.cells 5 rfl) 0 3)) H ?_
    refine rt 2 (.agg #[.slice vW aT.qy.length vU, .slice jL aT.qG.length jJ, .slice vC aT.qB.length vz]) (yu (cs := [.slice vW aT.qy.length vU, .slice jL aT.qG.length jJ, .slice vC aT.qB.length vz]) Tryz.isAgg29 Tryz.sizeOf29 rfl (fun _ h => qK (h.cells 4 rfl) 0 3)) H ?_
    refine rtp 4 (.int .i64 aC) H ?_
    refine zt [1] (by kernel_rfl) (by simp) (yF rfl ?_ zu)
    have sz116 := H.base.size
    have lt117 := H.ltN (L := [G103, jY, Qa, jg, vF, jE, QE, F80Bags, yX, jM, Qu, rF24a, yf, Qm, jm, vK, jZ]) [0, 1, 2, 3, 4, 5, 6, 7, 8, 9, 10, 11, 12, 13, 14, 15, 16]
    refine xm #[.agg #[.int .i64 aS.qF, .slice zN aS.qg.length zM, .slice vX aS.qf.length vV]] rfl rfl Tryz.call11 (toSystem_ok w111.drew aS zN zM yE vX vV QZ (H.get 17 rfl).1 (H.get 18 rfl).1 (by first | assumption | omega)) ?_
    rintro v121 w119 r121 x120
    obtain ⟨a121Parents, c121Parents, F121Parents, a121Rules, c121Rules, F121Rules, rfl, f121, H⟩ := H.add_SystemD x120 r121
    replace N := N.cons f121 sz116 lt117
    replace N := N.split
    refine ⟨H.pick [0, 1, 2, 3, 4, 5] [2, 3, 4, 5, 6, 7, 8, 9, 10, 11, 12, 13, 14, 15, 16, 17, 18, 19, 20, 21, 22, 23], ?_⟩
    refine zt [3] (by kernel_rfl) (by simp) (yF rfl ?_ zu)
    have sz122 := H.base.size
    have lt123 := H.ltN (L := [F121Parents, F121Rules, G103, jY, Qa, jg, vF, jE, QE, F80Bags, yX, jM, Qu, rF24a, yf, Qm, jm, vK, jZ]) [0, 1, 2, 3, 4, 5, 6, 7, 8, 9, 10, 11, 12, 13, 14, 15, 16, 17, 18]
    refine xm #[.agg #[.slice vW aT.qy.length vU, .slice jL aT.qG.length jJ, .slice vC aT.qB.length vz]] rfl rfl Tryz.call12 (toState_ok w119 aT vW vU QY jL jJ FaTBags vC vz Ql (H.get 21 rfl).1 (H.get 22 rfl).1 (H.get 23 rfl).1 (by first | assumption | omega)) ?_
    rintro v127 w125 r127 x126
    obtain ⟨a127Alive, c127Alive, F127Alive, a127Bags, c127Bags, F127Bags, a127Around, c127Around, F127Around, rfl, f127, H⟩ := H.add_StateD x126 r127
    replace N := N.cons f127 sz122 lt123
    replace N := N.split
    replace N := N.split
    refine ⟨H.pick [0, 1, 2, 3, 4, 5] [5, 6, 7, 8, 9, 10, 11, 12, 13, 14, 15, 16, 17, 18, 19, 20, 21, 22, 23, 24, 25, 26], ?_⟩
    refine zt [5] (by kernel_rfl) (by simp) (yF rfl ?_ zu)
    have sz131 := H.base.size
    have lt132 := H.ltN (L := [F127Alive, F127Bags, F127Around, F121Parents, F121Rules, G103, jY, Qa, jg, vF, jE, QE, F80Bags, yX, jM, Qu, rF24a, yf, Qm, jm, vK, jZ]) [0, 1, 2, 3, 4, 5, 6, 7, 8, 9, 10, 11, 12, 13, 14, 15, 16, 17, 18, 19, 20, 21]
    refine xm #[.agg #[.int .i64 aS.qF, .slice a121Parents aS.qg.length c121Parents, .slice a121Rules aS.qf.length c121Rules], .agg #[.slice a127Alive aT.qy.length c127Alive, .slice a127Bags aT.qG.length c127Bags, .slice a127Around aT.qB.length c127Around], .int .i64 aC] rfl rfl Tryz.call13 (implPuts_ok w125 aS aT aC a121Parents c121Parents F121Parents a121Rules c121Rules F121Rules a127Alive c127Alive F127Alive a127Bags c127Bags F127Bags a127Around c127Around F127Around (H.get 3 rfl).1 (H.get 4 rfl).1 (H.get 0 rfl).1 (H.get 1 rfl).1 (H.get 2 rfl).1) ?_
    rintro _ w129 ⟨ra128a, rn128a, rc128a, rx128a, rF128a, rfl, M, K⟩ _
    replace N := N.merge sz131 lt132 M
    replace H := H.merge K M
    dsimp only [List.cons_append, List.nil_append] at H
    obtain rfl := H.jB (α := List Int) 0 rfl 0 rfl (by decide)
    refine ⟨H.pick [1, 2, 3, 4, 5, 6] [6, 7, 8, 9, 10, 11, 12, 13, 14, 15, 16, 17, 18, 19, 20, 21, 22, 23, 24, 25, 26, 27], ?_⟩
    have S := H.QN [1, 2, 3, 4, 5, 6] [6, 7, 8, 9, 10, 11, 12, 13, 14, 15, 16, 17, 18, 19, 20, 21, 22, 23, 24, 25, 26, 27]
    refine rtp 6 (.tuple #[.slice ra128a (((xq aS aT aC).1).length) rc128a, .int .i64 ((xq aS aT aC).2)]) S ?_
    refine rtp 7 (.slice ra128a (((xq aS aT aC).1).length) rc128a) S ?_
    refine rtp 8 (.int .i64 ((xq aS aT aC).2)) S ?_
    refine rtp 9 (.slice ra128a (((xq aS aT aC).1).length) rc128a) S ?_
    refine rtp 10 (.int .i64 ((xq aS aT aC).2)) S ?_
    refine xZ (by kernel_rfl) (t_n ?_)
    refine qh (qh (qp ?_))
    refine sps [.slice ra128a (((xq aS aT aC).1).length) rc128a, .slice ra24a (((xq aS aT aC).1).length) rc24a] ?_
    obtain ⟨G134, hn135, h136⟩ := H.rowIsR (α := List Int) 0 rfl 0 rfl (by decide)
    obtain ⟨G137, hn138, h139⟩ := H.rowIsR (α := List Int) 4 rfl 17 rfl (by decide)
    refine sw (xm #[.slice ra128a (((xq aS aT aC).1).length) rc128a, .slice ra24a (((xq aS aT aC).1).length) rc24a] rfl rfl Tryz.call14 (eqInt64SS_ok w129 ((xq aS aT aC).1) ((xq aS aT aC).1) ra128a rc128a G134 ra24a rc24a G137 h136 h139) ?_)
    rintro _ w140 rfl x141
    replace H := H.ext x141
    refine sps [.bool (!(decide (((xq aS aT aC).1) = ((xq aS aT aC).1)))), .bool (!(decide (((xq aS aT aC).1) = ((xq aS aT aC).1))))] ?_
    cases h142 : (!(decide (((xq aS aT aC).1) = ((xq aS aT aC).1))))
    ·skip
     replace h142 := qN h142
     refine qO 111 rfl rfl ?_
     refine sp (.int .i64 ((xq aS aT aC).2)) ?_
     refine qO 111 rfl rfl ?_
     refine sp (.int .i64 ((xq aS aT aC).2)) ?_
     refine qO 111 rfl rfl ?_
     refine sps [.bool (((xq aS aT aC).2 : Int) != ((xq aS aT aC).2)), .bool (((xq aS aT aC).2 : Int) != ((xq aS aT aC).2))] ?_
     refine qo (t_n ?_)
     refine qP (((xq aS aT aC).2 : Int) != ((xq aS aT aC).2)) rfl (fun h => absurd rfl (bne_iff_ne.1 h)) (fun h143 => ?_)
     replace h143 := xI h143
     refine xg (t_n (qh (qp ?_)))
     refine sp (.int .i64 1) ?_
     refine qo (t_n (qh (qp ?_)))
     refine sps [.slice ra48a (((xq aS aT aC).1).length) rc48a, .int .i64 1] ?_
     have hn144 := H.isLen 6 rfl
     refine sw (xm #[.slice ra48a (((xq aS aT aC).1).length) rc48a, .int .i64 1] rfl rfl Tryz.call20 (args_eq (by rw [← hn144]) (heldInt64SS_ok w140 (mrk ((xq aS aT aC).1) (1)) 1 ra48a rc48a G103 (hn144 ▸ (H.get 6 rfl).1) (by first | exact mkd_mark _ _ | omega | (simp only [cnt_mark]; first | exact mkd_mark _ _ | omega)) (by first | exact mkd_mark _ _ | omega | (simp only [cnt_mark]; first | exact mkd_mark _ _ | omega)) (by first | exact mkd_mark _ _ | omega | (simp only [cnt_mark]; first | exact mkd_mark _ _ | omega)))) ?_)
     rintro _ w145 rfl x146
     replace H := H.ext x146
     refine sp (.int .i64 (1 + (cnt (mrk ((xq aS aT aC).1) (1)) : Nat))) ?_
     refine qo (t_n (qh (qh (qp ?_))))
     refine sps [.int .i64 (1 + (cnt (mrk ((xq aS aT aC).1) (1)) : Nat)), .bool (decide ((1 + (cnt (mrk ((xq aS aT aC).1) (1)) : Nat) : Int) < 0))] ?_
     refine qo (t_n ?_)
     refine qP (decide ((1 + (cnt (mrk ((xq aS aT aC).1) (1)) : Nat) : Int) < 0)) rfl (fun h147 => ?_) (fun h147 => ?_)
     ·skip
      replace h147 := of_decide_eq_true h147
      refine qh (qp ?_)
      refine sp (.bool false) ?_
      refine qo (t_n (xh (t_r ?_)))
      refine ret1 (.bool false) rfl rfl ⟨_, rfl, ?_, H.base⟩
      exfalso; first | omega
     replace h147 := of_decide_eq_false h147
     refine xg (t_n (qh (qh (qp ?_))))
     refine sps [.int .i64 (1 + (cnt (mrk ((xq aS aT aC).1) (1)) : Nat)), .int .i64 (1 + (cnt ((xq aS aT aC).1) : Nat)), .bool ((1 + (cnt (mrk ((xq aS aT aC).1) (1)) : Nat) : Int) != (1 + (cnt ((xq aS aT aC).1) : Nat)))] ?_
     refine qo (t_n ?_)
     refine qP ((1 + (cnt (mrk ((xq aS aT aC).1) (1)) : Nat) : Int) != (1 + (cnt ((xq aS aT aC).1) : Nat))) rfl (fun h => absurd h114 (bne_iff_ne.1 h)) (fun h148 => ?_)
     replace h148 := xI h148
     refine xg (t_n (qh (qp ?_)))
     refine sp (.bool true) ?_
     refine qo (t_n (xh ?_))
     refine ret1 (.bool true) rfl rfl ⟨_, rfl, ?_, H.base⟩
     rfl
    · exact absurd (qQ h142) (by simp)
   · exact absurd (qQ h101) (by simp)
  replace h92 := of_decide_eq_true h92
  refine xN [77, 78, 79, 80] ?_
  refine sps [.bool true, .bool true] ?_
  refine xN [83, 84, 85] ?_
  refine sp (.bool true) ?_
  refine qo (t_n ?_)
  refine qP true rfl (fun _ => ?_) (fun h => absurd h (by decide))
  refine qh (qp ?_)
  refine sp (.bool false) ?_
  refine qo (t_n (xh (t_r ?_)))
  refine ret1 (.bool false) rfl rfl ⟨_, rfl, ?_, H.base⟩
  exfalso; first | omega
 · exact absurd (qQ h62) (by simp)

end Go.Proofs.YtkmlihdacnfhdaaGreat
