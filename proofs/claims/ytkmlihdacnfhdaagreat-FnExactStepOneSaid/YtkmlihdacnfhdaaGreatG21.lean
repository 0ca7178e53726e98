/- Walks, printed by program (wip/tools/gv.py): what each function comes to, for all arguments. -/
import Derived.Test.YtkmlihdacnfhdaaGreatG20
namespace Go.Proofs.YtkmlihdacnfhdaaGreat
open Go.Proofs.YtkmlihdacnfhdaaGreat.Tot (tot)
open Go.Proofs.YtkmlihdacnfhdaaGreat.Mark (cnt mrk mkd mkd_mark cnt_mark)
open Go.RowKit
set_option linter.unusedVariables false
set_option linter.unusedSimpArgs false
set_option maxRecDepth 100000
set_option maxHeartbeats 4000000



theorem law_StepOne (w : World) (aS : qW) (aT : qU) (aN : Int) (zG : Option Addr) (zF : Nat) (yj : List Nat) (vP : Option Addr) (vO : Nat) (QG : List Nat) (vF : Option Addr) (vC : Nat) (Qp : List Nat) (ji : Option Addr) (jg : Nat) (Q3 : List Nat) (zN : Option Addr) (zM : Nat) (yB : List Nat) (haSParents : qR.rep w yj [.slice zG aS.qf.length zF] aS.qf) (haSRules : qR.rep w QG [.slice vP aS.qg.length vO] aS.qg) (haTAlive : qR.rep w Qp [.slice vF aT.qh.length vC] aT.qh) (haTBags : qR.rep w Q3 [.slice ji aT.qp.length jg] aT.qp) (haTAround : qR.rep w yB [.slice zN aT.ql.length zM] aT.ql) : Calls Tryz.prog 4 #[.agg #[.int .i64 aS.qH, .slice zG aS.qf.length zF, .slice vP aS.qg.length vO], .agg #[.slice vF aT.qh.length vC, .slice ji aT.qp.length jg, .slice zN aT.ql.length zM], .int .i64 aN] w (Ret (fun v w' => v = .bool true) w) := by
 refine enter (n := 124) Tryz.func4 rfl Tryz.ntmps4 (Nat.le_of_ble_eq_true rfl) ?_
 have H := (((((St.start w).arg haTAround).arg haTBags).arg haTAlive).arg haSRules).arg haSParents
 have nhaSParents := qL haSParents
 have nhaSRules := qL haSRules
 have nhaTAlive := qL haTAlive
 have nhaTBags := qL haTBags
 have nhaTAround := qL haTAround
 clear haSParents haSRules haTAlive haTBags haTAround
 have N := Fresh.nil w.heap.size
 have A := H.ltN (L := [yj, QG, Qp, Q3, yB]) [0, 1, 2, 3, 4]
 have t1 := tot_SystemD aS
 have t2 := tot_StateD aT
 have c0 := Xo aS.qf
 have c1 := Xo aS.qg
 have c2 := Xo aT.qh
 have c3 := Xo aT.qp
 have c4 := Xo aT.ql
 obtain ⟨f1, f2, f3⟩ := few_one aS aT aN
 refine qm (qB ?_)
 refine sw (yD H [.int .i64 aS.qH, .slice zG aS.qf.length zF, .slice vP aS.qg.length vO] fun b1 w2 H => ?_)
 refine sw (yD H [.slice vF aT.qh.length vC, .slice ji aT.qp.length jg, .slice zN aT.ql.length zM] fun b3 w4 H => ?_)
 refine sp (.bool false) ?_
 refine qy (t_n (qm (qB ?_)))
 refine sp (.int .i64 1048576) ?_
 refine qy (t_n (qm (qB ?_)))
 refine sw (zi [.int .i64 aS.qH, .slice zG aS.qf.length zF, .slice vP aS.qg.length vO] Tryz.isAgg25 Tryz.sizeOf25 rfl (qI (H.cells 1 rfl) 0 3) ?_)
 refine sp (.int .i64 1048576) ?_
 refine sw (xf #[.agg #[.int .i64 aS.qH, .slice zG aS.qf.length zF, .slice vP aS.qg.length vO], .int .i64 1048576] rfl rfl Tryz.call8 (szSystem_ok w4 aS 1048576 zG zF yj vP vO QG (H.get 0 rfl).1 (H.get 1 rfl).1 (by omega)) ?_)
 rintro _ w5 rfl x6
 replace H := H.ext x6
 have := zk (tot aS) 1048576
 refine sp (.int .i64 (szR (tot aS) 1048576)) ?_
 refine qy (t_n (qm (qm (qB ?_))))
 refine sps [.int .i64 (szR (tot aS) 1048576), .bool (decide ((szR (tot aS) 1048576 : Int) < 0))] ?_
 refine qy (t_n ?_)
 refine qZ (decide ((szR (tot aS) 1048576 : Int) < 0)) rfl (fun h7 => ?_) (fun h7 => ?_)
 ·skip
  replace h7 := of_decide_eq_true h7
  refine qm (qB ?_)
  refine sp (.bool true) ?_
  refine qy (t_n (xB (t_r ?_)))
  refine ret1 (.bool true) rfl rfl ⟨_, rfl, ?_, H.base⟩
  rfl
 replace h7 := of_decide_eq_false h7
 refine xx (t_n (qm (qB ?_)))
 refine sw (zi [.slice vF aT.qh.length vC, .slice ji aT.qp.length jg, .slice zN aT.ql.length zM] Tryz.isAgg29 Tryz.sizeOf29 rfl (qI (H.cells 0 rfl) 0 3) ?_)
 refine sp (.int .i64 (szR (tot aS) 1048576)) ?_
 refine sw (xf #[.agg #[.slice vF aT.qh.length vC, .slice ji aT.qp.length jg, .slice zN aT.ql.length zM], .int .i64 (szR (tot aS) 1048576)] rfl rfl Tryz.call9 (szState_ok w5 aT (szR (tot aS) 1048576) vF vC Qp ji jg Q3 zN zM yB (H.get 2 rfl).1 (H.get 3 rfl).1 (H.get 4 rfl).1 (by omega)) ?_)
 rintro _ w8 rfl x9
 replace H := H.ext x9
 have := zk (tot aT) (szR (tot aS) 1048576)
 refine sp (.int .i64 (szR (tot aT) (szR (tot aS) 1048576))) ?_
 refine qy (t_n (qm (qm (qB ?_))))
 refine sps [.int .i64 (szR (tot aT) (szR (tot aS) 1048576)), .bool (decide ((szR (tot aT) (szR (tot aS) 1048576) : Int) < 0))] ?_
 refine qy (t_n ?_)
 refine qZ (decide ((szR (tot aT) (szR (tot aS) 1048576) : Int) < 0)) rfl (fun h10 => ?_) (fun h10 => ?_)
 ·skip
  replace h10 := of_decide_eq_true h10
  refine qm (qB ?_)
  refine sp (.bool true) ?_
  refine qy (t_n (xB (t_r ?_)))
  refine ret1 (.bool true) rfl rfl ⟨_, rfl, ?_, H.base⟩
  rfl
 replace h10 := of_decide_eq_false h10
 refine xx (t_n (qm ?_))
 refine c_cut (fun ρ w11 => ∃ (junk : Env) (b12 : Nat) (ra13 : Option Addr) (rc14 : Nat) (ra15 : Option Addr) (rc16 : Nat) (ra17 : Option Addr) (rc18 : Nat) (rx19 : List Value) (rF20 : List Nat), ρ = upd (upd (upd (upd (upd junk 2 (.int .i64 aN)) 3 (pp b1 0)) 4 (pp b3 0)) 8 (pp b12 0)) 9 (.int .i64 ((qx aS aT aN).2)) ∧ Fresh w.heap.size [rF20] ∧ St w w11 [.box b12 [.slice ra13 ((((qx aS aT aN).1).qh).length) rc14, .slice ra15 ((((qx aS aT aN).1).qp).length) rc16, .slice ra17 ((((qx aS aT aN).1).ql).length) rc18] 38, .row (.slice ra13 ((((qx aS aT aN).1).qh).length) rc14) 4 1 ((((qx aS aT aN).1).qh).length) ((((qx aS aT aN).1).qh).map (Value.bool)), .row (.slice ra15 ((((qx aS aT aN).1).qp).length) rc16) 22 1 ((((qx aS aT aN).1).qp).length) rx19, .row (.slice ra17 ((((qx aS aT aN).1).ql).length) rc18) 2 1 ((((qx aS aT aN).1).ql).length) ((((qx aS aT aN).1).ql).map (Value.int .i64)), .box b3 [.slice vF aT.qh.length vC, .slice ji aT.qp.length jg, .slice zN aT.ql.length zM] 29, .box b1 [.int .i64 aS.qH, .slice zG aS.qf.length zF, .slice vP aS.qg.length vO] 25] [jf true rF20 rx19 (((qx aS aT aN).1).qp), isF false yj (.slice zG aS.qf.length zF) aS.qf, isF false QG (.slice vP aS.qg.length vO) aS.qg, isF false Qp (.slice vF aT.qh.length vC) aT.qh, isF false Q3 (.slice ji aT.qp.length jg) aT.qp, isF false yB (.slice zN aT.ql.length zM) aT.ql]) ?_ ?_
 ·skip
  refine yA rfl H fun H => ?_
  refine rt 0 (.agg #[.int .i64 aS.qH, .slice zG aS.qf.length zF, .slice vP aS.qg.length vO]) (yG (cs := [.int .i64 aS.qH, .slice zG aS.qf.length zF, .slice vP aS.qg.length vO]) Tryz.isAgg25 Tryz.sizeOf25 rfl (fun _ h => qI (h.cells 1 rfl) 0 3)) H ?_
  refine rt 2 (.agg #[.slice vF aT.qh.length vC, .slice ji aT.qp.length jg, .slice zN aT.ql.length zM]) (yG (cs := [.slice vF aT.qh.length vC, .slice ji aT.qp.length jg, .slice zN aT.ql.length zM]) Tryz.isAgg29 Tryz.sizeOf29 rfl (fun _ h => qI (h.cells 0 rfl) 0 3)) H ?_
  refine rtp 4 (.int .i64 aN) H ?_
  refine xq [1, 9] (by kernel_rfl) (by simp) (xX rfl ?_ (xX rfl ?_ xu))
  ·skip
   have sz22 := H.base.size
   refine xf #[.agg #[.int .i64 aS.qH, .slice zG aS.qf.length zF, .slice vP aS.qg.length vO]] rfl rfl Tryz.call11 (toSystem_ok w8.drew aS zG zF yj vP vO QG (H.get 0 rfl).1 (H.get 1 rfl).1 (by first | assumption | omega)) ?_
   rintro v27 w25 r27 x26
   obtain ⟨a27Parents, c27Parents, X0, a27Rules, c27Rules, F27Rules, rfl, f27, H⟩ := H.add_SystemD x26 r27
   replace N := N.cons f27 sz22 (by intro F hF; simp at hF)
   replace N := N.split
   refine ⟨H.pick [0, 1] [2, 3, 4, 5, 6], ?_⟩
   refine xq [3, 9] (by kernel_rfl) (by simp) (xX rfl ?_ (xX rfl ?_ xu))
   ·skip
    have sz28 := H.base.size
    have lt29 := H.ltN (L := [X0, F27Rules]) [0, 1]
    refine xf #[.agg #[.slice vF aT.qh.length vC, .slice ji aT.qp.length jg, .slice zN aT.ql.length zM]] rfl rfl Tryz.call12 (XU w25 aT vF vC Qp ji jg Q3 zN zM yB (H.get 4 rfl).1 (H.get 5 rfl).1 (H.get 6 rfl).1 (by first | assumption | omega)) ?_
    rintro v33 w31 r33 x32
    obtain ⟨a33Alive, c33Alive, F33Alive, a33Bags, c33Bags, F33Bags, a33Around, c33Around, F33Around, rfl, f33, H⟩ := H.XZ x32 r33
    replace N := N.cons f33 sz28 lt29
    replace N := N.split
    replace N := N.split
    refine ⟨H.pick [0, 1] [5, 6, 7, 8, 9], ?_⟩
    refine xq [5, 9] (by kernel_rfl) (by simp) (xX rfl ?_ (xX rfl ?_ xu))
    ·skip
     have sz37 := H.base.size
     have lt38 := H.ltN (L := [F33Alive, F33Bags, F33Around, X0, F27Rules]) [0, 1, 2, 3, 4]
     refine xf #[.agg #[.int .i64 aS.qH, .slice a27Parents aS.qf.length c27Parents, .slice a27Rules aS.qg.length c27Rules], .agg #[.slice a33Alive aT.qh.length c33Alive, .slice a33Bags aT.qp.length c33Bags, .slice a33Around aT.ql.length c33Around], .int .i64 aN] rfl rfl Tryz.call21 (specOne_ok w31 aS aT aN a27Parents c27Parents X0 a27Rules c27Rules F27Rules a33Alive c33Alive F33Alive a33Bags c33Bags F33Bags a33Around c33Around F33Around (H.get 3 rfl).1 (H.get 4 rfl).1 (H.get 0 rfl).1 (H.get 1 rfl).1 (H.get 2 rfl).1) ?_
     rintro _ w35 ⟨ra34aAlive, rn34aAlive, rc34aAlive, ra34aBags, rn34aBags, rc34aBags, rx34aBags, rF34aBags, ra34aAround, rn34aAround, rc34aAround, rfl, M, K⟩ _
     replace N := N.merge sz37 lt38 M
     replace H := H.merge K M
     dsimp only [List.cons_append, List.nil_append] at H
     obtain rfl := H.QN 0 rfl
     obtain rfl := H.zy (α := List Int) 1 rfl 0 rfl (by decide)
     obtain rfl := H.QX 2 rfl
     refine ⟨H.pick [3, 4] [6, 7, 8, 9, 10], ?_⟩
     have S := H.yx [3, 4] [6, 7, 8, 9, 10]
     refine rtp 6 (.tuple #[.agg #[.slice ra34aAlive ((((qx aS aT aN).1).qh).length) rc34aAlive, .slice ra34aBags ((((qx aS aT aN).1).qp).length) rc34aBags, .slice ra34aAround ((((qx aS aT aN).1).ql).length) rc34aAround], .int .i64 ((qx aS aT aN).2)]) S ?_
     refine rtp 7 (.agg #[.slice ra34aAlive ((((qx aS aT aN).1).qh).length) rc34aAlive, .slice ra34aBags ((((qx aS aT aN).1).qp).length) rc34aBags, .slice ra34aAround ((((qx aS aT aN).1).ql).length) rc34aAround]) S ?_
     refine rtp 8 (.int .i64 ((qx aS aT aN).2)) S ?_
     refine xq [9] (by kernel_rfl) (by simp) (xX rfl ?_ xu)
     refine zn H ti38 [.slice none 0 0, .slice none 0 0, .slice none 0 0] fun b42 w43 H => ?_
     refine ⟨H.pick [4, 5] [6, 7, 8, 9, 10], ?_⟩
     refine xq [10] (by kernel_rfl) (by simp) (xX rfl ?_ xu)
     refine xU H 0 [.slice ra34aAlive ((((qx aS aT aN).1).qh).length) rc34aAlive, .slice ra34aBags ((((qx aS aT aN).1).qp).length) rc34aBags, .slice ra34aAround ((((qx aS aT aN).1).ql).length) rc34aAround] Tryz.sizeOf38 fun w44 H => ?_
     try dsimp only [List.set] at H
     refine ⟨H.pick [4, 5] [6, 7, 8, 9, 10], ?_⟩
     refine rtp 11 (.int .i64 ((qx aS aT aN).2)) (H.pick [4, 5] [6, 7, 8, 9, 10]) ?_
     refine xM (by kernel_rfl) (?_)
     exact meet ⟨_, b42, ra34aAlive, rc34aAlive, ra34aBags, rc34aBags, ra34aAround, rc34aAround, rx34aBags, rF34aBags, (by exact qj (qj (qj (qj (qj (rfl) rfl) rfl) rfl) rfl) rfl), (N.pick [0]), H.pick [0, 1, 2, 3, 4, 5] [0, 6, 7, 8, 9, 10]⟩
    refine zn H ti38 [.slice none 0 0, .slice none 0 0, .slice none 0 0] fun b45 w46 H => ?_
    refine ⟨H.pick [1, 2] [5, 6, 7, 8, 9], ?_⟩
    refine xq [5] (by kernel_rfl) (by simp) (xX rfl ?_ xu)
    have sz50 := H.base.size
    have lt51 := H.ltN (L := [F33Alive, F33Bags, F33Around, X0, F27Rules]) [0, 1, 2, 3, 4]
    refine xf #[.agg #[.int .i64 aS.qH, .slice a27Parents aS.qf.length c27Parents, .slice a27Rules aS.qg.length c27Rules], .agg #[.slice a33Alive aT.qh.length c33Alive, .slice a33Bags aT.qp.length c33Bags, .slice a33Around aT.ql.length c33Around], .int .i64 aN] rfl rfl Tryz.call21 (specOne_ok w46 aS aT aN a27Parents c27Parents X0 a27Rules c27Rules F27Rules a33Alive c33Alive F33Alive a33Bags c33Bags F33Bags a33Around c33Around F33Around (H.get 3 rfl).1 (H.get 4 rfl).1 (H.get 0 rfl).1 (H.get 1 rfl).1 (H.get 2 rfl).1) ?_
    rintro _ w48 ⟨ra47aAlive, rn47aAlive, rc47aAlive, ra47aBags, rn47aBags, rc47aBags, rx47aBags, rF47aBags, ra47aAround, rn47aAround, rc47aAround, rfl, M, K⟩ _
    replace N := N.merge sz50 lt51 M
    replace H := H.merge K M
    dsimp only [List.cons_append, List.nil_append] at H
    obtain rfl := H.QN 0 rfl
    obtain rfl := H.zy (α := List Int) 1 rfl 0 rfl (by decide)
    obtain rfl := H.QX 2 rfl
    refine ⟨H.pick [4, 5] [6, 7, 8, 9, 10], ?_⟩
    have S := H.yx [4, 5] [6, 7, 8, 9, 10]
    refine rtp 6 (.tuple #[.agg #[.slice ra47aAlive ((((qx aS aT aN).1).qh).length) rc47aAlive, .slice ra47aBags ((((qx aS aT aN).1).qp).length) rc47aBags, .slice ra47aAround ((((qx aS aT aN).1).ql).length) rc47aAround], .int .i64 ((qx aS aT aN).2)]) S ?_
    refine rtp 7 (.agg #[.slice ra47aAlive ((((qx aS aT aN).1).qh).length) rc47aAlive, .slice ra47aBags ((((qx aS aT aN).1).qp).length) rc47aBags, .slice ra47aAround ((((qx aS aT aN).1).ql).length) rc47aAround]) S ?_
    refine rtp 8 (.int .i64 ((qx aS aT aN).2)) S ?_
    refine xq [10] (by kernel_rfl) (by simp) (xX rfl ?_ xu)
    refine xU H 3 [.slice ra47aAlive ((((qx aS aT aN).1).qh).length) rc47aAlive, .slice ra47aBags ((((qx aS aT aN).1).qp).length) rc47aBags, .slice ra47aAround ((((qx aS aT aN).1).ql).length) rc47aAround] Tryz.sizeOf38 fun w55 H => ?_
    try dsimp only [List.set] at H
    refine ⟨H.pick [4, 5] [6, 7, 8, 9, 10], ?_⟩
    refine rtp 11 (.int .i64 ((qx aS aT aN).2)) (H.pick [4, 5] [6, 7, 8, 9, 10]) ?_
    refine xM (by kernel_rfl) (?_)
    exact meet ⟨_, b45, ra47aAlive, rc47aAlive, ra47aBags, rc47aBags, ra47aAround, rc47aAround, rx47aBags, rF47aBags, (by exact qj (qj (qj (qj (qj (rfl) rfl) rfl) rfl) rfl) rfl), (N.pick [0]), H.pick [3, 0, 1, 2, 4, 5] [0, 6, 7, 8, 9, 10]⟩
   refine zn H ti38 [.slice none 0 0, .slice none 0 0, .slice none 0 0] fun b56 w57 H => ?_
   refine ⟨H.pick [1, 2] [2, 3, 4, 5, 6], ?_⟩
   refine xq [3] (by kernel_rfl) (by simp) (xX rfl ?_ xu)
   have sz58 := H.base.size
   have lt59 := H.ltN (L := [X0, F27Rules]) [0, 1]
   refine xf #[.agg #[.slice vF aT.qh.length vC, .slice ji aT.qp.length jg, .slice zN aT.ql.length zM]] rfl rfl Tryz.call12 (XU w57 aT vF vC Qp ji jg Q3 zN zM yB (H.get 4 rfl).1 (H.get 5 rfl).1 (H.get 6 rfl).1 (by first | assumption | omega)) ?_
   rintro v63 w61 r63 x62
   obtain ⟨a63Alive, c63Alive, F63Alive, a63Bags, c63Bags, F63Bags, a63Around, c63Around, F63Around, rfl, f63, H⟩ := H.XZ x62 r63
   replace N := N.cons f63 sz58 lt59
   replace N := N.split
   replace N := N.split
   refine ⟨H.pick [1, 2] [5, 6, 7, 8, 9], ?_⟩
   refine xq [5] (by kernel_rfl) (by simp) (xX rfl ?_ xu)
   have sz67 := H.base.size
   have lt68 := H.ltN (L := [F63Alive, F63Bags, F63Around, X0, F27Rules]) [0, 1, 2, 3, 4]
   refine xf #[.agg #[.int .i64 aS.qH, .slice a27Parents aS.qf.length c27Parents, .slice a27Rules aS.qg.length c27Rules], .agg #[.slice a63Alive aT.qh.length c63Alive, .slice a63Bags aT.qp.length c63Bags, .slice a63Around aT.ql.length c63Around], .int .i64 aN] rfl rfl Tryz.call21 (specOne_ok w61 aS aT aN a27Parents c27Parents X0 a27Rules c27Rules F27Rules a63Alive c63Alive F63Alive a63Bags c63Bags F63Bags a63Around c63Around F63Around (H.get 3 rfl).1 (H.get 4 rfl).1 (H.get 0 rfl).1 (H.get 1 rfl).1 (H.get 2 rfl).1) ?_
   rintro _ w65 ⟨ra64aAlive, rn64aAlive, rc64aAlive, ra64aBags, rn64aBags, rc64aBags, rx64aBags, rF64aBags, ra64aAround, rn64aAround, rc64aAround, rfl, M, K⟩ _
   replace N := N.merge sz67 lt68 M
   replace H := H.merge K M
   dsimp only [List.cons_append, List.nil_append] at H
   obtain rfl := H.QN 0 rfl
   obtain rfl := H.zy (α := List Int) 1 rfl 0 rfl (by decide)
   obtain rfl := H.QX 2 rfl
   refine ⟨H.pick [4, 5] [6, 7, 8, 9, 10], ?_⟩
   have S := H.yx [4, 5] [6, 7, 8, 9, 10]
   refine rtp 6 (.tuple #[.agg #[.slice ra64aAlive ((((qx aS aT aN).1).qh).length) rc64aAlive, .slice ra64aBags ((((qx aS aT aN).1).qp).length) rc64aBags, .slice ra64aAround ((((qx aS aT aN).1).ql).length) rc64aAround], .int .i64 ((qx aS aT aN).2)]) S ?_
   refine rtp 7 (.agg #[.slice ra64aAlive ((((qx aS aT aN).1).qh).length) rc64aAlive, .slice ra64aBags ((((qx aS aT aN).1).qp).length) rc64aBags, .slice ra64aAround ((((qx aS aT aN).1).ql).length) rc64aAround]) S ?_
   refine rtp 8 (.int .i64 ((qx aS aT aN).2)) S ?_
   refine xq [10] (by kernel_rfl) (by simp) (xX rfl ?_ xu)
   refine xU H 3 [.slice ra64aAlive ((((qx aS aT aN).1).qh).length) rc64aAlive, .slice ra64aBags ((((qx aS aT aN).1).qp).length) rc64aBags, .slice ra64aAround ((((qx aS aT aN).1).ql).length) rc64aAround] Tryz.sizeOf38 fun w72 H => ?_
   try dsimp only [List.set] at H
   refine ⟨H.pick [4, 5] [6, 7, 8, 9, 10], ?_⟩
   refine rtp 11 (.int .i64 ((qx aS aT aN).2)) (H.pick [4, 5] [6, 7, 8, 9, 10]) ?_
   refine xM (by kernel_rfl) (?_)
   exact meet ⟨_, b56, ra64aAlive, rc64aAlive, ra64aBags, rc64aBags, ra64aAround, rc64aAround, rx64aBags, rF64aBags, (by exact qj (qj (qj (qj (qj (rfl) rfl) rfl) rfl) rfl) rfl), (N.pick [0]), H.pick [3, 0, 1, 2, 4, 5] [0, 6, 7, 8, 9, 10]⟩
  refine zn H ti38 [.slice none 0 0, .slice none 0 0, .slice none 0 0] fun b73 w74 H => ?_
  refine ⟨H.pick [1, 2] [0, 1, 2, 3, 4], ?_⟩
  refine xq [1] (by kernel_rfl) (by simp) (xX rfl ?_ xu)
  have sz75 := H.base.size
  refine xf #[.agg #[.int .i64 aS.qH, .slice zG aS.qf.length zF, .slice vP aS.qg.length vO]] rfl rfl Tryz.call11 (toSystem_ok w74 aS zG zF yj vP vO QG (H.get 0 rfl).1 (H.get 1 rfl).1 (by first | assumption | omega)) ?_
  rintro v80 w78 r80 x79
  obtain ⟨a80Parents, c80Parents, F80Parents, a80Rules, c80Rules, F80Rules, rfl, f80, H⟩ := H.add_SystemD x79 r80
  replace N := N.cons f80 sz75 (by intro F hF; simp at hF)
  replace N := N.split
  refine ⟨H.pick [1, 2] [2, 3, 4, 5, 6], ?_⟩
  refine xq [3] (by kernel_rfl) (by simp) (xX rfl ?_ xu)
  have sz81 := H.base.size
  have lt82 := H.ltN (L := [F80Parents, F80Rules]) [0, 1]
  refine xf #[.agg #[.slice vF aT.qh.length vC, .slice ji aT.qp.length jg, .slice zN aT.ql.length zM]] rfl rfl Tryz.call12 (XU w78 aT vF vC Qp ji jg Q3 zN zM yB (H.get 4 rfl).1 (H.get 5 rfl).1 (H.get 6 rfl).1 (by first | assumption | omega)) ?_
  rintro v86 w84 r86 x85
  obtain ⟨a86Alive, c86Alive, F86Alive, a86Bags, c86Bags, F86Bags, a86Around, c86Around, F86Around, rfl, f86, H⟩ := H.XZ x85 r86
  replace N := N.cons f86 sz81 lt82
  replace N := N.split
  replace N := N.split
  refine ⟨H.pick [1, 2] [5, 6, 7, 8, 9], ?_⟩
  refine xq [5] (by kernel_rfl) (by simp) (xX rfl ?_ xu)
  have sz90 := H.base.size
  have lt91 := H.ltN (L := [F86Alive, F86Bags, F86Around, F80Parents, F80Rules]) [0, 1, 2, 3, 4]
  refine xf #[.agg #[.int .i64 aS.qH, .slice a80Parents aS.qf.length c80Parents, .slice a80Rules aS.qg.length c80Rules], .agg #[.slice a86Alive aT.qh.length c86Alive, .slice a86Bags aT.qp.length c86Bags, .slice a86Around aT.ql.length c86Around], .int .i64 aN] rfl rfl Tryz.call21 (specOne_ok w84 aS aT aN a80Parents c80Parents F80Parents a80Rules c80Rules F80Rules a86Alive c86Alive F86Alive a86Bags c86Bags F86Bags a86Around c86Around F86Around (H.get 3 rfl).1 (H.get 4 rfl).1 (H.get 0 rfl).1 (H.get 1 rfl).1 (H.get 2 rfl).1) ?_
  rintro _ w88 ⟨ra87aAlive, rn87aAlive, rc87aAlive, ra87aBags, rn87aBags, rc87aBags, rx87aBags, rF87aBags, ra87aAround, rn87aAround, rc87aAround, rfl, M, K⟩ _
  replace N := N.merge sz90 lt91 M
  replace H := H.merge K M
  dsimp only [List.cons_append, List.nil_append] at H
  obtain rfl := H.QN 0 rfl
  obtain rfl := H.zy (α := List Int) 1 rfl 0 rfl (by decide)
  obtain rfl := H.QX 2 rfl
  refine ⟨H.pick [4, 5] [6, 7, 8, 9, 10], ?_⟩
  have S := H.yx [4, 5] [6, 7, 8, 9, 10]
  refine rtp 6 (.tuple #[.agg #[.slice ra87aAlive ((((qx aS aT aN).1).qh).length) rc87aAlive, .slice ra87aBags ((((qx aS aT aN).1).qp).length) rc87aBags, .slice ra87aAround ((((qx aS aT aN).1).ql).length) rc87aAround], .int .i64 ((qx aS aT aN).2)]) S ?_
  refine rtp 7 (.agg #[.slice ra87aAlive ((((qx aS aT aN).1).qh).length) rc87aAlive, .slice ra87aBags ((((qx aS aT aN).1).qp).length) rc87aBags, .slice ra87aAround ((((qx aS aT aN).1).ql).length) rc87aAround]) S ?_
  refine rtp 8 (.int .i64 ((qx aS aT aN).2)) S ?_
  refine xq [10] (by kernel_rfl) (by simp) (xX rfl ?_ xu)
  refine xU H 3 [.slice ra87aAlive ((((qx aS aT aN).1).qh).length) rc87aAlive, .slice ra87aBags ((((qx aS aT aN).1).qp).length) rc87aBags, .slice ra87aAround ((((qx aS aT aN).1).ql).length) rc87aAround] Tryz.sizeOf38 fun w95 H => ?_
  try dsimp only [List.set] at H
  refine ⟨H.pick [4, 5] [6, 7, 8, 9, 10], ?_⟩
  refine rtp 11 (.int .i64 ((qx aS aT aN).2)) (H.pick [4, 5] [6, 7, 8, 9, 10]) ?_
  refine xM (by kernel_rfl) (?_)
  exact meet ⟨_, b73, ra87aAlive, rc87aAlive, ra87aBags, rc87aBags, ra87aAround, rc87aAround, rx87aBags, rF87aBags, (by exact qj (qj (qj (qj (qj (rfl) rfl) rfl) rfl) rfl) rfl), (N.pick [0]), H.pick [3, 0, 1, 2, 4, 5] [0, 6, 7, 8, 9, 10]⟩
 clear H N
 rintro ρ w96 ⟨junk, b12, ra13, rc14, ra15, rc16, ra17, rc18, rx19, rF20, rfl, N, H⟩
 refine t_n (qm (qB ?_))
 refine sw (zi [.int .i64 aS.qH, .slice zG aS.qf.length zF, .slice vP aS.qg.length vO] Tryz.isAgg25 Tryz.sizeOf25 rfl (qI (H.cells 5 rfl) 0 3) ?_)
 have sz97 := H.base.size
 have lt98 := H.ltN (L := [rF20]) [0]
 refine sw (xf #[.agg #[.int .i64 aS.qH, .slice zG aS.qf.length zF, .slice vP aS.qg.length vO]] rfl rfl Tryz.call11 (toSystem_ok w96 aS zG zF yj vP vO QG (H.get 1 rfl).1 (H.get 2 rfl).1 (by first | assumption | omega)) ?_)
 rintro v102 w100 r102 x101
 obtain ⟨jb, ja, zI, yh, yc, vM, rfl, f102, H⟩ := H.add_SystemD x101 r102
 replace N := N.cons f102 sz97 lt98
 replace N := N.split
 refine sw (zn H ti36 [.int .i64 0, .slice none 0 0, .slice none 0 0] fun b103 w104 H => ?_)
 refine sw (xU H 0 [.int .i64 aS.qH, .slice jb aS.qf.length ja, .slice yh aS.qg.length yc] Tryz.sizeOf36 fun w105 H => ?_)
 try dsimp only [List.set] at H
 refine qy (t_n (qm (qB ?_)))
 refine sw (zi [.slice vF aT.qh.length vC, .slice ji aT.qp.length jg, .slice zN aT.ql.length zM] Tryz.isAgg29 Tryz.sizeOf29 rfl (qI (H.cells 5 rfl) 0 3) ?_)
 have sz106 := H.base.size
 have lt107 := H.ltN (L := [zI, vM, rF20]) [0, 1, 2]
 refine sw (xf #[.agg #[.slice vF aT.qh.length vC, .slice ji aT.qp.length jg, .slice zN aT.ql.length zM]] rfl rfl Tryz.call12 (XU w105 aT vF vC Qp ji jg Q3 zN zM yB (H.get 5 rfl).1 (H.get 6 rfl).1 (H.get 7 rfl).1 (by first | assumption | omega)) ?_)
 rintro v111 w109 r111 x110
 obtain ⟨yg, jZ, vS, Qe, Qd, jw, jD, jB, vk, rfl, f111, H⟩ := H.XZ x110 r111
 replace N := N.cons f111 sz106 lt107
 replace N := N.split
 replace N := N.split
 refine sw (zn H ti38 [.slice none 0 0, .slice none 0 0, .slice none 0 0] fun b112 w113 H => ?_)
 refine sw (xU H 0 [.slice yg aT.qh.length jZ, .slice Qe aT.qp.length Qd, .slice jD aT.ql.length jB] Tryz.sizeOf38 fun w114 H => ?_)
 try dsimp only [List.set] at H
 refine qy (t_n (qm (qB ?_)))
 refine sw (zi [.int .i64 aS.qH, .slice jb aS.qf.length ja, .slice yh aS.qg.length yc] Tryz.isAgg36 Tryz.sizeOf36 rfl (qI (H.cells 1 rfl) 0 3) ?_)
 refine sw (zi [.slice yg aT.qh.length jZ, .slice Qe aT.qp.length Qd, .slice jD aT.ql.length jB] Tryz.isAgg38 Tryz.sizeOf38 rfl (qI (H.cells 0 rfl) 0 3) ?_)
 refine sp (.int .i64 aN) ?_
 have sz118 := H.base.size
 have lt119 := H.ltN (L := [vS, jw, vk, zI, vM, rF20]) [0, 1, 2, 3, 4, 5]
 refine sw (xf #[.agg #[.int .i64 aS.qH, .slice jb aS.qf.length ja, .slice yh aS.qg.length yc], .agg #[.slice yg aT.qh.length jZ, .slice Qe aT.qp.length Qd, .slice jD aT.ql.length jB], .int .i64 aN] rfl rfl Tryz.call22 (implOne_ok w114 aS aT aN jb ja zI yh yc vM yg jZ vS Qe Qd jw jD jB vk (H.get 3 rfl).1 (H.get 4 rfl).1 (H.get 0 rfl).1 (H.get 1 rfl).1 (H.get 2 rfl).1) ?_)
 rintro _ w116 ⟨ra115aAlive, rn115aAlive, rc115aAlive, ra115aBags, rn115aBags, rc115aBags, rx115aBags, rF115aBags, ra115aAround, rn115aAround, rc115aAround, rfl, M, K⟩ _
 replace N := N.merge sz118 lt119 M
 replace H := H.merge K M
 dsimp only [List.cons_append, List.nil_append] at H
 obtain rfl := H.QN 0 rfl
 obtain rfl := H.zy (α := List Int) 1 rfl 0 rfl (by decide)
 obtain rfl := H.QX 2 rfl
 refine sps [.tuple #[.agg #[.slice ra115aAlive ((((qx aS aT aN).1).qh).length) rc115aAlive, .slice ra115aBags ((((qx aS aT aN).1).qp).length) rc115aBags, .slice ra115aAround ((((qx aS aT aN).1).ql).length) rc115aAround], .int .i64 ((qx aS aT aN).2)], .agg #[.slice ra115aAlive ((((qx aS aT aN).1).qh).length) rc115aAlive, .slice ra115aBags ((((qx aS aT aN).1).qp).length) rc115aBags, .slice ra115aAround ((((qx aS aT aN).1).ql).length) rc115aAround], .int .i64 ((qx aS aT aN).2)] ?_
 refine sw (zn H ti38 [.slice none 0 0, .slice none 0 0, .slice none 0 0] fun b123 w124 H => ?_)
 refine sw (xU H 0 [.slice ra115aAlive ((((qx aS aT aN).1).qh).length) rc115aAlive, .slice ra115aBags ((((qx aS aT aN).1).qp).length) rc115aBags, .slice ra115aAround ((((qx aS aT aN).1).ql).length) rc115aAround] Tryz.sizeOf38 fun w125 H => ?_)
 try dsimp only [List.set] at H
 refine sp (.int .i64 ((qx aS aT aN).2)) ?_
 refine qy (t_n (qm (qm (qB ?_))))
 refine sw (zi [.slice ra115aAlive ((((qx aS aT aN).1).qh).length) rc115aAlive, .slice ra115aBags ((((qx aS aT aN).1).qp).length) rc115aBags, .slice ra115aAround ((((qx aS aT aN).1).ql).length) rc115aAround] Tryz.isAgg38 Tryz.sizeOf38 rfl (qI (H.cells 0 rfl) 0 3) ?_)
 refine sw (zi [.slice ra13 ((((qx aS aT aN).1).qh).length) rc14, .slice ra15 ((((qx aS aT aN).1).qp).length) rc16, .slice ra17 ((((qx aS aT aN).1).ql).length) rc18] Tryz.isAgg38 Tryz.sizeOf38 rfl (qI (H.cells 6 rfl) 0 3) ?_)
 obtain ⟨G126, hn127, h128⟩ := H.rowIsB 1 rfl
 obtain ⟨G129, hn130, h131⟩ := H.rowIsR (α := List Int) 2 rfl 0 rfl (by decide)
 obtain ⟨G132, hn133, h134⟩ := H.rowIsI 3 rfl
 obtain ⟨G135, hn136, h137⟩ := H.rowIsB 7 rfl
 obtain ⟨G138, hn139, h140⟩ := H.rowIsR (α := List Int) 8 rfl 6 rfl (by decide)
 obtain ⟨G141, hn142, h143⟩ := H.rowIsI 9 rfl
 refine sw (xf #[.agg #[.slice ra115aAlive ((((qx aS aT aN).1).qh).length) rc115aAlive, .slice ra115aBags ((((qx aS aT aN).1).qp).length) rc115aBags, .slice ra115aAround ((((qx aS aT aN).1).ql).length) rc115aAround], .agg #[.slice ra13 ((((qx aS aT aN).1).qh).length) rc14, .slice ra15 ((((qx aS aT aN).1).qp).length) rc16, .slice ra17 ((((qx aS aT aN).1).ql).length) rc18]] rfl rfl Tryz.call16 (eqState_ok w125 ((qx aS aT aN).1) ((qx aS aT aN).1) ra115aAlive rc115aAlive G126 ra115aBags rc115aBags G129 ra115aAround rc115aAround G132 ra13 rc14 G135 ra15 rc16 G138 ra17 rc18 G141 h128 h131 h134 h137 h140 h143) ?_)
 rintro _ w144 rfl x145
 replace H := H.ext x145
 refine sps [.bool (!(decide (((qx aS aT aN).1) = ((qx aS aT aN).1)))), .bool (!(decide (((qx aS aT aN).1) = ((qx aS aT aN).1))))] ?_
 cases h146 : (!(decide (((qx aS aT aN).1) = ((qx aS aT aN).1))))
 ·skip
  replace h146 := qX h146
  refine qQ 53 rfl rfl ?_
  refine sp (.int .i64 ((qx aS aT aN).2)) ?_
  refine qQ 53 rfl rfl ?_
  refine sp (.int .i64 ((qx aS aT aN).2)) ?_
  refine qQ 53 rfl rfl ?_
  refine sps [.bool (((qx aS aT aN).2 : Int) != ((qx aS aT aN).2)), .bool (((qx aS aT aN).2 : Int) != ((qx aS aT aN).2))] ?_
  refine qy (t_n ?_)
  refine qZ (((qx aS aT aN).2 : Int) != ((qx aS aT aN).2)) rfl (fun h => absurd rfl (bne_iff_ne.1 h)) (fun h147 => ?_)
  replace h147 := xR h147
  refine xx (t_n (qm (qm ?_)))
  refine yA rfl H fun H => ?_
  refine rt 0 (.agg #[.int .i64 aS.qH, .slice jb aS.qf.length ja, .slice yh aS.qg.length yc]) (yG (cs := [.int .i64 aS.qH, .slice jb aS.qf.length ja, .slice yh aS.qg.length yc]) Tryz.isAgg36 Tryz.sizeOf36 rfl (fun _ h => qI (h.cells 5 rfl) 0 3)) H ?_
  refine rt 1 (.agg #[.int .i64 aS.qH, .slice zG aS.qf.length zF, .slice vP aS.qg.length vO]) (yG (cs := [.int .i64 aS.qH, .slice zG aS.qf.length zF, .slice vP aS.qg.length vO]) Tryz.isAgg25 Tryz.sizeOf25 rfl (fun _ h => qI (h.cells 11 rfl) 0 3)) H ?_
  refine xq [2] (by kernel_rfl) (by simp) (xX rfl ?_ xu)
  have sz149 := H.base.size
  have lt150 := H.ltN (L := [rF115aBags, vS, jw, vk, zI, vM, rF20]) [0, 1, 2, 3, 4, 5, 6]
  refine xf #[.agg #[.int .i64 aS.qH, .slice zG aS.qf.length zF, .slice vP aS.qg.length vO]] rfl rfl Tryz.call11 (toSystem_ok w144.drew aS zG zF yj vP vO QG (H.get 7 rfl).1 (H.get 8 rfl).1 (by first | assumption | omega)) ?_
  rintro v154 w152 r154 x153
  obtain ⟨a154Parents, c154Parents, vW, a154Rules, c154Rules, jU, rfl, f154, H⟩ := H.add_SystemD x153 r154
  replace N := N.cons f154 sz149 lt150
  replace N := N.split
  refine ⟨H.pick [0, 1, 2, 3, 4, 5, 6, 7, 8, 9, 10, 11] [2, 3, 4, 5, 6, 7, 8, 9, 10, 11, 12, 13], ?_⟩
  refine xq [3] (by kernel_rfl) (by simp) (xX rfl ?_ xu)
  refine xf #[.agg #[.int .i64 aS.qH, .slice jb aS.qf.length ja, .slice yh aS.qg.length yc], .agg #[.int .i64 aS.qH, .slice a154Parents aS.qf.length c154Parents, .slice a154Rules aS.qg.length c154Rules]] rfl rfl Tryz.call15 (eqSystem_ok w152 aS aS jb ja zI yh yc vM a154Parents c154Parents vW a154Rules c154Rules jU (H.get 6 rfl).1 (H.get 7 rfl).1 (H.get 0 rfl).1 (H.get 1 rfl).1) ?_
  rintro _ w155 rfl x156
  replace H := H.ext x156
  refine ⟨H.pick [0, 1, 2, 3, 4, 5, 6, 7, 8, 9, 10, 11] [2, 3, 4, 5, 6, 7, 8, 9, 10, 11, 12, 13], ?_⟩
  refine rtp 4 (.bool (!(decide (aS = aS)))) (H.pick [0, 1, 2, 3, 4, 5, 6, 7, 8, 9, 10, 11] [2, 3, 4, 5, 6, 7, 8, 9, 10, 11, 12, 13]) ?_
  refine xM (by kernel_rfl) (t_n ?_)
  refine qZ (!(decide (aS = aS))) rfl (fun h => absurd (xg h) (by simp)) (fun h157 => ?_)
  replace h157 := qX h157
  refine xx (t_n (qm (qm ?_)))
  refine yA rfl H fun H => ?_
  refine rt 0 (.agg #[.slice yg aT.qh.length jZ, .slice Qe aT.qp.length Qd, .slice jD aT.ql.length jB]) (yG (cs := [.slice yg aT.qh.length jZ, .slice Qe aT.qp.length Qd, .slice jD aT.ql.length jB]) Tryz.isAgg38 Tryz.sizeOf38 rfl (fun _ h => qI (h.cells 4 rfl) 0 3)) H ?_
  refine rt 1 (.agg #[.slice vF aT.qh.length vC, .slice ji aT.qp.length jg, .slice zN aT.ql.length zM]) (yG (cs := [.slice vF aT.qh.length vC, .slice ji aT.qp.length jg, .slice zN aT.ql.length zM]) Tryz.isAgg29 Tryz.sizeOf29 rfl (fun _ h => qI (h.cells 10 rfl) 0 3)) H ?_
  refine xq [2] (by kernel_rfl) (by simp) (xX rfl ?_ xu)
  have sz159 := H.base.size
  have lt160 := H.ltN (L := [vW, jU, rF115aBags, vS, jw, vk, zI, vM, rF20]) [0, 1, 2, 3, 4, 5, 6, 7, 8]
  refine xf #[.agg #[.slice vF aT.qh.length vC, .slice ji aT.qp.length jg, .slice zN aT.ql.length zM]] rfl rfl Tryz.call12 (XU w155.drew aT vF vC Qp ji jg Q3 zN zM yB (H.get 11 rfl).1 (H.get 12 rfl).1 (H.get 13 rfl).1 (by first | assumption | omega)) ?_
  rintro v164 w162 r164 x163
  obtain ⟨a164Alive, c164Alive, yl, a164Bags, c164Bags, Qg, a164Around, c164Around, jE, rfl, f164, H⟩ := H.XZ x163 r164
  replace N := N.cons f164 sz159 lt160
  replace N := N.split
  replace N := N.split
  refine ⟨H.pick [0, 1, 2, 3, 4, 5, 6, 7, 8, 9, 10, 11] [3, 4, 5, 6, 7, 8, 9, 10, 11, 12, 13, 14, 15, 16], ?_⟩
  refine xq [3] (by kernel_rfl) (by simp) (xX rfl ?_ xu)
  refine xf #[.agg #[.slice yg aT.qh.length jZ, .slice Qe aT.qp.length Qd, .slice jD aT.ql.length jB], .agg #[.slice a164Alive aT.qh.length c164Alive, .slice a164Bags aT.qp.length c164Bags, .slice a164Around aT.ql.length c164Around]] rfl rfl Tryz.call16 (eqState_ok w162 aT aT yg jZ vS Qe Qd jw jD jB vk a164Alive c164Alive yl a164Bags c164Bags Qg a164Around c164Around jE (H.get 6 rfl).1 (H.get 7 rfl).1 (H.get 8 rfl).1 (H.get 0 rfl).1 (H.get 1 rfl).1 (H.get 2 rfl).1) ?_
  rintro _ w165 rfl x166
  replace H := H.ext x166
  refine ⟨H.pick [0, 1, 2, 3, 4, 5, 6, 7, 8, 9, 10, 11] [3, 4, 5, 6, 7, 8, 9, 10, 11, 12, 13, 14, 15, 16], ?_⟩
  refine rtp 4 (.bool (!(decide (aT = aT)))) (H.pick [0, 1, 2, 3, 4, 5, 6, 7, 8, 9, 10, 11] [3, 4, 5, 6, 7, 8, 9, 10, 11, 12, 13, 14, 15, 16]) ?_
  refine xM (by kernel_rfl) (t_n ?_)
  refine qZ (!(decide (aT = aT))) rfl (fun h => absurd (xg h) (by simp)) (fun h167 => ?_)
  replace h167 := qX h167
  refine xx (t_n (qm (qB ?_)))
  refine sp (.int .i64 1) ?_
  refine qy (t_n (qm (qB ?_)))
  refine sw (zi [.int .i64 aS.qH, .slice jb aS.qf.length ja, .slice yh aS.qg.length yc] Tryz.isAgg36 Tryz.sizeOf36 rfl (qI (H.cells 5 rfl) 0 3) ?_)
  refine sp (.int .i64 1) ?_
  have N168 : Fresh w.heap.size [zI, vM, yl, Qg, jE, vW, jU, rF115aBags, vS, jw, vk, rF20] := (N.pick [9, 10, 0, 1, 2, 3, 4, 5, 6, 7, 8, 11])
  refine sw (XE #[.agg #[.int .i64 aS.qH, .slice jb aS.qf.length ja, .slice yh aS.qg.length yc], .int .i64 1] rfl rfl Tryz.call17 (markSystem_ok w165 aS 1 jb ja zI yh yc vM (H.get 9 rfl).1 (H.get 10 rfl).1 (N168.pick [0, 1] : Fresh _ [zI, vM]).join.one.2 (((H.get 9 rfl).2 rfl).app ((H.get 10 rfl).2 rfl)) (by omega) (by omega)) ?_)
  rintro _ w169 ⟨rfl, m171⟩ x170
  replace H : St _ _ [.box b123 [.slice ra115aAlive ((((qx aS aT aN).1).qh).length) rc115aAlive, .slice ra115aBags ((((qx aS aT aN).1).qp).length) rc115aBags, .slice ra115aAround ((((qx aS aT aN).1).ql).length) rc115aAround] 38, .row (.slice ra115aAlive ((((qx aS aT aN).1).qh).length) rc115aAlive) 4 1 ((((qx aS aT aN).1).qh).length) ((((qx aS aT aN).1).qh).map (Value.bool)), .row (.slice ra115aBags ((((qx aS aT aN).1).qp).length) rc115aBags) 22 1 ((((qx aS aT aN).1).qp).length) rx115aBags, .row (.slice ra115aAround ((((qx aS aT aN).1).ql).length) rc115aAround) 2 1 ((((qx aS aT aN).1).ql).length) ((((qx aS aT aN).1).ql).map (Value.int .i64)), .box b112 [.slice yg aT.qh.length jZ, .slice Qe aT.qp.length Qd, .slice jD aT.ql.length jB] 38, .box b103 [.int .i64 aS.qH, .slice jb aS.qf.length ja, .slice yh aS.qg.length yc] 36, .box b12 [.slice ra13 ((((qx aS aT aN).1).qh).length) rc14, .slice ra15 ((((qx aS aT aN).1).qp).length) rc16, .slice ra17 ((((qx aS aT aN).1).ql).length) rc18] 38, .row (.slice ra13 ((((qx aS aT aN).1).qh).length) rc14) 4 1 ((((qx aS aT aN).1).qh).length) ((((qx aS aT aN).1).qh).map (Value.bool)), .row (.slice ra15 ((((qx aS aT aN).1).qp).length) rc16) 22 1 ((((qx aS aT aN).1).qp).length) rx19, .row (.slice ra17 ((((qx aS aT aN).1).ql).length) rc18) 2 1 ((((qx aS aT aN).1).ql).length) ((((qx aS aT aN).1).ql).map (Value.int .i64)), .box b3 [.slice vF aT.qh.length vC, .slice ji aT.qp.length jg, .slice zN aT.ql.length zM] 29, .box b1 [.int .i64 aS.qH, .slice zG aS.qf.length zF, .slice vP aS.qg.length vO] 25] [isF true zI (.slice jb aS.qf.length ja) (mrk aS.qf (1)), isF true vM (.slice yh aS.qg.length yc) (mrk aS.qg (1 + (cnt aS.qf : Nat))), isF true yl (.slice a164Alive aT.qh.length c164Alive) aT.qh, isF true Qg (.slice a164Bags aT.qp.length c164Bags) aT.qp, isF true jE (.slice a164Around aT.ql.length c164Around) aT.ql, isF true vW (.slice a154Parents aS.qf.length c154Parents) aS.qf, isF true jU (.slice a154Rules aS.qg.length c154Rules) aS.qg, jf true rF115aBags rx115aBags (((qx aS aT aN).1).qp), isF true vS (.slice yg aT.qh.length jZ) aT.qh, isF true jw (.slice Qe aT.qp.length Qd) aT.qp, isF true vk (.slice jD aT.ql.length jB) aT.ql, jf true rF20 rx19 (((qx aS aT aN).1).qp), isF false yj (.slice zG aS.qf.length zF) aS.qf, isF false QG (.slice vP aS.qg.length vO) aS.qg, isF false Qp (.slice vF aT.qh.length vC) aT.qh, isF false Q3 (.slice ji aT.qp.length jg) aT.qp, isF false yB (.slice zN aT.ql.length zM) aT.ql] := H.chgFacts (Fs := [zI, vM]) (L := [yl, Qg, jE, vW, jU, rF115aBags, vS, jw, vk, rF20]) (A := [yj, QG, Qp, Q3, yB]) N168 A (x170.mono (by intro z hz; simpa using hz)) [9, 10] [isF true zI (.slice jb aS.qf.length ja) (mrk aS.qf (1)), isF true vM (.slice yh aS.qg.length yc) (mrk aS.qg (1 + (cnt aS.qf : Nat)))] (all_of ⟨m171.1, ⟨m171.2, trivial⟩⟩) [0, 1, 2, 3, 4, 5, 6, 7, 8, 11, 12, 13, 14, 15, 16] [0, 1, 2, 3, 4, 5, 6, 7, 8, 9, 10, 11, 12, 13, 14]
  replace N := N168
  refine sp (.int .i64 (1 + (cnt aS.qf : Nat) + (cnt aS.qg : Nat))) ?_
  refine qy (t_n (qm (qB ?_)))
  refine sw (zi [.slice yg aT.qh.length jZ, .slice Qe aT.qp.length Qd, .slice jD aT.ql.length jB] Tryz.isAgg38 Tryz.sizeOf38 rfl (qI (H.cells 4 rfl) 0 3) ?_)
  refine sp (.int .i64 (1 + (cnt aS.qf : Nat) + (cnt aS.qg : Nat))) ?_
  have N172 : Fresh w.heap.size [vS, jw, vk, zI, vM, yl, Qg, jE, vW, jU, rF115aBags, rF20] := (N.pick [8, 9, 10, 0, 1, 2, 3, 4, 5, 6, 7, 11])
  refine sw (XE #[.agg #[.slice yg aT.qh.length jZ, .slice Qe aT.qp.length Qd, .slice jD aT.ql.length jB], .int .i64 (1 + (cnt aS.qf : Nat) + (cnt aS.qg : Nat))] rfl rfl Tryz.call18 (markState_ok w169 aT (1 + (cnt aS.qf : Nat) + (cnt aS.qg : Nat)) yg jZ vS Qe Qd jw jD jB vk (H.get 8 rfl).1 (H.get 9 rfl).1 (H.get 10 rfl).1 (N172.pick [0, 1, 2] : Fresh _ [vS, jw, vk]).join.join.one.2 ((((H.get 8 rfl).2 rfl).app ((H.get 9 rfl).2 rfl)).app ((H.get 10 rfl).2 rfl)) (by omega) (by omega)) ?_)
  rintro _ w173 ⟨rfl, m175⟩ x174
  replace H : St _ _ [.box b123 [.slice ra115aAlive ((((qx aS aT aN).1).qh).length) rc115aAlive, .slice ra115aBags ((((qx aS aT aN).1).qp).length) rc115aBags, .slice ra115aAround ((((qx aS aT aN).1).ql).length) rc115aAround] 38, .row (.slice ra115aAlive ((((qx aS aT aN).1).qh).length) rc115aAlive) 4 1 ((((qx aS aT aN).1).qh).length) ((((qx aS aT aN).1).qh).map (Value.bool)), .row (.slice ra115aBags ((((qx aS aT aN).1).qp).length) rc115aBags) 22 1 ((((qx aS aT aN).1).qp).length) rx115aBags, .row (.slice ra115aAround ((((qx aS aT aN).1).ql).length) rc115aAround) 2 1 ((((qx aS aT aN).1).ql).length) ((((qx aS aT aN).1).ql).map (Value.int .i64)), .box b112 [.slice yg aT.qh.length jZ, .slice Qe aT.qp.length Qd, .slice jD aT.ql.length jB] 38, .box b103 [.int .i64 aS.qH, .slice jb aS.qf.length ja, .slice yh aS.qg.length yc] 36, .box b12 [.slice ra13 ((((qx aS aT aN).1).qh).length) rc14, .slice ra15 ((((qx aS aT aN).1).qp).length) rc16, .slice ra17 ((((qx aS aT aN).1).ql).length) rc18] 38, .row (.slice ra13 ((((qx aS aT aN).1).qh).length) rc14) 4 1 ((((qx aS aT aN).1).qh).length) ((((qx aS aT aN).1).qh).map (Value.bool)), .row (.slice ra15 ((((qx aS aT aN).1).qp).length) rc16) 22 1 ((((qx aS aT aN).1).qp).length) rx19, .row (.slice ra17 ((((qx aS aT aN).1).ql).length) rc18) 2 1 ((((qx aS aT aN).1).ql).length) ((((qx aS aT aN).1).ql).map (Value.int .i64)), .box b3 [.slice vF aT.qh.length vC, .slice ji aT.qp.length jg, .slice zN aT.ql.length zM] 29, .box b1 [.int .i64 aS.qH, .slice zG aS.qf.length zF, .slice vP aS.qg.length vO] 25] [isF true vS (.slice yg aT.qh.length jZ) (mrk aT.qh (1 + (cnt aS.qf : Nat) + (cnt aS.qg : Nat))), isF true jw (.slice Qe aT.qp.length Qd) (mrk aT.qp (1 + (cnt aS.qf : Nat) + (cnt aS.qg : Nat) + (cnt aT.qh : Nat))), isF true vk (.slice jD aT.ql.length jB) (mrk aT.ql (1 + (cnt aS.qf : Nat) + (cnt aS.qg : Nat) + (cnt aT.qh : Nat) + (cnt aT.qp : Nat))), isF true zI (.slice jb aS.qf.length ja) (mrk aS.qf (1)), isF true vM (.slice yh aS.qg.length yc) (mrk aS.qg (1 + (cnt aS.qf : Nat))), isF true yl (.slice a164Alive aT.qh.length c164Alive) aT.qh, isF true Qg (.slice a164Bags aT.qp.length c164Bags) aT.qp, isF true jE (.slice a164Around aT.ql.length c164Around) aT.ql, isF true vW (.slice a154Parents aS.qf.length c154Parents) aS.qf, isF true jU (.slice a154Rules aS.qg.length c154Rules) aS.qg, jf true rF115aBags rx115aBags (((qx aS aT aN).1).qp), jf true rF20 rx19 (((qx aS aT aN).1).qp), isF false yj (.slice zG aS.qf.length zF) aS.qf, isF false QG (.slice vP aS.qg.length vO) aS.qg, isF false Qp (.slice vF aT.qh.length vC) aT.qh, isF false Q3 (.slice ji aT.qp.length jg) aT.qp, isF false yB (.slice zN aT.ql.length zM) aT.ql] := H.chgFacts (Fs := [vS, jw, vk]) (L := [zI, vM, yl, Qg, jE, vW, jU, rF115aBags, rF20]) (A := [yj, QG, Qp, Q3, yB]) N172 A (x174.mono (by intro z hz; simpa using hz)) [8, 9, 10] [isF true vS (.slice yg aT.qh.length jZ) (mrk aT.qh (1 + (cnt aS.qf : Nat) + (cnt aS.qg : Nat))), isF true jw (.slice Qe aT.qp.length Qd) (mrk aT.qp (1 + (cnt aS.qf : Nat) + (cnt aS.qg : Nat) + (cnt aT.qh : Nat))), isF true vk (.slice jD aT.ql.length jB) (mrk aT.ql (1 + (cnt aS.qf : Nat) + (cnt aS.qg : Nat) + (cnt aT.qh : Nat) + (cnt aT.qp : Nat)))] (all_of ⟨m175.1, ⟨m175.2.1, ⟨m175.2.2, trivial⟩⟩⟩) [0, 1, 2, 3, 4, 5, 6, 7, 11, 12, 13, 14, 15, 16] [0, 1, 2, 3, 4, 5, 6, 7, 8, 9, 10, 11, 12, 13]
  replace N := N172
  refine sp (.int .i64 (1 + (cnt aS.qf : Nat) + (cnt aS.qg : Nat) + (cnt aT.qh : Nat) + (cnt aT.qp : Nat) + (cnt aT.ql : Nat))) ?_
  refine qy (t_n (qm (qm (qB ?_))))
  refine sps [.int .i64 (1 + (cnt aS.qf : Nat) + (cnt aS.qg : Nat) + (cnt aT.qh : Nat) + (cnt aT.qp : Nat) + (cnt aT.ql : Nat)), .bool (decide ((1 + (cnt aS.qf : Nat) + (cnt aS.qg : Nat) + (cnt aT.qh : Nat) + (cnt aT.qp : Nat) + (cnt aT.ql : Nat) : Int) < 0)), .bool (decide ((1 + (cnt aS.qf : Nat) + (cnt aS.qg : Nat) + (cnt aT.qh : Nat) + (cnt aT.qp : Nat) + (cnt aT.ql : Nat) : Int) < 0))] ?_
  cases h176 : (decide ((1 + (cnt aS.qf : Nat) + (cnt aS.qg : Nat) + (cnt aT.qh : Nat) + (cnt aT.qp : Nat) + (cnt aT.ql : Nat) : Int) < 0))
  ·skip
   replace h176 := of_decide_eq_false h176
   refine qQ 76 rfl rfl ?_
   refine sw (zi [.slice ra115aAlive ((((qx aS aT aN).1).qh).length) rc115aAlive, .slice ra115aBags ((((qx aS aT aN).1).qp).length) rc115aBags, .slice ra115aAround ((((qx aS aT aN).1).ql).length) rc115aAround] Tryz.isAgg38 Tryz.sizeOf38 rfl (qI (H.cells 0 rfl) 0 3) ?_)
   refine qQ 76 rfl rfl ?_
   refine sw (zi [.slice ra13 ((((qx aS aT aN).1).qh).length) rc14, .slice ra15 ((((qx aS aT aN).1).qp).length) rc16, .slice ra17 ((((qx aS aT aN).1).ql).length) rc18] Tryz.isAgg38 Tryz.sizeOf38 rfl (qI (H.cells 6 rfl) 0 3) ?_)
   refine qQ 76 rfl rfl ?_
   obtain ⟨G177, hn178, h179⟩ := H.rowIsB 1 rfl
   obtain ⟨G180, hn181, h182⟩ := H.rowIsR (α := List Int) 2 rfl 10 rfl (by decide)
   obtain ⟨G183, hn184, h185⟩ := H.rowIsI 3 rfl
   obtain ⟨G186, hn187, h188⟩ := H.rowIsB 7 rfl
   obtain ⟨G189, hn190, h191⟩ := H.rowIsR (α := List Int) 8 rfl 11 rfl (by decide)
   obtain ⟨G192, hn193, h194⟩ := H.rowIsI 9 rfl
   refine sw (xf #[.agg #[.slice ra115aAlive ((((qx aS aT aN).1).qh).length) rc115aAlive, .slice ra115aBags ((((qx aS aT aN).1).qp).length) rc115aBags, .slice ra115aAround ((((qx aS aT aN).1).ql).length) rc115aAround], .agg #[.slice ra13 ((((qx aS aT aN).1).qh).length) rc14, .slice ra15 ((((qx aS aT aN).1).qp).length) rc16, .slice ra17 ((((qx aS aT aN).1).ql).length) rc18]] rfl rfl Tryz.call16 (eqState_ok w173 ((qx aS aT aN).1) ((qx aS aT aN).1) ra115aAlive rc115aAlive G177 ra115aBags rc115aBags G180 ra115aAround rc115aAround G183 ra13 rc14 G186 ra15 rc16 G189 ra17 rc18 G192 h179 h182 h185 h188 h191 h194) ?_)
   rintro _ w195 rfl x196
   replace H := H.ext x196
   refine qQ 76 rfl rfl ?_
   refine sps [.bool (!(decide (((qx aS aT aN).1) = ((qx aS aT aN).1)))), .bool (!(decide (((qx aS aT aN).1) = ((qx aS aT aN).1)))), .bool (!(decide (((qx aS aT aN).1) = ((qx aS aT aN).1))))] ?_
   cases h197 : (!(decide (((qx aS aT aN).1) = ((qx aS aT aN).1))))
   ·skip
    replace h197 := qX h197
    refine qQ 82 rfl rfl ?_
    refine sp (.int .i64 ((qx aS aT aN).2)) ?_
    refine qQ 82 rfl rfl ?_
    refine sp (.int .i64 ((qx aS aT aN).2)) ?_
    refine qQ 82 rfl rfl ?_
    refine sps [.bool (((qx aS aT aN).2 : Int) != ((qx aS aT aN).2)), .bool (((qx aS aT aN).2 : Int) != ((qx aS aT aN).2))] ?_
    refine qy (t_n ?_)
    refine qZ (((qx aS aT aN).2 : Int) != ((qx aS aT aN).2)) rfl (fun h => absurd rfl (bne_iff_ne.1 h)) (fun h198 => ?_)
    replace h198 := xR h198
    refine xx (t_n (qm (qB ?_)))
    refine sp (.int .i64 1) ?_
    refine qy (t_n (qm (qB ?_)))
    refine sw (zi [.slice ra115aAlive ((((qx aS aT aN).1).qh).length) rc115aAlive, .slice ra115aBags ((((qx aS aT aN).1).qp).length) rc115aBags, .slice ra115aAround ((((qx aS aT aN).1).ql).length) rc115aAround] Tryz.isAgg38 Tryz.sizeOf38 rfl (qI (H.cells 0 rfl) 0 3) ?_)
    refine sp (.int .i64 1) ?_
    obtain ⟨G199, N, hn200, H⟩ := H.freezeB 1 rfl N (H.X3 [0, 1, 2, 3, 4, 5, 6, 7, 8, 9, 10, 11])
    try dsimp only [List.set] at H
    have H0 := H
    obtain ⟨G201, hg203, hn202, H⟩ := H.freezeR (α := List Int) 2 rfl 11 rfl (by decide)
    replace N : Fresh w.heap.size [G201, G199, vS, jw, vk, zI, vM, yl, Qg, jE, vW, jU, rF20] := Fresh.ice (N.pick [11, 0, 1, 2, 3, 4, 5, 6, 7, 8, 9, 10, 12]) H0 2 hg203.1 hg203.2 (H0.X3 [0, 1, 2, 3, 4, 5, 6, 7, 8, 9, 10, 12])
    clear H0
    try dsimp only [List.set] at H
    obtain ⟨G204, N, hn205, H⟩ := H.yI 3 rfl N (H.X3 [0, 1, 2, 3, 4, 5, 6, 7, 8, 9, 10, 11, 13])
    try dsimp only [List.set] at H
    have N206 : Fresh w.heap.size [G199, G201, G204, vS, jw, vk, zI, vM, yl, Qg, jE, vW, jU, rF20] := (N.pick [2, 1, 0, 3, 4, 5, 6, 7, 8, 9, 10, 11, 12, 13])
    refine sw (XE #[.agg #[.slice ra115aAlive ((((qx aS aT aN).1).qh).length) rc115aAlive, .slice ra115aBags ((((qx aS aT aN).1).qp).length) rc115aBags, .slice ra115aAround ((((qx aS aT aN).1).ql).length) rc115aAround], .int .i64 1] rfl rfl Tryz.call18 (markState_ok w195 ((qx aS aT aN).1) 1 ra115aAlive rc115aAlive G199 ra115aBags rc115aBags G201 ra115aAround rc115aAround G204 (H.get 2 rfl).1 (H.get 1 rfl).1 (H.get 0 rfl).1 (N206.pick [0, 1, 2] : Fresh _ [G199, G201, G204]).join.join.one.2 ((((H.get 2 rfl).2 rfl).app ((H.get 1 rfl).2 rfl)).app ((H.get 0 rfl).2 rfl)) (by omega) (by omega)) ?_)
    rintro _ w207 ⟨rfl, m209⟩ x208
    replace H : St _ _ [.box b123 [.slice ra115aAlive ((((qx aS aT aN).1).qh).length) rc115aAlive, .slice ra115aBags ((((qx aS aT aN).1).qp).length) rc115aBags, .slice ra115aAround ((((qx aS aT aN).1).ql).length) rc115aAround] 38, .row (.slice none 0 0) 0 1 0 [], .row (.slice none 0 0) 0 1 0 [], .row (.slice none 0 0) 0 1 0 [], .box b112 [.slice yg aT.qh.length jZ, .slice Qe aT.qp.length Qd, .slice jD aT.ql.length jB] 38, .box b103 [.int .i64 aS.qH, .slice jb aS.qf.length ja, .slice yh aS.qg.length yc] 36, .box b12 [.slice ra13 ((((qx aS aT aN).1).qh).length) rc14, .slice ra15 ((((qx aS aT aN).1).qp).length) rc16, .slice ra17 ((((qx aS aT aN).1).ql).length) rc18] 38, .row (.slice ra13 ((((qx aS aT aN).1).qh).length) rc14) 4 1 ((((qx aS aT aN).1).qh).length) ((((qx aS aT aN).1).qh).map (Value.bool)), .row (.slice ra15 ((((qx aS aT aN).1).qp).length) rc16) 22 1 ((((qx aS aT aN).1).qp).length) rx19, .row (.slice ra17 ((((qx aS aT aN).1).ql).length) rc18) 2 1 ((((qx aS aT aN).1).ql).length) ((((qx aS aT aN).1).ql).map (Value.int .i64)), .box b3 [.slice vF aT.qh.length vC, .slice ji aT.qp.length jg, .slice zN aT.ql.length zM] 29, .box b1 [.int .i64 aS.qH, .slice zG aS.qf.length zF, .slice vP aS.qg.length vO] 25] [isF true G199 (.slice ra115aAlive ((((qx aS aT aN).1).qh).length) rc115aAlive) (mrk (((qx aS aT aN).1).qh) (1)), isF true G201 (.slice ra115aBags ((((qx aS aT aN).1).qp).length) rc115aBags) (mrk (((qx aS aT aN).1).qp) (1 + (cnt (((qx aS aT aN).1).qh) : Nat))), isF true G204 (.slice ra115aAround ((((qx aS aT aN).1).ql).length) rc115aAround) (mrk (((qx aS aT aN).1).ql) (1 + (cnt (((qx aS aT aN).1).qh) : Nat) + (cnt (((qx aS aT aN).1).qp) : Nat))), isF true vS (.slice yg aT.qh.length jZ) (mrk aT.qh (1 + (cnt aS.qf : Nat) + (cnt aS.qg : Nat))), isF true jw (.slice Qe aT.qp.length Qd) (mrk aT.qp (1 + (cnt aS.qf : Nat) + (cnt aS.qg : Nat) + (cnt aT.qh : Nat))), isF true vk (.slice jD aT.ql.length jB) (mrk aT.ql (1 + (cnt aS.qf : Nat) + (cnt aS.qg : Nat) + (cnt aT.qh : Nat) + (cnt aT.qp : Nat))), isF true zI (.slice jb aS.qf.length ja) (mrk aS.qf (1)), isF true vM (.slice yh aS.qg.length yc) (mrk aS.qg (1 + (cnt aS.qf : Nat))), isF true yl (.slice a164Alive aT.qh.length c164Alive) aT.qh, isF true Qg (.slice a164Bags aT.qp.length c164Bags) aT.qp, isF true jE (.slice a164Around aT.ql.length c164Around) aT.ql, isF true vW (.slice a154Parents aS.qf.length c154Parents) aS.qf, isF true jU (.slice a154Rules aS.qg.length c154Rules) aS.qg, jf true rF20 rx19 (((qx aS aT aN).1).qp), isF false yj (.slice zG aS.qf.length zF) aS.qf, isF false QG (.slice vP aS.qg.length vO) aS.qg, isF false Qp (.slice vF aT.qh.length vC) aT.qh, isF false Q3 (.slice ji aT.qp.length jg) aT.qp, isF false yB (.slice zN aT.ql.length zM) aT.ql] := H.chgFacts (Fs := [G199, G201, G204]) (L := [vS, jw, vk, zI, vM, yl, Qg, jE, vW, jU, rF20]) (A := [yj, QG, Qp, Q3, yB]) N206 A (x208.mono (by intro z hz; simpa using hz)) [2, 1, 0] [isF true G199 (.slice ra115aAlive ((((qx aS aT aN).1).qh).length) rc115aAlive) (mrk (((qx aS aT aN).1).qh) (1)), isF true G201 (.slice ra115aBags ((((qx aS aT aN).1).qp).length) rc115aBags) (mrk (((qx aS aT aN).1).qp) (1 + (cnt (((qx aS aT aN).1).qh) : Nat))), isF true G204 (.slice ra115aAround ((((qx aS aT aN).1).ql).length) rc115aAround) (mrk (((qx aS aT aN).1).ql) (1 + (cnt (((qx aS aT aN).1).qh) : Nat) + (cnt (((qx aS aT aN).1).qp) : Nat)))] (all_of ⟨m209.1, ⟨m209.2.1, ⟨m209.2.2, trivial⟩⟩⟩) [3, 4, 5, 6, 7, 8, 9, 10, 11, 12, 14, 15, 16, 17, 18, 19] [0, 1, 2, 3, 4, 5, 6, 7, 8, 9, 10, 11, 12, 13, 14, 15]
    replace N := N206
    refine sp (.int .i64 (1 + (cnt (((qx aS aT aN).1).qh) : Nat) + (cnt (((qx aS aT aN).1).qp) : Nat) + (cnt (((qx aS aT aN).1).ql) : Nat))) ?_
    refine qy (t_n (qm (qB ?_)))
    refine sp (.int .i64 1) ?_
    refine qy (t_n (qm (qB ?_)))
    refine sw (zi [.slice ra115aAlive ((((qx aS aT aN).1).qh).length) rc115aAlive, .slice ra115aBags ((((qx aS aT aN).1).qp).length) rc115aBags, .slice ra115aAround ((((qx aS aT aN).1).ql).length) rc115aAround] Tryz.isAgg38 Tryz.sizeOf38 rfl (qI (H.cells 0 rfl) 0 3) ?_)
    refine sp (.int .i64 1) ?_
    have hn210 := H.isLen 0 rfl
    have hn211 := H.isLen 1 rfl
    have hn212 := H.isLen 2 rfl
    refine sw (xf #[.agg #[.slice ra115aAlive ((((qx aS aT aN).1).qh).length) rc115aAlive, .slice ra115aBags ((((qx aS aT aN).1).qp).length) rc115aBags, .slice ra115aAround ((((qx aS aT aN).1).ql).length) rc115aAround], .int .i64 1] rfl rfl Tryz.call23 (args_eq (by rw [← hn210, ← hn211, ← hn212]) (heldState_ok w207 (⟨(mrk (((qx aS aT aN).1).qh) (1)), (mrk (((qx aS aT aN).1).qp) (1 + (cnt (((qx aS aT aN).1).qh) : Nat))), (mrk (((qx aS aT aN).1).ql) (1 + (cnt (((qx aS aT aN).1).qh) : Nat) + (cnt (((qx aS aT aN).1).qp) : Nat)))⟩ : qU) 1 ra115aAlive rc115aAlive G199 ra115aBags rc115aBags G201 ra115aAround rc115aAround G204 (hn210 ▸ (H.get 0 rfl).1) (hn211 ▸ (H.get 1 rfl).1) (hn212 ▸ (H.get 2 rfl).1) (by first | exact mkd_mark _ _ | omega | (simp only [cnt_mark]; first | exact mkd_mark _ _ | omega)) (by first | exact mkd_mark _ _ | omega | (simp only [cnt_mark]; first | exact mkd_mark _ _ | omega)) (by first | exact mkd_mark _ _ | omega | (simp only [cnt_mark]; first | exact mkd_mark _ _ | omega)) (by first | exact mkd_mark _ _ | omega | (simp only [cnt_mark]; first | exact mkd_mark _ _ | omega)) (by first | exact mkd_mark _ _ | omega | (simp only [cnt_mark]; first | exact mkd_mark _ _ | omega)))) ?_)
    rintro _ w213 rfl x214
    replace H := H.ext x214
    refine sp (.int .i64 (1 + (cnt (⟨(mrk (((qx aS aT aN).1).qh) (1)), (mrk (((qx aS aT aN).1).qp) (1 + (cnt (((qx aS aT aN).1).qh) : Nat))), (mrk (((qx aS aT aN).1).ql) (1 + (cnt (((qx aS aT aN).1).qh) : Nat) + (cnt (((qx aS aT aN).1).qp) : Nat)))⟩ : qU).qh : Nat) + (cnt (⟨(mrk (((qx aS aT aN).1).qh) (1)), (mrk (((qx aS aT aN).1).qp) (1 + (cnt (((qx aS aT aN).1).qh) : Nat))), (mrk (((qx aS aT aN).1).ql) (1 + (cnt (((qx aS aT aN).1).qh) : Nat) + (cnt (((qx aS aT aN).1).qp) : Nat)))⟩ : qU).qp : Nat) + (cnt (⟨(mrk (((qx aS aT aN).1).qh) (1)), (mrk (((qx aS aT aN).1).qp) (1 + (cnt (((qx aS aT aN).1).qh) : Nat))), (mrk (((qx aS aT aN).1).ql) (1 + (cnt (((qx aS aT aN).1).qh) : Nat) + (cnt (((qx aS aT aN).1).qp) : Nat)))⟩ : qU).ql : Nat))) ?_
    refine qy (t_n (qm (qm (qB ?_))))
    refine sps [.int .i64 (1 + (cnt (⟨(mrk (((qx aS aT aN).1).qh) (1)), (mrk (((qx aS aT aN).1).qp) (1 + (cnt (((qx aS aT aN).1).qh) : Nat))), (mrk (((qx aS aT aN).1).ql) (1 + (cnt (((qx aS aT aN).1).qh) : Nat) + (cnt (((qx aS aT aN).1).qp) : Nat)))⟩ : qU).qh : Nat) + (cnt (⟨(mrk (((qx aS aT aN).1).qh) (1)), (mrk (((qx aS aT aN).1).qp) (1 + (cnt (((qx aS aT aN).1).qh) : Nat))), (mrk (((qx aS aT aN).1).ql) (1 + (cnt (((qx aS aT aN).1).qh) : Nat) + (cnt (((qx aS aT aN).1).qp) : Nat)))⟩ : qU).qp : Nat) + (cnt (⟨(mrk (((qx aS aT aN).1).qh) (1)), (mrk (((qx aS aT aN).1).qp) (1 + (cnt (((qx aS aT aN).1).qh) : Nat))), (mrk (((qx aS aT aN).1).ql) (1 + (cnt (((qx aS aT aN).1).qh) : Nat) + (cnt (((qx aS aT aN).1).qp) : Nat)))⟩ : qU).ql : Nat)), .bool (decide ((1 + (cnt (⟨(mrk (((qx aS aT aN).1).qh) (1)), (mrk (((qx aS aT aN).1).qp) (1 + (cnt (((qx aS aT aN).1).qh) : Nat))), (mrk (((qx aS aT aN).1).ql) (1 + (cnt (((qx aS aT aN).1).qh) : Nat) + (cnt (((qx aS aT aN).1).qp) : Nat)))⟩ : qU).qh : Nat) + (cnt (⟨(mrk (((qx aS aT aN).1).qh) (1)), (mrk (((qx aS aT aN).1).qp) (1 + (cnt (((qx aS aT aN).1).qh) : Nat))), (mrk (((qx aS aT aN).1).ql) (1 + (cnt (((qx aS aT aN).1).qh) : Nat) + (cnt (((qx aS aT aN).1).qp) : Nat)))⟩ : qU).qp : Nat) + (cnt (⟨(mrk (((qx aS aT aN).1).qh) (1)), (mrk (((qx aS aT aN).1).qp) (1 + (cnt (((qx aS aT aN).1).qh) : Nat))), (mrk (((qx aS aT aN).1).ql) (1 + (cnt (((qx aS aT aN).1).qh) : Nat) + (cnt (((qx aS aT aN).1).qp) : Nat)))⟩ : qU).ql : Nat) : Int) < 0))] ?_
    refine qy (t_n ?_)
    refine qZ (decide ((1 + (cnt (⟨(mrk (((qx aS aT aN).1).qh) (1)), (mrk (((qx aS aT aN).1).qp) (1 + (cnt (((qx aS aT aN).1).qh) : Nat))), (mrk (((qx aS aT aN).1).ql) (1 + (cnt (((qx aS aT aN).1).qh) : Nat) + (cnt (((qx aS aT aN).1).qp) : Nat)))⟩ : qU).qh : Nat) + (cnt (⟨(mrk (((qx aS aT aN).1).qh) (1)), (mrk (((qx aS aT aN).1).qp) (1 + (cnt (((qx aS aT aN).1).qh) : Nat))), (mrk (((qx aS aT aN).1).ql) (1 + (cnt (((qx aS aT aN).1).qh) : Nat) + (cnt (((qx aS aT aN).1).qp) : Nat)))⟩ : qU).qp : Nat) + (cnt (⟨(mrk (((qx aS aT aN).1).qh) (1)), (mrk (((qx aS aT aN).1).qp) (1 + (cnt (((qx aS aT aN).1).qh) : Nat))), (mrk (((qx aS aT aN).1).ql) (1 + (cnt (((qx aS aT aN).1).qh) : Nat) + (cnt (((qx aS aT aN).1).qp) : Nat)))⟩ : qU).ql : Nat) : Int) < 0)) rfl (fun h215 => ?_) (fun h215 => ?_)
    ·skip
     replace h215 := of_decide_eq_true h215
     refine qm (qB ?_)
     refine sp (.bool false) ?_
     refine qy (t_n (xB (t_r ?_)))
     refine ret1 (.bool false) rfl rfl ⟨_, rfl, ?_, H.base⟩
     exfalso; first | omega
    replace h215 := of_decide_eq_false h215
    refine xx (t_n (qm (qm (qB ?_))))
    refine sps [.int .i64 (1 + (cnt (⟨(mrk (((qx aS aT aN).1).qh) (1)), (mrk (((qx aS aT aN).1).qp) (1 + (cnt (((qx aS aT aN).1).qh) : Nat))), (mrk (((qx aS aT aN).1).ql) (1 + (cnt (((qx aS aT aN).1).qh) : Nat) + (cnt (((qx aS aT aN).1).qp) : Nat)))⟩ : qU).qh : Nat) + (cnt (⟨(mrk (((qx aS aT aN).1).qh) (1)), (mrk (((qx aS aT aN).1).qp) (1 + (cnt (((qx aS aT aN).1).qh) : Nat))), (mrk (((qx aS aT aN).1).ql) (1 + (cnt (((qx aS aT aN).1).qh) : Nat) + (cnt (((qx aS aT aN).1).qp) : Nat)))⟩ : qU).qp : Nat) + (cnt (⟨(mrk (((qx aS aT aN).1).qh) (1)), (mrk (((qx aS aT aN).1).qp) (1 + (cnt (((qx aS aT aN).1).qh) : Nat))), (mrk (((qx aS aT aN).1).ql) (1 + (cnt (((qx aS aT aN).1).qh) : Nat) + (cnt (((qx aS aT aN).1).qp) : Nat)))⟩ : qU).ql : Nat)), .int .i64 (1 + (cnt (((qx aS aT aN).1).qh) : Nat) + (cnt (((qx aS aT aN).1).qp) : Nat) + (cnt (((qx aS aT aN).1).ql) : Nat)), .bool ((1 + (cnt (⟨(mrk (((qx aS aT aN).1).qh) (1)), (mrk (((qx aS aT aN).1).qp) (1 + (cnt (((qx aS aT aN).1).qh) : Nat))), (mrk (((qx aS aT aN).1).ql) (1 + (cnt (((qx aS aT aN).1).qh) : Nat) + (cnt (((qx aS aT aN).1).qp) : Nat)))⟩ : qU).qh : Nat) + (cnt (⟨(mrk (((qx aS aT aN).1).qh) (1)), (mrk (((qx aS aT aN).1).qp) (1 + (cnt (((qx aS aT aN).1).qh) : Nat))), (mrk (((qx aS aT aN).1).ql) (1 + (cnt (((qx aS aT aN).1).qh) : Nat) + (cnt (((qx aS aT aN).1).qp) : Nat)))⟩ : qU).qp : Nat) + (cnt (⟨(mrk (((qx aS aT aN).1).qh) (1)), (mrk (((qx aS aT aN).1).qp) (1 + (cnt (((qx aS aT aN).1).qh) : Nat))), (mrk (((qx aS aT aN).1).ql) (1 + (cnt (((qx aS aT aN).1).qh) : Nat) + (cnt (((qx aS aT aN).1).qp) : Nat)))⟩ : qU).ql : Nat) : Int) != (1 + (cnt (((qx aS aT aN).1).qh) : Nat) + (cnt (((qx aS aT aN).1).qp) : Nat) + (cnt (((qx aS aT aN).1).ql) : Nat)))] ?_
    refine qy (t_n ?_)
    refine qZ ((1 + (cnt (⟨(mrk (((qx aS aT aN).1).qh) (1)), (mrk (((qx aS aT aN).1).qp) (1 + (cnt (((qx aS aT aN).1).qh) : Nat))), (mrk (((qx aS aT aN).1).ql) (1 + (cnt (((qx aS aT aN).1).qh) : Nat) + (cnt (((qx aS aT aN).1).qp) : Nat)))⟩ : qU).qh : Nat) + (cnt (⟨(mrk (((qx aS aT aN).1).qh) (1)), (mrk (((qx aS aT aN).1).qp) (1 + (cnt (((qx aS aT aN).1).qh) : Nat))), (mrk (((qx aS aT aN).1).ql) (1 + (cnt (((qx aS aT aN).1).qh) : Nat) + (cnt (((qx aS aT aN).1).qp) : Nat)))⟩ : qU).qp : Nat) + (cnt (⟨(mrk (((qx aS aT aN).1).qh) (1)), (mrk (((qx aS aT aN).1).qp) (1 + (cnt (((qx aS aT aN).1).qh) : Nat))), (mrk (((qx aS aT aN).1).ql) (1 + (cnt (((qx aS aT aN).1).qh) : Nat) + (cnt (((qx aS aT aN).1).qp) : Nat)))⟩ : qU).ql : Nat) : Int) != (1 + (cnt (((qx aS aT aN).1).qh) : Nat) + (cnt (((qx aS aT aN).1).qp) : Nat) + (cnt (((qx aS aT aN).1).ql) : Nat))) rfl (fun h216 => ?_) (fun h216 => ?_)
    ·skip
     replace h216 := bne_iff_ne.1 h216
     refine qm (qB ?_)
     refine sp (.bool false) ?_
     refine qy (t_n (xB (t_r ?_)))
     refine ret1 (.bool false) rfl rfl ⟨_, rfl, ?_, H.base⟩
     exfalso; first | omega | exact h216 (by simp only [cnt_mark])
    replace h216 := xR h216
    refine xx (t_n (qm ?_))
    refine c_cut (fun ρ w217 => ∃ (junk : Env) (b218 : Nat) (ra219 : Option Addr) (rc220 : Nat) (ra221 : Option Addr) (rc222 : Nat) (ra223 : Option Addr) (rc224 : Nat) (rx225 : List Value) (rF226 : List Nat), ρ = upd (upd (upd (upd (upd (upd junk 8 (pp b12 0)) 9 (.int .i64 ((qx aS aT aN).2))) 12 (pp b123 0)) 15 (.int .i64 (1 + (cnt (((qx aS aT aN).1).qh) : Nat) + (cnt (((qx aS aT aN).1).qp) : Nat) + (cnt (((qx aS aT aN).1).ql) : Nat)))) 17 (pp b218 0)) 18 (.int .i64 ((qx aS aT aN).2)) ∧ Fresh w.heap.size [rF226, G199, G201, G204, vS, jw, vk, zI, vM, rF20] ∧ St w w217 [.box b218 [.slice ra219 ((((qx aS aT aN).1).qh).length) rc220, .slice ra221 ((((qx aS aT aN).1).qp).length) rc222, .slice ra223 ((((qx aS aT aN).1).ql).length) rc224] 38, .row (.slice ra219 ((((qx aS aT aN).1).qh).length) rc220) 4 1 ((((qx aS aT aN).1).qh).length) ((((qx aS aT aN).1).qh).map (Value.bool)), .row (.slice ra221 ((((qx aS aT aN).1).qp).length) rc222) 22 1 ((((qx aS aT aN).1).qp).length) rx225, .row (.slice ra223 ((((qx aS aT aN).1).ql).length) rc224) 2 1 ((((qx aS aT aN).1).ql).length) ((((qx aS aT aN).1).ql).map (Value.int .i64)), .box b123 [.slice ra115aAlive ((((qx aS aT aN).1).qh).length) rc115aAlive, .slice ra115aBags ((((qx aS aT aN).1).qp).length) rc115aBags, .slice ra115aAround ((((qx aS aT aN).1).ql).length) rc115aAround] 38, .row (.slice none 0 0) 0 1 0 [], .row (.slice none 0 0) 0 1 0 [], .row (.slice none 0 0) 0 1 0 [], .box b112 [.slice yg aT.qh.length jZ, .slice Qe aT.qp.length Qd, .slice jD aT.ql.length jB] 38, .box b103 [.int .i64 aS.qH, .slice jb aS.qf.length ja, .slice yh aS.qg.length yc] 36, .box b12 [.slice ra13 ((((qx aS aT aN).1).qh).length) rc14, .slice ra15 ((((qx aS aT aN).1).qp).length) rc16, .slice ra17 ((((qx aS aT aN).1).ql).length) rc18] 38, .row (.slice ra13 ((((qx aS aT aN).1).qh).length) rc14) 4 1 ((((qx aS aT aN).1).qh).length) ((((qx aS aT aN).1).qh).map (Value.bool)), .row (.slice ra15 ((((qx aS aT aN).1).qp).length) rc16) 22 1 ((((qx aS aT aN).1).qp).length) rx19, .row (.slice ra17 ((((qx aS aT aN).1).ql).length) rc18) 2 1 ((((qx aS aT aN).1).ql).length) ((((qx aS aT aN).1).ql).map (Value.int .i64)), .box b3 [.slice vF aT.qh.length vC, .slice ji aT.qp.length jg, .slice zN aT.ql.length zM] 29, .box b1 [.int .i64 aS.qH, .slice zG aS.qf.length zF, .slice vP aS.qg.length vO] 25] [jf true rF226 rx225 (((qx aS aT aN).1).qp), isF true G199 (.slice ra115aAlive ((((qx aS aT aN).1).qh).length) rc115aAlive) (mrk (((qx aS aT aN).1).qh) (1)), isF true G201 (.slice ra115aBags ((((qx aS aT aN).1).qp).length) rc115aBags) (mrk (((qx aS aT aN).1).qp) (1 + (cnt (((qx aS aT aN).1).qh) : Nat))), isF true G204 (.slice ra115aAround ((((qx aS aT aN).1).ql).length) rc115aAround) (mrk (((qx aS aT aN).1).ql) (1 + (cnt (((qx aS aT aN).1).qh) : Nat) + (cnt (((qx aS aT aN).1).qp) : Nat))), isF true vS (.slice yg aT.qh.length jZ) (mrk aT.qh (1 + (cnt aS.qf : Nat) + (cnt aS.qg : Nat))), isF true jw (.slice Qe aT.qp.length Qd) (mrk aT.qp (1 + (cnt aS.qf : Nat) + (cnt aS.qg : Nat) + (cnt aT.qh : Nat))), isF true vk (.slice jD aT.ql.length jB) (mrk aT.ql (1 + (cnt aS.qf : Nat) + (cnt aS.qg : Nat) + (cnt aT.qh : Nat) + (cnt aT.qp : Nat))), isF true zI (.slice jb aS.qf.length ja) (mrk aS.qf (1)), isF true vM (.slice yh aS.qg.length yc) (mrk aS.qg (1 + (cnt aS.qf : Nat))), jf true rF20 rx19 (((qx aS aT aN).1).qp), isF false yj (.slice zG aS.qf.length zF) aS.qf, isF false QG (.slice vP aS.qg.length vO) aS.qg, isF false Qp (.slice vF aT.qh.length vC) aT.qh, isF false Q3 (.slice ji aT.qp.length jg) aT.qp, isF false yB (.slice zN aT.ql.length zM) aT.ql]) ?_ ?_
    ·skip
     refine yA rfl H fun H => ?_
     refine rt 0 (.agg #[.int .i64 aS.qH, .slice zG aS.qf.length zF, .slice vP aS.qg.length vO]) (yG (cs := [.int .i64 aS.qH, .slice zG aS.qf.length zF, .slice vP aS.qg.length vO]) Tryz.isAgg25 Tryz.sizeOf25 rfl (fun _ h => qI (h.cells 11 rfl) 0 3)) H ?_
     refine rt 2 (.agg #[.slice vF aT.qh.length vC, .slice ji aT.qp.length jg, .slice zN aT.ql.length zM]) (yG (cs := [.slice vF aT.qh.length vC, .slice ji aT.qp.length jg, .slice zN aT.ql.length zM]) Tryz.isAgg29 Tryz.sizeOf29 rfl (fun _ h => qI (h.cells 10 rfl) 0 3)) H ?_
     refine rtp 4 (.int .i64 aN) H ?_
     refine xq [1, 9] (by kernel_rfl) (by simp) (xX rfl ?_ (xX rfl ?_ xu))
     ·skip
      have sz228 := H.base.size
      have lt229 := H.ltN (L := [G199, G201, G204, vS, jw, vk, zI, vM, yl, Qg, jE, vW, jU, rF20]) [0, 1, 2, 3, 4, 5, 6, 7, 8, 9, 10, 11, 12, 13]
      refine xf #[.agg #[.int .i64 aS.qH, .slice zG aS.qf.length zF, .slice vP aS.qg.length vO]] rfl rfl Tryz.call11 (toSystem_ok w213.drew aS zG zF yj vP vO QG (H.get 14 rfl).1 (H.get 15 rfl).1 (by first | assumption | omega)) ?_
      rintro v233 w231 r233 x232
      obtain ⟨a233Parents, c233Parents, Xk, a233Rules, c233Rules, F233Rules, rfl, f233, H⟩ := H.add_SystemD x232 r233
      replace N := N.cons f233 sz228 lt229
      replace N := N.split
      refine ⟨H.pick [0, 1, 2, 3, 4, 5, 6, 7, 8, 9, 10, 11] [2, 3, 4, 5, 6, 7, 8, 9, 10, 11, 12, 13, 14, 15, 16, 17, 18, 19, 20], ?_⟩
      refine xq [3, 9] (by kernel_rfl) (by simp) (xX rfl ?_ (xX rfl ?_ xu))
      ·skip
       have sz234 := H.base.size
       have lt235 := H.ltN (L := [Xk, F233Rules, G199, G201, G204, vS, jw, vk, zI, vM, yl, Qg, jE, vW, jU, rF20]) [0, 1, 2, 3, 4, 5, 6, 7, 8, 9, 10, 11, 12, 13, 14, 15]
       refine xf #[.agg #[.slice vF aT.qh.length vC, .slice ji aT.qp.length jg, .slice zN aT.ql.length zM]] rfl rfl Tryz.call12 (XU w231 aT vF vC Qp ji jg Q3 zN zM yB (H.get 18 rfl).1 (H.get 19 rfl).1 (H.get 20 rfl).1 (by first | assumption | omega)) ?_
       rintro v239 w237 r239 x238
       obtain ⟨a239Alive, c239Alive, F239Alive, a239Bags, c239Bags, F239Bags, a239Around, c239Around, F239Around, rfl, f239, H⟩ := H.XZ x238 r239
       replace N := N.cons f239 sz234 lt235
       replace N := N.split
       replace N := N.split
       refine ⟨H.pick [0, 1, 2, 3, 4, 5, 6, 7, 8, 9, 10, 11] [5, 6, 7, 8, 9, 10, 11, 12, 13, 14, 15, 16, 17, 18, 19, 20, 21, 22, 23], ?_⟩
       refine xq [5, 9] (by kernel_rfl) (by simp) (xX rfl ?_ (xX rfl ?_ xu))
       ·skip
        have sz243 := H.base.size
        have lt244 := H.ltN (L := [F239Alive, F239Bags, F239Around, Xk, F233Rules, G199, G201, G204, vS, jw, vk, zI, vM, yl, Qg, jE, vW, jU, rF20]) [0, 1, 2, 3, 4, 5, 6, 7, 8, 9, 10, 11, 12, 13, 14, 15, 16, 17, 18]
        refine xf #[.agg #[.int .i64 aS.qH, .slice a233Parents aS.qf.length c233Parents, .slice a233Rules aS.qg.length c233Rules], .agg #[.slice a239Alive aT.qh.length c239Alive, .slice a239Bags aT.qp.length c239Bags, .slice a239Around aT.ql.length c239Around], .int .i64 aN] rfl rfl Tryz.call22 (implOne_ok w237 aS aT aN a233Parents c233Parents Xk a233Rules c233Rules F233Rules a239Alive c239Alive F239Alive a239Bags c239Bags F239Bags a239Around c239Around F239Around (H.get 3 rfl).1 (H.get 4 rfl).1 (H.get 0 rfl).1 (H.get 1 rfl).1 (H.get 2 rfl).1) ?_
        rintro _ w241 ⟨ra240aAlive, rn240aAlive, rc240aAlive, ra240aBags, rn240aBags, rc240aBags, rx240aBags, rF240aBags, ra240aAround, rn240aAround, rc240aAround, rfl, M, K⟩ _
        replace N := N.merge sz243 lt244 M
        replace H := H.merge K M
        dsimp only [List.cons_append, List.nil_append] at H
        obtain rfl := H.QN 0 rfl
        obtain rfl := H.zy (α := List Int) 1 rfl 0 rfl (by decide)
        obtain rfl := H.QX 2 rfl
        refine ⟨H.pick [3, 4, 5, 6, 7, 8, 9, 10, 11, 12, 13, 14] [6, 7, 8, 9, 10, 11, 12, 13, 14, 15, 16, 17, 18, 19, 20, 21, 22, 23, 24], ?_⟩
        have S := H.yx [3, 4, 5, 6, 7, 8, 9, 10, 11, 12, 13, 14] [6, 7, 8, 9, 10, 11, 12, 13, 14, 15, 16, 17, 18, 19, 20, 21, 22, 23, 24]
        refine rtp 6 (.tuple #[.agg #[.slice ra240aAlive ((((qx aS aT aN).1).qh).length) rc240aAlive, .slice ra240aBags ((((qx aS aT aN).1).qp).length) rc240aBags, .slice ra240aAround ((((qx aS aT aN).1).ql).length) rc240aAround], .int .i64 ((qx aS aT aN).2)]) S ?_
        refine rtp 7 (.agg #[.slice ra240aAlive ((((qx aS aT aN).1).qh).length) rc240aAlive, .slice ra240aBags ((((qx aS aT aN).1).qp).length) rc240aBags, .slice ra240aAround ((((qx aS aT aN).1).ql).length) rc240aAround]) S ?_
        refine rtp 8 (.int .i64 ((qx aS aT aN).2)) S ?_
        refine xq [9] (by kernel_rfl) (by simp) (xX rfl ?_ xu)
        refine zn H ti38 [.slice none 0 0, .slice none 0 0, .slice none 0 0] fun b248 w249 H => ?_
        refine ⟨H.pick [4, 5, 6, 7, 8, 9, 10, 11, 12, 13, 14, 15] [6, 7, 8, 9, 10, 11, 12, 13, 14, 15, 16, 17, 18, 19, 20, 21, 22, 23, 24], ?_⟩
        refine xq [10] (by kernel_rfl) (by simp) (xX rfl ?_ xu)
        refine xU H 0 [.slice ra240aAlive ((((qx aS aT aN).1).qh).length) rc240aAlive, .slice ra240aBags ((((qx aS aT aN).1).qp).length) rc240aBags, .slice ra240aAround ((((qx aS aT aN).1).ql).length) rc240aAround] Tryz.sizeOf38 fun w250 H => ?_
        try dsimp only [List.set] at H
        refine ⟨H.pick [4, 5, 6, 7, 8, 9, 10, 11, 12, 13, 14, 15] [6, 7, 8, 9, 10, 11, 12, 13, 14, 15, 16, 17, 18, 19, 20, 21, 22, 23, 24], ?_⟩
        refine rtp 11 (.int .i64 ((qx aS aT aN).2)) (H.pick [4, 5, 6, 7, 8, 9, 10, 11, 12, 13, 14, 15] [6, 7, 8, 9, 10, 11, 12, 13, 14, 15, 16, 17, 18, 19, 20, 21, 22, 23, 24]) ?_
        refine xM (by kernel_rfl) (?_)
        exact meet ⟨_, b248, ra240aAlive, rc240aAlive, ra240aBags, rc240aBags, ra240aAround, rc240aAround, rx240aBags, rF240aBags, (by exact qj (qj (qj (qj (qj (qj (rfl) rfl) rfl) rfl) rfl) rfl) rfl), (N.pick [0, 6, 7, 8, 9, 10, 11, 12, 13, 19]), H.pick [0, 1, 2, 3, 4, 5, 6, 7, 8, 9, 10, 11, 12, 13, 14, 15] [0, 6, 7, 8, 9, 10, 11, 12, 13, 19, 20, 21, 22, 23, 24]⟩
       refine zn H ti38 [.slice none 0 0, .slice none 0 0, .slice none 0 0] fun b251 w252 H => ?_
       refine ⟨H.pick [1, 2, 3, 4, 5, 6, 7, 8, 9, 10, 11, 12] [5, 6, 7, 8, 9, 10, 11, 12, 13, 14, 15, 16, 17, 18, 19, 20, 21, 22, 23], ?_⟩
       refine xq [5] (by kernel_rfl) (by simp) (xX rfl ?_ xu)
       have sz256 := H.base.size
       have lt257 := H.ltN (L := [F239Alive, F239Bags, F239Around, Xk, F233Rules, G199, G201, G204, vS, jw, vk, zI, vM, yl, Qg, jE, vW, jU, rF20]) [0, 1, 2, 3, 4, 5, 6, 7, 8, 9, 10, 11, 12, 13, 14, 15, 16, 17, 18]
       refine xf #[.agg #[.int .i64 aS.qH, .slice a233Parents aS.qf.length c233Parents, .slice a233Rules aS.qg.length c233Rules], .agg #[.slice a239Alive aT.qh.length c239Alive, .slice a239Bags aT.qp.length c239Bags, .slice a239Around aT.ql.length c239Around], .int .i64 aN] rfl rfl Tryz.call22 (implOne_ok w252 aS aT aN a233Parents c233Parents Xk a233Rules c233Rules F233Rules a239Alive c239Alive F239Alive a239Bags c239Bags F239Bags a239Around c239Around F239Around (H.get 3 rfl).1 (H.get 4 rfl).1 (H.get 0 rfl).1 (H.get 1 rfl).1 (H.get 2 rfl).1) ?_
       rintro _ w254 ⟨ra253aAlive, rn253aAlive, rc253aAlive, ra253aBags, rn253aBags, rc253aBags, rx253aBags, rF253aBags, ra253aAround, rn253aAround, rc253aAround, rfl, M, K⟩ _
       replace N := N.merge sz256 lt257 M
       replace H := H.merge K M
       dsimp only [List.cons_append, List.nil_append] at H
       obtain rfl := H.QN 0 rfl
       obtain rfl := H.zy (α := List Int) 1 rfl 0 rfl (by decide)
       obtain rfl := H.QX 2 rfl
       refine ⟨H.pick [4, 5, 6, 7, 8, 9, 10, 11, 12, 13, 14, 15] [6, 7, 8, 9, 10, 11, 12, 13, 14, 15, 16, 17, 18, 19, 20, 21, 22, 23, 24], ?_⟩
       have S := H.yx [4, 5, 6, 7, 8, 9, 10, 11, 12, 13, 14, 15] [6, 7, 8, 9, 10, 11, 12, 13, 14, 15, 16, 17, 18, 19, 20, 21, 22, 23, 24]
       refine rtp 6 (.tuple #[.agg #[.slice ra253aAlive ((((qx aS aT aN).1).qh).length) rc253aAlive, .slice ra253aBags ((((qx aS aT aN).1).qp).length) rc253aBags, .slice ra253aAround ((((qx aS aT aN).1).ql).length) rc253aAround], .int .i64 ((qx aS aT aN).2)]) S ?_
       refine rtp 7 (.agg #[.slice ra253aAlive ((((qx aS aT aN).1).qh).length) rc253aAlive, .slice ra253aBags ((((qx aS aT aN).1).qp).length) rc253aBags, .slice ra253aAround ((((qx aS aT aN).1).ql).length) rc253aAround]) S ?_
       refine rtp 8 (.int .i64 ((qx aS aT aN).2)) S ?_
       refine xq [10] (by kernel_rfl) (by simp) (xX rfl ?_ xu)
       refine xU H 3 [.slice ra253aAlive ((((qx aS aT aN).1).qh).length) rc253aAlive, .slice ra253aBags ((((qx aS aT aN).1).qp).length) rc253aBags, .slice ra253aAround ((((qx aS aT aN).1).ql).length) rc253aAround] Tryz.sizeOf38 fun w261 H => ?_
       try dsimp only [List.set] at H
       refine ⟨H.pick [4, 5, 6, 7, 8, 9, 10, 11, 12, 13, 14, 15] [6, 7, 8, 9, 10, 11, 12, 13, 14, 15, 16, 17, 18, 19, 20, 21, 22, 23, 24], ?_⟩
       refine rtp 11 (.int .i64 ((qx aS aT aN).2)) (H.pick [4, 5, 6, 7, 8, 9, 10, 11, 12, 13, 14, 15] [6, 7, 8, 9, 10, 11, 12, 13, 14, 15, 16, 17, 18, 19, 20, 21, 22, 23, 24]) ?_
       refine xM (by kernel_rfl) (?_)
       exact meet ⟨_, b251, ra253aAlive, rc253aAlive, ra253aBags, rc253aBags, ra253aAround, rc253aAround, rx253aBags, rF253aBags, (by exact qj (qj (qj (qj (qj (qj (rfl) rfl) rfl) rfl) rfl) rfl) rfl), (N.pick [0, 6, 7, 8, 9, 10, 11, 12, 13, 19]), H.pick [3, 0, 1, 2, 4, 5, 6, 7, 8, 9, 10, 11, 12, 13, 14, 15] [0, 6, 7, 8, 9, 10, 11, 12, 13, 19, 20, 21, 22, 23, 24]⟩
      refine zn H ti38 [.slice none 0 0, .slice none 0 0, .slice none 0 0] fun b262 w263 H => ?_
      refine ⟨H.pick [1, 2, 3, 4, 5, 6, 7, 8, 9, 10, 11, 12] [2, 3, 4, 5, 6, 7, 8, 9, 10, 11, 12, 13, 14, 15, 16, 17, 18, 19, 20], ?_⟩
      refine xq [3] (by kernel_rfl) (by simp) (xX rfl ?_ xu)
      have sz264 := H.base.size
      have lt265 := H.ltN (L := [Xk, F233Rules, G199, G201, G204, vS, jw, vk, zI, vM, yl, Qg, jE, vW, jU, rF20]) [0, 1, 2, 3, 4, 5, 6, 7, 8, 9, 10, 11, 12, 13, 14, 15]
      refine xf #[.agg #[.slice vF aT.qh.length vC, .slice ji aT.qp.length jg, .slice zN aT.ql.length zM]] rfl rfl Tryz.call12 (XU w263 aT vF vC Qp ji jg Q3 zN zM yB (H.get 18 rfl).1 (H.get 19 rfl).1 (H.get 20 rfl).1 (by first | assumption | omega)) ?_
      rintro v269 w267 r269 x268
      obtain ⟨a269Alive, c269Alive, F269Alive, a269Bags, c269Bags, F269Bags, a269Around, c269Around, F269Around, rfl, f269, H⟩ := H.XZ x268 r269
      replace N := N.cons f269 sz264 lt265
      replace N := N.split
      replace N := N.split
      refine ⟨H.pick [1, 2, 3, 4, 5, 6, 7, 8, 9, 10, 11, 12] [5, 6, 7, 8, 9, 10, 11, 12, 13, 14, 15, 16, 17, 18, 19, 20, 21, 22, 23], ?_⟩
      refine xq [5] (by kernel_rfl) (by simp) (xX rfl ?_ xu)
      have sz273 := H.base.size
      have lt274 := H.ltN (L := [F269Alive, F269Bags, F269Around, Xk, F233Rules, G199, G201, G204, vS, jw, vk, zI, vM, yl, Qg, jE, vW, jU, rF20]) [0, 1, 2, 3, 4, 5, 6, 7, 8, 9, 10, 11, 12, 13, 14, 15, 16, 17, 18]
      refine xf #[.agg #[.int .i64 aS.qH, .slice a233Parents aS.qf.length c233Parents, .slice a233Rules aS.qg.length c233Rules], .agg #[.slice a269Alive aT.qh.length c269Alive, .slice a269Bags aT.qp.length c269Bags, .slice a269Around aT.ql.length c269Around], .int .i64 aN] rfl rfl Tryz.call22 (implOne_ok w267 aS aT aN a233Parents c233Parents Xk a233Rules c233Rules F233Rules a269Alive c269Alive F269Alive a269Bags c269Bags F269Bags a269Around c269Around F269Around (H.get 3 rfl).1 (H.get 4 rfl).1 (H.get 0 rfl).1 (H.get 1 rfl).1 (H.get 2 rfl).1) ?_
      rintro _ w271 ⟨ra270aAlive, rn270aAlive, rc270aAlive, ra270aBags, rn270aBags, rc270aBags, rx270aBags, rF270aBags, ra270aAround, rn270aAround, rc270aAround, rfl, M, K⟩ _
      replace N := N.merge sz273 lt274 M
      replace H := H.merge K M
      dsimp only [List.cons_append, List.nil_append] at H
      obtain rfl := H.QN 0 rfl
      obtain rfl := H.zy (α := List Int) 1 rfl 0 rfl (by decide)
      obtain rfl := H.QX 2 rfl
      refine ⟨H.pick [4, 5, 6, 7, 8, 9, 10, 11, 12, 13, 14, 15] [6, 7, 8, 9, 10, 11, 12, 13, 14, 15, 16, 17, 18, 19, 20, 21, 22, 23, 24], ?_⟩
      have S := H.yx [4, 5, 6, 7, 8, 9, 10, 11, 12, 13, 14, 15] [6, 7, 8, 9, 10, 11, 12, 13, 14, 15, 16, 17, 18, 19, 20, 21, 22, 23, 24]
      refine rtp 6 (.tuple #[.agg #[.slice ra270aAlive ((((qx aS aT aN).1).qh).length) rc270aAlive, .slice ra270aBags ((((qx aS aT aN).1).qp).length) rc270aBags, .slice ra270aAround ((((qx aS aT aN).1).ql).length) rc270aAround], .int .i64 ((qx aS aT aN).2)]) S ?_
      refine rtp 7 (.agg #[.slice ra270aAlive ((((qx aS aT aN).1).qh).length) rc270aAlive, .slice ra270aBags ((((qx aS aT aN).1).qp).length) rc270aBags, .slice ra270aAround ((((qx aS aT aN).1).ql).length) rc270aAround]) S ?_
      refine rtp 8 (.int .i64 ((qx aS aT aN).2)) S ?_
      refine xq [10] (by kernel_rfl) (by simp) (xX rfl ?_ xu)
      refine xU H 3 [.slice ra270aAlive ((((qx aS aT aN).1).qh).length) rc270aAlive, .slice ra270aBags ((((qx aS aT aN).1).qp).length) rc270aBags, .slice ra270aAround ((((qx aS aT aN).1).ql).length) rc270aAround] Tryz.sizeOf38 fun w278 H => ?_
      try dsimp only [List.set] at H
      refine ⟨H.pick [4, 5, 6, 7, 8, 9, 10, 11, 12, 13, 14, 15] [6, 7, 8, 9, 10, 11, 12, 13, 14, 15, 16, 17, 18, 19, 20, 21, 22, 23, 24], ?_⟩
      refine rtp 11 (.int .i64 ((qx aS aT aN).2)) (H.pick [4, 5, 6, 7, 8, 9, 10, 11, 12, 13, 14, 15] [6, 7, 8, 9, 10, 11, 12, 13, 14, 15, 16, 17, 18, 19, 20, 21, 22, 23, 24]) ?_
      refine xM (by kernel_rfl) (?_)
      exact meet ⟨_, b262, ra270aAlive, rc270aAlive, ra270aBags, rc270aBags, ra270aAround, rc270aAround, rx270aBags, rF270aBags, (by exact qj (qj (qj (qj (qj (qj (rfl) rfl) rfl) rfl) rfl) rfl) rfl), (N.pick [0, 6, 7, 8, 9, 10, 11, 12, 13, 19]), H.pick [3, 0, 1, 2, 4, 5, 6, 7, 8, 9, 10, 11, 12, 13, 14, 15] [0, 6, 7, 8, 9, 10, 11, 12, 13, 19, 20, 21, 22, 23, 24]⟩
     refine zn H ti38 [.slice none 0 0, .slice none 0 0, .slice none 0 0] fun b279 w280 H => ?_
     refine ⟨H.pick [1, 2, 3, 4, 5, 6, 7, 8, 9, 10, 11, 12] [0, 1, 2, 3, 4, 5, 6, 7, 8, 9, 10, 11, 12, 13, 14, 15, 16, 17, 18], ?_⟩
     refine xq [1] (by kernel_rfl) (by simp) (xX rfl ?_ xu)
     have sz281 := H.base.size
     have lt282 := H.ltN (L := [G199, G201, G204, vS, jw, vk, zI, vM, yl, Qg, jE, vW, jU, rF20]) [0, 1, 2, 3, 4, 5, 6, 7, 8, 9, 10, 11, 12, 13]
     refine xf #[.agg #[.int .i64 aS.qH, .slice zG aS.qf.length zF, .slice vP aS.qg.length vO]] rfl rfl Tryz.call11 (toSystem_ok w280 aS zG zF yj vP vO QG (H.get 14 rfl).1 (H.get 15 rfl).1 (by first | assumption | omega)) ?_
     rintro v286 w284 r286 x285
     obtain ⟨a286Parents, c286Parents, F286Parents, a286Rules, c286Rules, F286Rules, rfl, f286, H⟩ := H.add_SystemD x285 r286
     replace N := N.cons f286 sz281 lt282
     replace N := N.split
     refine ⟨H.pick [1, 2, 3, 4, 5, 6, 7, 8, 9, 10, 11, 12] [2, 3, 4, 5, 6, 7, 8, 9, 10, 11, 12, 13, 14, 15, 16, 17, 18, 19, 20], ?_⟩
     refine xq [3] (by kernel_rfl) (by simp) (xX rfl ?_ xu)
     have sz287 := H.base.size
     have lt288 := H.ltN (L := [F286Parents, F286Rules, G199, G201, G204, vS, jw, vk, zI, vM, yl, Qg, jE, vW, jU, rF20]) [0, 1, 2, 3, 4, 5, 6, 7, 8, 9, 10, 11, 12, 13, 14, 15]
     refine xf #[.agg #[.slice vF aT.qh.length vC, .slice ji aT.qp.length jg, .slice zN aT.ql.length zM]] rfl rfl Tryz.call12 (XU w284 aT vF vC Qp ji jg Q3 zN zM yB (H.get 18 rfl).1 (H.get 19 rfl).1 (H.get 20 rfl).1 (by first | assumption | omega)) ?_
     rintro v292 w290 r292 x291
     obtain ⟨a292Alive, c292Alive, F292Alive, a292Bags, c292Bags, F292Bags, a292Around, c292Around, F292Around, rfl, f292, H⟩ := H.XZ x291 r292
     replace N := N.cons f292 sz287 lt288
     replace N := N.split
     replace N := N.split
     refine ⟨H.pick [1, 2, 3, 4, 5, 6, 7, 8, 9, 10, 11, 12] [5, 6, 7, 8, 9, 10, 11, 12, 13, 14, 15, 16, 17, 18, 19, 20, 21, 22, 23], ?_⟩
     refine xq [5] (by kernel_rfl) (by simp) (xX rfl ?_ xu)
     have sz296 := H.base.size
     have lt297 := H.ltN (L := [F292Alive, F292Bags, F292Around, F286Parents, F286Rules, G199, G201, G204, vS, jw, vk, zI, vM, yl, Qg, jE, vW, jU, rF20]) [0, 1, 2, 3, 4, 5, 6, 7, 8, 9, 10, 11, 12, 13, 14, 15, 16, 17, 18]
     refine xf #[.agg #[.int .i64 aS.qH, .slice a286Parents aS.qf.length c286Parents, .slice a286Rules aS.qg.length c286Rules], .agg #[.slice a292Alive aT.qh.length c292Alive, .slice a292Bags aT.qp.length c292Bags, .slice a292Around aT.ql.length c292Around], .int .i64 aN] rfl rfl Tryz.call22 (implOne_ok w290 aS aT aN a286Parents c286Parents F286Parents a286Rules c286Rules F286Rules a292Alive c292Alive F292Alive a292Bags c292Bags F292Bags a292Around c292Around F292Around (H.get 3 rfl).1 (H.get 4 rfl).1 (H.get 0 rfl).1 (H.get 1 rfl).1 (H.get 2 rfl).1) ?_
     rintro _ w294 ⟨ra293aAlive, rn293aAlive, rc293aAlive, ra293aBags, rn293aBags, rc293aBags, rx293aBags, rF293aBags, ra293aAround, rn293aAround, rc293aAround, rfl, M, K⟩ _
     replace N := N.merge sz296 lt297 M
     replace H := H.merge K M
     dsimp only [List.cons_append, List.nil_append] at H
     obtain rfl := H.QN 0 rfl
     obtain rfl := H.zy (α := List Int) 1 rfl 0 rfl (by decide)
     obtain rfl := H.QX 2 rfl
     refine ⟨H.pick [4, 5, 6, 7, 8, 9, 10, 11, 12, 13, 14, 15] [6, 7, 8, 9, 10, 11, 12, 13, 14, 15, 16, 17, 18, 19, 20, 21, 22, 23, 24], ?_⟩
     have S := H.yx [4, 5, 6, 7, 8, 9, 10, 11, 12, 13, 14, 15] [6, 7, 8, 9, 10, 11, 12, 13, 14, 15, 16, 17, 18, 19, 20, 21, 22, 23, 24]
     refine rtp 6 (.tuple #[.agg #[.slice ra293aAlive ((((qx aS aT aN).1).qh).length) rc293aAlive, .slice ra293aBags ((((qx aS aT aN).1).qp).length) rc293aBags, .slice ra293aAround ((((qx aS aT aN).1).ql).length) rc293aAround], .int .i64 ((qx aS aT aN).2)]) S ?_
     refine rtp 7 (.agg #[.slice ra293aAlive ((((qx aS aT aN).1).qh).length) rc293aAlive, .slice ra293aBags ((((qx aS aT aN).1).qp).length) rc293aBags, .slice ra293aAround ((((qx aS aT aN).1).ql).length) rc293aAround]) S ?_
     refine rtp 8 (.int .i64 ((qx aS aT aN).2)) S ?_
     refine xq [10] (by kernel_rfl) (by simp) (xX rfl ?_ xu)
     refine xU H 3 [.slice ra293aAlive ((((qx aS aT aN).1).qh).length) rc293aAlive, .slice ra293aBags ((((qx aS aT aN).1).qp).length) rc293aBags, .slice ra293aAround ((((qx aS aT aN).1).ql).length) rc293aAround] Tryz.sizeOf38 fun w301 H => ?_
     try dsimp only [List.set] at H
     refine ⟨H.pick [4, 5, 6, 7, 8, 9, 10, 11, 12, 13, 14, 15] [6, 7, 8, 9, 10, 11, 12, 13, 14, 15, 16, 17, 18, 19, 20, 21, 22, 23, 24], ?_⟩
     refine rtp 11 (.int .i64 ((qx aS aT aN).2)) (H.pick [4, 5, 6, 7, 8, 9, 10, 11, 12, 13, 14, 15] [6, 7, 8, 9, 10, 11, 12, 13, 14, 15, 16, 17, 18, 19, 20, 21, 22, 23, 24]) ?_
     refine xM (by kernel_rfl) (?_)
     exact meet ⟨_, b279, ra293aAlive, rc293aAlive, ra293aBags, rc293aBags, ra293aAround, rc293aAround, rx293aBags, rF293aBags, (by exact qj (qj (qj (qj (qj (qj (rfl) rfl) rfl) rfl) rfl) rfl) rfl), (N.pick [0, 6, 7, 8, 9, 10, 11, 12, 13, 19]), H.pick [3, 0, 1, 2, 4, 5, 6, 7, 8, 9, 10, 11, 12, 13, 14, 15] [0, 6, 7, 8, 9, 10, 11, 12, 13, 19, 20, 21, 22, 23, 24]⟩
    clear H N
    rintro ρ w302 ⟨junk, b218, ra219, rc220, ra221, rc222, ra223, rc224, rx225, rF226, rfl, N, H⟩
    refine t_n (qm (qm (qB ?_)))
    refine sw (zi [.slice ra219 ((((qx aS aT aN).1).qh).length) rc220, .slice ra221 ((((qx aS aT aN).1).qp).length) rc222, .slice ra223 ((((qx aS aT aN).1).ql).length) rc224] Tryz.isAgg38 Tryz.sizeOf38 rfl (qI (H.cells 0 rfl) 0 3) ?_)
    refine sw (zi [.slice ra13 ((((qx aS aT aN).1).qh).length) rc14, .slice ra15 ((((qx aS aT aN).1).qp).length) rc16, .slice ra17 ((((qx aS aT aN).1).ql).length) rc18] Tryz.isAgg38 Tryz.sizeOf38 rfl (qI (H.cells 10 rfl) 0 3) ?_)
    obtain ⟨G303, hn304, h305⟩ := H.rowIsB 1 rfl
    obtain ⟨G306, hn307, h308⟩ := H.rowIsR (α := List Int) 2 rfl 0 rfl (by decide)
    obtain ⟨G309, hn310, h311⟩ := H.rowIsI 3 rfl
    obtain ⟨G312, hn313, h314⟩ := H.rowIsB 11 rfl
    obtain ⟨G315, hn316, h317⟩ := H.rowIsR (α := List Int) 12 rfl 9 rfl (by decide)
    obtain ⟨G318, hn319, h320⟩ := H.rowIsI 13 rfl
    refine sw (xf #[.agg #[.slice ra219 ((((qx aS aT aN).1).qh).length) rc220, .slice ra221 ((((qx aS aT aN).1).qp).length) rc222, .slice ra223 ((((qx aS aT aN).1).ql).length) rc224], .agg #[.slice ra13 ((((qx aS aT aN).1).qh).length) rc14, .slice ra15 ((((qx aS aT aN).1).qp).length) rc16, .slice ra17 ((((qx aS aT aN).1).ql).length) rc18]] rfl rfl Tryz.call16 (eqState_ok w302 ((qx aS aT aN).1) ((qx aS aT aN).1) ra219 rc220 G303 ra221 rc222 G306 ra223 rc224 G309 ra13 rc14 G312 ra15 rc16 G315 ra17 rc18 G318 h305 h308 h311 h314 h317 h320) ?_)
    rintro _ w321 rfl x322
    replace H := H.ext x322
    refine sps [.bool (!(decide (((qx aS aT aN).1) = ((qx aS aT aN).1)))), .bool (!(decide (((qx aS aT aN).1) = ((qx aS aT aN).1))))] ?_
    cases h323 : (!(decide (((qx aS aT aN).1) = ((qx aS aT aN).1))))
    ·skip
     replace h323 := qX h323
     refine qQ 111 rfl rfl ?_
     refine sp (.int .i64 ((qx aS aT aN).2)) ?_
     refine qQ 111 rfl rfl ?_
     refine sp (.int .i64 ((qx aS aT aN).2)) ?_
     refine qQ 111 rfl rfl ?_
     refine sps [.bool (((qx aS aT aN).2 : Int) != ((qx aS aT aN).2)), .bool (((qx aS aT aN).2 : Int) != ((qx aS aT aN).2))] ?_
     refine qy (t_n ?_)
     refine qZ (((qx aS aT aN).2 : Int) != ((qx aS aT aN).2)) rfl (fun h => absurd rfl (bne_iff_ne.1 h)) (fun h324 => ?_)
     replace h324 := xR h324
     refine xx (t_n (qm (qB ?_)))
     refine sp (.int .i64 1) ?_
     refine qy (t_n (qm (qB ?_)))
     refine sw (zi [.slice ra115aAlive ((((qx aS aT aN).1).qh).length) rc115aAlive, .slice ra115aBags ((((qx aS aT aN).1).qp).length) rc115aBags, .slice ra115aAround ((((qx aS aT aN).1).ql).length) rc115aAround] Tryz.isAgg38 Tryz.sizeOf38 rfl (qI (H.cells 4 rfl) 0 3) ?_)
     refine sp (.int .i64 1) ?_
     have hn325 := H.isLen 1 rfl
     have hn326 := H.isLen 2 rfl
     have hn327 := H.isLen 3 rfl
     refine sw (xf #[.agg #[.slice ra115aAlive ((((qx aS aT aN).1).qh).length) rc115aAlive, .slice ra115aBags ((((qx aS aT aN).1).qp).length) rc115aBags, .slice ra115aAround ((((qx aS aT aN).1).ql).length) rc115aAround], .int .i64 1] rfl rfl Tryz.call23 (args_eq (by rw [← hn325, ← hn326, ← hn327]) (heldState_ok w321 (⟨(mrk (((qx aS aT aN).1).qh) (1)), (mrk (((qx aS aT aN).1).qp) (1 + (cnt (((qx aS aT aN).1).qh) : Nat))), (mrk (((qx aS aT aN).1).ql) (1 + (cnt (((qx aS aT aN).1).qh) : Nat) + (cnt (((qx aS aT aN).1).qp) : Nat)))⟩ : qU) 1 ra115aAlive rc115aAlive G199 ra115aBags rc115aBags G201 ra115aAround rc115aAround G204 (hn325 ▸ (H.get 1 rfl).1) (hn326 ▸ (H.get 2 rfl).1) (hn327 ▸ (H.get 3 rfl).1) (by first | exact mkd_mark _ _ | omega | (simp only [cnt_mark]; first | exact mkd_mark _ _ | omega)) (by first | exact mkd_mark _ _ | omega | (simp only [cnt_mark]; first | exact mkd_mark _ _ | omega)) (by first | exact mkd_mark _ _ | omega | (simp only [cnt_mark]; first | exact mkd_mark _ _ | omega)) (by first | exact mkd_mark _ _ | omega | (simp only [cnt_mark]; first | exact mkd_mark _ _ | omega)) (by first | exact mkd_mark _ _ | omega | (simp only [cnt_mark]; first | exact mkd_mark _ _ | omega)))) ?_)
     rintro _ w328 rfl x329
     replace H := H.ext x329
     refine sp (.int .i64 (1 + (cnt (⟨(mrk (((qx aS aT aN).1).qh) (1)), (mrk (((qx aS aT aN).1).qp) (1 + (cnt (((qx aS aT aN).1).qh) : Nat))), (mrk (((qx aS aT aN).1).ql) (1 + (cnt (((qx aS aT aN).1).qh) : Nat) + (cnt (((qx aS aT aN).1).qp) : Nat)))⟩ : qU).qh : Nat) + (cnt (⟨(mrk (((qx aS aT aN).1).qh) (1)), (mrk (((qx aS aT aN).1).qp) (1 + (cnt (((qx aS aT aN).1).qh) : Nat))), (mrk (((qx aS aT aN).1).ql) (1 + (cnt (((qx aS aT aN).1).qh) : Nat) + (cnt (((qx aS aT aN).1).qp) : Nat)))⟩ : qU).qp : Nat) + (cnt (⟨(mrk (((qx aS aT aN).1).qh) (1)), (mrk (((qx aS aT aN).1).qp) (1 + (cnt (((qx aS aT aN).1).qh) : Nat))), (mrk (((qx aS aT aN).1).ql) (1 + (cnt (((qx aS aT aN).1).qh) : Nat) + (cnt (((qx aS aT aN).1).qp) : Nat)))⟩ : qU).ql : Nat))) ?_
     refine qy (t_n (qm (qm (qB ?_))))
     refine sps [.int .i64 (1 + (cnt (⟨(mrk (((qx aS aT aN).1).qh) (1)), (mrk (((qx aS aT aN).1).qp) (1 + (cnt (((qx aS aT aN).1).qh) : Nat))), (mrk (((qx aS aT aN).1).ql) (1 + (cnt (((qx aS aT aN).1).qh) : Nat) + (cnt (((qx aS aT aN).1).qp) : Nat)))⟩ : qU).qh : Nat) + (cnt (⟨(mrk (((qx aS aT aN).1).qh) (1)), (mrk (((qx aS aT aN).1).qp) (1 + (cnt (((qx aS aT aN).1).qh) : Nat))), (mrk (((qx aS aT aN).1).ql) (1 + (cnt (((qx aS aT aN).1).qh) : Nat) + (cnt (((qx aS aT aN).1).qp) : Nat)))⟩ : qU).qp : Nat) + (cnt (⟨(mrk (((qx aS aT aN).1).qh) (1)), (mrk (((qx aS aT aN).1).qp) (1 + (cnt (((qx aS aT aN).1).qh) : Nat))), (mrk (((qx aS aT aN).1).ql) (1 + (cnt (((qx aS aT aN).1).qh) : Nat) + (cnt (((qx aS aT aN).1).qp) : Nat)))⟩ : qU).ql : Nat)), .bool (decide ((1 + (cnt (⟨(mrk (((qx aS aT aN).1).qh) (1)), (mrk (((qx aS aT aN).1).qp) (1 + (cnt (((qx aS aT aN).1).qh) : Nat))), (mrk (((qx aS aT aN).1).ql) (1 + (cnt (((qx aS aT aN).1).qh) : Nat) + (cnt (((qx aS aT aN).1).qp) : Nat)))⟩ : qU).qh : Nat) + (cnt (⟨(mrk (((qx aS aT aN).1).qh) (1)), (mrk (((qx aS aT aN).1).qp) (1 + (cnt (((qx aS aT aN).1).qh) : Nat))), (mrk (((qx aS aT aN).1).ql) (1 + (cnt (((qx aS aT aN).1).qh) : Nat) + (cnt (((qx aS aT aN).1).qp) : Nat)))⟩ : qU).qp : Nat) + (cnt (⟨(mrk (((qx aS aT aN).1).qh) (1)), (mrk (((qx aS aT aN).1).qp) (1 + (cnt (((qx aS aT aN).1).qh) : Nat))), (mrk (((qx aS aT aN).1).ql) (1 + (cnt (((qx aS aT aN).1).qh) : Nat) + (cnt (((qx aS aT aN).1).qp) : Nat)))⟩ : qU).ql : Nat) : Int) < 0))] ?_
     refine qy (t_n ?_)
     refine qZ (decide ((1 + (cnt (⟨(mrk (((qx aS aT aN).1).qh) (1)), (mrk (((qx aS aT aN).1).qp) (1 + (cnt (((qx aS aT aN).1).qh) : Nat))), (mrk (((qx aS aT aN).1).ql) (1 + (cnt (((qx aS aT aN).1).qh) : Nat) + (cnt (((qx aS aT aN).1).qp) : Nat)))⟩ : qU).qh : Nat) + (cnt (⟨(mrk (((qx aS aT aN).1).qh) (1)), (mrk (((qx aS aT aN).1).qp) (1 + (cnt (((qx aS aT aN).1).qh) : Nat))), (mrk (((qx aS aT aN).1).ql) (1 + (cnt (((qx aS aT aN).1).qh) : Nat) + (cnt (((qx aS aT aN).1).qp) : Nat)))⟩ : qU).qp : Nat) + (cnt (⟨(mrk (((qx aS aT aN).1).qh) (1)), (mrk (((qx aS aT aN).1).qp) (1 + (cnt (((qx aS aT aN).1).qh) : Nat))), (mrk (((qx aS aT aN).1).ql) (1 + (cnt (((qx aS aT aN).1).qh) : Nat) + (cnt (((qx aS aT aN).1).qp) : Nat)))⟩ : qU).ql : Nat) : Int) < 0)) rfl (fun h330 => ?_) (fun h330 => ?_)
     ·skip
      replace h330 := of_decide_eq_true h330
      refine qm (qB ?_)
      refine sp (.bool false) ?_
      refine qy (t_n (xB (t_r ?_)))
      refine ret1 (.bool false) rfl rfl ⟨_, rfl, ?_, H.base⟩
      exfalso; first | omega
     replace h330 := of_decide_eq_false h330
     refine xx (t_n (qm (qm (qB ?_))))
     refine sps [.int .i64 (1 + (cnt (⟨(mrk (((qx aS aT aN).1).qh) (1)), (mrk (((qx aS aT aN).1).qp) (1 + (cnt (((qx aS aT aN).1).qh) : Nat))), (mrk (((qx aS aT aN).1).ql) (1 + (cnt (((qx aS aT aN).1).qh) : Nat) + (cnt (((qx aS aT aN).1).qp) : Nat)))⟩ : qU).qh : Nat) + (cnt (⟨(mrk (((qx aS aT aN).1).qh) (1)), (mrk (((qx aS aT aN).1).qp) (1 + (cnt (((qx aS aT aN).1).qh) : Nat))), (mrk (((qx aS aT aN).1).ql) (1 + (cnt (((qx aS aT aN).1).qh) : Nat) + (cnt (((qx aS aT aN).1).qp) : Nat)))⟩ : qU).qp : Nat) + (cnt (⟨(mrk (((qx aS aT aN).1).qh) (1)), (mrk (((qx aS aT aN).1).qp) (1 + (cnt (((qx aS aT aN).1).qh) : Nat))), (mrk (((qx aS aT aN).1).ql) (1 + (cnt (((qx aS aT aN).1).qh) : Nat) + (cnt (((qx aS aT aN).1).qp) : Nat)))⟩ : qU).ql : Nat)), .int .i64 (1 + (cnt (((qx aS aT aN).1).qh) : Nat) + (cnt (((qx aS aT aN).1).qp) : Nat) + (cnt (((qx aS aT aN).1).ql) : Nat)), .bool ((1 + (cnt (⟨(mrk (((qx aS aT aN).1).qh) (1)), (mrk (((qx aS aT aN).1).qp) (1 + (cnt (((qx aS aT aN).1).qh) : Nat))), (mrk (((qx aS aT aN).1).ql) (1 + (cnt (((qx aS aT aN).1).qh) : Nat) + (cnt (((qx aS aT aN).1).qp) : Nat)))⟩ : qU).qh : Nat) + (cnt (⟨(mrk (((qx aS aT aN).1).qh) (1)), (mrk (((qx aS aT aN).1).qp) (1 + (cnt (((qx aS aT aN).1).qh) : Nat))), (mrk (((qx aS aT aN).1).ql) (1 + (cnt (((qx aS aT aN).1).qh) : Nat) + (cnt (((qx aS aT aN).1).qp) : Nat)))⟩ : qU).qp : Nat) + (cnt (⟨(mrk (((qx aS aT aN).1).qh) (1)), (mrk (((qx aS aT aN).1).qp) (1 + (cnt (((qx aS aT aN).1).qh) : Nat))), (mrk (((qx aS aT aN).1).ql) (1 + (cnt (((qx aS aT aN).1).qh) : Nat) + (cnt (((qx aS aT aN).1).qp) : Nat)))⟩ : qU).ql : Nat) : Int) != (1 + (cnt (((qx aS aT aN).1).qh) : Nat) + (cnt (((qx aS aT aN).1).qp) : Nat) + (cnt (((qx aS aT aN).1).ql) : Nat)))] ?_
     refine qy (t_n ?_)
     refine qZ ((1 + (cnt (⟨(mrk (((qx aS aT aN).1).qh) (1)), (mrk (((qx aS aT aN).1).qp) (1 + (cnt (((qx aS aT aN).1).qh) : Nat))), (mrk (((qx aS aT aN).1).ql) (1 + (cnt (((qx aS aT aN).1).qh) : Nat) + (cnt (((qx aS aT aN).1).qp) : Nat)))⟩ : qU).qh : Nat) + (cnt (⟨(mrk (((qx aS aT aN).1).qh) (1)), (mrk (((qx aS aT aN).1).qp) (1 + (cnt (((qx aS aT aN).1).qh) : Nat))), (mrk (((qx aS aT aN).1).ql) (1 + (cnt (((qx aS aT aN).1).qh) : Nat) + (cnt (((qx aS aT aN).1).qp) : Nat)))⟩ : qU).qp : Nat) + (cnt (⟨(mrk (((qx aS aT aN).1).qh) (1)), (mrk (((qx aS aT aN).1).qp) (1 + (cnt (((qx aS aT aN).1).qh) : Nat))), (mrk (((qx aS aT aN).1).ql) (1 + (cnt (((qx aS aT aN).1).qh) : Nat) + (cnt (((qx aS aT aN).1).qp) : Nat)))⟩ : qU).ql : Nat) : Int) != (1 + (cnt (((qx aS aT aN).1).qh) : Nat) + (cnt (((qx aS aT aN).1).qp) : Nat) + (cnt (((qx aS aT aN).1).ql) : Nat))) rfl (fun h => absurd h216 (bne_iff_ne.1 h)) (fun h331 => ?_)
     replace h331 := xR h331
     refine xx (t_n (qm (qB ?_)))
     refine sp (.bool true) ?_
     refine qy (t_n (xB ?_))
     refine ret1 (.bool true) rfl rfl ⟨_, rfl, ?_, H.base⟩
     rfl
    · exact absurd (xg h323) (by simp)
   · exact absurd (xg h197) (by simp)
  replace h176 := of_decide_eq_true h176
  refine xW [77, 78, 79, 80] ?_
  refine sps [.bool true, .bool true] ?_
  refine xW [83, 84, 85] ?_
  refine sp (.bool true) ?_
  refine qy (t_n ?_)
  refine qZ true rfl (fun _ => ?_) (fun h => absurd h (by decide))
  refine qm (qB ?_)
  refine sp (.bool false) ?_
  refine qy (t_n (xB (t_r ?_)))
  refine ret1 (.bool false) rfl rfl ⟨_, rfl, ?_, H.base⟩
  exfalso; first | omega
 · exact absurd (xg h146) (by simp)

end Go.Proofs.YtkmlihdacnfhdaaGreat
