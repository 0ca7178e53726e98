/- Walks, printed by program (wip/tools/gv.py): what each function comes to, for all arguments. -/
import Derived.Test.YtkmlihdacnfhdaaG16
import Derived.Test.YtkmlihdacnfhdaaP8
namespace Go.Proofs.Ytkmlihdacnfhdaa
open Go.Proofs.Ytkmlihdacnfhdaa.Tot (tot)
open Go.Proofs.Ytkmlihdacnfhdaa.Mark (cnt mrk mkd mkd_mark cnt_mark)
open Go.RowKit
set_option linter.unusedVariables false
set_option linter.unusedSimpArgs false
set_option maxRecDepth 100000
set_option maxHeartbeats 4000000



theorem law_RunFirst (w : World) (aS : qV) (aT : qQ) (aN : Int) (zW : Option Addr) (zV : Nat) (yK : List Nat) (ji : Option Addr) (jh : Nat) (Q7 : List Nat) (vV : Option Addr) (vU : Nat) (QL : List Nat) (jG : Option Addr) (jE : Nat) (Xu : List Nat) (vk : Option Addr) (vg : Nat) (yU : List Nat) (haSParents : qW.rep w yK [.slice zW aS.qf.length zV] aS.qf) (haSRules : qW.rep w Q7 [.slice ji aS.qg.length jh] aS.qg) (haTAlive : qW.rep w QL [.slice vV aT.qh.length vU] aT.qh) (haTBags : qW.rep w Xu [.slice jG aT.qp.length jE] aT.qp) (haTAround : qW.rep w yU [.slice vk aT.ql.length vg] aT.ql) : Calls Try.prog 5 #[.agg #[.int .i64 aS.qI, .slice zW aS.qf.length zV, .slice ji aS.qg.length jh], .agg #[.slice vV aT.qh.length vU, .slice jG aT.qp.length jE, .slice vk aT.ql.length vg], .int .i64 aN] w (Ret (fun v w' => v = .bool true) w) := by
 refine enter (n := 145) Try.func5 rfl Try.ntmps5 (Nat.le_of_ble_eq_true rfl) ?_
 have H := (((((St.start w).arg haTAround).arg haTBags).arg haTAlive).arg haSRules).arg haSParents
 have nhaSParents := qN haSParents
 have nhaSRules := qN haSRules
 have nhaTAlive := qN haTAlive
 have nhaTBags := qN haTBags
 have nhaTAround := qN haTAround
 clear haSParents haSRules haTAlive haTBags haTAround
 have N := Fresh.nil w.heap.size
 have A := H.ltN (L := [yK, Q7, QL, Xu, yU]) [0, 1, 2, 3, 4]
 have t1 := tot_SystemD aS
 have t2 := tot_StateD aT
 have c0 := XR aS.qf
 have c1 := XR aS.qg
 have c2 := XR aT.qh
 have c3 := XR aT.qp
 have c4 := XR aT.ql
 obtain ⟨f1, f2, f3⟩ := few_run aS aT aN
 refine qo (qB ?_)
 refine sw (y9 H [.int .i64 aS.qI, .slice zW aS.qf.length zV, .slice ji aS.qg.length jh] fun b1 w2 H => ?_)
 refine sw (y9 H [.slice vV aT.qh.length vU, .slice jG aT.qp.length jE, .slice vk aT.ql.length vg] fun b3 w4 H => ?_)
 refine sp (.bool false) ?_
 refine qA (t_n (qo (qB ?_)))
 refine sp (.int .i64 1048576) ?_
 refine qA (t_n (qo (qB ?_)))
 refine sw (zu [.int .i64 aS.qI, .slice zW aS.qf.length zV, .slice ji aS.qg.length jh] Try.isAgg25 Try.sizeOf25 rfl (qH (H.cells 1 rfl) 0 3) ?_)
 refine sp (.int .i64 1048576) ?_
 refine sw (xf #[.agg #[.int .i64 aS.qI, .slice zW aS.qf.length zV, .slice ji aS.qg.length jh], .int .i64 1048576] rfl rfl Try.call6 (szSystem_ok w4 aS 1048576 zW zV yK ji jh Q7 (H.get 0 rfl).1 (H.get 1 rfl).1 (by omega)) ?_)
 rintro _ w5 rfl x6
 replace H := H.ext x6
 have := zG (tot aS) 1048576
 refine sp (.int .i64 (szR (tot aS) 1048576)) ?_
 refine qA (t_n (qo (qo (qB ?_))))
 refine sps [.int .i64 (szR (tot aS) 1048576), .bool (decide ((szR (tot aS) 1048576 : Int) < 0))] ?_
 refine qA (t_n ?_)
 refine qX (decide ((szR (tot aS) 1048576 : Int) < 0)) rfl (fun h7 => ?_) (fun h7 => ?_)
 ·skip
  replace h7 := of_decide_eq_true h7
  refine qo (qB ?_)
  refine sp (.bool true) ?_
  refine qA (t_n (xE (t_r ?_)))
  refine ret1 (.bool true) rfl rfl ⟨_, rfl, ?_, H.base⟩
  rfl
 replace h7 := of_decide_eq_false h7
 refine xy (t_n (qo (qB ?_)))
 refine sw (zu [.slice vV aT.qh.length vU, .slice jG aT.qp.length jE, .slice vk aT.ql.length vg] Try.isAgg39 Try.sizeOf39 rfl (qH (H.cells 0 rfl) 0 3) ?_)
 refine sp (.int .i64 (szR (tot aS) 1048576)) ?_
 refine sw (xf #[.agg #[.slice vV aT.qh.length vU, .slice jG aT.qp.length jE, .slice vk aT.ql.length vg], .int .i64 (szR (tot aS) 1048576)] rfl rfl Try.call13 (szState_ok w5 aT (szR (tot aS) 1048576) vV vU QL jG jE Xu vk vg yU (H.get 2 rfl).1 (H.get 3 rfl).1 (H.get 4 rfl).1 (by omega)) ?_)
 rintro _ w8 rfl x9
 replace H := H.ext x9
 have := zG (tot aT) (szR (tot aS) 1048576)
 refine sp (.int .i64 (szR (tot aT) (szR (tot aS) 1048576))) ?_
 refine qA (t_n (qo (qo (qB ?_))))
 refine sps [.int .i64 (szR (tot aT) (szR (tot aS) 1048576)), .bool (decide ((szR (tot aT) (szR (tot aS) 1048576) : Int) < 0))] ?_
 refine qA (t_n ?_)
 refine qX (decide ((szR (tot aT) (szR (tot aS) 1048576) : Int) < 0)) rfl (fun h10 => ?_) (fun h10 => ?_)
 ·skip
  replace h10 := of_decide_eq_true h10
  refine qo (qB ?_)
  refine sp (.bool true) ?_
  refine qA (t_n (xE (t_r ?_)))
  refine ret1 (.bool true) rfl rfl ⟨_, rfl, ?_, H.base⟩
  rfl
 replace h10 := of_decide_eq_false h10
 refine xy (t_n (qo ?_))
 refine c_cut (fun ρ w11 => ∃ (junk : Env) (b12 : Nat) (ra13 : Option Addr) (rc14 : Nat) (ra15 : Option Addr) (rc16 : Nat) (ra17 : Option Addr) (rc18 : Nat) (rx19 : List Value) (rF20 : List Nat), ρ = upd (upd (upd (upd (upd (upd junk 2 (.int .i64 aN)) 3 (pp b1 0)) 4 (pp b3 0)) 8 (pp b12 0)) 9 (.int .i64 ((qx aS aT aN).2.1))) 10 (.int .i64 ((qx aS aT aN).2.2)) ∧ Fresh w.heap.size [rF20] ∧ St w w11 [.box b12 [.slice ra13 ((((qx aS aT aN).1).qh).length) rc14, .slice ra15 ((((qx aS aT aN).1).qp).length) rc16, .slice ra17 ((((qx aS aT aN).1).ql).length) rc18] 41, .row (.slice ra13 ((((qx aS aT aN).1).qh).length) rc14) 4 1 ((((qx aS aT aN).1).qh).length) ((((qx aS aT aN).1).qh).map (Value.bool)), .row (.slice ra15 ((((qx aS aT aN).1).qp).length) rc16) 22 1 ((((qx aS aT aN).1).qp).length) rx19, .row (.slice ra17 ((((qx aS aT aN).1).ql).length) rc18) 2 1 ((((qx aS aT aN).1).ql).length) ((((qx aS aT aN).1).ql).map (Value.int .i64)), .box b3 [.slice vV aT.qh.length vU, .slice jG aT.qp.length jE, .slice vk aT.ql.length vg] 39, .box b1 [.int .i64 aS.qI, .slice zW aS.qf.length zV, .slice ji aS.qg.length jh] 25] [jl true rF20 rx19 (((qx aS aT aN).1).qp), isF false yK (.slice zW aS.qf.length zV) aS.qf, isF false Q7 (.slice ji aS.qg.length jh) aS.qg, isF false QL (.slice vV aT.qh.length vU) aT.qh, isF false Xu (.slice jG aT.qp.length jE) aT.qp, isF false yU (.slice vk aT.ql.length vg) aT.ql]) ?_ ?_
 ·skip
  refine yg rfl H fun H => ?_
  refine rt 0 (.agg #[.int .i64 aS.qI, .slice zW aS.qf.length zV, .slice ji aS.qg.length jh]) (yV (cs := [.int .i64 aS.qI, .slice zW aS.qf.length zV, .slice ji aS.qg.length jh]) Try.isAgg25 Try.sizeOf25 rfl (fun _ h => qH (h.cells 1 rfl) 0 3)) H ?_
  refine rt 2 (.agg #[.slice vV aT.qh.length vU, .slice jG aT.qp.length jE, .slice vk aT.ql.length vg]) (yV (cs := [.slice vV aT.qh.length vU, .slice jG aT.qp.length jE, .slice vk aT.ql.length vg]) Try.isAgg39 Try.sizeOf39 rfl (fun _ h => qH (h.cells 0 rfl) 0 3)) H ?_
  refine rtp 4 (.int .i64 aN) H ?_
  refine xn [1, 10] (by kernel_rfl) (by simp) (zg rfl ?_ (zg rfl ?_ xq))
  ·skip
   have sz22 := H.base.size
   refine xf #[.agg #[.int .i64 aS.qI, .slice zW aS.qf.length zV, .slice ji aS.qg.length jh]] rfl rfl Try.call8 (toSystem_ok w8.drew aS zW zV yK ji jh Q7 (H.get 0 rfl).1 (H.get 1 rfl).1 (by first | assumption | omega)) ?_
   rintro v27 w25 r27 x26
   obtain ⟨a27Parents, c27Parents, VB, a27Rules, c27Rules, F27Rules, rfl, f27, H⟩ := H.add_SystemD x26 r27
   replace N := N.cons f27 sz22 (by intro F hF; simp at hF)
   replace N := N.split
   refine ⟨H.pick [0, 1] [2, 3, 4, 5, 6], ?_⟩
   refine xn [3, 10] (by kernel_rfl) (by simp) (zg rfl ?_ (zg rfl ?_ xq))
   ·skip
    have sz28 := H.base.size
    have lt29 := H.ltN (L := [VB, F27Rules]) [0, 1]
    refine xf #[.agg #[.slice vV aT.qh.length vU, .slice jG aT.qp.length jE, .slice vk aT.ql.length vg]] rfl rfl Try.call15 (Vt w25 aT vV vU QL jG jE Xu vk vg yU (H.get 4 rfl).1 (H.get 5 rfl).1 (H.get 6 rfl).1 (by first | assumption | omega)) ?_
    rintro v33 w31 r33 x32
    obtain ⟨a33Alive, c33Alive, F33Alive, a33Bags, c33Bags, F33Bags, a33Around, c33Around, F33Around, rfl, f33, H⟩ := H.VA x32 r33
    replace N := N.cons f33 sz28 lt29
    replace N := N.split
    replace N := N.split
    refine ⟨H.pick [0, 1] [5, 6, 7, 8, 9], ?_⟩
    refine xn [5, 10] (by kernel_rfl) (by simp) (zg rfl ?_ (zg rfl ?_ xq))
    ·skip
     have sz37 := H.base.size
     have lt38 := H.ltN (L := [F33Alive, F33Bags, F33Around, VB, F27Rules]) [0, 1, 2, 3, 4]
     refine xf #[.agg #[.int .i64 aS.qI, .slice a27Parents aS.qf.length c27Parents, .slice a27Rules aS.qg.length c27Rules], .agg #[.slice a33Alive aT.qh.length c33Alive, .slice a33Bags aT.qp.length c33Bags, .slice a33Around aT.ql.length c33Around], .int .i64 aN] rfl rfl Try.call21 (specRun_ok w31 aS aT aN a27Parents c27Parents VB a27Rules c27Rules F27Rules a33Alive c33Alive F33Alive a33Bags c33Bags F33Bags a33Around c33Around F33Around (H.get 3 rfl).1 (H.get 4 rfl).1 (H.get 0 rfl).1 (H.get 1 rfl).1 (H.get 2 rfl).1) ?_
     rintro _ w35 ⟨ra34aAlive, rn34aAlive, rc34aAlive, ra34aBags, rn34aBags, rc34aBags, rx34aBags, rF34aBags, ra34aAround, rn34aAround, rc34aAround, rfl, M, K⟩ _
     replace N := N.merge sz37 lt38 M
     replace H := H.merge K M
     dsimp only [List.cons_append, List.nil_append] at H
     obtain rfl := H.QE 0 rfl
     obtain rfl := H.zx (α := List Int) 1 rfl 0 rfl (by decide)
     obtain rfl := H.QD 2 rfl
     refine ⟨H.pick [3, 4] [6, 7, 8, 9, 10], ?_⟩
     have S := H.jP [3, 4] [6, 7, 8, 9, 10]
     refine rtp 6 (.tuple #[.agg #[.slice ra34aAlive ((((qx aS aT aN).1).qh).length) rc34aAlive, .slice ra34aBags ((((qx aS aT aN).1).qp).length) rc34aBags, .slice ra34aAround ((((qx aS aT aN).1).ql).length) rc34aAround], .int .i64 ((qx aS aT aN).2.1), .int .i64 ((qx aS aT aN).2.2)]) S ?_
     refine rtp 7 (.agg #[.slice ra34aAlive ((((qx aS aT aN).1).qh).length) rc34aAlive, .slice ra34aBags ((((qx aS aT aN).1).qp).length) rc34aBags, .slice ra34aAround ((((qx aS aT aN).1).ql).length) rc34aAround]) S ?_
     refine rtp 8 (.int .i64 ((qx aS aT aN).2.1)) S ?_
     refine rtp 9 (.int .i64 ((qx aS aT aN).2.2)) S ?_
     refine xn [10] (by kernel_rfl) (by simp) (zg rfl ?_ xq)
     refine zy H ti41 [.slice none 0 0, .slice none 0 0, .slice none 0 0] fun b42 w43 H => ?_
     refine ⟨H.pick [4, 5] [6, 7, 8, 9, 10], ?_⟩
     refine xn [11] (by kernel_rfl) (by simp) (zg rfl ?_ xq)
     refine xR H 0 [.slice ra34aAlive ((((qx aS aT aN).1).qh).length) rc34aAlive, .slice ra34aBags ((((qx aS aT aN).1).qp).length) rc34aBags, .slice ra34aAround ((((qx aS aT aN).1).ql).length) rc34aAround] Try.sizeOf41 fun w44 H => ?_
     try dsimp only [List.set] at H
     refine ⟨H.pick [4, 5] [6, 7, 8, 9, 10], ?_⟩
     have S := H.jP [4, 5] [6, 7, 8, 9, 10]
     refine rtp 12 (.int .i64 ((qx aS aT aN).2.1)) S ?_
     refine rtp 13 (.int .i64 ((qx aS aT aN).2.2)) S ?_
     refine xM (by kernel_rfl) (?_)
     exact meet ⟨_, b42, ra34aAlive, rc34aAlive, ra34aBags, rc34aBags, ra34aAround, rc34aAround, rx34aBags, rF34aBags, (by exact qj (qj (qj (qj (qj (qj (rfl) rfl) rfl) rfl) rfl) rfl) rfl), (N.pick [0]), H.pick [0, 1, 2, 3, 4, 5] [0, 6, 7, 8, 9, 10]⟩
    refine zy H ti41 [.slice none 0 0, .slice none 0 0, .slice none 0 0] fun b45 w46 H => ?_
    refine ⟨H.pick [1, 2] [5, 6, 7, 8, 9], ?_⟩
    refine xn [5] (by kernel_rfl) (by simp) (zg rfl ?_ xq)
    have sz50 := H.base.size
    have lt51 := H.ltN (L := [F33Alive, F33Bags, F33Around, VB, F27Rules]) [0, 1, 2, 3, 4]
    refine xf #[.agg #[.int .i64 aS.qI, .slice a27Parents aS.qf.length c27Parents, .slice a27Rules aS.qg.length c27Rules], .agg #[.slice a33Alive aT.qh.length c33Alive, .slice a33Bags aT.qp.length c33Bags, .slice a33Around aT.ql.length c33Around], .int .i64 aN] rfl rfl Try.call21 (specRun_ok w46 aS aT aN a27Parents c27Parents VB a27Rules c27Rules F27Rules a33Alive c33Alive F33Alive a33Bags c33Bags F33Bags a33Around c33Around F33Around (H.get 3 rfl).1 (H.get 4 rfl).1 (H.get 0 rfl).1 (H.get 1 rfl).1 (H.get 2 rfl).1) ?_
    rintro _ w48 ⟨ra47aAlive, rn47aAlive, rc47aAlive, ra47aBags, rn47aBags, rc47aBags, rx47aBags, rF47aBags, ra47aAround, rn47aAround, rc47aAround, rfl, M, K⟩ _
    replace N := N.merge sz50 lt51 M
    replace H := H.merge K M
    dsimp only [List.cons_append, List.nil_append] at H
    obtain rfl := H.QE 0 rfl
    obtain rfl := H.zx (α := List Int) 1 rfl 0 rfl (by decide)
    obtain rfl := H.QD 2 rfl
    refine ⟨H.pick [4, 5] [6, 7, 8, 9, 10], ?_⟩
    have S := H.jP [4, 5] [6, 7, 8, 9, 10]
    refine rtp 6 (.tuple #[.agg #[.slice ra47aAlive ((((qx aS aT aN).1).qh).length) rc47aAlive, .slice ra47aBags ((((qx aS aT aN).1).qp).length) rc47aBags, .slice ra47aAround ((((qx aS aT aN).1).ql).length) rc47aAround], .int .i64 ((qx aS aT aN).2.1), .int .i64 ((qx aS aT aN).2.2)]) S ?_
    refine rtp 7 (.agg #[.slice ra47aAlive ((((qx aS aT aN).1).qh).length) rc47aAlive, .slice ra47aBags ((((qx aS aT aN).1).qp).length) rc47aBags, .slice ra47aAround ((((qx aS aT aN).1).ql).length) rc47aAround]) S ?_
    refine rtp 8 (.int .i64 ((qx aS aT aN).2.1)) S ?_
    refine rtp 9 (.int .i64 ((qx aS aT aN).2.2)) S ?_
    refine xn [11] (by kernel_rfl) (by simp) (zg rfl ?_ xq)
    refine xR H 3 [.slice ra47aAlive ((((qx aS aT aN).1).qh).length) rc47aAlive, .slice ra47aBags ((((qx aS aT aN).1).qp).length) rc47aBags, .slice ra47aAround ((((qx aS aT aN).1).ql).length) rc47aAround] Try.sizeOf41 fun w55 H => ?_
    try dsimp only [List.set] at H
    refine ⟨H.pick [4, 5] [6, 7, 8, 9, 10], ?_⟩
    have S := H.jP [4, 5] [6, 7, 8, 9, 10]
    refine rtp 12 (.int .i64 ((qx aS aT aN).2.1)) S ?_
    refine rtp 13 (.int .i64 ((qx aS aT aN).2.2)) S ?_
    refine xM (by kernel_rfl) (?_)
    exact meet ⟨_, b45, ra47aAlive, rc47aAlive, ra47aBags, rc47aBags, ra47aAround, rc47aAround, rx47aBags, rF47aBags, (by exact qj (qj (qj (qj (qj (qj (rfl) rfl) rfl) rfl) rfl) rfl) rfl), (N.pick [0]), H.pick [3, 0, 1, 2, 4, 5] [0, 6, 7, 8, 9, 10]⟩
   refine zy H ti41 [.slice none 0 0, .slice none 0 0, .slice none 0 0] fun b56 w57 H => ?_
   refine ⟨H.pick [1, 2] [2, 3, 4, 5, 6], ?_⟩
   refine xn [3] (by kernel_rfl) (by simp) (zg rfl ?_ xq)
   have sz58 := H.base.size
   have lt59 := H.ltN (L := [VB, F27Rules]) [0, 1]
   refine xf #[.agg #[.slice vV aT.qh.length vU, .slice jG aT.qp.length jE, .slice vk aT.ql.length vg]] rfl rfl Try.call15 (Vt w57 aT vV vU QL jG jE Xu vk vg yU (H.get 4 rfl).1 (H.get 5 rfl).1 (H.get 6 rfl).1 (by first | assumption | omega)) ?_
   rintro v63 w61 r63 x62
   obtain ⟨a63Alive, c63Alive, F63Alive, a63Bags, c63Bags, F63Bags, a63Around, c63Around, F63Around, rfl, f63, H⟩ := H.VA x62 r63
   replace N := N.cons f63 sz58 lt59
   replace N := N.split
   replace N := N.split
   refine ⟨H.pick [1, 2] [5, 6, 7, 8, 9], ?_⟩
   refine xn [5] (by kernel_rfl) (by simp) (zg rfl ?_ xq)
   have sz67 := H.base.size
   have lt68 := H.ltN (L := [F63Alive, F63Bags, F63Around, VB, F27Rules]) [0, 1, 2, 3, 4]
   refine xf #[.agg #[.int .i64 aS.qI, .slice a27Parents aS.qf.length c27Parents, .slice a27Rules aS.qg.length c27Rules], .agg #[.slice a63Alive aT.qh.length c63Alive, .slice a63Bags aT.qp.length c63Bags, .slice a63Around aT.ql.length c63Around], .int .i64 aN] rfl rfl Try.call21 (specRun_ok w61 aS aT aN a27Parents c27Parents VB a27Rules c27Rules F27Rules a63Alive c63Alive F63Alive a63Bags c63Bags F63Bags a63Around c63Around F63Around (H.get 3 rfl).1 (H.get 4 rfl).1 (H.get 0 rfl).1 (H.get 1 rfl).1 (H.get 2 rfl).1) ?_
   rintro _ w65 ⟨ra64aAlive, rn64aAlive, rc64aAlive, ra64aBags, rn64aBags, rc64aBags, rx64aBags, rF64aBags, ra64aAround, rn64aAround, rc64aAround, rfl, M, K⟩ _
   replace N := N.merge sz67 lt68 M
   replace H := H.merge K M
   dsimp only [List.cons_append, List.nil_append] at H
   obtain rfl := H.QE 0 rfl
   obtain rfl := H.zx (α := List Int) 1 rfl 0 rfl (by decide)
   obtain rfl := H.QD 2 rfl
   refine ⟨H.pick [4, 5] [6, 7, 8, 9, 10], ?_⟩
   have S := H.jP [4, 5] [6, 7, 8, 9, 10]
   refine rtp 6 (.tuple #[.agg #[.slice ra64aAlive ((((qx aS aT aN).1).qh).length) rc64aAlive, .slice ra64aBags ((((qx aS aT aN).1).qp).length) rc64aBags, .slice ra64aAround ((((qx aS aT aN).1).ql).length) rc64aAround], .int .i64 ((qx aS aT aN).2.1), .int .i64 ((qx aS aT aN).2.2)]) S ?_
   refine rtp 7 (.agg #[.slice ra64aAlive ((((qx aS aT aN).1).qh).length) rc64aAlive, .slice ra64aBags ((((qx aS aT aN).1).qp).length) rc64aBags, .slice ra64aAround ((((qx aS aT aN).1).ql).length) rc64aAround]) S ?_
   refine rtp 8 (.int .i64 ((qx aS aT aN).2.1)) S ?_
   refine rtp 9 (.int .i64 ((qx aS aT aN).2.2)) S ?_
   refine xn [11] (by kernel_rfl) (by simp) (zg rfl ?_ xq)
   refine xR H 3 [.slice ra64aAlive ((((qx aS aT aN).1).qh).length) rc64aAlive, .slice ra64aBags ((((qx aS aT aN).1).qp).length) rc64aBags, .slice ra64aAround ((((qx aS aT aN).1).ql).length) rc64aAround] Try.sizeOf41 fun w72 H => ?_
   try dsimp only [List.set] at H
   refine ⟨H.pick [4, 5] [6, 7, 8, 9, 10], ?_⟩
   have S := H.jP [4, 5] [6, 7, 8, 9, 10]
   refine rtp 12 (.int .i64 ((qx aS aT aN).2.1)) S ?_
   refine rtp 13 (.int .i64 ((qx aS aT aN).2.2)) S ?_
   refine xM (by kernel_rfl) (?_)
   exact meet ⟨_, b56, ra64aAlive, rc64aAlive, ra64aBags, rc64aBags, ra64aAround, rc64aAround, rx64aBags, rF64aBags, (by exact qj (qj (qj (qj (qj (qj (rfl) rfl) rfl) rfl) rfl) rfl) rfl), (N.pick [0]), H.pick [3, 0, 1, 2, 4, 5] [0, 6, 7, 8, 9, 10]⟩
  refine zy H ti41 [.slice none 0 0, .slice none 0 0, .slice none 0 0] fun b73 w74 H => ?_
  refine ⟨H.pick [1, 2] [0, 1, 2, 3, 4], ?_⟩
  refine xn [1] (by kernel_rfl) (by simp) (zg rfl ?_ xq)
  have sz75 := H.base.size
  refine xf #[.agg #[.int .i64 aS.qI, .slice zW aS.qf.length zV, .slice ji aS.qg.length jh]] rfl rfl Try.call8 (toSystem_ok w74 aS zW zV yK ji jh Q7 (H.get 0 rfl).1 (H.get 1 rfl).1 (by first | assumption | omega)) ?_
  rintro v80 w78 r80 x79
  obtain ⟨a80Parents, c80Parents, F80Parents, a80Rules, c80Rules, F80Rules, rfl, f80, H⟩ := H.add_SystemD x79 r80
  replace N := N.cons f80 sz75 (by intro F hF; simp at hF)
  replace N := N.split
  refine ⟨H.pick [1, 2] [2, 3, 4, 5, 6], ?_⟩
  refine xn [3] (by kernel_rfl) (by simp) (zg rfl ?_ xq)
  have sz81 := H.base.size
  have lt82 := H.ltN (L := [F80Parents, F80Rules]) [0, 1]
  refine xf #[.agg #[.slice vV aT.qh.length vU, .slice jG aT.qp.length jE, .slice vk aT.ql.length vg]] rfl rfl Try.call15 (Vt w78 aT vV vU QL jG jE Xu vk vg yU (H.get 4 rfl).1 (H.get 5 rfl).1 (H.get 6 rfl).1 (by first | assumption | omega)) ?_
  rintro v86 w84 r86 x85
  obtain ⟨a86Alive, c86Alive, F86Alive, a86Bags, c86Bags, F86Bags, a86Around, c86Around, F86Around, rfl, f86, H⟩ := H.VA x85 r86
  replace N := N.cons f86 sz81 lt82
  replace N := N.split
  replace N := N.split
  refine ⟨H.pick [1, 2] [5, 6, 7, 8, 9], ?_⟩
  refine xn [5] (by kernel_rfl) (by simp) (zg rfl ?_ xq)
  have sz90 := H.base.size
  have lt91 := H.ltN (L := [F86Alive, F86Bags, F86Around, F80Parents, F80Rules]) [0, 1, 2, 3, 4]
  refine xf #[.agg #[.int .i64 aS.qI, .slice a80Parents aS.qf.length c80Parents, .slice a80Rules aS.qg.length c80Rules], .agg #[.slice a86Alive aT.qh.length c86Alive, .slice a86Bags aT.qp.length c86Bags, .slice a86Around aT.ql.length c86Around], .int .i64 aN] rfl rfl Try.call21 (specRun_ok w84 aS aT aN a80Parents c80Parents F80Parents a80Rules c80Rules F80Rules a86Alive c86Alive F86Alive a86Bags c86Bags F86Bags a86Around c86Around F86Around (H.get 3 rfl).1 (H.get 4 rfl).1 (H.get 0 rfl).1 (H.get 1 rfl).1 (H.get 2 rfl).1) ?_
  rintro _ w88 ⟨ra87aAlive, rn87aAlive, rc87aAlive, ra87aBags, rn87aBags, rc87aBags, rx87aBags, rF87aBags, ra87aAround, rn87aAround, rc87aAround, rfl, M, K⟩ _
  replace N := N.merge sz90 lt91 M
  replace H := H.merge K M
  dsimp only [List.cons_append, List.nil_append] at H
  obtain rfl := H.QE 0 rfl
  obtain rfl := H.zx (α := List Int) 1 rfl 0 rfl (by decide)
  obtain rfl := H.QD 2 rfl
  refine ⟨H.pick [4, 5] [6, 7, 8, 9, 10], ?_⟩
  have S := H.jP [4, 5] [6, 7, 8, 9, 10]
  refine rtp 6 (.tuple #[.agg #[.slice ra87aAlive ((((qx aS aT aN).1).qh).length) rc87aAlive, .slice ra87aBags ((((qx aS aT aN).1).qp).length) rc87aBags, .slice ra87aAround ((((qx aS aT aN).1).ql).length) rc87aAround], .int .i64 ((qx aS aT aN).2.1), .int .i64 ((qx aS aT aN).2.2)]) S ?_
  refine rtp 7 (.agg #[.slice ra87aAlive ((((qx aS aT aN).1).qh).length) rc87aAlive, .slice ra87aBags ((((qx aS aT aN).1).qp).length) rc87aBags, .slice ra87aAround ((((qx aS aT aN).1).ql).length) rc87aAround]) S ?_
  refine rtp 8 (.int .i64 ((qx aS aT aN).2.1)) S ?_
  refine rtp 9 (.int .i64 ((qx aS aT aN).2.2)) S ?_
  refine xn [11] (by kernel_rfl) (by simp) (zg rfl ?_ xq)
  refine xR H 3 [.slice ra87aAlive ((((qx aS aT aN).1).qh).length) rc87aAlive, .slice ra87aBags ((((qx aS aT aN).1).qp).length) rc87aBags, .slice ra87aAround ((((qx aS aT aN).1).ql).length) rc87aAround] Try.sizeOf41 fun w95 H => ?_
  try dsimp only [List.set] at H
  refine ⟨H.pick [4, 5] [6, 7, 8, 9, 10], ?_⟩
  have S := H.jP [4, 5] [6, 7, 8, 9, 10]
  refine rtp 12 (.int .i64 ((qx aS aT aN).2.1)) S ?_
  refine rtp 13 (.int .i64 ((qx aS aT aN).2.2)) S ?_
  refine xM (by kernel_rfl) (?_)
  exact meet ⟨_, b73, ra87aAlive, rc87aAlive, ra87aBags, rc87aBags, ra87aAround, rc87aAround, rx87aBags, rF87aBags, (by exact qj (qj (qj (qj (qj (qj (rfl) rfl) rfl) rfl) rfl) rfl) rfl), (N.pick [0]), H.pick [3, 0, 1, 2, 4, 5] [0, 6, 7, 8, 9, 10]⟩
 clear H N
 rintro ρ w96 ⟨junk, b12, ra13, rc14, ra15, rc16, ra17, rc18, rx19, rF20, rfl, N, H⟩
 refine t_n (qo (qB ?_))
 refine sw (zu [.int .i64 aS.qI, .slice zW aS.qf.length zV, .slice ji aS.qg.length jh] Try.isAgg25 Try.sizeOf25 rfl (qH (H.cells 5 rfl) 0 3) ?_)
 have sz97 := H.base.size
 have lt98 := H.ltN (L := [rF20]) [0]
 refine sw (xf #[.agg #[.int .i64 aS.qI, .slice zW aS.qf.length zV, .slice ji aS.qg.length jh]] rfl rfl Try.call8 (toSystem_ok w96 aS zW zV yK ji jh Q7 (H.get 1 rfl).1 (H.get 2 rfl).1 (by first | assumption | omega)) ?_)
 rintro v102 w100 r102 x101
 obtain ⟨jC, jB, zY, yJ, yG, je, rfl, f102, H⟩ := H.add_SystemD x101 r102
 replace N := N.cons f102 sz97 lt98
 replace N := N.split
 refine sw (zy H ti30 [.int .i64 0, .slice none 0 0, .slice none 0 0] fun b103 w104 H => ?_)
 refine sw (xR H 0 [.int .i64 aS.qI, .slice jC aS.qf.length jB, .slice yJ aS.qg.length yG] Try.sizeOf30 fun w105 H => ?_)
 try dsimp only [List.set] at H
 refine qA (t_n (qo (qB ?_)))
 refine sw (zu [.slice vV aT.qh.length vU, .slice jG aT.qp.length jE, .slice vk aT.ql.length vg] Try.isAgg39 Try.sizeOf39 rfl (qH (H.cells 5 rfl) 0 3) ?_)
 have sz106 := H.base.size
 have lt107 := H.ltN (L := [zY, je, rF20]) [0, 1, 2]
 refine sw (xf #[.agg #[.slice vV aT.qh.length vU, .slice jG aT.qp.length jE, .slice vk aT.ql.length vg]] rfl rfl Try.call15 (Vt w105 aT vV vU QL jG jE Xu vk vg yU (H.get 5 rfl).1 (H.get 6 rfl).1 (H.get 7 rfl).1 (by first | assumption | omega)) ?_)
 rintro v111 w109 r111 x110
 obtain ⟨yI, yF, jk, Qv, Qu, jO, jU, jS, vS, rfl, f111, H⟩ := H.VA x110 r111
 replace N := N.cons f111 sz106 lt107
 replace N := N.split
 replace N := N.split
 refine sw (zy H ti41 [.slice none 0 0, .slice none 0 0, .slice none 0 0] fun b112 w113 H => ?_)
 refine sw (xR H 0 [.slice yI aT.qh.length yF, .slice Qv aT.qp.length Qu, .slice jU aT.ql.length jS] Try.sizeOf41 fun w114 H => ?_)
 try dsimp only [List.set] at H
 refine qA (t_n (qo (qB ?_)))
 refine sw (zu [.int .i64 aS.qI, .slice jC aS.qf.length jB, .slice yJ aS.qg.length yG] Try.isAgg30 Try.sizeOf30 rfl (qH (H.cells 1 rfl) 0 3) ?_)
 refine sw (zu [.slice yI aT.qh.length yF, .slice Qv aT.qp.length Qu, .slice jU aT.ql.length jS] Try.isAgg41 Try.sizeOf41 rfl (qH (H.cells 0 rfl) 0 3) ?_)
 refine sp (.int .i64 aN) ?_
 have sz118 := H.base.size
 have lt119 := H.ltN (L := [jk, jO, vS, zY, je, rF20]) [0, 1, 2, 3, 4, 5]
 refine sw (xf #[.agg #[.int .i64 aS.qI, .slice jC aS.qf.length jB, .slice yJ aS.qg.length yG], .agg #[.slice yI aT.qh.length yF, .slice Qv aT.qp.length Qu, .slice jU aT.ql.length jS], .int .i64 aN] rfl rfl Try.call22 (implRun_ok w114 aS aT aN jC jB zY yJ yG je yI yF jk Qv Qu jO jU jS vS (H.get 3 rfl).1 (H.get 4 rfl).1 (H.get 0 rfl).1 (H.get 1 rfl).1 (H.get 2 rfl).1) ?_)
 rintro _ w116 ⟨ra115aAlive, rn115aAlive, rc115aAlive, ra115aBags, rn115aBags, rc115aBags, rx115aBags, rF115aBags, ra115aAround, rn115aAround, rc115aAround, rfl, M, K⟩ _
 replace N := N.merge sz118 lt119 M
 replace H := H.merge K M
 dsimp only [List.cons_append, List.nil_append] at H
 obtain rfl := H.QE 0 rfl
 obtain rfl := H.zx (α := List Int) 1 rfl 0 rfl (by decide)
 obtain rfl := H.QD 2 rfl
 refine sps [.tuple #[.agg #[.slice ra115aAlive ((((qx aS aT aN).1).qh).length) rc115aAlive, .slice ra115aBags ((((qx aS aT aN).1).qp).length) rc115aBags, .slice ra115aAround ((((qx aS aT aN).1).ql).length) rc115aAround], .int .i64 ((qx aS aT aN).2.1), .int .i64 ((qx aS aT aN).2.2)], .agg #[.slice ra115aAlive ((((qx aS aT aN).1).qh).length) rc115aAlive, .slice ra115aBags ((((qx aS aT aN).1).qp).length) rc115aBags, .slice ra115aAround ((((qx aS aT aN).1).ql).length) rc115aAround], .int .i64 ((qx aS aT aN).2.1), .int .i64 ((qx aS aT aN).2.2)] ?_
 refine sw (zy H ti41 [.slice none 0 0, .slice none 0 0, .slice none 0 0] fun b123 w124 H => ?_)
 refine sw (xR H 0 [.slice ra115aAlive ((((qx aS aT aN).1).qh).length) rc115aAlive, .slice ra115aBags ((((qx aS aT aN).1).qp).length) rc115aBags, .slice ra115aAround ((((qx aS aT aN).1).ql).length) rc115aAround] Try.sizeOf41 fun w125 H => ?_)
 try dsimp only [List.set] at H
 refine sps [.int .i64 ((qx aS aT aN).2.1), .int .i64 ((qx aS aT aN).2.2)] ?_
 refine qA (t_n (qo (qo (qB ?_))))
 refine sw (zu [.slice ra115aAlive ((((qx aS aT aN).1).qh).length) rc115aAlive, .slice ra115aBags ((((qx aS aT aN).1).qp).length) rc115aBags, .slice ra115aAround ((((qx aS aT aN).1).ql).length) rc115aAround] Try.isAgg41 Try.sizeOf41 rfl (qH (H.cells 0 rfl) 0 3) ?_)
 refine sw (zu [.slice ra13 ((((qx aS aT aN).1).qh).length) rc14, .slice ra15 ((((qx aS aT aN).1).qp).length) rc16, .slice ra17 ((((qx aS aT aN).1).ql).length) rc18] Try.isAgg41 Try.sizeOf41 rfl (qH (H.cells 6 rfl) 0 3) ?_)
 obtain ⟨G126, hn127, h128⟩ := H.rowIsB 1 rfl
 obtain ⟨G129, hn130, h131⟩ := H.rowIsR (α := List Int) 2 rfl 0 rfl (by decide)
 obtain ⟨G132, hn133, h134⟩ := H.XE 3 rfl
 obtain ⟨G135, hn136, h137⟩ := H.rowIsB 7 rfl
 obtain ⟨G138, hn139, h140⟩ := H.rowIsR (α := List Int) 8 rfl 6 rfl (by decide)
 obtain ⟨G141, hn142, h143⟩ := H.XE 9 rfl
 refine sw (xf #[.agg #[.slice ra115aAlive ((((qx aS aT aN).1).qh).length) rc115aAlive, .slice ra115aBags ((((qx aS aT aN).1).qp).length) rc115aBags, .slice ra115aAround ((((qx aS aT aN).1).ql).length) rc115aAround], .agg #[.slice ra13 ((((qx aS aT aN).1).qh).length) rc14, .slice ra15 ((((qx aS aT aN).1).qp).length) rc16, .slice ra17 ((((qx aS aT aN).1).ql).length) rc18]] rfl rfl Try.call17 (eqState_ok w125 ((qx aS aT aN).1) ((qx aS aT aN).1) ra115aAlive rc115aAlive G126 ra115aBags rc115aBags G129 ra115aAround rc115aAround G132 ra13 rc14 G135 ra15 rc16 G138 ra17 rc18 G141 h128 h131 h134 h137 h140 h143) ?_)
 rintro _ w144 rfl x145
 replace H := H.ext x145
 refine sps [.bool (!(decide (((qx aS aT aN).1) = ((qx aS aT aN).1)))), .bool (!(decide (((qx aS aT aN).1) = ((qx aS aT aN).1))))] ?_
 cases h146 : (!(decide (((qx aS aT aN).1) = ((qx aS aT aN).1))))
 ·skip
  replace h146 := qY h146
  refine qU 58 rfl rfl ?_
  refine sp (.int .i64 ((qx aS aT aN).2.1)) ?_
  refine qU 58 rfl rfl ?_
  refine sp (.int .i64 ((qx aS aT aN).2.1)) ?_
  refine qU 58 rfl rfl ?_
  refine sps [.bool (((qx aS aT aN).2.1 : Int) != ((qx aS aT aN).2.1)), .bool (((qx aS aT aN).2.1 : Int) != ((qx aS aT aN).2.1)), .bool (((qx aS aT aN).2.1 : Int) != ((qx aS aT aN).2.1))] ?_
  cases h147 : (((qx aS aT aN).2.1 : Int) != ((qx aS aT aN).2.1))
  ·skip
   replace h147 := xP h147
   refine qU 63 rfl rfl ?_
   refine sp (.int .i64 ((qx aS aT aN).2.2)) ?_
   refine qU 63 rfl rfl ?_
   refine sp (.int .i64 ((qx aS aT aN).2.2)) ?_
   refine qU 63 rfl rfl ?_
   refine sps [.bool (((qx aS aT aN).2.2 : Int) != ((qx aS aT aN).2.2)), .bool (((qx aS aT aN).2.2 : Int) != ((qx aS aT aN).2.2))] ?_
   refine qA (t_n ?_)
   refine qX (((qx aS aT aN).2.2 : Int) != ((qx aS aT aN).2.2)) rfl (fun h => absurd rfl (bne_iff_ne.1 h)) (fun h148 => ?_)
   replace h148 := xP h148
   refine xy (t_n (qo (qo ?_)))
   refine yg rfl H fun H => ?_
   refine rt 0 (.agg #[.int .i64 aS.qI, .slice jC aS.qf.length jB, .slice yJ aS.qg.length yG]) (yV (cs := [.int .i64 aS.qI, .slice jC aS.qf.length jB, .slice yJ aS.qg.length yG]) Try.isAgg30 Try.sizeOf30 rfl (fun _ h => qH (h.cells 5 rfl) 0 3)) H ?_
   refine rt 1 (.agg #[.int .i64 aS.qI, .slice zW aS.qf.length zV, .slice ji aS.qg.length jh]) (yV (cs := [.int .i64 aS.qI, .slice zW aS.qf.length zV, .slice ji aS.qg.length jh]) Try.isAgg25 Try.sizeOf25 rfl (fun _ h => qH (h.cells 11 rfl) 0 3)) H ?_
   refine xn [2] (by kernel_rfl) (by simp) (zg rfl ?_ xq)
   have sz150 := H.base.size
   have lt151 := H.ltN (L := [rF115aBags, jk, jO, vS, zY, je, rF20]) [0, 1, 2, 3, 4, 5, 6]
   refine xf #[.agg #[.int .i64 aS.qI, .slice zW aS.qf.length zV, .slice ji aS.qg.length jh]] rfl rfl Try.call8 (toSystem_ok w144.drew aS zW zV yK ji jh Q7 (H.get 7 rfl).1 (H.get 8 rfl).1 (by first | assumption | omega)) ?_
   rintro v155 w153 r155 x154
   obtain ⟨a155Parents, c155Parents, jq, a155Rules, c155Rules, yB, rfl, f155, H⟩ := H.add_SystemD x154 r155
   replace N := N.cons f155 sz150 lt151
   replace N := N.split
   refine ⟨H.pick [0, 1, 2, 3, 4, 5, 6, 7, 8, 9, 10, 11] [2, 3, 4, 5, 6, 7, 8, 9, 10, 11, 12, 13], ?_⟩
   refine xn [3] (by kernel_rfl) (by simp) (zg rfl ?_ xq)
   refine xf #[.agg #[.int .i64 aS.qI, .slice jC aS.qf.length jB, .slice yJ aS.qg.length yG], .agg #[.int .i64 aS.qI, .slice a155Parents aS.qf.length c155Parents, .slice a155Rules aS.qg.length c155Rules]] rfl rfl Try.call11 (eqSystem_ok w153 aS aS jC jB zY yJ yG je a155Parents c155Parents jq a155Rules c155Rules yB (H.get 6 rfl).1 (H.get 7 rfl).1 (H.get 0 rfl).1 (H.get 1 rfl).1) ?_
   rintro _ w156 rfl x157
   replace H := H.ext x157
   refine ⟨H.pick [0, 1, 2, 3, 4, 5, 6, 7, 8, 9, 10, 11] [2, 3, 4, 5, 6, 7, 8, 9, 10, 11, 12, 13], ?_⟩
   refine rtp 4 (.bool (!(decide (aS = aS)))) (H.pick [0, 1, 2, 3, 4, 5, 6, 7, 8, 9, 10, 11] [2, 3, 4, 5, 6, 7, 8, 9, 10, 11, 12, 13]) ?_
   refine xM (by kernel_rfl) (t_n ?_)
   refine qX (!(decide (aS = aS))) rfl (fun h => absurd (xh h) (by simp)) (fun h158 => ?_)
   replace h158 := qY h158
   refine xy (t_n (qo (qo ?_)))
   refine yg rfl H fun H => ?_
   refine rt 0 (.agg #[.slice yI aT.qh.length yF, .slice Qv aT.qp.length Qu, .slice jU aT.ql.length jS]) (yV (cs := [.slice yI aT.qh.length yF, .slice Qv aT.qp.length Qu, .slice jU aT.ql.length jS]) Try.isAgg41 Try.sizeOf41 rfl (fun _ h => qH (h.cells 4 rfl) 0 3)) H ?_
   refine rt 1 (.agg #[.slice vV aT.qh.length vU, .slice jG aT.qp.length jE, .slice vk aT.ql.length vg]) (yV (cs := [.slice vV aT.qh.length vU, .slice jG aT.qp.length jE, .slice vk aT.ql.length vg]) Try.isAgg39 Try.sizeOf39 rfl (fun _ h => qH (h.cells 10 rfl) 0 3)) H ?_
   refine xn [2] (by kernel_rfl) (by simp) (zg rfl ?_ xq)
   have sz160 := H.base.size
   have lt161 := H.ltN (L := [jq, yB, rF115aBags, jk, jO, vS, zY, je, rF20]) [0, 1, 2, 3, 4, 5, 6, 7, 8]
   refine xf #[.agg #[.slice vV aT.qh.length vU, .slice jG aT.qp.length jE, .slice vk aT.ql.length vg]] rfl rfl Try.call15 (Vt w156.drew aT vV vU QL jG jE Xu vk vg yU (H.get 11 rfl).1 (H.get 12 rfl).1 (H.get 13 rfl).1 (by first | assumption | omega)) ?_
   rintro v165 w163 r165 x164
   obtain ⟨a165Alive, c165Alive, yM, a165Bags, c165Bags, Qw, a165Around, c165Around, jV, rfl, f165, H⟩ := H.VA x164 r165
   replace N := N.cons f165 sz160 lt161
   replace N := N.split
   replace N := N.split
   refine ⟨H.pick [0, 1, 2, 3, 4, 5, 6, 7, 8, 9, 10, 11] [3, 4, 5, 6, 7, 8, 9, 10, 11, 12, 13, 14, 15, 16], ?_⟩
   refine xn [3] (by kernel_rfl) (by simp) (zg rfl ?_ xq)
   refine xf #[.agg #[.slice yI aT.qh.length yF, .slice Qv aT.qp.length Qu, .slice jU aT.ql.length jS], .agg #[.slice a165Alive aT.qh.length c165Alive, .slice a165Bags aT.qp.length c165Bags, .slice a165Around aT.ql.length c165Around]] rfl rfl Try.call17 (eqState_ok w163 aT aT yI yF jk Qv Qu jO jU jS vS a165Alive c165Alive yM a165Bags c165Bags Qw a165Around c165Around jV (H.get 6 rfl).1 (H.get 7 rfl).1 (H.get 8 rfl).1 (H.get 0 rfl).1 (H.get 1 rfl).1 (H.get 2 rfl).1) ?_
   rintro _ w166 rfl x167
   replace H := H.ext x167
   refine ⟨H.pick [0, 1, 2, 3, 4, 5, 6, 7, 8, 9, 10, 11] [3, 4, 5, 6, 7, 8, 9, 10, 11, 12, 13, 14, 15, 16], ?_⟩
   refine rtp 4 (.bool (!(decide (aT = aT)))) (H.pick [0, 1, 2, 3, 4, 5, 6, 7, 8, 9, 10, 11] [3, 4, 5, 6, 7, 8, 9, 10, 11, 12, 13, 14, 15, 16]) ?_
   refine xM (by kernel_rfl) (t_n ?_)
   refine qX (!(decide (aT = aT))) rfl (fun h => absurd (xh h) (by simp)) (fun h168 => ?_)
   replace h168 := qY h168
   refine xy (t_n (qo (qB ?_)))
   refine sp (.int .i64 1) ?_
   refine qA (t_n (qo (qB ?_)))
   refine sw (zu [.int .i64 aS.qI, .slice jC aS.qf.length jB, .slice yJ aS.qg.length yG] Try.isAgg30 Try.sizeOf30 rfl (qH (H.cells 5 rfl) 0 3) ?_)
   refine sp (.int .i64 1) ?_
   have N169 : Fresh w.heap.size [zY, je, yM, Qw, jV, jq, yB, rF115aBags, jk, jO, vS, rF20] := (N.pick [9, 10, 0, 1, 2, 3, 4, 5, 6, 7, 8, 11])
   refine sw (X9 #[.agg #[.int .i64 aS.qI, .slice jC aS.qf.length jB, .slice yJ aS.qg.length yG], .int .i64 1] rfl rfl Try.call18 (markSystem_ok w166 aS 1 jC jB zY yJ yG je (H.get 9 rfl).1 (H.get 10 rfl).1 (N169.pick [0, 1] : Fresh _ [zY, je]).join.one.2 (((H.get 9 rfl).2 rfl).app ((H.get 10 rfl).2 rfl)) (by omega) (by omega)) ?_)
   rintro _ w170 ⟨rfl, m172⟩ x171
   replace H : St _ _ [.box b123 [.slice ra115aAlive ((((qx aS aT aN).1).qh).length) rc115aAlive, .slice ra115aBags ((((qx aS aT aN).1).qp).length) rc115aBags, .slice ra115aAround ((((qx aS aT aN).1).ql).length) rc115aAround] 41, .row (.slice ra115aAlive ((((qx aS aT aN).1).qh).length) rc115aAlive) 4 1 ((((qx aS aT aN).1).qh).length) ((((qx aS aT aN).1).qh).map (Value.bool)), .row (.slice ra115aBags ((((qx aS aT aN).1).qp).length) rc115aBags) 22 1 ((((qx aS aT aN).1).qp).length) rx115aBags, .row (.slice ra115aAround ((((qx aS aT aN).1).ql).length) rc115aAround) 2 1 ((((qx aS aT aN).1).ql).length) ((((qx aS aT aN).1).ql).map (Value.int .i64)), .box b112 [.slice yI aT.qh.length yF, .slice Qv aT.qp.length Qu, .slice jU aT.ql.length jS] 41, .box b103 [.int .i64 aS.qI, .slice jC aS.qf.length jB, .slice yJ aS.qg.length yG] 30, .box b12 [.slice ra13 ((((qx aS aT aN).1).qh).length) rc14, .slice ra15 ((((qx aS aT aN).1).qp).length) rc16, .slice ra17 ((((qx aS aT aN).1).ql).length) rc18] 41, .row (.slice ra13 ((((qx aS aT aN).1).qh).length) rc14) 4 1 ((((qx aS aT aN).1).qh).length) ((((qx aS aT aN).1).qh).map (Value.bool)), .row (.slice ra15 ((((qx aS aT aN).1).qp).length) rc16) 22 1 ((((qx aS aT aN).1).qp).length) rx19, .row (.slice ra17 ((((qx aS aT aN).1).ql).length) rc18) 2 1 ((((qx aS aT aN).1).ql).length) ((((qx aS aT aN).1).ql).map (Value.int .i64)), .box b3 [.slice vV aT.qh.length vU, .slice jG aT.qp.length jE, .slice vk aT.ql.length vg] 39, .box b1 [.int .i64 aS.qI, .slice zW aS.qf.length zV, .slice ji aS.qg.length jh] 25] [isF true zY (.slice jC aS.qf.length jB) (mrk aS.qf (1)), isF true je (.slice yJ aS.qg.length yG) (mrk aS.qg (1 + (cnt aS.qf : Nat))), isF true yM (.slice a165Alive aT.qh.length c165Alive) aT.qh, isF true Qw (.slice a165Bags aT.qp.length c165Bags) aT.qp, isF true jV (.slice a165Around aT.ql.length c165Around) aT.ql, isF true jq (.slice a155Parents aS.qf.length c155Parents) aS.qf, isF true yB (.slice a155Rules aS.qg.length c155Rules) aS.qg, jl true rF115aBags rx115aBags (((qx aS aT aN).1).qp), isF true jk (.slice yI aT.qh.length yF) aT.qh, isF true jO (.slice Qv aT.qp.length Qu) aT.qp, isF true vS (.slice jU aT.ql.length jS) aT.ql, jl true rF20 rx19 (((qx aS aT aN).1).qp), isF false yK (.slice zW aS.qf.length zV) aS.qf, isF false Q7 (.slice ji aS.qg.length jh) aS.qg, isF false QL (.slice vV aT.qh.length vU) aT.qh, isF false Xu (.slice jG aT.qp.length jE) aT.qp, isF false yU (.slice vk aT.ql.length vg) aT.ql] := H.chgFacts (Fs := [zY, je]) (L := [yM, Qw, jV, jq, yB, rF115aBags, jk, jO, vS, rF20]) (A := [yK, Q7, QL, Xu, yU]) N169 A (x171.mono (by intro z hz; simpa using hz)) [9, 10] [isF true zY (.slice jC aS.qf.length jB) (mrk aS.qf (1)), isF true je (.slice yJ aS.qg.length yG) (mrk aS.qg (1 + (cnt aS.qf : Nat)))] (all_of ⟨m172.1, ⟨m172.2, trivial⟩⟩) [0, 1, 2, 3, 4, 5, 6, 7, 8, 11, 12, 13, 14, 15, 16] [0, 1, 2, 3, 4, 5, 6, 7, 8, 9, 10, 11, 12, 13, 14]
   replace N := N169
   refine sp (.int .i64 (1 + (cnt aS.qf : Nat) + (cnt aS.qg : Nat))) ?_
   refine qA (t_n (qo (qB ?_)))
   refine sw (zu [.slice yI aT.qh.length yF, .slice Qv aT.qp.length Qu, .slice jU aT.ql.length jS] Try.isAgg41 Try.sizeOf41 rfl (qH (H.cells 4 rfl) 0 3) ?_)
   refine sp (.int .i64 (1 + (cnt aS.qf : Nat) + (cnt aS.qg : Nat))) ?_
   have N173 : Fresh w.heap.size [jk, jO, vS, zY, je, yM, Qw, jV, jq, yB, rF115aBags, rF20] := (N.pick [8, 9, 10, 0, 1, 2, 3, 4, 5, 6, 7, 11])
   refine sw (X9 #[.agg #[.slice yI aT.qh.length yF, .slice Qv aT.qp.length Qu, .slice jU aT.ql.length jS], .int .i64 (1 + (cnt aS.qf : Nat) + (cnt aS.qg : Nat))] rfl rfl Try.call19 (markState_ok w170 aT (1 + (cnt aS.qf : Nat) + (cnt aS.qg : Nat)) yI yF jk Qv Qu jO jU jS vS (H.get 8 rfl).1 (H.get 9 rfl).1 (H.get 10 rfl).1 (N173.pick [0, 1, 2] : Fresh _ [jk, jO, vS]).join.join.one.2 ((((H.get 8 rfl).2 rfl).app ((H.get 9 rfl).2 rfl)).app ((H.get 10 rfl).2 rfl)) (by omega) (by omega)) ?_)
   rintro _ w174 ⟨rfl, m176⟩ x175
   replace H : St _ _ [.box b123 [.slice ra115aAlive ((((qx aS aT aN).1).qh).length) rc115aAlive, .slice ra115aBags ((((qx aS aT aN).1).qp).length) rc115aBags, .slice ra115aAround ((((qx aS aT aN).1).ql).length) rc115aAround] 41, .row (.slice ra115aAlive ((((qx aS aT aN).1).qh).length) rc115aAlive) 4 1 ((((qx aS aT aN).1).qh).length) ((((qx aS aT aN).1).qh).map (Value.bool)), .row (.slice ra115aBags ((((qx aS aT aN).1).qp).length) rc115aBags) 22 1 ((((qx aS aT aN).1).qp).length) rx115aBags, .row (.slice ra115aAround ((((qx aS aT aN).1).ql).length) rc115aAround) 2 1 ((((qx aS aT aN).1).ql).length) ((((qx aS aT aN).1).ql).map (Value.int .i64)), .box b112 [.slice yI aT.qh.length yF, .slice Qv aT.qp.length Qu, .slice jU aT.ql.length jS] 41, .box b103 [.int .i64 aS.qI, .slice jC aS.qf.length jB, .slice yJ aS.qg.length yG] 30, .box b12 [.slice ra13 ((((qx aS aT aN).1).qh).length) rc14, .slice ra15 ((((qx aS aT aN).1).qp).length) rc16, .slice ra17 ((((qx aS aT aN).1).ql).length) rc18] 41, .row (.slice ra13 ((((qx aS aT aN).1).qh).length) rc14) 4 1 ((((qx aS aT aN).1).qh).length) ((((qx aS aT aN).1).qh).map (Value.bool)), .row (.slice ra15 ((((qx aS aT aN).1).qp).length) rc16) 22 1 ((((qx aS aT aN).1).qp).length) rx19, .row (.slice ra17 ((((qx aS aT aN).1).ql).length) rc18) 2 1 ((((qx aS aT aN).1).ql).length) ((((qx aS aT aN).1).ql).map (Value.int .i64)), .box b3 [.slice vV aT.qh.length vU, .slice jG aT.qp.length jE, .slice vk aT.ql.length vg] 39, .box b1 [.int .i64 aS.qI, .slice zW aS.qf.length zV, .slice ji aS.qg.length jh] 25] [isF true jk (.slice yI aT.qh.length yF) (mrk aT.qh (1 + (cnt aS.qf : Nat) + (cnt aS.qg : Nat))), isF true jO (.slice Qv aT.qp.length Qu) (mrk aT.qp (1 + (cnt aS.qf : Nat) + (cnt aS.qg : Nat) + (cnt aT.qh : Nat))), isF true vS (.slice jU aT.ql.length jS) (mrk aT.ql (1 + (cnt aS.qf : Nat) + (cnt aS.qg : Nat) + (cnt aT.qh : Nat) + (cnt aT.qp : Nat))), isF true zY (.slice jC aS.qf.length jB) (mrk aS.qf (1)), isF true je (.slice yJ aS.qg.length yG) (mrk aS.qg (1 + (cnt aS.qf : Nat))), isF true yM (.slice a165Alive aT.qh.length c165Alive) aT.qh, isF true Qw (.slice a165Bags aT.qp.length c165Bags) aT.qp, isF true jV (.slice a165Around aT.ql.length c165Around) aT.ql, isF true jq (.slice a155Parents aS.qf.length c155Parents) aS.qf, isF true yB (.slice a155Rules aS.qg.length c155Rules) aS.qg, jl true rF115aBags rx115aBags (((qx aS aT aN).1).qp), jl true rF20 rx19 (((qx aS aT aN).1).qp), isF false yK (.slice zW aS.qf.length zV) aS.qf, isF false Q7 (.slice ji aS.qg.length jh) aS.qg, isF false QL (.slice vV aT.qh.length vU) aT.qh, isF false Xu (.slice jG aT.qp.length jE) aT.qp, isF false yU (.slice vk aT.ql.length vg) aT.ql] := H.chgFacts (Fs := [jk, jO, vS]) (L := [zY, je, yM, Qw, jV, jq, yB, rF115aBags, rF20]) (A := [yK, Q7, QL, Xu, yU]) N173 A (x175.mono (by intro z hz; simpa using hz)) [8, 9, 10] [isF true jk (.slice yI aT.qh.length yF) (mrk aT.qh (1 + (cnt aS.qf : Nat) + (cnt aS.qg : Nat))), isF true jO (.slice Qv aT.qp.length Qu) (mrk aT.qp (1 + (cnt aS.qf : Nat) + (cnt aS.qg : Nat) + (cnt aT.qh : Nat))), isF true vS (.slice jU aT.ql.length jS) (mrk aT.ql (1 + (cnt aS.qf : Nat) + (cnt aS.qg : Nat) + (cnt aT.qh : Nat) + (cnt aT.qp : Nat)))] (all_of ⟨m176.1, ⟨m176.2.1, ⟨m176.2.2, trivial⟩⟩⟩) [0, 1, 2, 3, 4, 5, 6, 7, 11, 12, 13, 14, 15, 16] [0, 1, 2, 3, 4, 5, 6, 7, 8, 9, 10, 11, 12, 13]
   replace N := N173
   refine sp (.int .i64 (1 + (cnt aS.qf : Nat) + (cnt aS.qg : Nat) + (cnt aT.qh : Nat) + (cnt aT.qp : Nat) + (cnt aT.ql : Nat))) ?_
   refine qA (t_n (qo (qo (qB ?_))))
   refine sps [.int .i64 (1 + (cnt aS.qf : Nat) + (cnt aS.qg : Nat) + (cnt aT.qh : Nat) + (cnt aT.qp : Nat) + (cnt aT.ql : Nat)), .bool (decide ((1 + (cnt aS.qf : Nat) + (cnt aS.qg : Nat) + (cnt aT.qh : Nat) + (cnt aT.qp : Nat) + (cnt aT.ql : Nat) : Int) < 0)), .bool (decide ((1 + (cnt aS.qf : Nat) + (cnt aS.qg : Nat) + (cnt aT.qh : Nat) + (cnt aT.qp : Nat) + (cnt aT.ql : Nat) : Int) < 0))] ?_
   cases h177 : (decide ((1 + (cnt aS.qf : Nat) + (cnt aS.qg : Nat) + (cnt aT.qh : Nat) + (cnt aT.qp : Nat) + (cnt aT.ql : Nat) : Int) < 0))
   ·skip
    replace h177 := of_decide_eq_false h177
    refine qU 86 rfl rfl ?_
    refine sw (zu [.slice ra115aAlive ((((qx aS aT aN).1).qh).length) rc115aAlive, .slice ra115aBags ((((qx aS aT aN).1).qp).length) rc115aBags, .slice ra115aAround ((((qx aS aT aN).1).ql).length) rc115aAround] Try.isAgg41 Try.sizeOf41 rfl (qH (H.cells 0 rfl) 0 3) ?_)
    refine qU 86 rfl rfl ?_
    refine sw (zu [.slice ra13 ((((qx aS aT aN).1).qh).length) rc14, .slice ra15 ((((qx aS aT aN).1).qp).length) rc16, .slice ra17 ((((qx aS aT aN).1).ql).length) rc18] Try.isAgg41 Try.sizeOf41 rfl (qH (H.cells 6 rfl) 0 3) ?_)
    refine qU 86 rfl rfl ?_
    obtain ⟨G178, hn179, h180⟩ := H.rowIsB 1 rfl
    obtain ⟨G181, hn182, h183⟩ := H.rowIsR (α := List Int) 2 rfl 10 rfl (by decide)
    obtain ⟨G184, hn185, h186⟩ := H.XE 3 rfl
    obtain ⟨G187, hn188, h189⟩ := H.rowIsB 7 rfl
    obtain ⟨G190, hn191, h192⟩ := H.rowIsR (α := List Int) 8 rfl 11 rfl (by decide)
    obtain ⟨G193, hn194, h195⟩ := H.XE 9 rfl
    refine sw (xf #[.agg #[.slice ra115aAlive ((((qx aS aT aN).1).qh).length) rc115aAlive, .slice ra115aBags ((((qx aS aT aN).1).qp).length) rc115aBags, .slice ra115aAround ((((qx aS aT aN).1).ql).length) rc115aAround], .agg #[.slice ra13 ((((qx aS aT aN).1).qh).length) rc14, .slice ra15 ((((qx aS aT aN).1).qp).length) rc16, .slice ra17 ((((qx aS aT aN).1).ql).length) rc18]] rfl rfl Try.call17 (eqState_ok w174 ((qx aS aT aN).1) ((qx aS aT aN).1) ra115aAlive rc115aAlive G178 ra115aBags rc115aBags G181 ra115aAround rc115aAround G184 ra13 rc14 G187 ra15 rc16 G190 ra17 rc18 G193 h180 h183 h186 h189 h192 h195) ?_)
    rintro _ w196 rfl x197
    replace H := H.ext x197
    refine qU 86 rfl rfl ?_
    refine sps [.bool (!(decide (((qx aS aT aN).1) = ((qx aS aT aN).1)))), .bool (!(decide (((qx aS aT aN).1) = ((qx aS aT aN).1)))), .bool (!(decide (((qx aS aT aN).1) = ((qx aS aT aN).1))))] ?_
    cases h198 : (!(decide (((qx aS aT aN).1) = ((qx aS aT aN).1))))
    ·skip
     replace h198 := qY h198
     refine qU 92 rfl rfl ?_
     refine sp (.int .i64 ((qx aS aT aN).2.1)) ?_
     refine qU 92 rfl rfl ?_
     refine sp (.int .i64 ((qx aS aT aN).2.1)) ?_
     refine qU 92 rfl rfl ?_
     refine sps [.bool (((qx aS aT aN).2.1 : Int) != ((qx aS aT aN).2.1)), .bool (((qx aS aT aN).2.1 : Int) != ((qx aS aT aN).2.1)), .bool (((qx aS aT aN).2.1 : Int) != ((qx aS aT aN).2.1))] ?_
     cases h199 : (((qx aS aT aN).2.1 : Int) != ((qx aS aT aN).2.1))
     ·skip
      replace h199 := xP h199
      refine qU 97 rfl rfl ?_
      refine sp (.int .i64 ((qx aS aT aN).2.2)) ?_
      refine qU 97 rfl rfl ?_
      refine sp (.int .i64 ((qx aS aT aN).2.2)) ?_
      refine qU 97 rfl rfl ?_
      refine sps [.bool (((qx aS aT aN).2.2 : Int) != ((qx aS aT aN).2.2)), .bool (((qx aS aT aN).2.2 : Int) != ((qx aS aT aN).2.2))] ?_
      refine qA (t_n ?_)
      refine qX (((qx aS aT aN).2.2 : Int) != ((qx aS aT aN).2.2)) rfl (fun h => absurd rfl (bne_iff_ne.1 h)) (fun h200 => ?_)
      replace h200 := xP h200
      refine xy (t_n (qo (qB ?_)))
      refine sp (.int .i64 1) ?_
      refine qA (t_n (qo (qB ?_)))
      refine sw (zu [.slice ra115aAlive ((((qx aS aT aN).1).qh).length) rc115aAlive, .slice ra115aBags ((((qx aS aT aN).1).qp).length) rc115aBags, .slice ra115aAround ((((qx aS aT aN).1).ql).length) rc115aAround] Try.isAgg41 Try.sizeOf41 rfl (qH (H.cells 0 rfl) 0 3) ?_)
      refine sp (.int .i64 1) ?_
      obtain ⟨G201, N, hn202, H⟩ := H.freezeB 1 rfl N (H.Vb [0, 1, 2, 3, 4, 5, 6, 7, 8, 9, 10, 11])
      try dsimp only [List.set] at H
      have H0 := H
      obtain ⟨G203, hg205, hn204, H⟩ := H.freezeR (α := List Int) 2 rfl 11 rfl (by decide)
      replace N : Fresh w.heap.size [G203, G201, jk, jO, vS, zY, je, yM, Qw, jV, jq, yB, rF20] := Fresh.ice (N.pick [11, 0, 1, 2, 3, 4, 5, 6, 7, 8, 9, 10, 12]) H0 2 hg205.1 hg205.2 (H0.Vb [0, 1, 2, 3, 4, 5, 6, 7, 8, 9, 10, 12])
      clear H0
      try dsimp only [List.set] at H
      obtain ⟨G206, N, hn207, H⟩ := H.yN 3 rfl N (H.Vb [0, 1, 2, 3, 4, 5, 6, 7, 8, 9, 10, 11, 13])
      try dsimp only [List.set] at H
      have N208 : Fresh w.heap.size [G201, G203, G206, jk, jO, vS, zY, je, yM, Qw, jV, jq, yB, rF20] := (N.pick [2, 1, 0, 3, 4, 5, 6, 7, 8, 9, 10, 11, 12, 13])
      refine sw (X9 #[.agg #[.slice ra115aAlive ((((qx aS aT aN).1).qh).length) rc115aAlive, .slice ra115aBags ((((qx aS aT aN).1).qp).length) rc115aBags, .slice ra115aAround ((((qx aS aT aN).1).ql).length) rc115aAround], .int .i64 1] rfl rfl Try.call19 (markState_ok w196 ((qx aS aT aN).1) 1 ra115aAlive rc115aAlive G201 ra115aBags rc115aBags G203 ra115aAround rc115aAround G206 (H.get 2 rfl).1 (H.get 1 rfl).1 (H.get 0 rfl).1 (N208.pick [0, 1, 2] : Fresh _ [G201, G203, G206]).join.join.one.2 ((((H.get 2 rfl).2 rfl).app ((H.get 1 rfl).2 rfl)).app ((H.get 0 rfl).2 rfl)) (by omega) (by omega)) ?_)
      rintro _ w209 ⟨rfl, m211⟩ x210
      replace H : St _ _ [.box b123 [.slice ra115aAlive ((((qx aS aT aN).1).qh).length) rc115aAlive, .slice ra115aBags ((((qx aS aT aN).1).qp).length) rc115aBags, .slice ra115aAround ((((qx aS aT aN).1).ql).length) rc115aAround] 41, .row (.slice none 0 0) 0 1 0 [], .row (.slice none 0 0) 0 1 0 [], .row (.slice none 0 0) 0 1 0 [], .box b112 [.slice yI aT.qh.length yF, .slice Qv aT.qp.length Qu, .slice jU aT.ql.length jS] 41, .box b103 [.int .i64 aS.qI, .slice jC aS.qf.length jB, .slice yJ aS.qg.length yG] 30, .box b12 [.slice ra13 ((((qx aS aT aN).1).qh).length) rc14, .slice ra15 ((((qx aS aT aN).1).qp).length) rc16, .slice ra17 ((((qx aS aT aN).1).ql).length) rc18] 41, .row (.slice ra13 ((((qx aS aT aN).1).qh).length) rc14) 4 1 ((((qx aS aT aN).1).qh).length) ((((qx aS aT aN).1).qh).map (Value.bool)), .row (.slice ra15 ((((qx aS aT aN).1).qp).length) rc16) 22 1 ((((qx aS aT aN).1).qp).length) rx19, .row (.slice ra17 ((((qx aS aT aN).1).ql).length) rc18) 2 1 ((((qx aS aT aN).1).ql).length) ((((qx aS aT aN).1).ql).map (Value.int .i64)), .box b3 [.slice vV aT.qh.length vU, .slice jG aT.qp.length jE, .slice vk aT.ql.length vg] 39, .box b1 [.int .i64 aS.qI, .slice zW aS.qf.length zV, .slice ji aS.qg.length jh] 25] [isF true G201 (.slice ra115aAlive ((((qx aS aT aN).1).qh).length) rc115aAlive) (mrk (((qx aS aT aN).1).qh) (1)), isF true G203 (.slice ra115aBags ((((qx aS aT aN).1).qp).length) rc115aBags) (mrk (((qx aS aT aN).1).qp) (1 + (cnt (((qx aS aT aN).1).qh) : Nat))), isF true G206 (.slice ra115aAround ((((qx aS aT aN).1).ql).length) rc115aAround) (mrk (((qx aS aT aN).1).ql) (1 + (cnt (((qx aS aT aN).1).qh) : Nat) + (cnt (((qx aS aT aN).1).qp) : Nat))), isF true jk (.slice yI aT.qh.length yF) (mrk aT.qh (1 + (cnt aS.qf : Nat) + (cnt aS.qg : Nat))), isF true jO (.slice Qv aT.qp.length Qu) (mrk aT.qp (1 + (cnt aS.qf : Nat) + (cnt aS.qg : Nat) + (cnt aT.qh : Nat))), isF true vS (.slice jU aT.ql.length jS) (mrk aT.ql (1 + (cnt aS.qf : Nat) + (cnt aS.qg : Nat) + (cnt aT.qh : Nat) + (cnt aT.qp : Nat))), isF true zY (.slice jC aS.qf.length jB) (mrk aS.qf (1)), isF true je (.slice yJ aS.qg.length yG) (mrk aS.qg (1 + (cnt aS.qf : Nat))), isF true yM (.slice a165Alive aT.qh.length c165Alive) aT.qh, isF true Qw (.slice a165Bags aT.qp.length c165Bags) aT.qp, isF true jV (.slice a165Around aT.ql.length c165Around) aT.ql, isF true jq (.slice a155Parents aS.qf.length c155Parents) aS.qf, isF true yB (.slice a155Rules aS.qg.length c155Rules) aS.qg, jl true rF20 rx19 (((qx aS aT aN).1).qp), isF false yK (.slice zW aS.qf.length zV) aS.qf, isF false Q7 (.slice ji aS.qg.length jh) aS.qg, isF false QL (.slice vV aT.qh.length vU) aT.qh, isF false Xu (.slice jG aT.qp.length jE) aT.qp, isF false yU (.slice vk aT.ql.length vg) aT.ql] := H.chgFacts (Fs := [G201, G203, G206]) (L := [jk, jO, vS, zY, je, yM, Qw, jV, jq, yB, rF20]) (A := [yK, Q7, QL, Xu, yU]) N208 A (x210.mono (by intro z hz; simpa using hz)) [2, 1, 0] [isF true G201 (.slice ra115aAlive ((((qx aS aT aN).1).qh).length) rc115aAlive) (mrk (((qx aS aT aN).1).qh) (1)), isF true G203 (.slice ra115aBags ((((qx aS aT aN).1).qp).length) rc115aBags) (mrk (((qx aS aT aN).1).qp) (1 + (cnt (((qx aS aT aN).1).qh) : Nat))), isF true G206 (.slice ra115aAround ((((qx aS aT aN).1).ql).length) rc115aAround) (mrk (((qx aS aT aN).1).ql) (1 + (cnt (((qx aS aT aN).1).qh) : Nat) + (cnt (((qx aS aT aN).1).qp) : Nat)))] (all_of ⟨m211.1, ⟨m211.2.1, ⟨m211.2.2, trivial⟩⟩⟩) [3, 4, 5, 6, 7, 8, 9, 10, 11, 12, 14, 15, 16, 17, 18, 19] [0, 1, 2, 3, 4, 5, 6, 7, 8, 9, 10, 11, 12, 13, 14, 15]
      replace N := N208
      refine sp (.int .i64 (1 + (cnt (((qx aS aT aN).1).qh) : Nat) + (cnt (((qx aS aT aN).1).qp) : Nat) + (cnt (((qx aS aT aN).1).ql) : Nat))) ?_
      refine qA (t_n (qo (qB ?_)))
      refine sp (.int .i64 1) ?_
      refine qA (t_n (qo (qB ?_)))
      refine sw (zu [.slice ra115aAlive ((((qx aS aT aN).1).qh).length) rc115aAlive, .slice ra115aBags ((((qx aS aT aN).1).qp).length) rc115aBags, .slice ra115aAround ((((qx aS aT aN).1).ql).length) rc115aAround] Try.isAgg41 Try.sizeOf41 rfl (qH (H.cells 0 rfl) 0 3) ?_)
      refine sp (.int .i64 1) ?_
      have hn212 := H.isLen 0 rfl
      have hn213 := H.isLen 1 rfl
      have hn214 := H.isLen 2 rfl
      refine sw (xf #[.agg #[.slice ra115aAlive ((((qx aS aT aN).1).qh).length) rc115aAlive, .slice ra115aBags ((((qx aS aT aN).1).qp).length) rc115aBags, .slice ra115aAround ((((qx aS aT aN).1).ql).length) rc115aAround], .int .i64 1] rfl rfl Try.call20 (args_eq (by rw [← hn212, ← hn213, ← hn214]) (heldState_ok w209 (⟨(mrk (((qx aS aT aN).1).qh) (1)), (mrk (((qx aS aT aN).1).qp) (1 + (cnt (((qx aS aT aN).1).qh) : Nat))), (mrk (((qx aS aT aN).1).ql) (1 + (cnt (((qx aS aT aN).1).qh) : Nat) + (cnt (((qx aS aT aN).1).qp) : Nat)))⟩ : qQ) 1 ra115aAlive rc115aAlive G201 ra115aBags rc115aBags G203 ra115aAround rc115aAround G206 (hn212 ▸ (H.get 0 rfl).1) (hn213 ▸ (H.get 1 rfl).1) (hn214 ▸ (H.get 2 rfl).1) (by first | exact mkd_mark _ _ | omega | (simp only [cnt_mark]; first | exact mkd_mark _ _ | omega)) (by first | exact mkd_mark _ _ | omega | (simp only [cnt_mark]; first | exact mkd_mark _ _ | omega)) (by first | exact mkd_mark _ _ | omega | (simp only [cnt_mark]; first | exact mkd_mark _ _ | omega)) (by first | exact mkd_mark _ _ | omega | (simp only [cnt_mark]; first | exact mkd_mark _ _ | omega)) (by first | exact mkd_mark _ _ | omega | (simp only [cnt_mark]; first | exact mkd_mark _ _ | omega)))) ?_)
      rintro _ w215 rfl x216
      replace H := H.ext x216
      refine sp (.int .i64 (1 + (cnt (⟨(mrk (((qx aS aT aN).1).qh) (1)), (mrk (((qx aS aT aN).1).qp) (1 + (cnt (((qx aS aT aN).1).qh) : Nat))), (mrk (((qx aS aT aN).1).ql) (1 + (cnt (((qx aS aT aN).1).qh) : Nat) + (cnt (((qx aS aT aN).1).qp) : Nat)))⟩ : qQ).qh : Nat) + (cnt (⟨(mrk (((qx aS aT aN).1).qh) (1)), (mrk (((qx aS aT aN).1).qp) (1 + (cnt (((qx aS aT aN).1).qh) : Nat))), (mrk (((qx aS aT aN).1).ql) (1 + (cnt (((qx aS aT aN).1).qh) : Nat) + (cnt (((qx aS aT aN).1).qp) : Nat)))⟩ : qQ).qp : Nat) + (cnt (⟨(mrk (((qx aS aT aN).1).qh) (1)), (mrk (((qx aS aT aN).1).qp) (1 + (cnt (((qx aS aT aN).1).qh) : Nat))), (mrk (((qx aS aT aN).1).ql) (1 + (cnt (((qx aS aT aN).1).qh) : Nat) + (cnt (((qx aS aT aN).1).qp) : Nat)))⟩ : qQ).ql : Nat))) ?_
      refine qA (t_n (qo (qo (qB ?_))))
      refine sps [.int .i64 (1 + (cnt (⟨(mrk (((qx aS aT aN).1).qh) (1)), (mrk (((qx aS aT aN).1).qp) (1 + (cnt (((qx aS aT aN).1).qh) : Nat))), (mrk (((qx aS aT aN).1).ql) (1 + (cnt (((qx aS aT aN).1).qh) : Nat) + (cnt (((qx aS aT aN).1).qp) : Nat)))⟩ : qQ).qh : Nat) + (cnt (⟨(mrk (((qx aS aT aN).1).qh) (1)), (mrk (((qx aS aT aN).1).qp) (1 + (cnt (((qx aS aT aN).1).qh) : Nat))), (mrk (((qx aS aT aN).1).ql) (1 + (cnt (((qx aS aT aN).1).qh) : Nat) + (cnt (((qx aS aT aN).1).qp) : Nat)))⟩ : qQ).qp : Nat) + (cnt (⟨(mrk (((qx aS aT aN).1).qh) (1)), (mrk (((qx aS aT aN).1).qp) (1 + (cnt (((qx aS aT aN).1).qh) : Nat))), (mrk (((qx aS aT aN).1).ql) (1 + (cnt (((qx aS aT aN).1).qh) : Nat) + (cnt (((qx aS aT aN).1).qp) : Nat)))⟩ : qQ).ql : Nat)), .bool (decide ((1 + (cnt (⟨(mrk (((qx aS aT aN).1).qh) (1)), (mrk (((qx aS aT aN).1).qp) (1 + (cnt (((qx aS aT aN).1).qh) : Nat))), (mrk (((qx aS aT aN).1).ql) (1 + (cnt (((qx aS aT aN).1).qh) : Nat) + (cnt (((qx aS aT aN).1).qp) : Nat)))⟩ : qQ).qh : Nat) + (cnt (⟨(mrk (((qx aS aT aN).1).qh) (1)), (mrk (((qx aS aT aN).1).qp) (1 + (cnt (((qx aS aT aN).1).qh) : Nat))), (mrk (((qx aS aT aN).1).ql) (1 + (cnt (((qx aS aT aN).1).qh) : Nat) + (cnt (((qx aS aT aN).1).qp) : Nat)))⟩ : qQ).qp : Nat) + (cnt (⟨(mrk (((qx aS aT aN).1).qh) (1)), (mrk (((qx aS aT aN).1).qp) (1 + (cnt (((qx aS aT aN).1).qh) : Nat))), (mrk (((qx aS aT aN).1).ql) (1 + (cnt (((qx aS aT aN).1).qh) : Nat) + (cnt (((qx aS aT aN).1).qp) : Nat)))⟩ : qQ).ql : Nat) : Int) < 0))] ?_
      refine qA (t_n ?_)
      refine qX (decide ((1 + (cnt (⟨(mrk (((qx aS aT aN).1).qh) (1)), (mrk (((qx aS aT aN).1).qp) (1 + (cnt (((qx aS aT aN).1).qh) : Nat))), (mrk (((qx aS aT aN).1).ql) (1 + (cnt (((qx aS aT aN).1).qh) : Nat) + (cnt (((qx aS aT aN).1).qp) : Nat)))⟩ : qQ).qh : Nat) + (cnt (⟨(mrk (((qx aS aT aN).1).qh) (1)), (mrk (((qx aS aT aN).1).qp) (1 + (cnt (((qx aS aT aN).1).qh) : Nat))), (mrk (((qx aS aT aN).1).ql) (1 + (cnt (((qx aS aT aN).1).qh) : Nat) + (cnt (((qx aS aT aN).1).qp) : Nat)))⟩ : qQ).qp : Nat) + (cnt (⟨(mrk (((qx aS aT aN).1).qh) (1)), (mrk (((qx aS aT aN).1).qp) (1 + (cnt (((qx aS aT aN).1).qh) : Nat))), (mrk (((qx aS aT aN).1).ql) (1 + (cnt (((qx aS aT aN).1).qh) : Nat) + (cnt (((qx aS aT aN).1).qp) : Nat)))⟩ : qQ).ql : Nat) : Int) < 0)) rfl (fun h217 => ?_) (fun h217 => ?_)
      ·skip
       replace h217 := of_decide_eq_true h217
       refine qo (qB ?_)
       refine sp (.bool false) ?_
       refine qA (t_n (xE (t_r ?_)))
       refine ret1 (.bool false) rfl rfl ⟨_, rfl, ?_, H.base⟩
       exfalso; first | omega
      replace h217 := of_decide_eq_false h217
      refine xy (t_n (qo (qo (qB ?_))))
      refine sps [.int .i64 (1 + (cnt (⟨(mrk (((qx aS aT aN).1).qh) (1)), (mrk (((qx aS aT aN).1).qp) (1 + (cnt (((qx aS aT aN).1).qh) : Nat))), (mrk (((qx aS aT aN).1).ql) (1 + (cnt (((qx aS aT aN).1).qh) : Nat) + (cnt (((qx aS aT aN).1).qp) : Nat)))⟩ : qQ).qh : Nat) + (cnt (⟨(mrk (((qx aS aT aN).1).qh) (1)), (mrk (((qx aS aT aN).1).qp) (1 + (cnt (((qx aS aT aN).1).qh) : Nat))), (mrk (((qx aS aT aN).1).ql) (1 + (cnt (((qx aS aT aN).1).qh) : Nat) + (cnt (((qx aS aT aN).1).qp) : Nat)))⟩ : qQ).qp : Nat) + (cnt (⟨(mrk (((qx aS aT aN).1).qh) (1)), (mrk (((qx aS aT aN).1).qp) (1 + (cnt (((qx aS aT aN).1).qh) : Nat))), (mrk (((qx aS aT aN).1).ql) (1 + (cnt (((qx aS aT aN).1).qh) : Nat) + (cnt (((qx aS aT aN).1).qp) : Nat)))⟩ : qQ).ql : Nat)), .int .i64 (1 + (cnt (((qx aS aT aN).1).qh) : Nat) + (cnt (((qx aS aT aN).1).qp) : Nat) + (cnt (((qx aS aT aN).1).ql) : Nat)), .bool ((1 + (cnt (⟨(mrk (((qx aS aT aN).1).qh) (1)), (mrk (((qx aS aT aN).1).qp) (1 + (cnt (((qx aS aT aN).1).qh) : Nat))), (mrk (((qx aS aT aN).1).ql) (1 + (cnt (((qx aS aT aN).1).qh) : Nat) + (cnt (((qx aS aT aN).1).qp) : Nat)))⟩ : qQ).qh : Nat) + (cnt (⟨(mrk (((qx aS aT aN).1).qh) (1)), (mrk (((qx aS aT aN).1).qp) (1 + (cnt (((qx aS aT aN).1).qh) : Nat))), (mrk (((qx aS aT aN).1).ql) (1 + (cnt (((qx aS aT aN).1).qh) : Nat) + (cnt (((qx aS aT aN).1).qp) : Nat)))⟩ : qQ).qp : Nat) + (cnt (⟨(mrk (((qx aS aT aN).1).qh) (1)), (mrk (((qx aS aT aN).1).qp) (1 + (cnt (((qx aS aT aN).1).qh) : Nat))), (mrk (((qx aS aT aN).1).ql) (1 + (cnt (((qx aS aT aN).1).qh) : Nat) + (cnt (((qx aS aT aN).1).qp) : Nat)))⟩ : qQ).ql : Nat) : Int) != (1 + (cnt (((qx aS aT aN).1).qh) : Nat) + (cnt (((qx aS aT aN).1).qp) : Nat) + (cnt (((qx aS aT aN).1).ql) : Nat)))] ?_
      refine qA (t_n ?_)
      refine qX ((1 + (cnt (⟨(mrk (((qx aS aT aN).1).qh) (1)), (mrk (((qx aS aT aN).1).qp) (1 + (cnt (((qx aS aT aN).1).qh) : Nat))), (mrk (((qx aS aT aN).1).ql) (1 + (cnt (((qx aS aT aN).1).qh) : Nat) + (cnt (((qx aS aT aN).1).qp) : Nat)))⟩ : qQ).qh : Nat) + (cnt (⟨(mrk (((qx aS aT aN).1).qh) (1)), (mrk (((qx aS aT aN).1).qp) (1 + (cnt (((qx aS aT aN).1).qh) : Nat))), (mrk (((qx aS aT aN).1).ql) (1 + (cnt (((qx aS aT aN).1).qh) : Nat) + (cnt (((qx aS aT aN).1).qp) : Nat)))⟩ : qQ).qp : Nat) + (cnt (⟨(mrk (((qx aS aT aN).1).qh) (1)), (mrk (((qx aS aT aN).1).qp) (1 + (cnt (((qx aS aT aN).1).qh) : Nat))), (mrk (((qx aS aT aN).1).ql) (1 + (cnt (((qx aS aT aN).1).qh) : Nat) + (cnt (((qx aS aT aN).1).qp) : Nat)))⟩ : qQ).ql : Nat) : Int) != (1 + (cnt (((qx aS aT aN).1).qh) : Nat) + (cnt (((qx aS aT aN).1).qp) : Nat) + (cnt (((qx aS aT aN).1).ql) : Nat))) rfl (fun h218 => ?_) (fun h218 => ?_)
      ·skip
       replace h218 := bne_iff_ne.1 h218
       refine qo (qB ?_)
       refine sp (.bool false) ?_
       refine qA (t_n (xE (t_r ?_)))
       refine ret1 (.bool false) rfl rfl ⟨_, rfl, ?_, H.base⟩
       exfalso; first | omega | exact h218 (by simp only [cnt_mark])
      replace h218 := xP h218
      refine xy (t_n (qo ?_))
      refine c_cut (fun ρ w219 => ∃ (junk : Env) (b220 : Nat) (ra221 : Option Addr) (rc222 : Nat) (ra223 : Option Addr) (rc224 : Nat) (ra225 : Option Addr) (rc226 : Nat) (rx227 : List Value) (rF228 : List Nat), ρ = upd (upd (upd (upd (upd (upd (upd (upd junk 8 (pp b12 0)) 9 (.int .i64 ((qx aS aT aN).2.1))) 10 (.int .i64 ((qx aS aT aN).2.2))) 13 (pp b123 0)) 17 (.int .i64 (1 + (cnt (((qx aS aT aN).1).qh) : Nat) + (cnt (((qx aS aT aN).1).qp) : Nat) + (cnt (((qx aS aT aN).1).ql) : Nat)))) 19 (pp b220 0)) 20 (.int .i64 ((qx aS aT aN).2.1))) 21 (.int .i64 ((qx aS aT aN).2.2)) ∧ Fresh w.heap.size [rF228, G201, G203, G206, jk, jO, vS, zY, je, rF20] ∧ St w w219 [.box b220 [.slice ra221 ((((qx aS aT aN).1).qh).length) rc222, .slice ra223 ((((qx aS aT aN).1).qp).length) rc224, .slice ra225 ((((qx aS aT aN).1).ql).length) rc226] 41, .row (.slice ra221 ((((qx aS aT aN).1).qh).length) rc222) 4 1 ((((qx aS aT aN).1).qh).length) ((((qx aS aT aN).1).qh).map (Value.bool)), .row (.slice ra223 ((((qx aS aT aN).1).qp).length) rc224) 22 1 ((((qx aS aT aN).1).qp).length) rx227, .row (.slice ra225 ((((qx aS aT aN).1).ql).length) rc226) 2 1 ((((qx aS aT aN).1).ql).length) ((((qx aS aT aN).1).ql).map (Value.int .i64)), .box b123 [.slice ra115aAlive ((((qx aS aT aN).1).qh).length) rc115aAlive, .slice ra115aBags ((((qx aS aT aN).1).qp).length) rc115aBags, .slice ra115aAround ((((qx aS aT aN).1).ql).length) rc115aAround] 41, .row (.slice none 0 0) 0 1 0 [], .row (.slice none 0 0) 0 1 0 [], .row (.slice none 0 0) 0 1 0 [], .box b112 [.slice yI aT.qh.length yF, .slice Qv aT.qp.length Qu, .slice jU aT.ql.length jS] 41, .box b103 [.int .i64 aS.qI, .slice jC aS.qf.length jB, .slice yJ aS.qg.length yG] 30, .box b12 [.slice ra13 ((((qx aS aT aN).1).qh).length) rc14, .slice ra15 ((((qx aS aT aN).1).qp).length) rc16, .slice ra17 ((((qx aS aT aN).1).ql).length) rc18] 41, .row (.slice ra13 ((((qx aS aT aN).1).qh).length) rc14) 4 1 ((((qx aS aT aN).1).qh).length) ((((qx aS aT aN).1).qh).map (Value.bool)), .row (.slice ra15 ((((qx aS aT aN).1).qp).length) rc16) 22 1 ((((qx aS aT aN).1).qp).length) rx19, .row (.slice ra17 ((((qx aS aT aN).1).ql).length) rc18) 2 1 ((((qx aS aT aN).1).ql).length) ((((qx aS aT aN).1).ql).map (Value.int .i64)), .box b3 [.slice vV aT.qh.length vU, .slice jG aT.qp.length jE, .slice vk aT.ql.length vg] 39, .box b1 [.int .i64 aS.qI, .slice zW aS.qf.length zV, .slice ji aS.qg.length jh] 25] [jl true rF228 rx227 (((qx aS aT aN).1).qp), isF true G201 (.slice ra115aAlive ((((qx aS aT aN).1).qh).length) rc115aAlive) (mrk (((qx aS aT aN).1).qh) (1)), isF true G203 (.slice ra115aBags ((((qx aS aT aN).1).qp).length) rc115aBags) (mrk (((qx aS aT aN).1).qp) (1 + (cnt (((qx aS aT aN).1).qh) : Nat))), isF true G206 (.slice ra115aAround ((((qx aS aT aN).1).ql).length) rc115aAround) (mrk (((qx aS aT aN).1).ql) (1 + (cnt (((qx aS aT aN).1).qh) : Nat) + (cnt (((qx aS aT aN).1).qp) : Nat))), isF true jk (.slice yI aT.qh.length yF) (mrk aT.qh (1 + (cnt aS.qf : Nat) + (cnt aS.qg : Nat))), isF true jO (.slice Qv aT.qp.length Qu) (mrk aT.qp (1 + (cnt aS.qf : Nat) + (cnt aS.qg : Nat) + (cnt aT.qh : Nat))), isF true vS (.slice jU aT.ql.length jS) (mrk aT.ql (1 + (cnt aS.qf : Nat) + (cnt aS.qg : Nat) + (cnt aT.qh : Nat) + (cnt aT.qp : Nat))), isF true zY (.slice jC aS.qf.length jB) (mrk aS.qf (1)), isF true je (.slice yJ aS.qg.length yG) (mrk aS.qg (1 + (cnt aS.qf : Nat))), jl true rF20 rx19 (((qx aS aT aN).1).qp), isF false yK (.slice zW aS.qf.length zV) aS.qf, isF false Q7 (.slice ji aS.qg.length jh) aS.qg, isF false QL (.slice vV aT.qh.length vU) aT.qh, isF false Xu (.slice jG aT.qp.length jE) aT.qp, isF false yU (.slice vk aT.ql.length vg) aT.ql]) ?_ ?_
      ·skip
       refine yg rfl H fun H => ?_
       refine rt 0 (.agg #[.int .i64 aS.qI, .slice zW aS.qf.length zV, .slice ji aS.qg.length jh]) (yV (cs := [.int .i64 aS.qI, .slice zW aS.qf.length zV, .slice ji aS.qg.length jh]) Try.isAgg25 Try.sizeOf25 rfl (fun _ h => qH (h.cells 11 rfl) 0 3)) H ?_
       refine rt 2 (.agg #[.slice vV aT.qh.length vU, .slice jG aT.qp.length jE, .slice vk aT.ql.length vg]) (yV (cs := [.slice vV aT.qh.length vU, .slice jG aT.qp.length jE, .slice vk aT.ql.length vg]) Try.isAgg39 Try.sizeOf39 rfl (fun _ h => qH (h.cells 10 rfl) 0 3)) H ?_
       refine rtp 4 (.int .i64 aN) H ?_
       refine xn [1, 10] (by kernel_rfl) (by simp) (zg rfl ?_ (zg rfl ?_ xq))
       ·skip
        have sz230 := H.base.size
        have lt231 := H.ltN (L := [G201, G203, G206, jk, jO, vS, zY, je, yM, Qw, jV, jq, yB, rF20]) [0, 1, 2, 3, 4, 5, 6, 7, 8, 9, 10, 11, 12, 13]
        refine xf #[.agg #[.int .i64 aS.qI, .slice zW aS.qf.length zV, .slice ji aS.qg.length jh]] rfl rfl Try.call8 (toSystem_ok w215.drew aS zW zV yK ji jh Q7 (H.get 14 rfl).1 (H.get 15 rfl).1 (by first | assumption | omega)) ?_
        rintro v235 w233 r235 x234
        obtain ⟨a235Parents, c235Parents, XN, a235Rules, c235Rules, F235Rules, rfl, f235, H⟩ := H.add_SystemD x234 r235
        replace N := N.cons f235 sz230 lt231
        replace N := N.split
        refine ⟨H.pick [0, 1, 2, 3, 4, 5, 6, 7, 8, 9, 10, 11] [2, 3, 4, 5, 6, 7, 8, 9, 10, 11, 12, 13, 14, 15, 16, 17, 18, 19, 20], ?_⟩
        refine xn [3, 10] (by kernel_rfl) (by simp) (zg rfl ?_ (zg rfl ?_ xq))
        ·skip
         have sz236 := H.base.size
         have lt237 := H.ltN (L := [XN, F235Rules, G201, G203, G206, jk, jO, vS, zY, je, yM, Qw, jV, jq, yB, rF20]) [0, 1, 2, 3, 4, 5, 6, 7, 8, 9, 10, 11, 12, 13, 14, 15]
         refine xf #[.agg #[.slice vV aT.qh.length vU, .slice jG aT.qp.length jE, .slice vk aT.ql.length vg]] rfl rfl Try.call15 (Vt w233 aT vV vU QL jG jE Xu vk vg yU (H.get 18 rfl).1 (H.get 19 rfl).1 (H.get 20 rfl).1 (by first | assumption | omega)) ?_
         rintro v241 w239 r241 x240
         obtain ⟨a241Alive, c241Alive, F241Alive, a241Bags, c241Bags, F241Bags, a241Around, c241Around, F241Around, rfl, f241, H⟩ := H.VA x240 r241
         replace N := N.cons f241 sz236 lt237
         replace N := N.split
         replace N := N.split
         refine ⟨H.pick [0, 1, 2, 3, 4, 5, 6, 7, 8, 9, 10, 11] [5, 6, 7, 8, 9, 10, 11, 12, 13, 14, 15, 16, 17, 18, 19, 20, 21, 22, 23], ?_⟩
         refine xn [5, 10] (by kernel_rfl) (by simp) (zg rfl ?_ (zg rfl ?_ xq))
         ·skip
          have sz245 := H.base.size
          have lt246 := H.ltN (L := [F241Alive, F241Bags, F241Around, XN, F235Rules, G201, G203, G206, jk, jO, vS, zY, je, yM, Qw, jV, jq, yB, rF20]) [0, 1, 2, 3, 4, 5, 6, 7, 8, 9, 10, 11, 12, 13, 14, 15, 16, 17, 18]
          refine xf #[.agg #[.int .i64 aS.qI, .slice a235Parents aS.qf.length c235Parents, .slice a235Rules aS.qg.length c235Rules], .agg #[.slice a241Alive aT.qh.length c241Alive, .slice a241Bags aT.qp.length c241Bags, .slice a241Around aT.ql.length c241Around], .int .i64 aN] rfl rfl Try.call22 (implRun_ok w239 aS aT aN a235Parents c235Parents XN a235Rules c235Rules F235Rules a241Alive c241Alive F241Alive a241Bags c241Bags F241Bags a241Around c241Around F241Around (H.get 3 rfl).1 (H.get 4 rfl).1 (H.get 0 rfl).1 (H.get 1 rfl).1 (H.get 2 rfl).1) ?_
          rintro _ w243 ⟨ra242aAlive, rn242aAlive, rc242aAlive, ra242aBags, rn242aBags, rc242aBags, rx242aBags, rF242aBags, ra242aAround, rn242aAround, rc242aAround, rfl, M, K⟩ _
          replace N := N.merge sz245 lt246 M
          replace H := H.merge K M
          dsimp only [List.cons_append, List.nil_append] at H
          obtain rfl := H.QE 0 rfl
          obtain rfl := H.zx (α := List Int) 1 rfl 0 rfl (by decide)
          obtain rfl := H.QD 2 rfl
          refine ⟨H.pick [3, 4, 5, 6, 7, 8, 9, 10, 11, 12, 13, 14] [6, 7, 8, 9, 10, 11, 12, 13, 14, 15, 16, 17, 18, 19, 20, 21, 22, 23, 24], ?_⟩
          have S := H.jP [3, 4, 5, 6, 7, 8, 9, 10, 11, 12, 13, 14] [6, 7, 8, 9, 10, 11, 12, 13, 14, 15, 16, 17, 18, 19, 20, 21, 22, 23, 24]
          refine rtp 6 (.tuple #[.agg #[.slice ra242aAlive ((((qx aS aT aN).1).qh).length) rc242aAlive, .slice ra242aBags ((((qx aS aT aN).1).qp).length) rc242aBags, .slice ra242aAround ((((qx aS aT aN).1).ql).length) rc242aAround], .int .i64 ((qx aS aT aN).2.1), .int .i64 ((qx aS aT aN).2.2)]) S ?_
          refine rtp 7 (.agg #[.slice ra242aAlive ((((qx aS aT aN).1).qh).length) rc242aAlive, .slice ra242aBags ((((qx aS aT aN).1).qp).length) rc242aBags, .slice ra242aAround ((((qx aS aT aN).1).ql).length) rc242aAround]) S ?_
          refine rtp 8 (.int .i64 ((qx aS aT aN).2.1)) S ?_
          refine rtp 9 (.int .i64 ((qx aS aT aN).2.2)) S ?_
          refine xn [10] (by kernel_rfl) (by simp) (zg rfl ?_ xq)
          refine zy H ti41 [.slice none 0 0, .slice none 0 0, .slice none 0 0] fun b250 w251 H => ?_
          refine ⟨H.pick [4, 5, 6, 7, 8, 9, 10, 11, 12, 13, 14, 15] [6, 7, 8, 9, 10, 11, 12, 13, 14, 15, 16, 17, 18, 19, 20, 21, 22, 23, 24], ?_⟩
          refine xn [11] (by kernel_rfl) (by simp) (zg rfl ?_ xq)
          refine xR H 0 [.slice ra242aAlive ((((qx aS aT aN).1).qh).length) rc242aAlive, .slice ra242aBags ((((qx aS aT aN).1).qp).length) rc242aBags, .slice ra242aAround ((((qx aS aT aN).1).ql).length) rc242aAround] Try.sizeOf41 fun w252 H => ?_
          try dsimp only [List.set] at H
          refine ⟨H.pick [4, 5, 6, 7, 8, 9, 10, 11, 12, 13, 14, 15] [6, 7, 8, 9, 10, 11, 12, 13, 14, 15, 16, 17, 18, 19, 20, 21, 22, 23, 24], ?_⟩
          have S := H.jP [4, 5, 6, 7, 8, 9, 10, 11, 12, 13, 14, 15] [6, 7, 8, 9, 10, 11, 12, 13, 14, 15, 16, 17, 18, 19, 20, 21, 22, 23, 24]
          refine rtp 12 (.int .i64 ((qx aS aT aN).2.1)) S ?_
          refine rtp 13 (.int .i64 ((qx aS aT aN).2.2)) S ?_
          refine xM (by kernel_rfl) (?_)
          exact meet ⟨_, b250, ra242aAlive, rc242aAlive, ra242aBags, rc242aBags, ra242aAround, rc242aAround, rx242aBags, rF242aBags, (by exact qj (qj (qj (qj (qj (qj (qj (qj (rfl) rfl) rfl) rfl) rfl) rfl) rfl) rfl) rfl), (N.pick [0, 6, 7, 8, 9, 10, 11, 12, 13, 19]), H.pick [0, 1, 2, 3, 4, 5, 6, 7, 8, 9, 10, 11, 12, 13, 14, 15] [0, 6, 7, 8, 9, 10, 11, 12, 13, 19, 20, 21, 22, 23, 24]⟩
         refine zy H ti41 [.slice none 0 0, .slice none 0 0, .slice none 0 0] fun b253 w254 H => ?_
         refine ⟨H.pick [1, 2, 3, 4, 5, 6, 7, 8, 9, 10, 11, 12] [5, 6, 7, 8, 9, 10, 11, 12, 13, 14, 15, 16, 17, 18, 19, 20, 21, 22, 23], ?_⟩
         refine xn [5] (by kernel_rfl) (by simp) (zg rfl ?_ xq)
         have sz258 := H.base.size
         have lt259 := H.ltN (L := [F241Alive, F241Bags, F241Around, XN, F235Rules, G201, G203, G206, jk, jO, vS, zY, je, yM, Qw, jV, jq, yB, rF20]) [0, 1, 2, 3, 4, 5, 6, 7, 8, 9, 10, 11, 12, 13, 14, 15, 16, 17, 18]
         refine xf #[.agg #[.int .i64 aS.qI, .slice a235Parents aS.qf.length c235Parents, .slice a235Rules aS.qg.length c235Rules], .agg #[.slice a241Alive aT.qh.length c241Alive, .slice a241Bags aT.qp.length c241Bags, .slice a241Around aT.ql.length c241Around], .int .i64 aN] rfl rfl Try.call22 (implRun_ok w254 aS aT aN a235Parents c235Parents XN a235Rules c235Rules F235Rules a241Alive c241Alive F241Alive a241Bags c241Bags F241Bags a241Around c241Around F241Around (H.get 3 rfl).1 (H.get 4 rfl).1 (H.get 0 rfl).1 (H.get 1 rfl).1 (H.get 2 rfl).1) ?_
         rintro _ w256 ⟨ra255aAlive, rn255aAlive, rc255aAlive, ra255aBags, rn255aBags, rc255aBags, rx255aBags, rF255aBags, ra255aAround, rn255aAround, rc255aAround, rfl, M, K⟩ _
         replace N := N.merge sz258 lt259 M
         replace H := H.merge K M
         dsimp only [List.cons_append, List.nil_append] at H
         obtain rfl := H.QE 0 rfl
         obtain rfl := H.zx (α := List Int) 1 rfl 0 rfl (by decide)
         obtain rfl := H.QD 2 rfl
         refine ⟨H.pick [4, 5, 6, 7, 8, 9, 10, 11, 12, 13, 14, 15] [6, 7, 8, 9, 10, 11, 12, 13, 14, 15, 16, 17, 18, 19, 20, 21, 22, 23, 24], ?_⟩
         have S := H.jP [4, 5, 6, 7, 8, 9, 10, 11, 12, 13, 14, 15] [6, 7, 8, 9, 10, 11, 12, 13, 14, 15, 16, 17, 18, 19, 20, 21, 22, 23, 24]
         refine rtp 6 (.tuple #[.agg #[.slice ra255aAlive ((((qx aS aT aN).1).qh).length) rc255aAlive, .slice ra255aBags ((((qx aS aT aN).1).qp).length) rc255aBags, .slice ra255aAround ((((qx aS aT aN).1).ql).length) rc255aAround], .int .i64 ((qx aS aT aN).2.1), .int .i64 ((qx aS aT aN).2.2)]) S ?_
         refine rtp 7 (.agg #[.slice ra255aAlive ((((qx aS aT aN).1).qh).length) rc255aAlive, .slice ra255aBags ((((qx aS aT aN).1).qp).length) rc255aBags, .slice ra255aAround ((((qx aS aT aN).1).ql).length) rc255aAround]) S ?_
         refine rtp 8 (.int .i64 ((qx aS aT aN).2.1)) S ?_
         refine rtp 9 (.int .i64 ((qx aS aT aN).2.2)) S ?_
         refine xn [11] (by kernel_rfl) (by simp) (zg rfl ?_ xq)
         refine xR H 3 [.slice ra255aAlive ((((qx aS aT aN).1).qh).length) rc255aAlive, .slice ra255aBags ((((qx aS aT aN).1).qp).length) rc255aBags, .slice ra255aAround ((((qx aS aT aN).1).ql).length) rc255aAround] Try.sizeOf41 fun w263 H => ?_
         try dsimp only [List.set] at H
         refine ⟨H.pick [4, 5, 6, 7, 8, 9, 10, 11, 12, 13, 14, 15] [6, 7, 8, 9, 10, 11, 12, 13, 14, 15, 16, 17, 18, 19, 20, 21, 22, 23, 24], ?_⟩
         have S := H.jP [4, 5, 6, 7, 8, 9, 10, 11, 12, 13, 14, 15] [6, 7, 8, 9, 10, 11, 12, 13, 14, 15, 16, 17, 18, 19, 20, 21, 22, 23, 24]
         refine rtp 12 (.int .i64 ((qx aS aT aN).2.1)) S ?_
         refine rtp 13 (.int .i64 ((qx aS aT aN).2.2)) S ?_
         refine xM (by kernel_rfl) (?_)
         exact meet ⟨_, b253, ra255aAlive, rc255aAlive, ra255aBags, rc255aBags, ra255aAround, rc255aAround, rx255aBags, rF255aBags, (by exact qj (qj (qj (qj (qj (qj (qj (qj (rfl) rfl) rfl) rfl) rfl) rfl) rfl) rfl) rfl), (N.pick [0, 6, 7, 8, 9, 10, 11, 12, 13, 19]), H.pick [3, 0, 1, 2, 4, 5, 6, 7, 8, 9, 10, 11, 12, 13, 14, 15] [0, 6, 7, 8, 9, 10, 11, 12, 13, 19, 20, 21, 22, 23, 24]⟩
        refine zy H ti41 [.slice none 0 0, .slice none 0 0, .slice none 0 0] fun b264 w265 H => ?_
        refine ⟨H.pick [1, 2, 3, 4, 5, 6, 7, 8, 9, 10, 11, 12] [2, 3, 4, 5, 6, 7, 8, 9, 10, 11, 12, 13, 14, 15, 16, 17, 18, 19, 20], ?_⟩
        refine xn [3] (by kernel_rfl) (by simp) (zg rfl ?_ xq)
        have sz266 := H.base.size
        have lt267 := H.ltN (L := [XN, F235Rules, G201, G203, G206, jk, jO, vS, zY, je, yM, Qw, jV, jq, yB, rF20]) [0, 1, 2, 3, 4, 5, 6, 7, 8, 9, 10, 11, 12, 13, 14, 15]
        refine xf #[.agg #[.slice vV aT.qh.length vU, .slice jG aT.qp.length jE, .slice vk aT.ql.length vg]] rfl rfl Try.call15 (Vt w265 aT vV vU QL jG jE Xu vk vg yU (H.get 18 rfl).1 (H.get 19 rfl).1 (H.get 20 rfl).1 (by first | assumption | omega)) ?_
        rintro v271 w269 r271 x270
        obtain ⟨a271Alive, c271Alive, F271Alive, a271Bags, c271Bags, F271Bags, a271Around, c271Around, F271Around, rfl, f271, H⟩ := H.VA x270 r271
        replace N := N.cons f271 sz266 lt267
        replace N := N.split
        replace N := N.split
        refine ⟨H.pick [1, 2, 3, 4, 5, 6, 7, 8, 9, 10, 11, 12] [5, 6, 7, 8, 9, 10, 11, 12, 13, 14, 15, 16, 17, 18, 19, 20, 21, 22, 23], ?_⟩
        refine xn [5] (by kernel_rfl) (by simp) (zg rfl ?_ xq)
        have sz275 := H.base.size
        have lt276 := H.ltN (L := [F271Alive, F271Bags, F271Around, XN, F235Rules, G201, G203, G206, jk, jO, vS, zY, je, yM, Qw, jV, jq, yB, rF20]) [0, 1, 2, 3, 4, 5, 6, 7, 8, 9, 10, 11, 12, 13, 14, 15, 16, 17, 18]
        refine xf #[.agg #[.int .i64 aS.qI, .slice a235Parents aS.qf.length c235Parents, .slice a235Rules aS.qg.length c235Rules], .agg #[.slice a271Alive aT.qh.length c271Alive, .slice a271Bags aT.qp.length c271Bags, .slice a271Around aT.ql.length c271Around], .int .i64 aN] rfl rfl Try.call22 (implRun_ok w269 aS aT aN a235Parents c235Parents XN a235Rules c235Rules F235Rules a271Alive c271Alive F271Alive a271Bags c271Bags F271Bags a271Around c271Around F271Around (H.get 3 rfl).1 (H.get 4 rfl).1 (H.get 0 rfl).1 (H.get 1 rfl).1 (H.get 2 rfl).1) ?_
        rintro _ w273 ⟨ra272aAlive, rn272aAlive, rc272aAlive, ra272aBags, rn272aBags, rc272aBags, rx272aBags, rF272aBags, ra272aAround, rn272aAround, rc272aAround, rfl, M, K⟩ _
        replace N := N.merge sz275 lt276 M
        replace H := H.merge K M
        dsimp only [List.cons_append, List.nil_append] at H
        obtain rfl := H.QE 0 rfl
        obtain rfl := H.zx (α := List Int) 1 rfl 0 rfl (by decide)
        obtain rfl := H.QD 2 rfl
        refine ⟨H.pick [4, 5, 6, 7, 8, 9, 10, 11, 12, 13, 14, 15] [6, 7, 8, 9, 10, 11, 12, 13, 14, 15, 16, 17, 18, 19, 20, 21, 22, 23, 24], ?_⟩
        have S := H.jP [4, 5, 6, 7, 8, 9, 10, 11, 12, 13, 14, 15] [6, 7, 8, 9, 10, 11, 12, 13, 14, 15, 16, 17, 18, 19, 20, 21, 22, 23, 24]
        refine rtp 6 (.tuple #[.agg #[.slice ra272aAlive ((((qx aS aT aN).1).qh).length) rc272aAlive, .slice ra272aBags ((((qx aS aT aN).1).qp).length) rc272aBags, .slice ra272aAround ((((qx aS aT aN).1).ql).length) rc272aAround], .int .i64 ((qx aS aT aN).2.1), .int .i64 ((qx aS aT aN).2.2)]) S ?_
        refine rtp 7 (.agg #[.slice ra272aAlive ((((qx aS aT aN).1).qh).length) rc272aAlive, .slice ra272aBags ((((qx aS aT aN).1).qp).length) rc272aBags, .slice ra272aAround ((((qx aS aT aN).1).ql).length) rc272aAround]) S ?_
        refine rtp 8 (.int .i64 ((qx aS aT aN).2.1)) S ?_
        refine rtp 9 (.int .i64 ((qx aS aT aN).2.2)) S ?_
        refine xn [11] (by kernel_rfl) (by simp) (zg rfl ?_ xq)
        refine xR H 3 [.slice ra272aAlive ((((qx aS aT aN).1).qh).length) rc272aAlive, .slice ra272aBags ((((qx aS aT aN).1).qp).length) rc272aBags, .slice ra272aAround ((((qx aS aT aN).1).ql).length) rc272aAround] Try.sizeOf41 fun w280 H => ?_
        try dsimp only [List.set] at H
        refine ⟨H.pick [4, 5, 6, 7, 8, 9, 10, 11, 12, 13, 14, 15] [6, 7, 8, 9, 10, 11, 12, 13, 14, 15, 16, 17, 18, 19, 20, 21, 22, 23, 24], ?_⟩
        have S := H.jP [4, 5, 6, 7, 8, 9, 10, 11, 12, 13, 14, 15] [6, 7, 8, 9, 10, 11, 12, 13, 14, 15, 16, 17, 18, 19, 20, 21, 22, 23, 24]
        refine rtp 12 (.int .i64 ((qx aS aT aN).2.1)) S ?_
        refine rtp 13 (.int .i64 ((qx aS aT aN).2.2)) S ?_
        refine xM (by kernel_rfl) (?_)
        exact meet ⟨_, b264, ra272aAlive, rc272aAlive, ra272aBags, rc272aBags, ra272aAround, rc272aAround, rx272aBags, rF272aBags, (by exact qj (qj (qj (qj (qj (qj (qj (qj (rfl) rfl) rfl) rfl) rfl) rfl) rfl) rfl) rfl), (N.pick [0, 6, 7, 8, 9, 10, 11, 12, 13, 19]), H.pick [3, 0, 1, 2, 4, 5, 6, 7, 8, 9, 10, 11, 12, 13, 14, 15] [0, 6, 7, 8, 9, 10, 11, 12, 13, 19, 20, 21, 22, 23, 24]⟩
       refine zy H ti41 [.slice none 0 0, .slice none 0 0, .slice none 0 0] fun b281 w282 H => ?_
       refine ⟨H.pick [1, 2, 3, 4, 5, 6, 7, 8, 9, 10, 11, 12] [0, 1, 2, 3, 4, 5, 6, 7, 8, 9, 10, 11, 12, 13, 14, 15, 16, 17, 18], ?_⟩
       refine xn [1] (by kernel_rfl) (by simp) (zg rfl ?_ xq)
       have sz283 := H.base.size
       have lt284 := H.ltN (L := [G201, G203, G206, jk, jO, vS, zY, je, yM, Qw, jV, jq, yB, rF20]) [0, 1, 2, 3, 4, 5, 6, 7, 8, 9, 10, 11, 12, 13]
       refine xf #[.agg #[.int .i64 aS.qI, .slice zW aS.qf.length zV, .slice ji aS.qg.length jh]] rfl rfl Try.call8 (toSystem_ok w282 aS zW zV yK ji jh Q7 (H.get 14 rfl).1 (H.get 15 rfl).1 (by first | assumption | omega)) ?_
       rintro v288 w286 r288 x287
       obtain ⟨a288Parents, c288Parents, F288Parents, a288Rules, c288Rules, F288Rules, rfl, f288, H⟩ := H.add_SystemD x287 r288
       replace N := N.cons f288 sz283 lt284
       replace N := N.split
       refine ⟨H.pick [1, 2, 3, 4, 5, 6, 7, 8, 9, 10, 11, 12] [2, 3, 4, 5, 6, 7, 8, 9, 10, 11, 12, 13, 14, 15, 16, 17, 18, 19, 20], ?_⟩
       refine xn [3] (by kernel_rfl) (by simp) (zg rfl ?_ xq)
       have sz289 := H.base.size
       have lt290 := H.ltN (L := [F288Parents, F288Rules, G201, G203, G206, jk, jO, vS, zY, je, yM, Qw, jV, jq, yB, rF20]) [0, 1, 2, 3, 4, 5, 6, 7, 8, 9, 10, 11, 12, 13, 14, 15]
       refine xf #[.agg #[.slice vV aT.qh.length vU, .slice jG aT.qp.length jE, .slice vk aT.ql.length vg]] rfl rfl Try.call15 (Vt w286 aT vV vU QL jG jE Xu vk vg yU (H.get 18 rfl).1 (H.get 19 rfl).1 (H.get 20 rfl).1 (by first | assumption | omega)) ?_
       rintro v294 w292 r294 x293
       obtain ⟨a294Alive, c294Alive, F294Alive, a294Bags, c294Bags, F294Bags, a294Around, c294Around, F294Around, rfl, f294, H⟩ := H.VA x293 r294
       replace N := N.cons f294 sz289 lt290
       replace N := N.split
       replace N := N.split
       refine ⟨H.pick [1, 2, 3, 4, 5, 6, 7, 8, 9, 10, 11, 12] [5, 6, 7, 8, 9, 10, 11, 12, 13, 14, 15, 16, 17, 18, 19, 20, 21, 22, 23], ?_⟩
       refine xn [5] (by kernel_rfl) (by simp) (zg rfl ?_ xq)
       have sz298 := H.base.size
       have lt299 := H.ltN (L := [F294Alive, F294Bags, F294Around, F288Parents, F288Rules, G201, G203, G206, jk, jO, vS, zY, je, yM, Qw, jV, jq, yB, rF20]) [0, 1, 2, 3, 4, 5, 6, 7, 8, 9, 10, 11, 12, 13, 14, 15, 16, 17, 18]
       refine xf #[.agg #[.int .i64 aS.qI, .slice a288Parents aS.qf.length c288Parents, .slice a288Rules aS.qg.length c288Rules], .agg #[.slice a294Alive aT.qh.length c294Alive, .slice a294Bags aT.qp.length c294Bags, .slice a294Around aT.ql.length c294Around], .int .i64 aN] rfl rfl Try.call22 (implRun_ok w292 aS aT aN a288Parents c288Parents F288Parents a288Rules c288Rules F288Rules a294Alive c294Alive F294Alive a294Bags c294Bags F294Bags a294Around c294Around F294Around (H.get 3 rfl).1 (H.get 4 rfl).1 (H.get 0 rfl).1 (H.get 1 rfl).1 (H.get 2 rfl).1) ?_
       rintro _ w296 ⟨ra295aAlive, rn295aAlive, rc295aAlive, ra295aBags, rn295aBags, rc295aBags, rx295aBags, rF295aBags, ra295aAround, rn295aAround, rc295aAround, rfl, M, K⟩ _
       replace N := N.merge sz298 lt299 M
       replace H := H.merge K M
       dsimp only [List.cons_append, List.nil_append] at H
       obtain rfl := H.QE 0 rfl
       obtain rfl := H.zx (α := List Int) 1 rfl 0 rfl (by decide)
       obtain rfl := H.QD 2 rfl
       refine ⟨H.pick [4, 5, 6, 7, 8, 9, 10, 11, 12, 13, 14, 15] [6, 7, 8, 9, 10, 11, 12, 13, 14, 15, 16, 17, 18, 19, 20, 21, 22, 23, 24], ?_⟩
       have S := H.jP [4, 5, 6, 7, 8, 9, 10, 11, 12, 13, 14, 15] [6, 7, 8, 9, 10, 11, 12, 13, 14, 15, 16, 17, 18, 19, 20, 21, 22, 23, 24]
       refine rtp 6 (.tuple #[.agg #[.slice ra295aAlive ((((qx aS aT aN).1).qh).length) rc295aAlive, .slice ra295aBags ((((qx aS aT aN).1).qp).length) rc295aBags, .slice ra295aAround ((((qx aS aT aN).1).ql).length) rc295aAround], .int .i64 ((qx aS aT aN).2.1), .int .i64 ((qx aS aT aN).2.2)]) S ?_
       refine rtp 7 (.agg #[.slice ra295aAlive ((((qx aS aT aN).1).qh).length) rc295aAlive, .slice ra295aBags ((((qx aS aT aN).1).qp).length) rc295aBags, .slice ra295aAround ((((qx aS aT aN).1).ql).length) rc295aAround]) S ?_
       refine rtp 8 (.int .i64 ((qx aS aT aN).2.1)) S ?_
       refine rtp 9 (.int .i64 ((qx aS aT aN).2.2)) S ?_
       refine xn [11] (by kernel_rfl) (by simp) (zg rfl ?_ xq)
       refine xR H 3 [.slice ra295aAlive ((((qx aS aT aN).1).qh).length) rc295aAlive, .slice ra295aBags ((((qx aS aT aN).1).qp).length) rc295aBags, .slice ra295aAround ((((qx aS aT aN).1).ql).length) rc295aAround] Try.sizeOf41 fun w303 H => ?_
       try dsimp only [List.set] at H
       refine ⟨H.pick [4, 5, 6, 7, 8, 9, 10, 11, 12, 13, 14, 15] [6, 7, 8, 9, 10, 11, 12, 13, 14, 15, 16, 17, 18, 19, 20, 21, 22, 23, 24], ?_⟩
       have S := H.jP [4, 5, 6, 7, 8, 9, 10, 11, 12, 13, 14, 15] [6, 7, 8, 9, 10, 11, 12, 13, 14, 15, 16, 17, 18, 19, 20, 21, 22, 23, 24]
       refine rtp 12 (.int .i64 ((qx aS aT aN).2.1)) S ?_
       refine rtp 13 (.int .i64 ((qx aS aT aN).2.2)) S ?_
       refine xM (by kernel_rfl) (?_)
       exact meet ⟨_, b281, ra295aAlive, rc295aAlive, ra295aBags, rc295aBags, ra295aAround, rc295aAround, rx295aBags, rF295aBags, (by exact qj (qj (qj (qj (qj (qj (qj (qj (rfl) rfl) rfl) rfl) rfl) rfl) rfl) rfl) rfl), (N.pick [0, 6, 7, 8, 9, 10, 11, 12, 13, 19]), H.pick [3, 0, 1, 2, 4, 5, 6, 7, 8, 9, 10, 11, 12, 13, 14, 15] [0, 6, 7, 8, 9, 10, 11, 12, 13, 19, 20, 21, 22, 23, 24]⟩
      clear H N
      rintro ρ w304 ⟨junk, b220, ra221, rc222, ra223, rc224, ra225, rc226, rx227, rF228, rfl, N, H⟩
      refine t_n (qo (qo (qB ?_)))
      refine sw (zu [.slice ra221 ((((qx aS aT aN).1).qh).length) rc222, .slice ra223 ((((qx aS aT aN).1).qp).length) rc224, .slice ra225 ((((qx aS aT aN).1).ql).length) rc226] Try.isAgg41 Try.sizeOf41 rfl (qH (H.cells 0 rfl) 0 3) ?_)
      refine sw (zu [.slice ra13 ((((qx aS aT aN).1).qh).length) rc14, .slice ra15 ((((qx aS aT aN).1).qp).length) rc16, .slice ra17 ((((qx aS aT aN).1).ql).length) rc18] Try.isAgg41 Try.sizeOf41 rfl (qH (H.cells 10 rfl) 0 3) ?_)
      obtain ⟨G305, hn306, h307⟩ := H.rowIsB 1 rfl
      obtain ⟨G308, hn309, h310⟩ := H.rowIsR (α := List Int) 2 rfl 0 rfl (by decide)
      obtain ⟨G311, hn312, h313⟩ := H.XE 3 rfl
      obtain ⟨G314, hn315, h316⟩ := H.rowIsB 11 rfl
      obtain ⟨G317, hn318, h319⟩ := H.rowIsR (α := List Int) 12 rfl 9 rfl (by decide)
      obtain ⟨G320, hn321, h322⟩ := H.XE 13 rfl
      refine sw (xf #[.agg #[.slice ra221 ((((qx aS aT aN).1).qh).length) rc222, .slice ra223 ((((qx aS aT aN).1).qp).length) rc224, .slice ra225 ((((qx aS aT aN).1).ql).length) rc226], .agg #[.slice ra13 ((((qx aS aT aN).1).qh).length) rc14, .slice ra15 ((((qx aS aT aN).1).qp).length) rc16, .slice ra17 ((((qx aS aT aN).1).ql).length) rc18]] rfl rfl Try.call17 (eqState_ok w304 ((qx aS aT aN).1) ((qx aS aT aN).1) ra221 rc222 G305 ra223 rc224 G308 ra225 rc226 G311 ra13 rc14 G314 ra15 rc16 G317 ra17 rc18 G320 h307 h310 h313 h316 h319 h322) ?_)
      rintro _ w323 rfl x324
      replace H := H.ext x324
      refine sps [.bool (!(decide (((qx aS aT aN).1) = ((qx aS aT aN).1)))), .bool (!(decide (((qx aS aT aN).1) = ((qx aS aT aN).1))))] ?_
      cases h325 : (!(decide (((qx aS aT aN).1) = ((qx aS aT aN).1))))
      ·skip
       replace h325 := qY h325
       refine qU 127 rfl rfl ?_
       refine sp (.int .i64 ((qx aS aT aN).2.1)) ?_
       refine qU 127 rfl rfl ?_
       refine sp (.int .i64 ((qx aS aT aN).2.1)) ?_
       refine qU 127 rfl rfl ?_
       refine sps [.bool (((qx aS aT aN).2.1 : Int) != ((qx aS aT aN).2.1)), .bool (((qx aS aT aN).2.1 : Int) != ((qx aS aT aN).2.1)), .bool (((qx aS aT aN).2.1 : Int) != ((qx aS aT aN).2.1))] ?_
       cases h326 : (((qx aS aT aN).2.1 : Int) != ((qx aS aT aN).2.1))
       ·skip
        replace h326 := xP h326
        refine qU 132 rfl rfl ?_
        refine sp (.int .i64 ((qx aS aT aN).2.2)) ?_
        refine qU 132 rfl rfl ?_
        refine sp (.int .i64 ((qx aS aT aN).2.2)) ?_
        refine qU 132 rfl rfl ?_
        refine sps [.bool (((qx aS aT aN).2.2 : Int) != ((qx aS aT aN).2.2)), .bool (((qx aS aT aN).2.2 : Int) != ((qx aS aT aN).2.2))] ?_
        refine qA (t_n ?_)
        refine qX (((qx aS aT aN).2.2 : Int) != ((qx aS aT aN).2.2)) rfl (fun h => absurd rfl (bne_iff_ne.1 h)) (fun h327 => ?_)
        replace h327 := xP h327
        refine xy (t_n (qo (qB ?_)))
        refine sp (.int .i64 1) ?_
        refine qA (t_n (qo (qB ?_)))
        refine sw (zu [.slice ra115aAlive ((((qx aS aT aN).1).qh).length) rc115aAlive, .slice ra115aBags ((((qx aS aT aN).1).qp).length) rc115aBags, .slice ra115aAround ((((qx aS aT aN).1).ql).length) rc115aAround] Try.isAgg41 Try.sizeOf41 rfl (qH (H.cells 4 rfl) 0 3) ?_)
        refine sp (.int .i64 1) ?_
        have hn328 := H.isLen 1 rfl
        have hn329 := H.isLen 2 rfl
        have hn330 := H.isLen 3 rfl
        refine sw (xf #[.agg #[.slice ra115aAlive ((((qx aS aT aN).1).qh).length) rc115aAlive, .slice ra115aBags ((((qx aS aT aN).1).qp).length) rc115aBags, .slice ra115aAround ((((qx aS aT aN).1).ql).length) rc115aAround], .int .i64 1] rfl rfl Try.call20 (args_eq (by rw [← hn328, ← hn329, ← hn330]) (heldState_ok w323 (⟨(mrk (((qx aS aT aN).1).qh) (1)), (mrk (((qx aS aT aN).1).qp) (1 + (cnt (((qx aS aT aN).1).qh) : Nat))), (mrk (((qx aS aT aN).1).ql) (1 + (cnt (((qx aS aT aN).1).qh) : Nat) + (cnt (((qx aS aT aN).1).qp) : Nat)))⟩ : qQ) 1 ra115aAlive rc115aAlive G201 ra115aBags rc115aBags G203 ra115aAround rc115aAround G206 (hn328 ▸ (H.get 1 rfl).1) (hn329 ▸ (H.get 2 rfl).1) (hn330 ▸ (H.get 3 rfl).1) (by first | exact mkd_mark _ _ | omega | (simp only [cnt_mark]; first | exact mkd_mark _ _ | omega)) (by first | exact mkd_mark _ _ | omega | (simp only [cnt_mark]; first | exact mkd_mark _ _ | omega)) (by first | exact mkd_mark _ _ | omega | (simp only [cnt_mark]; first | exact mkd_mark _ _ | omega)) (by first | exact mkd_mark _ _ | omega | (simp only [cnt_mark]; first | exact mkd_mark _ _ | omega)) (by first | exact mkd_mark _ _ | omega | (simp only [cnt_mark]; first | exact mkd_mark _ _ | omega)))) ?_)
        rintro _ w331 rfl x332
        replace H := H.ext x332
        refine sp (.int .i64 (1 + (cnt (⟨(mrk (((qx aS aT aN).1).qh) (1)), (mrk (((qx aS aT aN).1).qp) (1 + (cnt (((qx aS aT aN).1).qh) : Nat))), (mrk (((qx aS aT aN).1).ql) (1 + (cnt (((qx aS aT aN).1).qh) : Nat) + (cnt (((qx aS aT aN).1).qp) : Nat)))⟩ : qQ).qh : Nat) + (cnt (⟨(mrk (((qx aS aT aN).1).qh) (1)), (mrk (((qx aS aT aN).1).qp) (1 + (cnt (((qx aS aT aN).1).qh) : Nat))), (mrk (((qx aS aT aN).1).ql) (1 + (cnt (((qx aS aT aN).1).qh) : Nat) + (cnt (((qx aS aT aN).1).qp) : Nat)))⟩ : qQ).qp : Nat) + (cnt (⟨(mrk (((qx aS aT aN).1).qh) (1)), (mrk (((qx aS aT aN).1).qp) (1 + (cnt (((qx aS aT aN).1).qh) : Nat))), (mrk (((qx aS aT aN).1).ql) (1 + (cnt (((qx aS aT aN).1).qh) : Nat) + (cnt (((qx aS aT aN).1).qp) : Nat)))⟩ : qQ).ql : Nat))) ?_
        refine qA (t_n (qo (qo (qB ?_))))
        refine sps [.int .i64 (1 + (cnt (⟨(mrk (((qx aS aT aN).1).qh) (1)), (mrk (((qx aS aT aN).1).qp) (1 + (cnt (((qx aS aT aN).1).qh) : Nat))), (mrk (((qx aS aT aN).1).ql) (1 + (cnt (((qx aS aT aN).1).qh) : Nat) + (cnt (((qx aS aT aN).1).qp) : Nat)))⟩ : qQ).qh : Nat) + (cnt (⟨(mrk (((qx aS aT aN).1).qh) (1)), (mrk (((qx aS aT aN).1).qp) (1 + (cnt (((qx aS aT aN).1).qh) : Nat))), (mrk (((qx aS aT aN).1).ql) (1 + (cnt (((qx aS aT aN).1).qh) : Nat) + (cnt (((qx aS aT aN).1).qp) : Nat)))⟩ : qQ).qp : Nat) + (cnt (⟨(mrk (((qx aS aT aN).1).qh) (1)), (mrk (((qx aS aT aN).1).qp) (1 + (cnt (((qx aS aT aN).1).qh) : Nat))), (mrk (((qx aS aT aN).1).ql) (1 + (cnt (((qx aS aT aN).1).qh) : Nat) + (cnt (((qx aS aT aN).1).qp) : Nat)))⟩ : qQ).ql : Nat)), .bool (decide ((1 + (cnt (⟨(mrk (((qx aS aT aN).1).qh) (1)), (mrk (((qx aS aT aN).1).qp) (1 + (cnt (((qx aS aT aN).1).qh) : Nat))), (mrk (((qx aS aT aN).1).ql) (1 + (cnt (((qx aS aT aN).1).qh) : Nat) + (cnt (((qx aS aT aN).1).qp) : Nat)))⟩ : qQ).qh : Nat) + (cnt (⟨(mrk (((qx aS aT aN).1).qh) (1)), (mrk (((qx aS aT aN).1).qp) (1 + (cnt (((qx aS aT aN).1).qh) : Nat))), (mrk (((qx aS aT aN).1).ql) (1 + (cnt (((qx aS aT aN).1).qh) : Nat) + (cnt (((qx aS aT aN).1).qp) : Nat)))⟩ : qQ).qp : Nat) + (cnt (⟨(mrk (((qx aS aT aN).1).qh) (1)), (mrk (((qx aS aT aN).1).qp) (1 + (cnt (((qx aS aT aN).1).qh) : Nat))), (mrk (((qx aS aT aN).1).ql) (1 + (cnt (((qx aS aT aN).1).qh) : Nat) + (cnt (((qx aS aT aN).1).qp) : Nat)))⟩ : qQ).ql : Nat) : Int) < 0))] ?_
        refine qA (t_n ?_)
        refine qX (decide ((1 + (cnt (⟨(mrk (((qx aS aT aN).1).qh) (1)), (mrk (((qx aS aT aN).1).qp) (1 + (cnt (((qx aS aT aN).1).qh) : Nat))), (mrk (((qx aS aT aN).1).ql) (1 + (cnt (((qx aS aT aN).1).qh) : Nat) + (cnt (((qx aS aT aN).1).qp) : Nat)))⟩ : qQ).qh : Nat) + (cnt (⟨(mrk (((qx aS aT aN).1).qh) (1)), (mrk (((qx aS aT aN).1).qp) (1 + (cnt (((qx aS aT aN).1).qh) : Nat))), (mrk (((qx aS aT aN).1).ql) (1 + (cnt (((qx aS aT aN).1).qh) : Nat) + (cnt (((qx aS aT aN).1).qp) : Nat)))⟩ : qQ).qp : Nat) + (cnt (⟨(mrk (((qx aS aT aN).1).qh) (1)), (mrk (((qx aS aT aN).1).qp) (1 + (cnt (((qx aS aT aN).1).qh) : Nat))), (mrk (((qx aS aT aN).1).ql) (1 + (cnt (((qx aS aT aN).1).qh) : Nat) + (cnt (((qx aS aT aN).1).qp) : Nat)))⟩ : qQ).ql : Nat) : Int) < 0)) rfl (fun h333 => ?_) (fun h333 => ?_)
        ·skip
         replace h333 := of_decide_eq_true h333
         refine qo (qB ?_)
         refine sp (.bool false) ?_
         refine qA (t_n (xE (t_r ?_)))
         refine ret1 (.bool false) rfl rfl ⟨_, rfl, ?_, H.base⟩
         exfalso; first | omega
        replace h333 := of_decide_eq_false h333
        refine xy (t_n (qo (qo (qB ?_))))
        refine sps [.int .i64 (1 + (cnt (⟨(mrk (((qx aS aT aN).1).qh) (1)), (mrk (((qx aS aT aN).1).qp) (1 + (cnt (((qx aS aT aN).1).qh) : Nat))), (mrk (((qx aS aT aN).1).ql) (1 + (cnt (((qx aS aT aN).1).qh) : Nat) + (cnt (((qx aS aT aN).1).qp) : Nat)))⟩ : qQ).qh : Nat) + (cnt (⟨(mrk (((qx aS aT aN).1).qh) (1)), (mrk (((qx aS aT aN).1).qp) (1 + (cnt (((qx aS aT aN).1).qh) : Nat))), (mrk (((qx aS aT aN).1).ql) (1 + (cnt (((qx aS aT aN).1).qh) : Nat) + (cnt (((qx aS aT aN).1).qp) : Nat)))⟩ : qQ).qp : Nat) + (cnt (⟨(mrk (((qx aS aT aN).1).qh) (1)), (mrk (((qx aS aT aN).1).qp) (1 + (cnt (((qx aS aT aN).1).qh) : Nat))), (mrk (((qx aS aT aN).1).ql) (1 + (cnt (((qx aS aT aN).1).qh) : Nat) + (cnt (((qx aS aT aN).1).qp) : Nat)))⟩ : qQ).ql : Nat)), .int .i64 (1 + (cnt (((qx aS aT aN).1).qh) : Nat) + (cnt (((qx aS aT aN).1).qp) : Nat) + (cnt (((qx aS aT aN).1).ql) : Nat)), .bool ((1 + (cnt (⟨(mrk (((qx aS aT aN).1).qh) (1)), (mrk (((qx aS aT aN).1).qp) (1 + (cnt (((qx aS aT aN).1).qh) : Nat))), (mrk (((qx aS aT aN).1).ql) (1 + (cnt (((qx aS aT aN).1).qh) : Nat) + (cnt (((qx aS aT aN).1).qp) : Nat)))⟩ : qQ).qh : Nat) + (cnt (⟨(mrk (((qx aS aT aN).1).qh) (1)), (mrk (((qx aS aT aN).1).qp) (1 + (cnt (((qx aS aT aN).1).qh) : Nat))), (mrk (((qx aS aT aN).1).ql) (1 + (cnt (((qx aS aT aN).1).qh) : Nat) + (cnt (((qx aS aT aN).1).qp) : Nat)))⟩ : qQ).qp : Nat) + (cnt (⟨(mrk (((qx aS aT aN).1).qh) (1)), (mrk (((qx aS aT aN).1).qp) (1 + (cnt (((qx aS aT aN).1).qh) : Nat))), (mrk (((qx aS aT aN).1).ql) (1 + (cnt (((qx aS aT aN).1).qh) : Nat) + (cnt (((qx aS aT aN).1).qp) : Nat)))⟩ : qQ).ql : Nat) : Int) != (1 + (cnt (((qx aS aT aN).1).qh) : Nat) + (cnt (((qx aS aT aN).1).qp) : Nat) + (cnt (((qx aS aT aN).1).ql) : Nat)))] ?_
        refine qA (t_n ?_)
        refine qX ((1 + (cnt (⟨(mrk (((qx aS aT aN).1).qh) (1)), (mrk (((qx aS aT aN).1).qp) (1 + (cnt (((qx aS aT aN).1).qh) : Nat))), (mrk (((qx aS aT aN).1).ql) (1 + (cnt (((qx aS aT aN).1).qh) : Nat) + (cnt (((qx aS aT aN).1).qp) : Nat)))⟩ : qQ).qh : Nat) + (cnt (⟨(mrk (((qx aS aT aN).1).qh) (1)), (mrk (((qx aS aT aN).1).qp) (1 + (cnt (((qx aS aT aN).1).qh) : Nat))), (mrk (((qx aS aT aN).1).ql) (1 + (cnt (((qx aS aT aN).1).qh) : Nat) + (cnt (((qx aS aT aN).1).qp) : Nat)))⟩ : qQ).qp : Nat) + (cnt (⟨(mrk (((qx aS aT aN).1).qh) (1)), (mrk (((qx aS aT aN).1).qp) (1 + (cnt (((qx aS aT aN).1).qh) : Nat))), (mrk (((qx aS aT aN).1).ql) (1 + (cnt (((qx aS aT aN).1).qh) : Nat) + (cnt (((qx aS aT aN).1).qp) : Nat)))⟩ : qQ).ql : Nat) : Int) != (1 + (cnt (((qx aS aT aN).1).qh) : Nat) + (cnt (((qx aS aT aN).1).qp) : Nat) + (cnt (((qx aS aT aN).1).ql) : Nat))) rfl (fun h => absurd h218 (bne_iff_ne.1 h)) (fun h334 => ?_)
        replace h334 := xP h334
        refine xy (t_n (qo (qB ?_)))
        refine sp (.bool true) ?_
        refine qA (t_n (xE ?_))
        refine ret1 (.bool true) rfl rfl ⟨_, rfl, ?_, H.base⟩
        rfl
       · exact absurd rfl (bne_iff_ne.1 h326)
      · exact absurd (xh h325) (by simp)
     · exact absurd rfl (bne_iff_ne.1 h199)
    · exact absurd (xh h198) (by simp)
   replace h177 := of_decide_eq_true h177
   refine zi [87, 88, 89, 90] ?_
   refine sps [.bool true, .bool true] ?_
   refine zi [93, 94, 95] ?_
   refine sps [.bool true, .bool true] ?_
   refine zi [98, 99, 100] ?_
   refine sp (.bool true) ?_
   refine qA (t_n ?_)
   refine qX true rfl (fun _ => ?_) (fun h => absurd h (by decide))
   refine qo (qB ?_)
   refine sp (.bool false) ?_
   refine qA (t_n (xE (t_r ?_)))
   refine ret1 (.bool false) rfl rfl ⟨_, rfl, ?_, H.base⟩
   exfalso; first | omega
  · exact absurd rfl (bne_iff_ne.1 h147)
 · exact absurd (xh h146) (by simp)

end Go.Proofs.Ytkmlihdacnfhdaa
