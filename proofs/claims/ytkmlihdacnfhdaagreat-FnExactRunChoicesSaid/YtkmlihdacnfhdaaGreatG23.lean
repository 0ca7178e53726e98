/- Walks, printed by program (wip/tools/gv.py): what each function comes to, for all arguments. -/
import Derived.Test.YtkmlihdacnfhdaaGreatG22
namespace Go.Proofs.YtkmlihdacnfhdaaGreat
open Go.Proofs.YtkmlihdacnfhdaaGreat.Tot (tot)
open Go.Proofs.YtkmlihdacnfhdaaGreat.Mark (cnt mrk mkd mkd_mark cnt_mark)
open Go.RowKit
set_option linter.unusedVariables false
set_option linter.unusedSimpArgs false
set_option maxRecDepth 100000
set_option maxHeartbeats 4000000



theorem law_RunChoices (w : World) (aS : qX) (aT : qU) (aN : List (List Int)) (zD : Option Addr) (zC : Nat) (yf : List Nat) (je : Option Addr) (jd : Nat) (QH : List Nat) (vO : Option Addr) (vM : Nat) (Qo : List Nat) (jF : Option Addr) (jE : Nat) (Q5 : List Nat) (zQ : Option Addr) (zO : Nat) (yF : List Nat) (aaN : Option Addr) (caN : Nat) (FaN : List Nat) (haSParents : qV.rep w yf [.slice zD aS.qf.length zC] aS.qf) (haSRules : qV.rep w QH [.slice je aS.qg.length jd] aS.qg) (haTAlive : qV.rep w Qo [.slice vO aT.qh.length vM] aT.qh) (haTBags : qV.rep w Q5 [.slice jF aT.qp.length jE] aT.qp) (haTAround : qV.rep w yF [.slice zQ aT.ql.length zO] aT.ql) (haN : qV.rep w FaN [.slice aaN aN.length caN] aN) : Calls Tryz.prog 6 #[.agg #[.int .i64 aS.qJ, .slice zD aS.qf.length zC, .slice je aS.qg.length jd], .agg #[.slice vO aT.qh.length vM, .slice jF aT.qp.length jE, .slice zQ aT.ql.length zO], .slice aaN aN.length caN] w (Ret (fun v w' => v = .bool true) w) := by
 refine enter (n := 142) Tryz.func6 rfl Tryz.ntmps6 (Nat.le_of_ble_eq_true rfl) ?_
 have H := ((((((St.start w).arg haN).arg haTAround).arg haTBags).arg haTAlive).arg haSRules).arg haSParents
 have nhaSParents := qN haSParents
 have nhaSRules := qN haSRules
 have nhaTAlive := qN haTAlive
 have nhaTBags := qN haTBags
 have nhaTAround := qN haTAround
 have nhaN := qN haN
 clear haSParents haSRules haTAlive haTBags haTAround haN
 have N := Fresh.nil w.heap.size
 have A := H.ltN (L := [yf, QH, Qo, Q5, yF, FaN]) [0, 1, 2, 3, 4, 5]
 have t1 := tot_SystemD aS
 have t2 := tot_StateD aT
 have c0 := XB aS.qf
 have c1 := XB aS.qg
 have c2 := XB aT.qh
 have c3 := XB aT.qp
 have c4 := XB aT.ql
 have c9 := XB aN
 obtain ⟨f1, f2, f3⟩ := few_ch aS aT aN
 refine qm (qA ?_)
 refine sw (yN H [.int .i64 aS.qJ, .slice zD aS.qf.length zC, .slice je aS.qg.length jd] fun b1 w2 H => ?_)
 refine sw (yN H [.slice vO aT.qh.length vM, .slice jF aT.qp.length jE, .slice zQ aT.ql.length zO] fun b3 w4 H => ?_)
 refine sp (.bool false) ?_
 refine qx (t_n (qm (qA ?_)))
 refine sp (.int .i64 1048576) ?_
 refine qx (t_n (qm (qA ?_)))
 refine sw (zg [.int .i64 aS.qJ, .slice zD aS.qf.length zC, .slice je aS.qg.length jd] Tryz.isAgg25 Tryz.sizeOf25 rfl (qH (H.cells 1 rfl) 0 3) ?_)
 refine sp (.int .i64 1048576) ?_
 refine sw (qZ #[.agg #[.int .i64 aS.qJ, .slice zD aS.qf.length zC, .slice je aS.qg.length jd], .int .i64 1048576] rfl rfl Tryz.call8 (szSystem_ok w4 aS 1048576 zD zC yf je jd QH (H.get 0 rfl).1 (H.get 1 rfl).1 (by omega)) ?_)
 rintro _ w5 rfl x6
 replace H := H.ext x6
 have := zx (tot aS) 1048576
 refine sp (.int .i64 (szR (tot aS) 1048576)) ?_
 refine qx (t_n (qm (qm (qA ?_))))
 refine sps [.int .i64 (szR (tot aS) 1048576), .bool (decide ((szR (tot aS) 1048576 : Int) < 0))] ?_
 refine qx (t_n ?_)
 refine qW (decide ((szR (tot aS) 1048576 : Int) < 0)) rfl (fun h7 => ?_) (fun h7 => ?_)
 ·skip
  replace h7 := of_decide_eq_true h7
  refine qm (qA ?_)
  refine sp (.bool true) ?_
  refine qx (t_n (xC (t_r ?_)))
  refine ret1 (.bool true) rfl rfl ⟨_, rfl, ?_, H.base⟩
  rfl
 replace h7 := of_decide_eq_false h7
 refine xk (t_n (qm (qA ?_)))
 refine sw (zg [.slice vO aT.qh.length vM, .slice jF aT.qp.length jE, .slice zQ aT.ql.length zO] Tryz.isAgg29 Tryz.sizeOf29 rfl (qH (H.cells 0 rfl) 0 3) ?_)
 refine sp (.int .i64 (szR (tot aS) 1048576)) ?_
 refine sw (qZ #[.agg #[.slice vO aT.qh.length vM, .slice jF aT.qp.length jE, .slice zQ aT.ql.length zO], .int .i64 (szR (tot aS) 1048576)] rfl rfl Tryz.call9 (szState_ok w5 aT (szR (tot aS) 1048576) vO vM Qo jF jE Q5 zQ zO yF (H.get 2 rfl).1 (H.get 3 rfl).1 (H.get 4 rfl).1 (by omega)) ?_)
 rintro _ w8 rfl x9
 replace H := H.ext x9
 have := zx (tot aT) (szR (tot aS) 1048576)
 refine sp (.int .i64 (szR (tot aT) (szR (tot aS) 1048576))) ?_
 refine qx (t_n (qm (qm (qA ?_))))
 refine sps [.int .i64 (szR (tot aT) (szR (tot aS) 1048576)), .bool (decide ((szR (tot aT) (szR (tot aS) 1048576) : Int) < 0))] ?_
 refine qx (t_n ?_)
 refine qW (decide ((szR (tot aT) (szR (tot aS) 1048576) : Int) < 0)) rfl (fun h10 => ?_) (fun h10 => ?_)
 ·skip
  replace h10 := of_decide_eq_true h10
  refine qm (qA ?_)
  refine sp (.bool true) ?_
  refine qx (t_n (xC (t_r ?_)))
  refine ret1 (.bool true) rfl rfl ⟨_, rfl, ?_, H.base⟩
  rfl
 replace h10 := of_decide_eq_false h10
 refine xk (t_n (qm (qA ?_)))
 refine sps [.slice aaN aN.length caN, .int .i64 (szR (tot aT) (szR (tot aS) 1048576))] ?_
 refine sw (qZ #[.slice aaN aN.length caN, .int .i64 (szR (tot aT) (szR (tot aS) 1048576))] rfl rfl Tryz.call29 (szInt64SS_ok w8 aN (szR (tot aT) (szR (tot aS) 1048576)) aaN caN FaN (H.get 5 rfl).1 (by omega)) ?_)
 rintro _ w11 rfl x12
 replace H := H.ext x12
 have := zx (tot aN) (szR (tot aT) (szR (tot aS) 1048576))
 refine sp (.int .i64 (szR (tot aN) (szR (tot aT) (szR (tot aS) 1048576)))) ?_
 refine qx (t_n (qm (qm (qA ?_))))
 refine sps [.int .i64 (szR (tot aN) (szR (tot aT) (szR (tot aS) 1048576))), .bool (decide ((szR (tot aN) (szR (tot aT) (szR (tot aS) 1048576)) : Int) < 0))] ?_
 refine qx (t_n ?_)
 refine qW (decide ((szR (tot aN) (szR (tot aT) (szR (tot aS) 1048576)) : Int) < 0)) rfl (fun h13 => ?_) (fun h13 => ?_)
 ·skip
  replace h13 := of_decide_eq_true h13
  refine qm (qA ?_)
  refine sp (.bool true) ?_
  refine qx (t_n (xC (t_r ?_)))
  refine ret1 (.bool true) rfl rfl ⟨_, rfl, ?_, H.base⟩
  rfl
 replace h13 := of_decide_eq_false h13
 refine xk (t_n (qm ?_))
 refine c_cut (fun ρ w14 => ∃ (junk : Env) (b15 : Nat) (ra16 : Option Addr) (rc17 : Nat) (ra18 : Option Addr) (rc19 : Nat) (ra20 : Option Addr) (rc21 : Nat) (rx22 : List Value) (rF23 : List Nat), ρ = upd (upd (upd (upd (upd junk 2 (.slice aaN aN.length caN)) 3 (pp b1 0)) 4 (pp b3 0)) 8 (pp b15 0)) 9 (.int .i64 ((qG aS aT aN).2)) ∧ Fresh w.heap.size [rF23] ∧ St w w14 [.box b15 [.slice ra16 ((((qG aS aT aN).1).qh).length) rc17, .slice ra18 ((((qG aS aT aN).1).qp).length) rc19, .slice ra20 ((((qG aS aT aN).1).ql).length) rc21] 38, .row (.slice ra16 ((((qG aS aT aN).1).qh).length) rc17) 4 1 ((((qG aS aT aN).1).qh).length) ((((qG aS aT aN).1).qh).map (Value.bool)), .row (.slice ra18 ((((qG aS aT aN).1).qp).length) rc19) 22 1 ((((qG aS aT aN).1).qp).length) rx22, .row (.slice ra20 ((((qG aS aT aN).1).ql).length) rc21) 2 1 ((((qG aS aT aN).1).ql).length) ((((qG aS aT aN).1).ql).map (Value.int .i64)), .box b3 [.slice vO aT.qh.length vM, .slice jF aT.qp.length jE, .slice zQ aT.ql.length zO] 29, .box b1 [.int .i64 aS.qJ, .slice zD aS.qf.length zC, .slice je aS.qg.length jd] 25] [vX true rF23 rx22 (((qG aS aT aN).1).qp), isF false yf (.slice zD aS.qf.length zC) aS.qf, isF false QH (.slice je aS.qg.length jd) aS.qg, isF false Qo (.slice vO aT.qh.length vM) aT.qh, isF false Q5 (.slice jF aT.qp.length jE) aT.qp, isF false yF (.slice zQ aT.ql.length zO) aT.ql, isF false FaN (.slice aaN aN.length caN) aN]) ?_ ?_
 ·skip
  refine yw rfl H fun H => ?_
  refine rt 0 (.agg #[.int .i64 aS.qJ, .slice zD aS.qf.length zC, .slice je aS.qg.length jd]) (Qp (cs := [.int .i64 aS.qJ, .slice zD aS.qf.length zC, .slice je aS.qg.length jd]) Tryz.isAgg25 Tryz.sizeOf25 rfl (fun _ h => qH (h.cells 1 rfl) 0 3)) H ?_
  refine rt 2 (.agg #[.slice vO aT.qh.length vM, .slice jF aT.qp.length jE, .slice zQ aT.ql.length zO]) (Qp (cs := [.slice vO aT.qh.length vM, .slice jF aT.qp.length jE, .slice zQ aT.ql.length zO]) Tryz.isAgg29 Tryz.sizeOf29 rfl (fun _ h => qH (h.cells 0 rfl) 0 3)) H ?_
  refine rtp 4 (.slice aaN aN.length caN) H ?_
  refine xq [1, 10] (by kernel_rfl) (by simp) (xZ rfl ?_ (xZ rfl ?_ xu))
  ·skip
   have sz25 := H.base.size
   refine qZ #[.agg #[.int .i64 aS.qJ, .slice zD aS.qf.length zC, .slice je aS.qg.length jd]] rfl rfl Tryz.call11 (toSystem_ok w11.drew aS zD zC yf je jd QH (H.get 0 rfl).1 (H.get 1 rfl).1 (by first | assumption | omega)) ?_
   rintro v30 w28 r30 x29
   obtain ⟨VD, VB, QK, a30Rules, c30Rules, XW, rfl, f30, H⟩ := H.add_SystemD x29 r30
   replace N := N.cons f30 sz25 (by intro F hF; simp at hF)
   replace N := N.split
   refine ⟨H.pick [0, 1] [2, 3, 4, 5, 6, 7], ?_⟩
   refine xq [3, 10] (by kernel_rfl) (by simp) (xZ rfl ?_ (xZ rfl ?_ xu))
   ·skip
    have sz31 := H.base.size
    have lt32 := H.ltN (L := [QK, XW]) [0, 1]
    refine qZ #[.agg #[.slice vO aT.qh.length vM, .slice jF aT.qp.length jE, .slice zQ aT.ql.length zO]] rfl rfl Tryz.call12 (Vu w28 aT vO vM Qo jF jE Q5 zQ zO yF (H.get 4 rfl).1 (H.get 5 rfl).1 (H.get 6 rfl).1 (by first | assumption | omega)) ?_
    rintro v36 w34 r36 x35
    obtain ⟨a36Alive, c36Alive, F36Alive, a36Bags, c36Bags, F36Bags, a36Around, c36Around, F36Around, rfl, f36, H⟩ := H.VC x35 r36
    replace N := N.cons f36 sz31 lt32
    replace N := N.split
    replace N := N.split
    refine ⟨H.pick [0, 1] [5, 6, 7, 8, 9, 10], ?_⟩
    refine xq [5, 10] (by kernel_rfl) (by simp) (xZ rfl ?_ (xZ rfl ?_ xu))
    ·skip
     have sz37 := H.base.size
     have lt38 := H.ltN (L := [F36Alive, F36Bags, F36Around, QK, XW]) [0, 1, 2, 3, 4]
     refine qZ #[.slice aaN aN.length caN] rfl rfl Tryz.call31 (Qq w34 aN aaN caN FaN (H.get 10 rfl).1 (by first | omega | (have := p2 (by omega); omega))) ?_
     rintro v42 w40 r42 x41
     obtain ⟨xs42, F42, f42, H⟩ := H.add_own x41 r42
     obtain ⟨a43, c44, rfl, hc45, hm46⟩ := H.jv 0 rfl
     replace N := N.cons f42 sz37 lt38
     refine ⟨H.pick [1, 2] [6, 7, 8, 9, 10, 11], ?_⟩
     refine xq [6, 10] (by kernel_rfl) (by simp) (xZ rfl ?_ (xZ rfl ?_ xu))
     ·skip
      obtain ⟨G47, hn48, h49⟩ := H.QW (α := List Int) 0 rfl 0 rfl (by decide)
      have sz53 := H.base.size
      have lt54 := H.ltN (L := [F42, F36Alive, F36Bags, F36Around, QK, XW]) [0, 1, 2, 3, 4, 5]
      refine qZ #[.agg #[.int .i64 aS.qJ, .slice VD aS.qf.length VB, .slice a30Rules aS.qg.length c30Rules], .agg #[.slice a36Alive aT.qh.length c36Alive, .slice a36Bags aT.qp.length c36Bags, .slice a36Around aT.ql.length c36Around], .slice a43 aN.length c44] rfl rfl Tryz.call30 (specCh_ok w40 aS aT aN VD VB QK a30Rules c30Rules XW a36Alive c36Alive F36Alive a36Bags c36Bags F36Bags a36Around c36Around F36Around a43 c44 G47 (H.get 4 rfl).1 (H.get 5 rfl).1 (H.get 1 rfl).1 (H.get 2 rfl).1 (H.get 3 rfl).1 h49) ?_
      rintro _ w51 ⟨ra50aAlive, rn50aAlive, rc50aAlive, ra50aBags, rn50aBags, rc50aBags, rx50aBags, rF50aBags, ra50aAround, rn50aAround, rc50aAround, rfl, M, K⟩ _
      replace N := N.merge sz53 lt54 M
      replace H := H.merge K M
      dsimp only [List.cons_append, List.nil_append] at H
      obtain rfl := H.QA 0 rfl
      obtain rfl := H.zt (α := List Int) 1 rfl 0 rfl (by decide)
      obtain rfl := H.QS 2 rfl
      refine ⟨H.pick [4, 5] [7, 8, 9, 10, 11, 12], ?_⟩
      have S := H.yG [4, 5] [7, 8, 9, 10, 11, 12]
      refine rtp 7 (.tuple #[.agg #[.slice ra50aAlive ((((qG aS aT aN).1).qh).length) rc50aAlive, .slice ra50aBags ((((qG aS aT aN).1).qp).length) rc50aBags, .slice ra50aAround ((((qG aS aT aN).1).ql).length) rc50aAround], .int .i64 ((qG aS aT aN).2)]) S ?_
      refine rtp 8 (.agg #[.slice ra50aAlive ((((qG aS aT aN).1).qh).length) rc50aAlive, .slice ra50aBags ((((qG aS aT aN).1).qp).length) rc50aBags, .slice ra50aAround ((((qG aS aT aN).1).ql).length) rc50aAround]) S ?_
      refine rtp 9 (.int .i64 ((qG aS aT aN).2)) S ?_
      refine xq [10] (by kernel_rfl) (by simp) (xZ rfl ?_ xu)
      refine zn H ti38 [.slice none 0 0, .slice none 0 0, .slice none 0 0] fun b58 w59 H => ?_
      refine ⟨H.pick [5, 6] [7, 8, 9, 10, 11, 12], ?_⟩
      refine xq [11] (by kernel_rfl) (by simp) (xZ rfl ?_ xu)
      refine xP H 0 [.slice ra50aAlive ((((qG aS aT aN).1).qh).length) rc50aAlive, .slice ra50aBags ((((qG aS aT aN).1).qp).length) rc50aBags, .slice ra50aAround ((((qG aS aT aN).1).ql).length) rc50aAround] Tryz.sizeOf38 fun w60 H => ?_
      try dsimp only [List.set] at H
      refine ⟨H.pick [5, 6] [7, 8, 9, 10, 11, 12], ?_⟩
      refine rtp 12 (.int .i64 ((qG aS aT aN).2)) (H.pick [5, 6] [7, 8, 9, 10, 11, 12]) ?_
      refine xN (by kernel_rfl) (?_)
      exact meet ⟨_, b58, ra50aAlive, rc50aAlive, ra50aBags, rc50aBags, ra50aAround, rc50aAround, rx50aBags, rF50aBags, (by exact qj (qj (qj (qj (qj (rfl) rfl) rfl) rfl) rfl) rfl), (N.pick [0]), H.pick [0, 1, 2, 3, 5, 6] [0, 7, 8, 9, 10, 11, 12]⟩
     refine zn H ti38 [.slice none 0 0, .slice none 0 0, .slice none 0 0] fun b61 w62 H => ?_
     refine ⟨H.pick [2, 3] [6, 7, 8, 9, 10, 11], ?_⟩
     refine xq [6] (by kernel_rfl) (by simp) (xZ rfl ?_ xu)
     obtain ⟨G63, hn64, h65⟩ := H.QW (α := List Int) 1 rfl 0 rfl (by decide)
     have sz69 := H.base.size
     have lt70 := H.ltN (L := [F42, F36Alive, F36Bags, F36Around, QK, XW]) [0, 1, 2, 3, 4, 5]
     refine qZ #[.agg #[.int .i64 aS.qJ, .slice VD aS.qf.length VB, .slice a30Rules aS.qg.length c30Rules], .agg #[.slice a36Alive aT.qh.length c36Alive, .slice a36Bags aT.qp.length c36Bags, .slice a36Around aT.ql.length c36Around], .slice a43 aN.length c44] rfl rfl Tryz.call30 (specCh_ok w62 aS aT aN VD VB QK a30Rules c30Rules XW a36Alive c36Alive F36Alive a36Bags c36Bags F36Bags a36Around c36Around F36Around a43 c44 G63 (H.get 4 rfl).1 (H.get 5 rfl).1 (H.get 1 rfl).1 (H.get 2 rfl).1 (H.get 3 rfl).1 h65) ?_
     rintro _ w67 ⟨ra66aAlive, rn66aAlive, rc66aAlive, ra66aBags, rn66aBags, rc66aBags, rx66aBags, rF66aBags, ra66aAround, rn66aAround, rc66aAround, rfl, M, K⟩ _
     replace N := N.merge sz69 lt70 M
     replace H := H.merge K M
     dsimp only [List.cons_append, List.nil_append] at H
     obtain rfl := H.QA 0 rfl
     obtain rfl := H.zt (α := List Int) 1 rfl 0 rfl (by decide)
     obtain rfl := H.QS 2 rfl
     refine ⟨H.pick [5, 6] [7, 8, 9, 10, 11, 12], ?_⟩
     have S := H.yG [5, 6] [7, 8, 9, 10, 11, 12]
     refine rtp 7 (.tuple #[.agg #[.slice ra66aAlive ((((qG aS aT aN).1).qh).length) rc66aAlive, .slice ra66aBags ((((qG aS aT aN).1).qp).length) rc66aBags, .slice ra66aAround ((((qG aS aT aN).1).ql).length) rc66aAround], .int .i64 ((qG aS aT aN).2)]) S ?_
     refine rtp 8 (.agg #[.slice ra66aAlive ((((qG aS aT aN).1).qh).length) rc66aAlive, .slice ra66aBags ((((qG aS aT aN).1).qp).length) rc66aBags, .slice ra66aAround ((((qG aS aT aN).1).ql).length) rc66aAround]) S ?_
     refine rtp 9 (.int .i64 ((qG aS aT aN).2)) S ?_
     refine xq [11] (by kernel_rfl) (by simp) (xZ rfl ?_ xu)
     refine xP H 3 [.slice ra66aAlive ((((qG aS aT aN).1).qh).length) rc66aAlive, .slice ra66aBags ((((qG aS aT aN).1).qp).length) rc66aBags, .slice ra66aAround ((((qG aS aT aN).1).ql).length) rc66aAround] Tryz.sizeOf38 fun w74 H => ?_
     try dsimp only [List.set] at H
     refine ⟨H.pick [5, 6] [7, 8, 9, 10, 11, 12], ?_⟩
     refine rtp 12 (.int .i64 ((qG aS aT aN).2)) (H.pick [5, 6] [7, 8, 9, 10, 11, 12]) ?_
     refine xN (by kernel_rfl) (?_)
     exact meet ⟨_, b61, ra66aAlive, rc66aAlive, ra66aBags, rc66aBags, ra66aAround, rc66aAround, rx66aBags, rF66aBags, (by exact qj (qj (qj (qj (qj (rfl) rfl) rfl) rfl) rfl) rfl), (N.pick [0]), H.pick [3, 0, 1, 2, 5, 6] [0, 7, 8, 9, 10, 11, 12]⟩
    refine zn H ti38 [.slice none 0 0, .slice none 0 0, .slice none 0 0] fun b75 w76 H => ?_
    refine ⟨H.pick [1, 2] [5, 6, 7, 8, 9, 10], ?_⟩
    refine xq [5] (by kernel_rfl) (by simp) (xZ rfl ?_ xu)
    have sz77 := H.base.size
    have lt78 := H.ltN (L := [F36Alive, F36Bags, F36Around, QK, XW]) [0, 1, 2, 3, 4]
    refine qZ #[.slice aaN aN.length caN] rfl rfl Tryz.call31 (Qq w76 aN aaN caN FaN (H.get 10 rfl).1 (by first | omega | (have := p2 (by omega); omega))) ?_
    rintro v82 w80 r82 x81
    obtain ⟨xs82, F82, f82, H⟩ := H.add_own x81 r82
    obtain ⟨a83, c84, rfl, hc85, hm86⟩ := H.jv 0 rfl
    replace N := N.cons f82 sz77 lt78
    refine ⟨H.pick [2, 3] [6, 7, 8, 9, 10, 11], ?_⟩
    refine xq [6] (by kernel_rfl) (by simp) (xZ rfl ?_ xu)
    obtain ⟨G87, hn88, h89⟩ := H.QW (α := List Int) 0 rfl 0 rfl (by decide)
    have sz93 := H.base.size
    have lt94 := H.ltN (L := [F82, F36Alive, F36Bags, F36Around, QK, XW]) [0, 1, 2, 3, 4, 5]
    refine qZ #[.agg #[.int .i64 aS.qJ, .slice VD aS.qf.length VB, .slice a30Rules aS.qg.length c30Rules], .agg #[.slice a36Alive aT.qh.length c36Alive, .slice a36Bags aT.qp.length c36Bags, .slice a36Around aT.ql.length c36Around], .slice a83 aN.length c84] rfl rfl Tryz.call30 (specCh_ok w80 aS aT aN VD VB QK a30Rules c30Rules XW a36Alive c36Alive F36Alive a36Bags c36Bags F36Bags a36Around c36Around F36Around a83 c84 G87 (H.get 4 rfl).1 (H.get 5 rfl).1 (H.get 1 rfl).1 (H.get 2 rfl).1 (H.get 3 rfl).1 h89) ?_
    rintro _ w91 ⟨ra90aAlive, rn90aAlive, rc90aAlive, ra90aBags, rn90aBags, rc90aBags, rx90aBags, rF90aBags, ra90aAround, rn90aAround, rc90aAround, rfl, M, K⟩ _
    replace N := N.merge sz93 lt94 M
    replace H := H.merge K M
    dsimp only [List.cons_append, List.nil_append] at H
    obtain rfl := H.QA 0 rfl
    obtain rfl := H.zt (α := List Int) 1 rfl 0 rfl (by decide)
    obtain rfl := H.QS 2 rfl
    refine ⟨H.pick [5, 6] [7, 8, 9, 10, 11, 12], ?_⟩
    have S := H.yG [5, 6] [7, 8, 9, 10, 11, 12]
    refine rtp 7 (.tuple #[.agg #[.slice ra90aAlive ((((qG aS aT aN).1).qh).length) rc90aAlive, .slice ra90aBags ((((qG aS aT aN).1).qp).length) rc90aBags, .slice ra90aAround ((((qG aS aT aN).1).ql).length) rc90aAround], .int .i64 ((qG aS aT aN).2)]) S ?_
    refine rtp 8 (.agg #[.slice ra90aAlive ((((qG aS aT aN).1).qh).length) rc90aAlive, .slice ra90aBags ((((qG aS aT aN).1).qp).length) rc90aBags, .slice ra90aAround ((((qG aS aT aN).1).ql).length) rc90aAround]) S ?_
    refine rtp 9 (.int .i64 ((qG aS aT aN).2)) S ?_
    refine xq [11] (by kernel_rfl) (by simp) (xZ rfl ?_ xu)
    refine xP H 4 [.slice ra90aAlive ((((qG aS aT aN).1).qh).length) rc90aAlive, .slice ra90aBags ((((qG aS aT aN).1).qp).length) rc90aBags, .slice ra90aAround ((((qG aS aT aN).1).ql).length) rc90aAround] Tryz.sizeOf38 fun w98 H => ?_
    try dsimp only [List.set] at H
    refine ⟨H.pick [5, 6] [7, 8, 9, 10, 11, 12], ?_⟩
    refine rtp 12 (.int .i64 ((qG aS aT aN).2)) (H.pick [5, 6] [7, 8, 9, 10, 11, 12]) ?_
    refine xN (by kernel_rfl) (?_)
    exact meet ⟨_, b75, ra90aAlive, rc90aAlive, ra90aBags, rc90aBags, ra90aAround, rc90aAround, rx90aBags, rF90aBags, (by exact qj (qj (qj (qj (qj (rfl) rfl) rfl) rfl) rfl) rfl), (N.pick [0]), H.pick [4, 0, 1, 2, 5, 6] [0, 7, 8, 9, 10, 11, 12]⟩
   refine zn H ti38 [.slice none 0 0, .slice none 0 0, .slice none 0 0] fun b99 w100 H => ?_
   refine ⟨H.pick [1, 2] [2, 3, 4, 5, 6, 7], ?_⟩
   refine xq [3] (by kernel_rfl) (by simp) (xZ rfl ?_ xu)
   have sz101 := H.base.size
   have lt102 := H.ltN (L := [QK, XW]) [0, 1]
   refine qZ #[.agg #[.slice vO aT.qh.length vM, .slice jF aT.qp.length jE, .slice zQ aT.ql.length zO]] rfl rfl Tryz.call12 (Vu w100 aT vO vM Qo jF jE Q5 zQ zO yF (H.get 4 rfl).1 (H.get 5 rfl).1 (H.get 6 rfl).1 (by first | assumption | omega)) ?_
   rintro v106 w104 r106 x105
   obtain ⟨a106Alive, c106Alive, F106Alive, a106Bags, c106Bags, F106Bags, a106Around, c106Around, F106Around, rfl, f106, H⟩ := H.VC x105 r106
   replace N := N.cons f106 sz101 lt102
   replace N := N.split
   replace N := N.split
   refine ⟨H.pick [1, 2] [5, 6, 7, 8, 9, 10], ?_⟩
   refine xq [5] (by kernel_rfl) (by simp) (xZ rfl ?_ xu)
   have sz107 := H.base.size
   have lt108 := H.ltN (L := [F106Alive, F106Bags, F106Around, QK, XW]) [0, 1, 2, 3, 4]
   refine qZ #[.slice aaN aN.length caN] rfl rfl Tryz.call31 (Qq w104 aN aaN caN FaN (H.get 10 rfl).1 (by first | omega | (have := p2 (by omega); omega))) ?_
   rintro v112 w110 r112 x111
   obtain ⟨xs112, F112, f112, H⟩ := H.add_own x111 r112
   obtain ⟨a113, c114, rfl, hc115, hm116⟩ := H.jv 0 rfl
   replace N := N.cons f112 sz107 lt108
   refine ⟨H.pick [2, 3] [6, 7, 8, 9, 10, 11], ?_⟩
   refine xq [6] (by kernel_rfl) (by simp) (xZ rfl ?_ xu)
   obtain ⟨G117, hn118, h119⟩ := H.QW (α := List Int) 0 rfl 0 rfl (by decide)
   have sz123 := H.base.size
   have lt124 := H.ltN (L := [F112, F106Alive, F106Bags, F106Around, QK, XW]) [0, 1, 2, 3, 4, 5]
   refine qZ #[.agg #[.int .i64 aS.qJ, .slice VD aS.qf.length VB, .slice a30Rules aS.qg.length c30Rules], .agg #[.slice a106Alive aT.qh.length c106Alive, .slice a106Bags aT.qp.length c106Bags, .slice a106Around aT.ql.length c106Around], .slice a113 aN.length c114] rfl rfl Tryz.call30 (specCh_ok w110 aS aT aN VD VB QK a30Rules c30Rules XW a106Alive c106Alive F106Alive a106Bags c106Bags F106Bags a106Around c106Around F106Around a113 c114 G117 (H.get 4 rfl).1 (H.get 5 rfl).1 (H.get 1 rfl).1 (H.get 2 rfl).1 (H.get 3 rfl).1 h119) ?_
   rintro _ w121 ⟨ra120aAlive, rn120aAlive, rc120aAlive, ra120aBags, rn120aBags, rc120aBags, rx120aBags, rF120aBags, ra120aAround, rn120aAround, rc120aAround, rfl, M, K⟩ _
   replace N := N.merge sz123 lt124 M
   replace H := H.merge K M
   dsimp only [List.cons_append, List.nil_append] at H
   obtain rfl := H.QA 0 rfl
   obtain rfl := H.zt (α := List Int) 1 rfl 0 rfl (by decide)
   obtain rfl := H.QS 2 rfl
   refine ⟨H.pick [5, 6] [7, 8, 9, 10, 11, 12], ?_⟩
   have S := H.yG [5, 6] [7, 8, 9, 10, 11, 12]
   refine rtp 7 (.tuple #[.agg #[.slice ra120aAlive ((((qG aS aT aN).1).qh).length) rc120aAlive, .slice ra120aBags ((((qG aS aT aN).1).qp).length) rc120aBags, .slice ra120aAround ((((qG aS aT aN).1).ql).length) rc120aAround], .int .i64 ((qG aS aT aN).2)]) S ?_
   refine rtp 8 (.agg #[.slice ra120aAlive ((((qG aS aT aN).1).qh).length) rc120aAlive, .slice ra120aBags ((((qG aS aT aN).1).qp).length) rc120aBags, .slice ra120aAround ((((qG aS aT aN).1).ql).length) rc120aAround]) S ?_
   refine rtp 9 (.int .i64 ((qG aS aT aN).2)) S ?_
   refine xq [11] (by kernel_rfl) (by simp) (xZ rfl ?_ xu)
   refine xP H 4 [.slice ra120aAlive ((((qG aS aT aN).1).qh).length) rc120aAlive, .slice ra120aBags ((((qG aS aT aN).1).qp).length) rc120aBags, .slice ra120aAround ((((qG aS aT aN).1).ql).length) rc120aAround] Tryz.sizeOf38 fun w128 H => ?_
   try dsimp only [List.set] at H
   refine ⟨H.pick [5, 6] [7, 8, 9, 10, 11, 12], ?_⟩
   refine rtp 12 (.int .i64 ((qG aS aT aN).2)) (H.pick [5, 6] [7, 8, 9, 10, 11, 12]) ?_
   refine xN (by kernel_rfl) (?_)
   exact meet ⟨_, b99, ra120aAlive, rc120aAlive, ra120aBags, rc120aBags, ra120aAround, rc120aAround, rx120aBags, rF120aBags, (by exact qj (qj (qj (qj (qj (rfl) rfl) rfl) rfl) rfl) rfl), (N.pick [0]), H.pick [4, 0, 1, 2, 5, 6] [0, 7, 8, 9, 10, 11, 12]⟩
  refine zn H ti38 [.slice none 0 0, .slice none 0 0, .slice none 0 0] fun b129 w130 H => ?_
  refine ⟨H.pick [1, 2] [0, 1, 2, 3, 4, 5], ?_⟩
  refine xq [1] (by kernel_rfl) (by simp) (xZ rfl ?_ xu)
  have sz131 := H.base.size
  refine qZ #[.agg #[.int .i64 aS.qJ, .slice zD aS.qf.length zC, .slice je aS.qg.length jd]] rfl rfl Tryz.call11 (toSystem_ok w130 aS zD zC yf je jd QH (H.get 0 rfl).1 (H.get 1 rfl).1 (by first | assumption | omega)) ?_
  rintro v136 w134 r136 x135
  obtain ⟨a136Parents, c136Parents, F136Parents, a136Rules, c136Rules, F136Rules, rfl, f136, H⟩ := H.add_SystemD x135 r136
  replace N := N.cons f136 sz131 (by intro F hF; simp at hF)
  replace N := N.split
  refine ⟨H.pick [1, 2] [2, 3, 4, 5, 6, 7], ?_⟩
  refine xq [3] (by kernel_rfl) (by simp) (xZ rfl ?_ xu)
  have sz137 := H.base.size
  have lt138 := H.ltN (L := [F136Parents, F136Rules]) [0, 1]
  refine qZ #[.agg #[.slice vO aT.qh.length vM, .slice jF aT.qp.length jE, .slice zQ aT.ql.length zO]] rfl rfl Tryz.call12 (Vu w134 aT vO vM Qo jF jE Q5 zQ zO yF (H.get 4 rfl).1 (H.get 5 rfl).1 (H.get 6 rfl).1 (by first | assumption | omega)) ?_
  rintro v142 w140 r142 x141
  obtain ⟨a142Alive, c142Alive, F142Alive, a142Bags, c142Bags, F142Bags, a142Around, c142Around, F142Around, rfl, f142, H⟩ := H.VC x141 r142
  replace N := N.cons f142 sz137 lt138
  replace N := N.split
  replace N := N.split
  refine ⟨H.pick [1, 2] [5, 6, 7, 8, 9, 10], ?_⟩
  refine xq [5] (by kernel_rfl) (by simp) (xZ rfl ?_ xu)
  have sz143 := H.base.size
  have lt144 := H.ltN (L := [F142Alive, F142Bags, F142Around, F136Parents, F136Rules]) [0, 1, 2, 3, 4]
  refine qZ #[.slice aaN aN.length caN] rfl rfl Tryz.call31 (Qq w140 aN aaN caN FaN (H.get 10 rfl).1 (by first | omega | (have := p2 (by omega); omega))) ?_
  rintro v148 w146 r148 x147
  obtain ⟨xs148, F148, f148, H⟩ := H.add_own x147 r148
  obtain ⟨a149, c150, rfl, hc151, hm152⟩ := H.jv 0 rfl
  replace N := N.cons f148 sz143 lt144
  refine ⟨H.pick [2, 3] [6, 7, 8, 9, 10, 11], ?_⟩
  refine xq [6] (by kernel_rfl) (by simp) (xZ rfl ?_ xu)
  obtain ⟨G153, hn154, h155⟩ := H.QW (α := List Int) 0 rfl 0 rfl (by decide)
  have sz159 := H.base.size
  have lt160 := H.ltN (L := [F148, F142Alive, F142Bags, F142Around, F136Parents, F136Rules]) [0, 1, 2, 3, 4, 5]
  refine qZ #[.agg #[.int .i64 aS.qJ, .slice a136Parents aS.qf.length c136Parents, .slice a136Rules aS.qg.length c136Rules], .agg #[.slice a142Alive aT.qh.length c142Alive, .slice a142Bags aT.qp.length c142Bags, .slice a142Around aT.ql.length c142Around], .slice a149 aN.length c150] rfl rfl Tryz.call30 (specCh_ok w146 aS aT aN a136Parents c136Parents F136Parents a136Rules c136Rules F136Rules a142Alive c142Alive F142Alive a142Bags c142Bags F142Bags a142Around c142Around F142Around a149 c150 G153 (H.get 4 rfl).1 (H.get 5 rfl).1 (H.get 1 rfl).1 (H.get 2 rfl).1 (H.get 3 rfl).1 h155) ?_
  rintro _ w157 ⟨ra156aAlive, rn156aAlive, rc156aAlive, ra156aBags, rn156aBags, rc156aBags, rx156aBags, rF156aBags, ra156aAround, rn156aAround, rc156aAround, rfl, M, K⟩ _
  replace N := N.merge sz159 lt160 M
  replace H := H.merge K M
  dsimp only [List.cons_append, List.nil_append] at H
  obtain rfl := H.QA 0 rfl
  obtain rfl := H.zt (α := List Int) 1 rfl 0 rfl (by decide)
  obtain rfl := H.QS 2 rfl
  refine ⟨H.pick [5, 6] [7, 8, 9, 10, 11, 12], ?_⟩
  have S := H.yG [5, 6] [7, 8, 9, 10, 11, 12]
  refine rtp 7 (.tuple #[.agg #[.slice ra156aAlive ((((qG aS aT aN).1).qh).length) rc156aAlive, .slice ra156aBags ((((qG aS aT aN).1).qp).length) rc156aBags, .slice ra156aAround ((((qG aS aT aN).1).ql).length) rc156aAround], .int .i64 ((qG aS aT aN).2)]) S ?_
  refine rtp 8 (.agg #[.slice ra156aAlive ((((qG aS aT aN).1).qh).length) rc156aAlive, .slice ra156aBags ((((qG aS aT aN).1).qp).length) rc156aBags, .slice ra156aAround ((((qG aS aT aN).1).ql).length) rc156aAround]) S ?_
  refine rtp 9 (.int .i64 ((qG aS aT aN).2)) S ?_
  refine xq [11] (by kernel_rfl) (by simp) (xZ rfl ?_ xu)
  refine xP H 4 [.slice ra156aAlive ((((qG aS aT aN).1).qh).length) rc156aAlive, .slice ra156aBags ((((qG aS aT aN).1).qp).length) rc156aBags, .slice ra156aAround ((((qG aS aT aN).1).ql).length) rc156aAround] Tryz.sizeOf38 fun w164 H => ?_
  try dsimp only [List.set] at H
  refine ⟨H.pick [5, 6] [7, 8, 9, 10, 11, 12], ?_⟩
  refine rtp 12 (.int .i64 ((qG aS aT aN).2)) (H.pick [5, 6] [7, 8, 9, 10, 11, 12]) ?_
  refine xN (by kernel_rfl) (?_)
  exact meet ⟨_, b129, ra156aAlive, rc156aAlive, ra156aBags, rc156aBags, ra156aAround, rc156aAround, rx156aBags, rF156aBags, (by exact qj (qj (qj (qj (qj (rfl) rfl) rfl) rfl) rfl) rfl), (N.pick [0]), H.pick [4, 0, 1, 2, 5, 6] [0, 7, 8, 9, 10, 11, 12]⟩
 clear H N
 rintro ρ w165 ⟨junk, b15, ra16, rc17, ra18, rc19, ra20, rc21, rx22, rF23, rfl, N, H⟩
 refine t_n (qm (qA ?_))
 refine sw (zg [.int .i64 aS.qJ, .slice zD aS.qf.length zC, .slice je aS.qg.length jd] Tryz.isAgg25 Tryz.sizeOf25 rfl (qH (H.cells 5 rfl) 0 3) ?_)
 have sz166 := H.base.size
 have lt167 := H.ltN (L := [rF23]) [0]
 refine sw (qZ #[.agg #[.int .i64 aS.qJ, .slice zD aS.qf.length zC, .slice je aS.qg.length jd]] rfl rfl Tryz.call11 (toSystem_ok w165 aS zD zC yf je jd QH (H.get 1 rfl).1 (H.get 2 rfl).1 (by first | assumption | omega)) ?_)
 rintro v171 w169 r171 x170
 obtain ⟨ji, jh, zl, yt, yj, zS, rfl, f171, H⟩ := H.add_SystemD x170 r171
 replace N := N.cons f171 sz166 lt167
 replace N := N.split
 refine sw (zn H ti36 [.int .i64 0, .slice none 0 0, .slice none 0 0] fun b172 w173 H => ?_)
 refine sw (xP H 0 [.int .i64 aS.qJ, .slice ji aS.qf.length jh, .slice yt aS.qg.length yj] Tryz.sizeOf36 fun w174 H => ?_)
 try dsimp only [List.set] at H
 refine qx (t_n (qm (qA ?_)))
 refine sw (zg [.slice vO aT.qh.length vM, .slice jF aT.qp.length jE, .slice zQ aT.ql.length zO] Tryz.isAgg29 Tryz.sizeOf29 rfl (qH (H.cells 5 rfl) 0 3) ?_)
 have sz175 := H.base.size
 have lt176 := H.ltN (L := [zl, zS, rF23]) [0, 1, 2]
 refine sw (qZ #[.agg #[.slice vO aT.qh.length vM, .slice jF aT.qp.length jE, .slice zQ aT.ql.length zO]] rfl rfl Tryz.call12 (Vu w174 aT vO vM Qo jF jE Q5 zQ zO yF (H.get 5 rfl).1 (H.get 6 rfl).1 (H.get 7 rfl).1 (by first | assumption | omega)) ?_)
 rintro v180 w178 r180 x179
 obtain ⟨yl, yh, zV, yY, yX, vT, jI, jH, zy, rfl, f180, H⟩ := H.VC x179 r180
 replace N := N.cons f180 sz175 lt176
 replace N := N.split
 replace N := N.split
 refine sw (zn H ti38 [.slice none 0 0, .slice none 0 0, .slice none 0 0] fun b181 w182 H => ?_)
 refine sw (xP H 0 [.slice yl aT.qh.length yh, .slice yY aT.qp.length yX, .slice jI aT.ql.length jH] Tryz.sizeOf38 fun w183 H => ?_)
 try dsimp only [List.set] at H
 refine qx (t_n (qm (qA ?_)))
 refine sp (.slice aaN aN.length caN) ?_
 have sz184 := H.base.size
 have lt185 := H.ltN (L := [zV, vT, zy, zl, zS, rF23]) [0, 1, 2, 3, 4, 5]
 refine sw (qZ #[.slice aaN aN.length caN] rfl rfl Tryz.call31 (Qq w183 aN aaN caN FaN (H.get 11 rfl).1 (by first | omega | (have := p2 (by omega); omega))) ?_)
 rintro v189 w187 r189 x188
 obtain ⟨xs189, F189, f189, H⟩ := H.add_own x188 r189
 obtain ⟨a190, c191, rfl, hc192, hm193⟩ := H.jv 0 rfl
 replace N := N.cons f189 sz184 lt185
 refine sp (.slice a190 aN.length c191) ?_
 refine qx (t_n (qm (qA ?_)))
 refine sw (zg [.int .i64 aS.qJ, .slice ji aS.qf.length jh, .slice yt aS.qg.length yj] Tryz.isAgg36 Tryz.sizeOf36 rfl (qH (H.cells 2 rfl) 0 3) ?_)
 refine sw (zg [.slice yl aT.qh.length yh, .slice yY aT.qp.length yX, .slice jI aT.ql.length jH] Tryz.isAgg38 Tryz.sizeOf38 rfl (qH (H.cells 1 rfl) 0 3) ?_)
 refine sp (.slice a190 aN.length c191) ?_
 obtain ⟨G194, hn195, h196⟩ := H.QW (α := List Int) 0 rfl 0 rfl (by decide)
 have sz200 := H.base.size
 have lt201 := H.ltN (L := [F189, zV, vT, zy, zl, zS, rF23]) [0, 1, 2, 3, 4, 5, 6]
 refine sw (qZ #[.agg #[.int .i64 aS.qJ, .slice ji aS.qf.length jh, .slice yt aS.qg.length yj], .agg #[.slice yl aT.qh.length yh, .slice yY aT.qp.length yX, .slice jI aT.ql.length jH], .slice a190 aN.length c191] rfl rfl Tryz.call32 (implCh_ok w187 aS aT aN ji jh zl yt yj zS yl yh zV yY yX vT jI jH zy a190 c191 G194 (H.get 4 rfl).1 (H.get 5 rfl).1 (H.get 1 rfl).1 (H.get 2 rfl).1 (H.get 3 rfl).1 h196) ?_)
 rintro _ w198 ⟨ra197aAlive, rn197aAlive, rc197aAlive, ra197aBags, rn197aBags, rc197aBags, rx197aBags, rF197aBags, ra197aAround, rn197aAround, rc197aAround, rfl, M, K⟩ _
 replace N := N.merge sz200 lt201 M
 replace H := H.merge K M
 dsimp only [List.cons_append, List.nil_append] at H
 obtain rfl := H.QA 0 rfl
 obtain rfl := H.zt (α := List Int) 1 rfl 0 rfl (by decide)
 obtain rfl := H.QS 2 rfl
 refine sps [.tuple #[.agg #[.slice ra197aAlive ((((qG aS aT aN).1).qh).length) rc197aAlive, .slice ra197aBags ((((qG aS aT aN).1).qp).length) rc197aBags, .slice ra197aAround ((((qG aS aT aN).1).ql).length) rc197aAround], .int .i64 ((qG aS aT aN).2)], .agg #[.slice ra197aAlive ((((qG aS aT aN).1).qh).length) rc197aAlive, .slice ra197aBags ((((qG aS aT aN).1).qp).length) rc197aBags, .slice ra197aAround ((((qG aS aT aN).1).ql).length) rc197aAround], .int .i64 ((qG aS aT aN).2)] ?_
 refine sw (zn H ti38 [.slice none 0 0, .slice none 0 0, .slice none 0 0] fun b205 w206 H => ?_)
 refine sw (xP H 0 [.slice ra197aAlive ((((qG aS aT aN).1).qh).length) rc197aAlive, .slice ra197aBags ((((qG aS aT aN).1).qp).length) rc197aBags, .slice ra197aAround ((((qG aS aT aN).1).ql).length) rc197aAround] Tryz.sizeOf38 fun w207 H => ?_)
 try dsimp only [List.set] at H
 refine sp (.int .i64 ((qG aS aT aN).2)) ?_
 refine qx (t_n (qm (qm (qA ?_))))
 refine sw (zg [.slice ra197aAlive ((((qG aS aT aN).1).qh).length) rc197aAlive, .slice ra197aBags ((((qG aS aT aN).1).qp).length) rc197aBags, .slice ra197aAround ((((qG aS aT aN).1).ql).length) rc197aAround] Tryz.isAgg38 Tryz.sizeOf38 rfl (qH (H.cells 0 rfl) 0 3) ?_)
 refine sw (zg [.slice ra16 ((((qG aS aT aN).1).qh).length) rc17, .slice ra18 ((((qG aS aT aN).1).qp).length) rc19, .slice ra20 ((((qG aS aT aN).1).ql).length) rc21] Tryz.isAgg38 Tryz.sizeOf38 rfl (qH (H.cells 7 rfl) 0 3) ?_)
 obtain ⟨G208, hn209, h210⟩ := H.rowIsB 1 rfl
 obtain ⟨G211, hn212, h213⟩ := H.QW (α := List Int) 2 rfl 0 rfl (by decide)
 obtain ⟨G214, hn215, h216⟩ := H.rowIsI 3 rfl
 obtain ⟨G217, hn218, h219⟩ := H.rowIsB 8 rfl
 obtain ⟨G220, hn221, h222⟩ := H.QW (α := List Int) 9 rfl 7 rfl (by decide)
 obtain ⟨G223, hn224, h225⟩ := H.rowIsI 10 rfl
 refine sw (qZ #[.agg #[.slice ra197aAlive ((((qG aS aT aN).1).qh).length) rc197aAlive, .slice ra197aBags ((((qG aS aT aN).1).qp).length) rc197aBags, .slice ra197aAround ((((qG aS aT aN).1).ql).length) rc197aAround], .agg #[.slice ra16 ((((qG aS aT aN).1).qh).length) rc17, .slice ra18 ((((qG aS aT aN).1).qp).length) rc19, .slice ra20 ((((qG aS aT aN).1).ql).length) rc21]] rfl rfl Tryz.call16 (eqState_ok w207 ((qG aS aT aN).1) ((qG aS aT aN).1) ra197aAlive rc197aAlive G208 ra197aBags rc197aBags G211 ra197aAround rc197aAround G214 ra16 rc17 G217 ra18 rc19 G220 ra20 rc21 G223 h210 h213 h216 h219 h222 h225) ?_)
 rintro _ w226 rfl x227
 replace H := H.ext x227
 refine sps [.bool (!(decide (((qG aS aT aN).1) = ((qG aS aT aN).1)))), .bool (!(decide (((qG aS aT aN).1) = ((qG aS aT aN).1))))] ?_
 cases h228 : (!(decide (((qG aS aT aN).1) = ((qG aS aT aN).1))))
 ·skip
  replace h228 := qY h228
  refine qQ 62 rfl rfl ?_
  refine sp (.int .i64 ((qG aS aT aN).2)) ?_
  refine qQ 62 rfl rfl ?_
  refine sp (.int .i64 ((qG aS aT aN).2)) ?_
  refine qQ 62 rfl rfl ?_
  refine sps [.bool (((qG aS aT aN).2 : Int) != ((qG aS aT aN).2)), .bool (((qG aS aT aN).2 : Int) != ((qG aS aT aN).2))] ?_
  refine qx (t_n ?_)
  refine qW (((qG aS aT aN).2 : Int) != ((qG aS aT aN).2)) rfl (fun h => absurd rfl (bne_iff_ne.1 h)) (fun h229 => ?_)
  replace h229 := xR h229
  refine xk (t_n (qm (qm ?_)))
  refine yw rfl H fun H => ?_
  refine rt 0 (.agg #[.int .i64 aS.qJ, .slice ji aS.qf.length jh, .slice yt aS.qg.length yj]) (Qp (cs := [.int .i64 aS.qJ, .slice ji aS.qf.length jh, .slice yt aS.qg.length yj]) Tryz.isAgg36 Tryz.sizeOf36 rfl (fun _ h => qH (h.cells 6 rfl) 0 3)) H ?_
  refine rt 1 (.agg #[.int .i64 aS.qJ, .slice zD aS.qf.length zC, .slice je aS.qg.length jd]) (Qp (cs := [.int .i64 aS.qJ, .slice zD aS.qf.length zC, .slice je aS.qg.length jd]) Tryz.isAgg25 Tryz.sizeOf25 rfl (fun _ h => qH (h.cells 12 rfl) 0 3)) H ?_
  refine xq [2] (by kernel_rfl) (by simp) (xZ rfl ?_ xu)
  have sz231 := H.base.size
  have lt232 := H.ltN (L := [rF197aBags, F189, zV, vT, zy, zl, zS, rF23]) [0, 1, 2, 3, 4, 5, 6, 7]
  refine qZ #[.agg #[.int .i64 aS.qJ, .slice zD aS.qf.length zC, .slice je aS.qg.length jd]] rfl rfl Tryz.call11 (toSystem_ok w226.drew aS zD zC yf je jd QH (H.get 8 rfl).1 (H.get 9 rfl).1 (by first | assumption | omega)) ?_
  rintro v236 w234 r236 x235
  obtain ⟨a236Parents, c236Parents, zL, a236Rules, c236Rules, ja, rfl, f236, H⟩ := H.add_SystemD x235 r236
  replace N := N.cons f236 sz231 lt232
  replace N := N.split
  refine ⟨H.pick [0, 1, 2, 3, 4, 5, 6, 7, 8, 9, 10, 11, 12] [2, 3, 4, 5, 6, 7, 8, 9, 10, 11, 12, 13, 14, 15], ?_⟩
  refine xq [3] (by kernel_rfl) (by simp) (xZ rfl ?_ xu)
  refine qZ #[.agg #[.int .i64 aS.qJ, .slice ji aS.qf.length jh, .slice yt aS.qg.length yj], .agg #[.int .i64 aS.qJ, .slice a236Parents aS.qf.length c236Parents, .slice a236Rules aS.qg.length c236Rules]] rfl rfl Tryz.call15 (eqSystem_ok w234 aS aS ji jh zl yt yj zS a236Parents c236Parents zL a236Rules c236Rules ja (H.get 7 rfl).1 (H.get 8 rfl).1 (H.get 0 rfl).1 (H.get 1 rfl).1) ?_
  rintro _ w237 rfl x238
  replace H := H.ext x238
  refine ⟨H.pick [0, 1, 2, 3, 4, 5, 6, 7, 8, 9, 10, 11, 12] [2, 3, 4, 5, 6, 7, 8, 9, 10, 11, 12, 13, 14, 15], ?_⟩
  refine rtp 4 (.bool (!(decide (aS = aS)))) (H.pick [0, 1, 2, 3, 4, 5, 6, 7, 8, 9, 10, 11, 12] [2, 3, 4, 5, 6, 7, 8, 9, 10, 11, 12, 13, 14, 15]) ?_
  refine xN (by kernel_rfl) (t_n ?_)
  refine qW (!(decide (aS = aS))) rfl (fun h => absurd (xg h) (by simp)) (fun h239 => ?_)
  replace h239 := qY h239
  refine xk (t_n (qm (qm ?_)))
  refine yw rfl H fun H => ?_
  refine rt 0 (.agg #[.slice yl aT.qh.length yh, .slice yY aT.qp.length yX, .slice jI aT.ql.length jH]) (Qp (cs := [.slice yl aT.qh.length yh, .slice yY aT.qp.length yX, .slice jI aT.ql.length jH]) Tryz.isAgg38 Tryz.sizeOf38 rfl (fun _ h => qH (h.cells 5 rfl) 0 3)) H ?_
  refine rt 1 (.agg #[.slice vO aT.qh.length vM, .slice jF aT.qp.length jE, .slice zQ aT.ql.length zO]) (Qp (cs := [.slice vO aT.qh.length vM, .slice jF aT.qp.length jE, .slice zQ aT.ql.length zO]) Tryz.isAgg29 Tryz.sizeOf29 rfl (fun _ h => qH (h.cells 11 rfl) 0 3)) H ?_
  refine xq [2] (by kernel_rfl) (by simp) (xZ rfl ?_ xu)
  have sz241 := H.base.size
  have lt242 := H.ltN (L := [zL, ja, rF197aBags, F189, zV, vT, zy, zl, zS, rF23]) [0, 1, 2, 3, 4, 5, 6, 7, 8, 9]
  refine qZ #[.agg #[.slice vO aT.qh.length vM, .slice jF aT.qp.length jE, .slice zQ aT.ql.length zO]] rfl rfl Tryz.call12 (Vu w237.drew aT vO vM Qo jF jE Q5 zQ zO yF (H.get 12 rfl).1 (H.get 13 rfl).1 (H.get 14 rfl).1 (by first | assumption | omega)) ?_
  rintro v246 w244 r246 x245
  obtain ⟨a246Alive, c246Alive, jf, a246Bags, c246Bags, jQ, a246Around, c246Around, vF, rfl, f246, H⟩ := H.VC x245 r246
  replace N := N.cons f246 sz241 lt242
  replace N := N.split
  replace N := N.split
  refine ⟨H.pick [0, 1, 2, 3, 4, 5, 6, 7, 8, 9, 10, 11, 12] [3, 4, 5, 6, 7, 8, 9, 10, 11, 12, 13, 14, 15, 16, 17, 18], ?_⟩
  refine xq [3] (by kernel_rfl) (by simp) (xZ rfl ?_ xu)
  refine qZ #[.agg #[.slice yl aT.qh.length yh, .slice yY aT.qp.length yX, .slice jI aT.ql.length jH], .agg #[.slice a246Alive aT.qh.length c246Alive, .slice a246Bags aT.qp.length c246Bags, .slice a246Around aT.ql.length c246Around]] rfl rfl Tryz.call16 (eqState_ok w244 aT aT yl yh zV yY yX vT jI jH zy a246Alive c246Alive jf a246Bags c246Bags jQ a246Around c246Around vF (H.get 7 rfl).1 (H.get 8 rfl).1 (H.get 9 rfl).1 (H.get 0 rfl).1 (H.get 1 rfl).1 (H.get 2 rfl).1) ?_
  rintro _ w247 rfl x248
  replace H := H.ext x248
  refine ⟨H.pick [0, 1, 2, 3, 4, 5, 6, 7, 8, 9, 10, 11, 12] [3, 4, 5, 6, 7, 8, 9, 10, 11, 12, 13, 14, 15, 16, 17, 18], ?_⟩
  refine rtp 4 (.bool (!(decide (aT = aT)))) (H.pick [0, 1, 2, 3, 4, 5, 6, 7, 8, 9, 10, 11, 12] [3, 4, 5, 6, 7, 8, 9, 10, 11, 12, 13, 14, 15, 16, 17, 18]) ?_
  refine xN (by kernel_rfl) (t_n ?_)
  refine qW (!(decide (aT = aT))) rfl (fun h => absurd (xg h) (by simp)) (fun h249 => ?_)
  replace h249 := qY h249
  refine xk (t_n (qm (qm (qA ?_))))
  refine sps [.slice a190 aN.length c191, .slice aaN aN.length caN] ?_
  have sz250 := H.base.size
  have lt251 := H.ltN (L := [jf, jQ, vF, zL, ja, rF197aBags, F189, zV, vT, zy, zl, zS, rF23]) [0, 1, 2, 3, 4, 5, 6, 7, 8, 9, 10, 11, 12]
  refine sw (qZ #[.slice aaN aN.length caN] rfl rfl Tryz.call31 (Qq w247 aN aaN caN FaN (H.get 18 rfl).1 (by first | omega | (have := p2 (by omega); omega))) ?_)
  rintro v255 w253 r255 x254
  obtain ⟨xs255, F255, f255, H⟩ := H.add_own x254 r255
  obtain ⟨a256, c257, rfl, hc258, hm259⟩ := H.jv 0 rfl
  replace N := N.cons f255 sz250 lt251
  obtain ⟨G260, hn261, h262⟩ := H.QW (α := List Int) 5 rfl 7 rfl (by decide)
  obtain ⟨G263, hn264, h265⟩ := H.QW (α := List Int) 0 rfl 0 rfl (by decide)
  refine sw (qZ #[.slice a190 aN.length c191, .slice a256 aN.length c257] rfl rfl Tryz.call14 (eqInt64SS_ok w253 aN aN a190 c191 G260 a256 c257 G263 h262 h265) ?_)
  rintro _ w266 rfl x267
  replace H := H.ext x267
  refine sp (.bool (!(decide (aN = aN)))) ?_
  refine qx (t_n ?_)
  refine qW (!(decide (aN = aN))) rfl (fun h => absurd (xg h) (by simp)) (fun h268 => ?_)
  replace h268 := qY h268
  refine xk (t_n (qm (qA ?_)))
  refine sp (.int .i64 1) ?_
  refine qx (t_n (qm (qA ?_)))
  refine sw (zg [.int .i64 aS.qJ, .slice ji aS.qf.length jh, .slice yt aS.qg.length yj] Tryz.isAgg36 Tryz.sizeOf36 rfl (qH (H.cells 7 rfl) 0 3) ?_)
  refine sp (.int .i64 1) ?_
  have N269 : Fresh w.heap.size [zl, zS, F255, jf, jQ, vF, zL, ja, rF197aBags, F189, zV, vT, zy, rF23] := (N.pick [11, 12, 0, 1, 2, 3, 4, 5, 6, 7, 8, 9, 10, 13])
  refine sw (XH #[.agg #[.int .i64 aS.qJ, .slice ji aS.qf.length jh, .slice yt aS.qg.length yj], .int .i64 1] rfl rfl Tryz.call17 (markSystem_ok w266 aS 1 ji jh zl yt yj zS (H.get 11 rfl).1 (H.get 12 rfl).1 (N269.pick [0, 1] : Fresh _ [zl, zS]).join.one.2 (((H.get 11 rfl).2 rfl).app ((H.get 12 rfl).2 rfl)) (by omega) (by omega)) ?_)
  rintro _ w270 ⟨rfl, m272⟩ x271
  replace H : St _ _ [.row (.slice a256 aN.length c257) 22 1 aN.length xs255, .box b205 [.slice ra197aAlive ((((qG aS aT aN).1).qh).length) rc197aAlive, .slice ra197aBags ((((qG aS aT aN).1).qp).length) rc197aBags, .slice ra197aAround ((((qG aS aT aN).1).ql).length) rc197aAround] 38, .row (.slice ra197aAlive ((((qG aS aT aN).1).qh).length) rc197aAlive) 4 1 ((((qG aS aT aN).1).qh).length) ((((qG aS aT aN).1).qh).map (Value.bool)), .row (.slice ra197aBags ((((qG aS aT aN).1).qp).length) rc197aBags) 22 1 ((((qG aS aT aN).1).qp).length) rx197aBags, .row (.slice ra197aAround ((((qG aS aT aN).1).ql).length) rc197aAround) 2 1 ((((qG aS aT aN).1).ql).length) ((((qG aS aT aN).1).ql).map (Value.int .i64)), .row (.slice a190 aN.length c191) 22 1 aN.length xs189, .box b181 [.slice yl aT.qh.length yh, .slice yY aT.qp.length yX, .slice jI aT.ql.length jH] 38, .box b172 [.int .i64 aS.qJ, .slice ji aS.qf.length jh, .slice yt aS.qg.length yj] 36, .box b15 [.slice ra16 ((((qG aS aT aN).1).qh).length) rc17, .slice ra18 ((((qG aS aT aN).1).qp).length) rc19, .slice ra20 ((((qG aS aT aN).1).ql).length) rc21] 38, .row (.slice ra16 ((((qG aS aT aN).1).qh).length) rc17) 4 1 ((((qG aS aT aN).1).qh).length) ((((qG aS aT aN).1).qh).map (Value.bool)), .row (.slice ra18 ((((qG aS aT aN).1).qp).length) rc19) 22 1 ((((qG aS aT aN).1).qp).length) rx22, .row (.slice ra20 ((((qG aS aT aN).1).ql).length) rc21) 2 1 ((((qG aS aT aN).1).ql).length) ((((qG aS aT aN).1).ql).map (Value.int .i64)), .box b3 [.slice vO aT.qh.length vM, .slice jF aT.qp.length jE, .slice zQ aT.ql.length zO] 29, .box b1 [.int .i64 aS.qJ, .slice zD aS.qf.length zC, .slice je aS.qg.length jd] 25] [isF true zl (.slice ji aS.qf.length jh) (mrk aS.qf (1)), isF true zS (.slice yt aS.qg.length yj) (mrk aS.qg (1 + (cnt aS.qf : Nat))), vX true F255 xs255 aN, isF true jf (.slice a246Alive aT.qh.length c246Alive) aT.qh, isF true jQ (.slice a246Bags aT.qp.length c246Bags) aT.qp, isF true vF (.slice a246Around aT.ql.length c246Around) aT.ql, isF true zL (.slice a236Parents aS.qf.length c236Parents) aS.qf, isF true ja (.slice a236Rules aS.qg.length c236Rules) aS.qg, vX true rF197aBags rx197aBags (((qG aS aT aN).1).qp), vX true F189 xs189 aN, isF true zV (.slice yl aT.qh.length yh) aT.qh, isF true vT (.slice yY aT.qp.length yX) aT.qp, isF true zy (.slice jI aT.ql.length jH) aT.ql, vX true rF23 rx22 (((qG aS aT aN).1).qp), isF false yf (.slice zD aS.qf.length zC) aS.qf, isF false QH (.slice je aS.qg.length jd) aS.qg, isF false Qo (.slice vO aT.qh.length vM) aT.qh, isF false Q5 (.slice jF aT.qp.length jE) aT.qp, isF false yF (.slice zQ aT.ql.length zO) aT.ql, isF false FaN (.slice aaN aN.length caN) aN] := H.chgFacts (Fs := [zl, zS]) (L := [F255, jf, jQ, vF, zL, ja, rF197aBags, F189, zV, vT, zy, rF23]) (A := [yf, QH, Qo, Q5, yF, FaN]) N269 A (x271.mono (by intro z hz; simpa using hz)) [11, 12] [isF true zl (.slice ji aS.qf.length jh) (mrk aS.qf (1)), isF true zS (.slice yt aS.qg.length yj) (mrk aS.qg (1 + (cnt aS.qf : Nat)))] (all_of ⟨m272.1, ⟨m272.2, trivial⟩⟩) [0, 1, 2, 3, 4, 5, 6, 7, 8, 9, 10, 13, 14, 15, 16, 17, 18, 19] [0, 1, 2, 3, 4, 5, 6, 7, 8, 9, 10, 11, 12, 13, 14, 15, 16, 17]
  replace N := N269
  refine sp (.int .i64 (1 + (cnt aS.qf : Nat) + (cnt aS.qg : Nat))) ?_
  refine qx (t_n (qm (qA ?_)))
  refine sw (zg [.slice yl aT.qh.length yh, .slice yY aT.qp.length yX, .slice jI aT.ql.length jH] Tryz.isAgg38 Tryz.sizeOf38 rfl (qH (H.cells 6 rfl) 0 3) ?_)
  refine sp (.int .i64 (1 + (cnt aS.qf : Nat) + (cnt aS.qg : Nat))) ?_
  have N273 : Fresh w.heap.size [zV, vT, zy, zl, zS, F255, jf, jQ, vF, zL, ja, rF197aBags, F189, rF23] := (N.pick [10, 11, 12, 0, 1, 2, 3, 4, 5, 6, 7, 8, 9, 13])
  refine sw (XH #[.agg #[.slice yl aT.qh.length yh, .slice yY aT.qp.length yX, .slice jI aT.ql.length jH], .int .i64 (1 + (cnt aS.qf : Nat) + (cnt aS.qg : Nat))] rfl rfl Tryz.call18 (markState_ok w270 aT (1 + (cnt aS.qf : Nat) + (cnt aS.qg : Nat)) yl yh zV yY yX vT jI jH zy (H.get 10 rfl).1 (H.get 11 rfl).1 (H.get 12 rfl).1 (N273.pick [0, 1, 2] : Fresh _ [zV, vT, zy]).join.join.one.2 ((((H.get 10 rfl).2 rfl).app ((H.get 11 rfl).2 rfl)).app ((H.get 12 rfl).2 rfl)) (by omega) (by omega)) ?_)
  rintro _ w274 ⟨rfl, m276⟩ x275
  replace H : St _ _ [.row (.slice a256 aN.length c257) 22 1 aN.length xs255, .box b205 [.slice ra197aAlive ((((qG aS aT aN).1).qh).length) rc197aAlive, .slice ra197aBags ((((qG aS aT aN).1).qp).length) rc197aBags, .slice ra197aAround ((((qG aS aT aN).1).ql).length) rc197aAround] 38, .row (.slice ra197aAlive ((((qG aS aT aN).1).qh).length) rc197aAlive) 4 1 ((((qG aS aT aN).1).qh).length) ((((qG aS aT aN).1).qh).map (Value.bool)), .row (.slice ra197aBags ((((qG aS aT aN).1).qp).length) rc197aBags) 22 1 ((((qG aS aT aN).1).qp).length) rx197aBags, .row (.slice ra197aAround ((((qG aS aT aN).1).ql).length) rc197aAround) 2 1 ((((qG aS aT aN).1).ql).length) ((((qG aS aT aN).1).ql).map (Value.int .i64)), .row (.slice a190 aN.length c191) 22 1 aN.length xs189, .box b181 [.slice yl aT.qh.length yh, .slice yY aT.qp.length yX, .slice jI aT.ql.length jH] 38, .box b172 [.int .i64 aS.qJ, .slice ji aS.qf.length jh, .slice yt aS.qg.length yj] 36, .box b15 [.slice ra16 ((((qG aS aT aN).1).qh).length) rc17, .slice ra18 ((((qG aS aT aN).1).qp).length) rc19, .slice ra20 ((((qG aS aT aN).1).ql).length) rc21] 38, .row (.slice ra16 ((((qG aS aT aN).1).qh).length) rc17) 4 1 ((((qG aS aT aN).1).qh).length) ((((qG aS aT aN).1).qh).map (Value.bool)), .row (.slice ra18 ((((qG aS aT aN).1).qp).length) rc19) 22 1 ((((qG aS aT aN).1).qp).length) rx22, .row (.slice ra20 ((((qG aS aT aN).1).ql).length) rc21) 2 1 ((((qG aS aT aN).1).ql).length) ((((qG aS aT aN).1).ql).map (Value.int .i64)), .box b3 [.slice vO aT.qh.length vM, .slice jF aT.qp.length jE, .slice zQ aT.ql.length zO] 29, .box b1 [.int .i64 aS.qJ, .slice zD aS.qf.length zC, .slice je aS.qg.length jd] 25] [isF true zV (.slice yl aT.qh.length yh) (mrk aT.qh (1 + (cnt aS.qf : Nat) + (cnt aS.qg : Nat))), isF true vT (.slice yY aT.qp.length yX) (mrk aT.qp (1 + (cnt aS.qf : Nat) + (cnt aS.qg : Nat) + (cnt aT.qh : Nat))), isF true zy (.slice jI aT.ql.length jH) (mrk aT.ql (1 + (cnt aS.qf : Nat) + (cnt aS.qg : Nat) + (cnt aT.qh : Nat) + (cnt aT.qp : Nat))), isF true zl (.slice ji aS.qf.length jh) (mrk aS.qf (1)), isF true zS (.slice yt aS.qg.length yj) (mrk aS.qg (1 + (cnt aS.qf : Nat))), vX true F255 xs255 aN, isF true jf (.slice a246Alive aT.qh.length c246Alive) aT.qh, isF true jQ (.slice a246Bags aT.qp.length c246Bags) aT.qp, isF true vF (.slice a246Around aT.ql.length c246Around) aT.ql, isF true zL (.slice a236Parents aS.qf.length c236Parents) aS.qf, isF true ja (.slice a236Rules aS.qg.length c236Rules) aS.qg, vX true rF197aBags rx197aBags (((qG aS aT aN).1).qp), vX true F189 xs189 aN, vX true rF23 rx22 (((qG aS aT aN).1).qp), isF false yf (.slice zD aS.qf.length zC) aS.qf, isF false QH (.slice je aS.qg.length jd) aS.qg, isF false Qo (.slice vO aT.qh.length vM) aT.qh, isF false Q5 (.slice jF aT.qp.length jE) aT.qp, isF false yF (.slice zQ aT.ql.length zO) aT.ql, isF false FaN (.slice aaN aN.length caN) aN] := H.chgFacts (Fs := [zV, vT, zy]) (L := [zl, zS, F255, jf, jQ, vF, zL, ja, rF197aBags, F189, rF23]) (A := [yf, QH, Qo, Q5, yF, FaN]) N273 A (x275.mono (by intro z hz; simpa using hz)) [10, 11, 12] [isF true zV (.slice yl aT.qh.length yh) (mrk aT.qh (1 + (cnt aS.qf : Nat) + (cnt aS.qg : Nat))), isF true vT (.slice yY aT.qp.length yX) (mrk aT.qp (1 + (cnt aS.qf : Nat) + (cnt aS.qg : Nat) + (cnt aT.qh : Nat))), isF true zy (.slice jI aT.ql.length jH) (mrk aT.ql (1 + (cnt aS.qf : Nat) + (cnt aS.qg : Nat) + (cnt aT.qh : Nat) + (cnt aT.qp : Nat)))] (all_of ⟨m276.1, ⟨m276.2.1, ⟨m276.2.2, trivial⟩⟩⟩) [0, 1, 2, 3, 4, 5, 6, 7, 8, 9, 13, 14, 15, 16, 17, 18, 19] [0, 1, 2, 3, 4, 5, 6, 7, 8, 9, 10, 11, 12, 13, 14, 15, 16]
  replace N := N273
  refine sp (.int .i64 (1 + (cnt aS.qf : Nat) + (cnt aS.qg : Nat) + (cnt aT.qh : Nat) + (cnt aT.qp : Nat) + (cnt aT.ql : Nat))) ?_
  refine qx (t_n (qm (qA ?_)))
  refine sps [.slice a190 aN.length c191, .int .i64 (1 + (cnt aS.qf : Nat) + (cnt aS.qg : Nat) + (cnt aT.qh : Nat) + (cnt aT.qp : Nat) + (cnt aT.ql : Nat))] ?_
  have H0 := H
  obtain ⟨G277, hg279, hn278, H⟩ := H.freezeR (α := List Int) 5 rfl 12 rfl (by decide)
  replace N : Fresh w.heap.size [G277, zV, vT, zy, zl, zS, F255, jf, jQ, vF, zL, ja, rF197aBags, rF23] := Fresh.ice (N.pick [12, 0, 1, 2, 3, 4, 5, 6, 7, 8, 9, 10, 11, 13]) H0 5 hg279.1 hg279.2 (H0.Vg [0, 1, 2, 3, 4, 5, 6, 7, 8, 9, 10, 11, 13])
  clear H0
  try dsimp only [List.set] at H
  have N280 : Fresh w.heap.size [G277, zV, vT, zy, zl, zS, F255, jf, jQ, vF, zL, ja, rF197aBags, rF23] := N
  refine sw (XH #[.slice a190 aN.length c191, .int .i64 (1 + (cnt aS.qf : Nat) + (cnt aS.qg : Nat) + (cnt aT.qh : Nat) + (cnt aT.qp : Nat) + (cnt aT.ql : Nat))] rfl rfl Tryz.call19 (markInt64SS_ok w274 aN (1 + (cnt aS.qf : Nat) + (cnt aS.qg : Nat) + (cnt aT.qh : Nat) + (cnt aT.qp : Nat) + (cnt aT.ql : Nat)) a190 c191 G277 (H.get 0 rfl).1 (N280.pick [0] : Fresh _ [G277]).one.2 ((H.get 0 rfl).2 rfl) (by omega) (by omega)) ?_)
  rintro _ w281 ⟨rfl, m283⟩ x282
  replace H : St _ _ [.row (.slice a256 aN.length c257) 22 1 aN.length xs255, .box b205 [.slice ra197aAlive ((((qG aS aT aN).1).qh).length) rc197aAlive, .slice ra197aBags ((((qG aS aT aN).1).qp).length) rc197aBags, .slice ra197aAround ((((qG aS aT aN).1).ql).length) rc197aAround] 38, .row (.slice ra197aAlive ((((qG aS aT aN).1).qh).length) rc197aAlive) 4 1 ((((qG aS aT aN).1).qh).length) ((((qG aS aT aN).1).qh).map (Value.bool)), .row (.slice ra197aBags ((((qG aS aT aN).1).qp).length) rc197aBags) 22 1 ((((qG aS aT aN).1).qp).length) rx197aBags, .row (.slice ra197aAround ((((qG aS aT aN).1).ql).length) rc197aAround) 2 1 ((((qG aS aT aN).1).ql).length) ((((qG aS aT aN).1).ql).map (Value.int .i64)), .row (.slice none 0 0) 0 1 0 [], .box b181 [.slice yl aT.qh.length yh, .slice yY aT.qp.length yX, .slice jI aT.ql.length jH] 38, .box b172 [.int .i64 aS.qJ, .slice ji aS.qf.length jh, .slice yt aS.qg.length yj] 36, .box b15 [.slice ra16 ((((qG aS aT aN).1).qh).length) rc17, .slice ra18 ((((qG aS aT aN).1).qp).length) rc19, .slice ra20 ((((qG aS aT aN).1).ql).length) rc21] 38, .row (.slice ra16 ((((qG aS aT aN).1).qh).length) rc17) 4 1 ((((qG aS aT aN).1).qh).length) ((((qG aS aT aN).1).qh).map (Value.bool)), .row (.slice ra18 ((((qG aS aT aN).1).qp).length) rc19) 22 1 ((((qG aS aT aN).1).qp).length) rx22, .row (.slice ra20 ((((qG aS aT aN).1).ql).length) rc21) 2 1 ((((qG aS aT aN).1).ql).length) ((((qG aS aT aN).1).ql).map (Value.int .i64)), .box b3 [.slice vO aT.qh.length vM, .slice jF aT.qp.length jE, .slice zQ aT.ql.length zO] 29, .box b1 [.int .i64 aS.qJ, .slice zD aS.qf.length zC, .slice je aS.qg.length jd] 25] [isF true G277 (.slice a190 aN.length c191) (mrk aN (1 + (cnt aS.qf : Nat) + (cnt aS.qg : Nat) + (cnt aT.qh : Nat) + (cnt aT.qp : Nat) + (cnt aT.ql : Nat))), isF true zV (.slice yl aT.qh.length yh) (mrk aT.qh (1 + (cnt aS.qf : Nat) + (cnt aS.qg : Nat))), isF true vT (.slice yY aT.qp.length yX) (mrk aT.qp (1 + (cnt aS.qf : Nat) + (cnt aS.qg : Nat) + (cnt aT.qh : Nat))), isF true zy (.slice jI aT.ql.length jH) (mrk aT.ql (1 + (cnt aS.qf : Nat) + (cnt aS.qg : Nat) + (cnt aT.qh : Nat) + (cnt aT.qp : Nat))), isF true zl (.slice ji aS.qf.length jh) (mrk aS.qf (1)), isF true zS (.slice yt aS.qg.length yj) (mrk aS.qg (1 + (cnt aS.qf : Nat))), vX true F255 xs255 aN, isF true jf (.slice a246Alive aT.qh.length c246Alive) aT.qh, isF true jQ (.slice a246Bags aT.qp.length c246Bags) aT.qp, isF true vF (.slice a246Around aT.ql.length c246Around) aT.ql, isF true zL (.slice a236Parents aS.qf.length c236Parents) aS.qf, isF true ja (.slice a236Rules aS.qg.length c236Rules) aS.qg, vX true rF197aBags rx197aBags (((qG aS aT aN).1).qp), vX true rF23 rx22 (((qG aS aT aN).1).qp), isF false yf (.slice zD aS.qf.length zC) aS.qf, isF false QH (.slice je aS.qg.length jd) aS.qg, isF false Qo (.slice vO aT.qh.length vM) aT.qh, isF false Q5 (.slice jF aT.qp.length jE) aT.qp, isF false yF (.slice zQ aT.ql.length zO) aT.ql, isF false FaN (.slice aaN aN.length caN) aN] := H.chgFacts (Fs := [G277]) (L := [zV, vT, zy, zl, zS, F255, jf, jQ, vF, zL, ja, rF197aBags, rF23]) (A := [yf, QH, Qo, Q5, yF, FaN]) N280 A (x282.mono (by intro z hz; simpa using hz)) [0] [isF true G277 (.slice a190 aN.length c191) (mrk aN (1 + (cnt aS.qf : Nat) + (cnt aS.qg : Nat) + (cnt aT.qh : Nat) + (cnt aT.qp : Nat) + (cnt aT.ql : Nat)))] (all_of ⟨m283, trivial⟩) [1, 2, 3, 4, 5, 6, 7, 8, 9, 10, 11, 12, 14, 15, 16, 17, 18, 19, 20] [0, 1, 2, 3, 4, 5, 6, 7, 8, 9, 10, 11, 12, 13, 14, 15, 16, 17, 18]
  replace N := N280
  refine sp (.int .i64 (1 + (cnt aS.qf : Nat) + (cnt aS.qg : Nat) + (cnt aT.qh : Nat) + (cnt aT.qp : Nat) + (cnt aT.ql : Nat) + (cnt aN : Nat))) ?_
  refine qx (t_n (qm (qm (qA ?_))))
  refine sps [.int .i64 (1 + (cnt aS.qf : Nat) + (cnt aS.qg : Nat) + (cnt aT.qh : Nat) + (cnt aT.qp : Nat) + (cnt aT.ql : Nat) + (cnt aN : Nat)), .bool (decide ((1 + (cnt aS.qf : Nat) + (cnt aS.qg : Nat) + (cnt aT.qh : Nat) + (cnt aT.qp : Nat) + (cnt aT.ql : Nat) + (cnt aN : Nat) : Int) < 0)), .bool (decide ((1 + (cnt aS.qf : Nat) + (cnt aS.qg : Nat) + (cnt aT.qh : Nat) + (cnt aT.qp : Nat) + (cnt aT.ql : Nat) + (cnt aN : Nat) : Int) < 0))] ?_
  cases h284 : (decide ((1 + (cnt aS.qf : Nat) + (cnt aS.qg : Nat) + (cnt aT.qh : Nat) + (cnt aT.qp : Nat) + (cnt aT.ql : Nat) + (cnt aN : Nat) : Int) < 0))
  ·skip
   replace h284 := of_decide_eq_false h284
   refine qQ 93 rfl rfl ?_
   refine sw (zg [.slice ra197aAlive ((((qG aS aT aN).1).qh).length) rc197aAlive, .slice ra197aBags ((((qG aS aT aN).1).qp).length) rc197aBags, .slice ra197aAround ((((qG aS aT aN).1).ql).length) rc197aAround] Tryz.isAgg38 Tryz.sizeOf38 rfl (qH (H.cells 1 rfl) 0 3) ?_)
   refine qQ 93 rfl rfl ?_
   refine sw (zg [.slice ra16 ((((qG aS aT aN).1).qh).length) rc17, .slice ra18 ((((qG aS aT aN).1).qp).length) rc19, .slice ra20 ((((qG aS aT aN).1).ql).length) rc21] Tryz.isAgg38 Tryz.sizeOf38 rfl (qH (H.cells 8 rfl) 0 3) ?_)
   refine qQ 93 rfl rfl ?_
   obtain ⟨G285, hn286, h287⟩ := H.rowIsB 2 rfl
   obtain ⟨G288, hn289, h290⟩ := H.QW (α := List Int) 3 rfl 12 rfl (by decide)
   obtain ⟨G291, hn292, h293⟩ := H.rowIsI 4 rfl
   obtain ⟨G294, hn295, h296⟩ := H.rowIsB 9 rfl
   obtain ⟨G297, hn298, h299⟩ := H.QW (α := List Int) 10 rfl 13 rfl (by decide)
   obtain ⟨G300, hn301, h302⟩ := H.rowIsI 11 rfl
   refine sw (qZ #[.agg #[.slice ra197aAlive ((((qG aS aT aN).1).qh).length) rc197aAlive, .slice ra197aBags ((((qG aS aT aN).1).qp).length) rc197aBags, .slice ra197aAround ((((qG aS aT aN).1).ql).length) rc197aAround], .agg #[.slice ra16 ((((qG aS aT aN).1).qh).length) rc17, .slice ra18 ((((qG aS aT aN).1).qp).length) rc19, .slice ra20 ((((qG aS aT aN).1).ql).length) rc21]] rfl rfl Tryz.call16 (eqState_ok w281 ((qG aS aT aN).1) ((qG aS aT aN).1) ra197aAlive rc197aAlive G285 ra197aBags rc197aBags G288 ra197aAround rc197aAround G291 ra16 rc17 G294 ra18 rc19 G297 ra20 rc21 G300 h287 h290 h293 h296 h299 h302) ?_)
   rintro _ w303 rfl x304
   replace H := H.ext x304
   refine qQ 93 rfl rfl ?_
   refine sps [.bool (!(decide (((qG aS aT aN).1) = ((qG aS aT aN).1)))), .bool (!(decide (((qG aS aT aN).1) = ((qG aS aT aN).1)))), .bool (!(decide (((qG aS aT aN).1) = ((qG aS aT aN).1))))] ?_
   cases h305 : (!(decide (((qG aS aT aN).1) = ((qG aS aT aN).1))))
   ·skip
    replace h305 := qY h305
    refine qQ 99 rfl rfl ?_
    refine sp (.int .i64 ((qG aS aT aN).2)) ?_
    refine qQ 99 rfl rfl ?_
    refine sp (.int .i64 ((qG aS aT aN).2)) ?_
    refine qQ 99 rfl rfl ?_
    refine sps [.bool (((qG aS aT aN).2 : Int) != ((qG aS aT aN).2)), .bool (((qG aS aT aN).2 : Int) != ((qG aS aT aN).2))] ?_
    refine qx (t_n ?_)
    refine qW (((qG aS aT aN).2 : Int) != ((qG aS aT aN).2)) rfl (fun h => absurd rfl (bne_iff_ne.1 h)) (fun h306 => ?_)
    replace h306 := xR h306
    refine xk (t_n (qm (qA ?_)))
    refine sp (.int .i64 1) ?_
    refine qx (t_n (qm (qA ?_)))
    refine sw (zg [.slice ra197aAlive ((((qG aS aT aN).1).qh).length) rc197aAlive, .slice ra197aBags ((((qG aS aT aN).1).qp).length) rc197aBags, .slice ra197aAround ((((qG aS aT aN).1).ql).length) rc197aAround] Tryz.isAgg38 Tryz.sizeOf38 rfl (qH (H.cells 1 rfl) 0 3) ?_)
    refine sp (.int .i64 1) ?_
    obtain ⟨G307, N, hn308, H⟩ := H.freezeB 2 rfl N (H.Vg [0, 1, 2, 3, 4, 5, 6, 7, 8, 9, 10, 11, 12, 13])
    try dsimp only [List.set] at H
    have H0 := H
    obtain ⟨G309, hg311, hn310, H⟩ := H.freezeR (α := List Int) 3 rfl 13 rfl (by decide)
    replace N : Fresh w.heap.size [G309, G307, G277, zV, vT, zy, zl, zS, F255, jf, jQ, vF, zL, ja, rF23] := Fresh.ice (N.pick [13, 0, 1, 2, 3, 4, 5, 6, 7, 8, 9, 10, 11, 12, 14]) H0 3 hg311.1 hg311.2 (H0.Vg [0, 1, 2, 3, 4, 5, 6, 7, 8, 9, 10, 11, 12, 14])
    clear H0
    try dsimp only [List.set] at H
    obtain ⟨G312, N, hn313, H⟩ := H.yU 4 rfl N (H.Vg [0, 1, 2, 3, 4, 5, 6, 7, 8, 9, 10, 11, 12, 13, 15])
    try dsimp only [List.set] at H
    have N314 : Fresh w.heap.size [G307, G309, G312, G277, zV, vT, zy, zl, zS, F255, jf, jQ, vF, zL, ja, rF23] := (N.pick [2, 1, 0, 3, 4, 5, 6, 7, 8, 9, 10, 11, 12, 13, 14, 15])
    refine sw (XH #[.agg #[.slice ra197aAlive ((((qG aS aT aN).1).qh).length) rc197aAlive, .slice ra197aBags ((((qG aS aT aN).1).qp).length) rc197aBags, .slice ra197aAround ((((qG aS aT aN).1).ql).length) rc197aAround], .int .i64 1] rfl rfl Tryz.call18 (markState_ok w303 ((qG aS aT aN).1) 1 ra197aAlive rc197aAlive G307 ra197aBags rc197aBags G309 ra197aAround rc197aAround G312 (H.get 2 rfl).1 (H.get 1 rfl).1 (H.get 0 rfl).1 (N314.pick [0, 1, 2] : Fresh _ [G307, G309, G312]).join.join.one.2 ((((H.get 2 rfl).2 rfl).app ((H.get 1 rfl).2 rfl)).app ((H.get 0 rfl).2 rfl)) (by omega) (by omega)) ?_)
    rintro _ w315 ⟨rfl, m317⟩ x316
    replace H : St _ _ [.row (.slice a256 aN.length c257) 22 1 aN.length xs255, .box b205 [.slice ra197aAlive ((((qG aS aT aN).1).qh).length) rc197aAlive, .slice ra197aBags ((((qG aS aT aN).1).qp).length) rc197aBags, .slice ra197aAround ((((qG aS aT aN).1).ql).length) rc197aAround] 38, .row (.slice none 0 0) 0 1 0 [], .row (.slice none 0 0) 0 1 0 [], .row (.slice none 0 0) 0 1 0 [], .row (.slice none 0 0) 0 1 0 [], .box b181 [.slice yl aT.qh.length yh, .slice yY aT.qp.length yX, .slice jI aT.ql.length jH] 38, .box b172 [.int .i64 aS.qJ, .slice ji aS.qf.length jh, .slice yt aS.qg.length yj] 36, .box b15 [.slice ra16 ((((qG aS aT aN).1).qh).length) rc17, .slice ra18 ((((qG aS aT aN).1).qp).length) rc19, .slice ra20 ((((qG aS aT aN).1).ql).length) rc21] 38, .row (.slice ra16 ((((qG aS aT aN).1).qh).length) rc17) 4 1 ((((qG aS aT aN).1).qh).length) ((((qG aS aT aN).1).qh).map (Value.bool)), .row (.slice ra18 ((((qG aS aT aN).1).qp).length) rc19) 22 1 ((((qG aS aT aN).1).qp).length) rx22, .row (.slice ra20 ((((qG aS aT aN).1).ql).length) rc21) 2 1 ((((qG aS aT aN).1).ql).length) ((((qG aS aT aN).1).ql).map (Value.int .i64)), .box b3 [.slice vO aT.qh.length vM, .slice jF aT.qp.length jE, .slice zQ aT.ql.length zO] 29, .box b1 [.int .i64 aS.qJ, .slice zD aS.qf.length zC, .slice je aS.qg.length jd] 25] [isF true G307 (.slice ra197aAlive ((((qG aS aT aN).1).qh).length) rc197aAlive) (mrk (((qG aS aT aN).1).qh) (1)), isF true G309 (.slice ra197aBags ((((qG aS aT aN).1).qp).length) rc197aBags) (mrk (((qG aS aT aN).1).qp) (1 + (cnt (((qG aS aT aN).1).qh) : Nat))), isF true G312 (.slice ra197aAround ((((qG aS aT aN).1).ql).length) rc197aAround) (mrk (((qG aS aT aN).1).ql) (1 + (cnt (((qG aS aT aN).1).qh) : Nat) + (cnt (((qG aS aT aN).1).qp) : Nat))), isF true G277 (.slice a190 aN.length c191) (mrk aN (1 + (cnt aS.qf : Nat) + (cnt aS.qg : Nat) + (cnt aT.qh : Nat) + (cnt aT.qp : Nat) + (cnt aT.ql : Nat))), isF true zV (.slice yl aT.qh.length yh) (mrk aT.qh (1 + (cnt aS.qf : Nat) + (cnt aS.qg : Nat))), isF true vT (.slice yY aT.qp.length yX) (mrk aT.qp (1 + (cnt aS.qf : Nat) + (cnt aS.qg : Nat) + (cnt aT.qh : Nat))), isF true zy (.slice jI aT.ql.length jH) (mrk aT.ql (1 + (cnt aS.qf : Nat) + (cnt aS.qg : Nat) + (cnt aT.qh : Nat) + (cnt aT.qp : Nat))), isF true zl (.slice ji aS.qf.length jh) (mrk aS.qf (1)), isF true zS (.slice yt aS.qg.length yj) (mrk aS.qg (1 + (cnt aS.qf : Nat))), vX true F255 xs255 aN, isF true jf (.slice a246Alive aT.qh.length c246Alive) aT.qh, isF true jQ (.slice a246Bags aT.qp.length c246Bags) aT.qp, isF true vF (.slice a246Around aT.ql.length c246Around) aT.ql, isF true zL (.slice a236Parents aS.qf.length c236Parents) aS.qf, isF true ja (.slice a236Rules aS.qg.length c236Rules) aS.qg, vX true rF23 rx22 (((qG aS aT aN).1).qp), isF false yf (.slice zD aS.qf.length zC) aS.qf, isF false QH (.slice je aS.qg.length jd) aS.qg, isF false Qo (.slice vO aT.qh.length vM) aT.qh, isF false Q5 (.slice jF aT.qp.length jE) aT.qp, isF false yF (.slice zQ aT.ql.length zO) aT.ql, isF false FaN (.slice aaN aN.length caN) aN] := H.chgFacts (Fs := [G307, G309, G312]) (L := [G277, zV, vT, zy, zl, zS, F255, jf, jQ, vF, zL, ja, rF23]) (A := [yf, QH, Qo, Q5, yF, FaN]) N314 A (x316.mono (by intro z hz; simpa using hz)) [2, 1, 0] [isF true G307 (.slice ra197aAlive ((((qG aS aT aN).1).qh).length) rc197aAlive) (mrk (((qG aS aT aN).1).qh) (1)), isF true G309 (.slice ra197aBags ((((qG aS aT aN).1).qp).length) rc197aBags) (mrk (((qG aS aT aN).1).qp) (1 + (cnt (((qG aS aT aN).1).qh) : Nat))), isF true G312 (.slice ra197aAround ((((qG aS aT aN).1).ql).length) rc197aAround) (mrk (((qG aS aT aN).1).ql) (1 + (cnt (((qG aS aT aN).1).qh) : Nat) + (cnt (((qG aS aT aN).1).qp) : Nat)))] (all_of ⟨m317.1, ⟨m317.2.1, ⟨m317.2.2, trivial⟩⟩⟩) [3, 4, 5, 6, 7, 8, 9, 10, 11, 12, 13, 14, 16, 17, 18, 19, 20, 21, 22] [0, 1, 2, 3, 4, 5, 6, 7, 8, 9, 10, 11, 12, 13, 14, 15, 16, 17, 18]
    replace N := N314
    refine sp (.int .i64 (1 + (cnt (((qG aS aT aN).1).qh) : Nat) + (cnt (((qG aS aT aN).1).qp) : Nat) + (cnt (((qG aS aT aN).1).ql) : Nat))) ?_
    refine qx (t_n (qm (qA ?_)))
    refine sp (.int .i64 1) ?_
    refine qx (t_n (qm (qA ?_)))
    refine sw (zg [.slice ra197aAlive ((((qG aS aT aN).1).qh).length) rc197aAlive, .slice ra197aBags ((((qG aS aT aN).1).qp).length) rc197aBags, .slice ra197aAround ((((qG aS aT aN).1).ql).length) rc197aAround] Tryz.isAgg38 Tryz.sizeOf38 rfl (qH (H.cells 1 rfl) 0 3) ?_)
    refine sp (.int .i64 1) ?_
    have hn318 := H.isLen 0 rfl
    have hn319 := H.isLen 1 rfl
    have hn320 := H.isLen 2 rfl
    refine sw (qZ #[.agg #[.slice ra197aAlive ((((qG aS aT aN).1).qh).length) rc197aAlive, .slice ra197aBags ((((qG aS aT aN).1).qp).length) rc197aBags, .slice ra197aAround ((((qG aS aT aN).1).ql).length) rc197aAround], .int .i64 1] rfl rfl Tryz.call23 (args_eq (by rw [← hn318, ← hn319, ← hn320]) (heldState_ok w315 (⟨(mrk (((qG aS aT aN).1).qh) (1)), (mrk (((qG aS aT aN).1).qp) (1 + (cnt (((qG aS aT aN).1).qh) : Nat))), (mrk (((qG aS aT aN).1).ql) (1 + (cnt (((qG aS aT aN).1).qh) : Nat) + (cnt (((qG aS aT aN).1).qp) : Nat)))⟩ : qU) 1 ra197aAlive rc197aAlive G307 ra197aBags rc197aBags G309 ra197aAround rc197aAround G312 (hn318 ▸ (H.get 0 rfl).1) (hn319 ▸ (H.get 1 rfl).1) (hn320 ▸ (H.get 2 rfl).1) (by first | exact mkd_mark _ _ | omega | (simp only [cnt_mark]; first | exact mkd_mark _ _ | omega)) (by first | exact mkd_mark _ _ | omega | (simp only [cnt_mark]; first | exact mkd_mark _ _ | omega)) (by first | exact mkd_mark _ _ | omega | (simp only [cnt_mark]; first | exact mkd_mark _ _ | omega)) (by first | exact mkd_mark _ _ | omega | (simp only [cnt_mark]; first | exact mkd_mark _ _ | omega)) (by first | exact mkd_mark _ _ | omega | (simp only [cnt_mark]; first | exact mkd_mark _ _ | omega)))) ?_)
    rintro _ w321 rfl x322
    replace H := H.ext x322
    refine sp (.int .i64 (1 + (cnt (⟨(mrk (((qG aS aT aN).1).qh) (1)), (mrk (((qG aS aT aN).1).qp) (1 + (cnt (((qG aS aT aN).1).qh) : Nat))), (mrk (((qG aS aT aN).1).ql) (1 + (cnt (((qG aS aT aN).1).qh) : Nat) + (cnt (((qG aS aT aN).1).qp) : Nat)))⟩ : qU).qh : Nat) + (cnt (⟨(mrk (((qG aS aT aN).1).qh) (1)), (mrk (((qG aS aT aN).1).qp) (1 + (cnt (((qG aS aT aN).1).qh) : Nat))), (mrk (((qG aS aT aN).1).ql) (1 + (cnt (((qG aS aT aN).1).qh) : Nat) + (cnt (((qG aS aT aN).1).qp) : Nat)))⟩ : qU).qp : Nat) + (cnt (⟨(mrk (((qG aS aT aN).1).qh) (1)), (mrk (((qG aS aT aN).1).qp) (1 + (cnt (((qG aS aT aN).1).qh) : Nat))), (mrk (((qG aS aT aN).1).ql) (1 + (cnt (((qG aS aT aN).1).qh) : Nat) + (cnt (((qG aS aT aN).1).qp) : Nat)))⟩ : qU).ql : Nat))) ?_
    refine qx (t_n (qm (qm (qA ?_))))
    refine sps [.int .i64 (1 + (cnt (⟨(mrk (((qG aS aT aN).1).qh) (1)), (mrk (((qG aS aT aN).1).qp) (1 + (cnt (((qG aS aT aN).1).qh) : Nat))), (mrk (((qG aS aT aN).1).ql) (1 + (cnt (((qG aS aT aN).1).qh) : Nat) + (cnt (((qG aS aT aN).1).qp) : Nat)))⟩ : qU).qh : Nat) + (cnt (⟨(mrk (((qG aS aT aN).1).qh) (1)), (mrk (((qG aS aT aN).1).qp) (1 + (cnt (((qG aS aT aN).1).qh) : Nat))), (mrk (((qG aS aT aN).1).ql) (1 + (cnt (((qG aS aT aN).1).qh) : Nat) + (cnt (((qG aS aT aN).1).qp) : Nat)))⟩ : qU).qp : Nat) + (cnt (⟨(mrk (((qG aS aT aN).1).qh) (1)), (mrk (((qG aS aT aN).1).qp) (1 + (cnt (((qG aS aT aN).1).qh) : Nat))), (mrk (((qG aS aT aN).1).ql) (1 + (cnt (((qG aS aT aN).1).qh) : Nat) + (cnt (((qG aS aT aN).1).qp) : Nat)))⟩ : qU).ql : Nat)), .bool (decide ((1 + (cnt (⟨(mrk (((qG aS aT aN).1).qh) (1)), (mrk (((qG aS aT aN).1).qp) (1 + (cnt (((qG aS aT aN).1).qh) : Nat))), (mrk (((qG aS aT aN).1).ql) (1 + (cnt (((qG aS aT aN).1).qh) : Nat) + (cnt (((qG aS aT aN).1).qp) : Nat)))⟩ : qU).qh : Nat) + (cnt (⟨(mrk (((qG aS aT aN).1).qh) (1)), (mrk (((qG aS aT aN).1).qp) (1 + (cnt (((qG aS aT aN).1).qh) : Nat))), (mrk (((qG aS aT aN).1).ql) (1 + (cnt (((qG aS aT aN).1).qh) : Nat) + (cnt (((qG aS aT aN).1).qp) : Nat)))⟩ : qU).qp : Nat) + (cnt (⟨(mrk (((qG aS aT aN).1).qh) (1)), (mrk (((qG aS aT aN).1).qp) (1 + (cnt (((qG aS aT aN).1).qh) : Nat))), (mrk (((qG aS aT aN).1).ql) (1 + (cnt (((qG aS aT aN).1).qh) : Nat) + (cnt (((qG aS aT aN).1).qp) : Nat)))⟩ : qU).ql : Nat) : Int) < 0))] ?_
    refine qx (t_n ?_)
    refine qW (decide ((1 + (cnt (⟨(mrk (((qG aS aT aN).1).qh) (1)), (mrk (((qG aS aT aN).1).qp) (1 + (cnt (((qG aS aT aN).1).qh) : Nat))), (mrk (((qG aS aT aN).1).ql) (1 + (cnt (((qG aS aT aN).1).qh) : Nat) + (cnt (((qG aS aT aN).1).qp) : Nat)))⟩ : qU).qh : Nat) + (cnt (⟨(mrk (((qG aS aT aN).1).qh) (1)), (mrk (((qG aS aT aN).1).qp) (1 + (cnt (((qG aS aT aN).1).qh) : Nat))), (mrk (((qG aS aT aN).1).ql) (1 + (cnt (((qG aS aT aN).1).qh) : Nat) + (cnt (((qG aS aT aN).1).qp) : Nat)))⟩ : qU).qp : Nat) + (cnt (⟨(mrk (((qG aS aT aN).1).qh) (1)), (mrk (((qG aS aT aN).1).qp) (1 + (cnt (((qG aS aT aN).1).qh) : Nat))), (mrk (((qG aS aT aN).1).ql) (1 + (cnt (((qG aS aT aN).1).qh) : Nat) + (cnt (((qG aS aT aN).1).qp) : Nat)))⟩ : qU).ql : Nat) : Int) < 0)) rfl (fun h323 => ?_) (fun h323 => ?_)
    ·skip
     replace h323 := of_decide_eq_true h323
     refine qm (qA ?_)
     refine sp (.bool false) ?_
     refine qx (t_n (xC (t_r ?_)))
     refine ret1 (.bool false) rfl rfl ⟨_, rfl, ?_, H.base⟩
     exfalso; first | omega
    replace h323 := of_decide_eq_false h323
    refine xk (t_n (qm (qm (qA ?_))))
    refine sps [.int .i64 (1 + (cnt (⟨(mrk (((qG aS aT aN).1).qh) (1)), (mrk (((qG aS aT aN).1).qp) (1 + (cnt (((qG aS aT aN).1).qh) : Nat))), (mrk (((qG aS aT aN).1).ql) (1 + (cnt (((qG aS aT aN).1).qh) : Nat) + (cnt (((qG aS aT aN).1).qp) : Nat)))⟩ : qU).qh : Nat) + (cnt (⟨(mrk (((qG aS aT aN).1).qh) (1)), (mrk (((qG aS aT aN).1).qp) (1 + (cnt (((qG aS aT aN).1).qh) : Nat))), (mrk (((qG aS aT aN).1).ql) (1 + (cnt (((qG aS aT aN).1).qh) : Nat) + (cnt (((qG aS aT aN).1).qp) : Nat)))⟩ : qU).qp : Nat) + (cnt (⟨(mrk (((qG aS aT aN).1).qh) (1)), (mrk (((qG aS aT aN).1).qp) (1 + (cnt (((qG aS aT aN).1).qh) : Nat))), (mrk (((qG aS aT aN).1).ql) (1 + (cnt (((qG aS aT aN).1).qh) : Nat) + (cnt (((qG aS aT aN).1).qp) : Nat)))⟩ : qU).ql : Nat)), .int .i64 (1 + (cnt (((qG aS aT aN).1).qh) : Nat) + (cnt (((qG aS aT aN).1).qp) : Nat) + (cnt (((qG aS aT aN).1).ql) : Nat)), .bool ((1 + (cnt (⟨(mrk (((qG aS aT aN).1).qh) (1)), (mrk (((qG aS aT aN).1).qp) (1 + (cnt (((qG aS aT aN).1).qh) : Nat))), (mrk (((qG aS aT aN).1).ql) (1 + (cnt (((qG aS aT aN).1).qh) : Nat) + (cnt (((qG aS aT aN).1).qp) : Nat)))⟩ : qU).qh : Nat) + (cnt (⟨(mrk (((qG aS aT aN).1).qh) (1)), (mrk (((qG aS aT aN).1).qp) (1 + (cnt (((qG aS aT aN).1).qh) : Nat))), (mrk (((qG aS aT aN).1).ql) (1 + (cnt (((qG aS aT aN).1).qh) : Nat) + (cnt (((qG aS aT aN).1).qp) : Nat)))⟩ : qU).qp : Nat) + (cnt (⟨(mrk (((qG aS aT aN).1).qh) (1)), (mrk (((qG aS aT aN).1).qp) (1 + (cnt (((qG aS aT aN).1).qh) : Nat))), (mrk (((qG aS aT aN).1).ql) (1 + (cnt (((qG aS aT aN).1).qh) : Nat) + (cnt (((qG aS aT aN).1).qp) : Nat)))⟩ : qU).ql : Nat) : Int) != (1 + (cnt (((qG aS aT aN).1).qh) : Nat) + (cnt (((qG aS aT aN).1).qp) : Nat) + (cnt (((qG aS aT aN).1).ql) : Nat)))] ?_
    refine qx (t_n ?_)
    refine qW ((1 + (cnt (⟨(mrk (((qG aS aT aN).1).qh) (1)), (mrk (((qG aS aT aN).1).qp) (1 + (cnt (((qG aS aT aN).1).qh) : Nat))), (mrk (((qG aS aT aN).1).ql) (1 + (cnt (((qG aS aT aN).1).qh) : Nat) + (cnt (((qG aS aT aN).1).qp) : Nat)))⟩ : qU).qh : Nat) + (cnt (⟨(mrk (((qG aS aT aN).1).qh) (1)), (mrk (((qG aS aT aN).1).qp) (1 + (cnt (((qG aS aT aN).1).qh) : Nat))), (mrk (((qG aS aT aN).1).ql) (1 + (cnt (((qG aS aT aN).1).qh) : Nat) + (cnt (((qG aS aT aN).1).qp) : Nat)))⟩ : qU).qp : Nat) + (cnt (⟨(mrk (((qG aS aT aN).1).qh) (1)), (mrk (((qG aS aT aN).1).qp) (1 + (cnt (((qG aS aT aN).1).qh) : Nat))), (mrk (((qG aS aT aN).1).ql) (1 + (cnt (((qG aS aT aN).1).qh) : Nat) + (cnt (((qG aS aT aN).1).qp) : Nat)))⟩ : qU).ql : Nat) : Int) != (1 + (cnt (((qG aS aT aN).1).qh) : Nat) + (cnt (((qG aS aT aN).1).qp) : Nat) + (cnt (((qG aS aT aN).1).ql) : Nat))) rfl (fun h324 => ?_) (fun h324 => ?_)
    ·skip
     replace h324 := bne_iff_ne.1 h324
     refine qm (qA ?_)
     refine sp (.bool false) ?_
     refine qx (t_n (xC (t_r ?_)))
     refine ret1 (.bool false) rfl rfl ⟨_, rfl, ?_, H.base⟩
     exfalso; first | omega | exact h324 (by simp only [cnt_mark])
    replace h324 := xR h324
    refine xk (t_n (qm ?_))
    refine c_cut (fun ρ w325 => ∃ (junk : Env) (b326 : Nat) (ra327 : Option Addr) (rc328 : Nat) (ra329 : Option Addr) (rc330 : Nat) (ra331 : Option Addr) (rc332 : Nat) (rx333 : List Value) (rF334 : List Nat), ρ = upd (upd (upd (upd (upd (upd junk 8 (pp b15 0)) 9 (.int .i64 ((qG aS aT aN).2))) 13 (pp b205 0)) 16 (.int .i64 (1 + (cnt (((qG aS aT aN).1).qh) : Nat) + (cnt (((qG aS aT aN).1).qp) : Nat) + (cnt (((qG aS aT aN).1).ql) : Nat)))) 18 (pp b326 0)) 19 (.int .i64 ((qG aS aT aN).2)) ∧ Fresh w.heap.size [rF334, G307, G309, G312, zV, vT, zy, zl, zS, F255, rF23] ∧ St w w325 [.box b326 [.slice ra327 ((((qG aS aT aN).1).qh).length) rc328, .slice ra329 ((((qG aS aT aN).1).qp).length) rc330, .slice ra331 ((((qG aS aT aN).1).ql).length) rc332] 38, .row (.slice ra327 ((((qG aS aT aN).1).qh).length) rc328) 4 1 ((((qG aS aT aN).1).qh).length) ((((qG aS aT aN).1).qh).map (Value.bool)), .row (.slice ra329 ((((qG aS aT aN).1).qp).length) rc330) 22 1 ((((qG aS aT aN).1).qp).length) rx333, .row (.slice ra331 ((((qG aS aT aN).1).ql).length) rc332) 2 1 ((((qG aS aT aN).1).ql).length) ((((qG aS aT aN).1).ql).map (Value.int .i64)), .row (.slice a256 aN.length c257) 22 1 aN.length xs255, .box b205 [.slice ra197aAlive ((((qG aS aT aN).1).qh).length) rc197aAlive, .slice ra197aBags ((((qG aS aT aN).1).qp).length) rc197aBags, .slice ra197aAround ((((qG aS aT aN).1).ql).length) rc197aAround] 38, .row (.slice none 0 0) 0 1 0 [], .row (.slice none 0 0) 0 1 0 [], .row (.slice none 0 0) 0 1 0 [], .row (.slice none 0 0) 0 1 0 [], .box b181 [.slice yl aT.qh.length yh, .slice yY aT.qp.length yX, .slice jI aT.ql.length jH] 38, .box b172 [.int .i64 aS.qJ, .slice ji aS.qf.length jh, .slice yt aS.qg.length yj] 36, .box b15 [.slice ra16 ((((qG aS aT aN).1).qh).length) rc17, .slice ra18 ((((qG aS aT aN).1).qp).length) rc19, .slice ra20 ((((qG aS aT aN).1).ql).length) rc21] 38, .row (.slice ra16 ((((qG aS aT aN).1).qh).length) rc17) 4 1 ((((qG aS aT aN).1).qh).length) ((((qG aS aT aN).1).qh).map (Value.bool)), .row (.slice ra18 ((((qG aS aT aN).1).qp).length) rc19) 22 1 ((((qG aS aT aN).1).qp).length) rx22, .row (.slice ra20 ((((qG aS aT aN).1).ql).length) rc21) 2 1 ((((qG aS aT aN).1).ql).length) ((((qG aS aT aN).1).ql).map (Value.int .i64)), .box b3 [.slice vO aT.qh.length vM, .slice jF aT.qp.length jE, .slice zQ aT.ql.length zO] 29, .box b1 [.int .i64 aS.qJ, .slice zD aS.qf.length zC, .slice je aS.qg.length jd] 25] [vX true rF334 rx333 (((qG aS aT aN).1).qp), isF true G307 (.slice ra197aAlive ((((qG aS aT aN).1).qh).length) rc197aAlive) (mrk (((qG aS aT aN).1).qh) (1)), isF true G309 (.slice ra197aBags ((((qG aS aT aN).1).qp).length) rc197aBags) (mrk (((qG aS aT aN).1).qp) (1 + (cnt (((qG aS aT aN).1).qh) : Nat))), isF true G312 (.slice ra197aAround ((((qG aS aT aN).1).ql).length) rc197aAround) (mrk (((qG aS aT aN).1).ql) (1 + (cnt (((qG aS aT aN).1).qh) : Nat) + (cnt (((qG aS aT aN).1).qp) : Nat))), isF true zV (.slice yl aT.qh.length yh) (mrk aT.qh (1 + (cnt aS.qf : Nat) + (cnt aS.qg : Nat))), isF true vT (.slice yY aT.qp.length yX) (mrk aT.qp (1 + (cnt aS.qf : Nat) + (cnt aS.qg : Nat) + (cnt aT.qh : Nat))), isF true zy (.slice jI aT.ql.length jH) (mrk aT.ql (1 + (cnt aS.qf : Nat) + (cnt aS.qg : Nat) + (cnt aT.qh : Nat) + (cnt aT.qp : Nat))), isF true zl (.slice ji aS.qf.length jh) (mrk aS.qf (1)), isF true zS (.slice yt aS.qg.length yj) (mrk aS.qg (1 + (cnt aS.qf : Nat))), vX true F255 xs255 aN, vX true rF23 rx22 (((qG aS aT aN).1).qp), isF false yf (.slice zD aS.qf.length zC) aS.qf, isF false QH (.slice je aS.qg.length jd) aS.qg, isF false Qo (.slice vO aT.qh.length vM) aT.qh, isF false Q5 (.slice jF aT.qp.length jE) aT.qp, isF false yF (.slice zQ aT.ql.length zO) aT.ql]) ?_ ?_
    ·skip
     refine yw rfl H fun H => ?_
     refine rt 0 (.agg #[.int .i64 aS.qJ, .slice zD aS.qf.length zC, .slice je aS.qg.length jd]) (Qp (cs := [.int .i64 aS.qJ, .slice zD aS.qf.length zC, .slice je aS.qg.length jd]) Tryz.isAgg25 Tryz.sizeOf25 rfl (fun _ h => qH (h.cells 13 rfl) 0 3)) H ?_
     refine rt 2 (.agg #[.slice vO aT.qh.length vM, .slice jF aT.qp.length jE, .slice zQ aT.ql.length zO]) (Qp (cs := [.slice vO aT.qh.length vM, .slice jF aT.qp.length jE, .slice zQ aT.ql.length zO]) Tryz.isAgg29 Tryz.sizeOf29 rfl (fun _ h => qH (h.cells 12 rfl) 0 3)) H ?_
     refine rtp 4 (.slice aaN aN.length caN) H ?_
     refine xq [1, 10] (by kernel_rfl) (by simp) (xZ rfl ?_ (xZ rfl ?_ xu))
     ·skip
      have sz336 := H.base.size
      have lt337 := H.ltN (L := [G307, G309, G312, G277, zV, vT, zy, zl, zS, F255, jf, jQ, vF, zL, ja, rF23]) [0, 1, 2, 3, 4, 5, 6, 7, 8, 9, 10, 11, 12, 13, 14, 15]
      refine qZ #[.agg #[.int .i64 aS.qJ, .slice zD aS.qf.length zC, .slice je aS.qg.length jd]] rfl rfl Tryz.call11 (toSystem_ok w321.drew aS zD zC yf je jd QH (H.get 16 rfl).1 (H.get 17 rfl).1 (by first | assumption | omega)) ?_
      rintro v341 w339 r341 x340
      obtain ⟨XL, XK, Qb, a341Rules, c341Rules, Xi, rfl, f341, H⟩ := H.add_SystemD x340 r341
      replace N := N.cons f341 sz336 lt337
      replace N := N.split
      refine ⟨H.pick [0, 1, 2, 3, 4, 5, 6, 7, 8, 9, 10, 11, 12, 13] [2, 3, 4, 5, 6, 7, 8, 9, 10, 11, 12, 13, 14, 15, 16, 17, 18, 19, 20, 21, 22, 23], ?_⟩
      refine xq [3, 10] (by kernel_rfl) (by simp) (xZ rfl ?_ (xZ rfl ?_ xu))
      ·skip
       have sz342 := H.base.size
       have lt343 := H.ltN (L := [Qb, Xi, G307, G309, G312, G277, zV, vT, zy, zl, zS, F255, jf, jQ, vF, zL, ja, rF23]) [0, 1, 2, 3, 4, 5, 6, 7, 8, 9, 10, 11, 12, 13, 14, 15, 16, 17]
       refine qZ #[.agg #[.slice vO aT.qh.length vM, .slice jF aT.qp.length jE, .slice zQ aT.ql.length zO]] rfl rfl Tryz.call12 (Vu w339 aT vO vM Qo jF jE Q5 zQ zO yF (H.get 20 rfl).1 (H.get 21 rfl).1 (H.get 22 rfl).1 (by first | assumption | omega)) ?_
       rintro v347 w345 r347 x346
       obtain ⟨a347Alive, c347Alive, F347Alive, a347Bags, c347Bags, F347Bags, a347Around, c347Around, VE, rfl, f347, H⟩ := H.VC x346 r347
       replace N := N.cons f347 sz342 lt343
       replace N := N.split
       replace N := N.split
       refine ⟨H.pick [0, 1, 2, 3, 4, 5, 6, 7, 8, 9, 10, 11, 12, 13] [5, 6, 7, 8, 9, 10, 11, 12, 13, 14, 15, 16, 17, 18, 19, 20, 21, 22, 23, 24, 25, 26], ?_⟩
       refine xq [5, 10] (by kernel_rfl) (by simp) (xZ rfl ?_ (xZ rfl ?_ xu))
       ·skip
        have sz348 := H.base.size
        have lt349 := H.ltN (L := [F347Alive, F347Bags, VE, Qb, Xi, G307, G309, G312, G277, zV, vT, zy, zl, zS, F255, jf, jQ, vF, zL, ja, rF23]) [0, 1, 2, 3, 4, 5, 6, 7, 8, 9, 10, 11, 12, 13, 14, 15, 16, 17, 18, 19, 20]
        refine qZ #[.slice aaN aN.length caN] rfl rfl Tryz.call31 (Qq w345 aN aaN caN FaN (H.get 26 rfl).1 (by first | omega | (have := p2 (by omega); omega))) ?_
        rintro v353 w351 r353 x352
        obtain ⟨xs353, F353, f353, H⟩ := H.add_own x352 r353
        obtain ⟨a354, c355, rfl, hc356, hm357⟩ := H.jv 0 rfl
        replace N := N.cons f353 sz348 lt349
        refine ⟨H.pick [1, 2, 3, 4, 5, 6, 7, 8, 9, 10, 11, 12, 13, 14] [6, 7, 8, 9, 10, 11, 12, 13, 14, 15, 16, 17, 18, 19, 20, 21, 22, 23, 24, 25, 26, 27], ?_⟩
        refine xq [6, 10] (by kernel_rfl) (by simp) (xZ rfl ?_ (xZ rfl ?_ xu))
        ·skip
         obtain ⟨G358, hn359, h360⟩ := H.QW (α := List Int) 0 rfl 0 rfl (by decide)
         have sz364 := H.base.size
         have lt365 := H.ltN (L := [F353, F347Alive, F347Bags, VE, Qb, Xi, G307, G309, G312, G277, zV, vT, zy, zl, zS, F255, jf, jQ, vF, zL, ja, rF23]) [0, 1, 2, 3, 4, 5, 6, 7, 8, 9, 10, 11, 12, 13, 14, 15, 16, 17, 18, 19, 20, 21]
         refine qZ #[.agg #[.int .i64 aS.qJ, .slice XL aS.qf.length XK, .slice a341Rules aS.qg.length c341Rules], .agg #[.slice a347Alive aT.qh.length c347Alive, .slice a347Bags aT.qp.length c347Bags, .slice a347Around aT.ql.length c347Around], .slice a354 aN.length c355] rfl rfl Tryz.call32 (implCh_ok w351 aS aT aN XL XK Qb a341Rules c341Rules Xi a347Alive c347Alive F347Alive a347Bags c347Bags F347Bags a347Around c347Around VE a354 c355 G358 (H.get 4 rfl).1 (H.get 5 rfl).1 (H.get 1 rfl).1 (H.get 2 rfl).1 (H.get 3 rfl).1 h360) ?_
         rintro _ w362 ⟨ra361aAlive, rn361aAlive, rc361aAlive, ra361aBags, rn361aBags, rc361aBags, rx361aBags, rF361aBags, ra361aAround, rn361aAround, rc361aAround, rfl, M, K⟩ _
         replace N := N.merge sz364 lt365 M
         replace H := H.merge K M
         dsimp only [List.cons_append, List.nil_append] at H
         obtain rfl := H.QA 0 rfl
         obtain rfl := H.zt (α := List Int) 1 rfl 0 rfl (by decide)
         obtain rfl := H.QS 2 rfl
         refine ⟨H.pick [4, 5, 6, 7, 8, 9, 10, 11, 12, 13, 14, 15, 16, 17] [7, 8, 9, 10, 11, 12, 13, 14, 15, 16, 17, 18, 19, 20, 21, 22, 23, 24, 25, 26, 27, 28], ?_⟩
         have S := H.yG [4, 5, 6, 7, 8, 9, 10, 11, 12, 13, 14, 15, 16, 17] [7, 8, 9, 10, 11, 12, 13, 14, 15, 16, 17, 18, 19, 20, 21, 22, 23, 24, 25, 26, 27, 28]
         refine rtp 7 (.tuple #[.agg #[.slice ra361aAlive ((((qG aS aT aN).1).qh).length) rc361aAlive, .slice ra361aBags ((((qG aS aT aN).1).qp).length) rc361aBags, .slice ra361aAround ((((qG aS aT aN).1).ql).length) rc361aAround], .int .i64 ((qG aS aT aN).2)]) S ?_
         refine rtp 8 (.agg #[.slice ra361aAlive ((((qG aS aT aN).1).qh).length) rc361aAlive, .slice ra361aBags ((((qG aS aT aN).1).qp).length) rc361aBags, .slice ra361aAround ((((qG aS aT aN).1).ql).length) rc361aAround]) S ?_
         refine rtp 9 (.int .i64 ((qG aS aT aN).2)) S ?_
         refine xq [10] (by kernel_rfl) (by simp) (xZ rfl ?_ xu)
         refine zn H ti38 [.slice none 0 0, .slice none 0 0, .slice none 0 0] fun b369 w370 H => ?_
         refine ⟨H.pick [5, 6, 7, 8, 9, 10, 11, 12, 13, 14, 15, 16, 17, 18] [7, 8, 9, 10, 11, 12, 13, 14, 15, 16, 17, 18, 19, 20, 21, 22, 23, 24, 25, 26, 27, 28], ?_⟩
         refine xq [11] (by kernel_rfl) (by simp) (xZ rfl ?_ xu)
         refine xP H 0 [.slice ra361aAlive ((((qG aS aT aN).1).qh).length) rc361aAlive, .slice ra361aBags ((((qG aS aT aN).1).qp).length) rc361aBags, .slice ra361aAround ((((qG aS aT aN).1).ql).length) rc361aAround] Tryz.sizeOf38 fun w371 H => ?_
         try dsimp only [List.set] at H
         refine ⟨H.pick [5, 6, 7, 8, 9, 10, 11, 12, 13, 14, 15, 16, 17, 18] [7, 8, 9, 10, 11, 12, 13, 14, 15, 16, 17, 18, 19, 20, 21, 22, 23, 24, 25, 26, 27, 28], ?_⟩
         refine rtp 12 (.int .i64 ((qG aS aT aN).2)) (H.pick [5, 6, 7, 8, 9, 10, 11, 12, 13, 14, 15, 16, 17, 18] [7, 8, 9, 10, 11, 12, 13, 14, 15, 16, 17, 18, 19, 20, 21, 22, 23, 24, 25, 26, 27, 28]) ?_
         refine xN (by kernel_rfl) (?_)
         exact meet ⟨_, b369, ra361aAlive, rc361aAlive, ra361aBags, rc361aBags, ra361aAround, rc361aAround, rx361aBags, rF361aBags, (by exact qj (qj (qj (qj (qj (qj (rfl) rfl) rfl) rfl) rfl) rfl) rfl), (N.pick [0, 7, 8, 9, 11, 12, 13, 14, 15, 16, 22]), H.pick [0, 1, 2, 3, 5, 6, 7, 8, 9, 10, 11, 12, 13, 14, 15, 16, 17, 18] [0, 7, 8, 9, 11, 12, 13, 14, 15, 16, 22, 23, 24, 25, 26, 27]⟩
        refine zn H ti38 [.slice none 0 0, .slice none 0 0, .slice none 0 0] fun b372 w373 H => ?_
        refine ⟨H.pick [2, 3, 4, 5, 6, 7, 8, 9, 10, 11, 12, 13, 14, 15] [6, 7, 8, 9, 10, 11, 12, 13, 14, 15, 16, 17, 18, 19, 20, 21, 22, 23, 24, 25, 26, 27], ?_⟩
        refine xq [6] (by kernel_rfl) (by simp) (xZ rfl ?_ xu)
        obtain ⟨G374, hn375, h376⟩ := H.QW (α := List Int) 1 rfl 0 rfl (by decide)
        have sz380 := H.base.size
        have lt381 := H.ltN (L := [F353, F347Alive, F347Bags, VE, Qb, Xi, G307, G309, G312, G277, zV, vT, zy, zl, zS, F255, jf, jQ, vF, zL, ja, rF23]) [0, 1, 2, 3, 4, 5, 6, 7, 8, 9, 10, 11, 12, 13, 14, 15, 16, 17, 18, 19, 20, 21]
        refine qZ #[.agg #[.int .i64 aS.qJ, .slice XL aS.qf.length XK, .slice a341Rules aS.qg.length c341Rules], .agg #[.slice a347Alive aT.qh.length c347Alive, .slice a347Bags aT.qp.length c347Bags, .slice a347Around aT.ql.length c347Around], .slice a354 aN.length c355] rfl rfl Tryz.call32 (implCh_ok w373 aS aT aN XL XK Qb a341Rules c341Rules Xi a347Alive c347Alive F347Alive a347Bags c347Bags F347Bags a347Around c347Around VE a354 c355 G374 (H.get 4 rfl).1 (H.get 5 rfl).1 (H.get 1 rfl).1 (H.get 2 rfl).1 (H.get 3 rfl).1 h376) ?_
        rintro _ w378 ⟨ra377aAlive, rn377aAlive, rc377aAlive, ra377aBags, rn377aBags, rc377aBags, rx377aBags, rF377aBags, ra377aAround, rn377aAround, rc377aAround, rfl, M, K⟩ _
        replace N := N.merge sz380 lt381 M
        replace H := H.merge K M
        dsimp only [List.cons_append, List.nil_append] at H
        obtain rfl := H.QA 0 rfl
        obtain rfl := H.zt (α := List Int) 1 rfl 0 rfl (by decide)
        obtain rfl := H.QS 2 rfl
        refine ⟨H.pick [5, 6, 7, 8, 9, 10, 11, 12, 13, 14, 15, 16, 17, 18] [7, 8, 9, 10, 11, 12, 13, 14, 15, 16, 17, 18, 19, 20, 21, 22, 23, 24, 25, 26, 27, 28], ?_⟩
        have S := H.yG [5, 6, 7, 8, 9, 10, 11, 12, 13, 14, 15, 16, 17, 18] [7, 8, 9, 10, 11, 12, 13, 14, 15, 16, 17, 18, 19, 20, 21, 22, 23, 24, 25, 26, 27, 28]
        refine rtp 7 (.tuple #[.agg #[.slice ra377aAlive ((((qG aS aT aN).1).qh).length) rc377aAlive, .slice ra377aBags ((((qG aS aT aN).1).qp).length) rc377aBags, .slice ra377aAround ((((qG aS aT aN).1).ql).length) rc377aAround], .int .i64 ((qG aS aT aN).2)]) S ?_
        refine rtp 8 (.agg #[.slice ra377aAlive ((((qG aS aT aN).1).qh).length) rc377aAlive, .slice ra377aBags ((((qG aS aT aN).1).qp).length) rc377aBags, .slice ra377aAround ((((qG aS aT aN).1).ql).length) rc377aAround]) S ?_
        refine rtp 9 (.int .i64 ((qG aS aT aN).2)) S ?_
        refine xq [11] (by kernel_rfl) (by simp) (xZ rfl ?_ xu)
        refine xP H 3 [.slice ra377aAlive ((((qG aS aT aN).1).qh).length) rc377aAlive, .slice ra377aBags ((((qG aS aT aN).1).qp).length) rc377aBags, .slice ra377aAround ((((qG aS aT aN).1).ql).length) rc377aAround] Tryz.sizeOf38 fun w385 H => ?_
        try dsimp only [List.set] at H
        refine ⟨H.pick [5, 6, 7, 8, 9, 10, 11, 12, 13, 14, 15, 16, 17, 18] [7, 8, 9, 10, 11, 12, 13, 14, 15, 16, 17, 18, 19, 20, 21, 22, 23, 24, 25, 26, 27, 28], ?_⟩
        refine rtp 12 (.int .i64 ((qG aS aT aN).2)) (H.pick [5, 6, 7, 8, 9, 10, 11, 12, 13, 14, 15, 16, 17, 18] [7, 8, 9, 10, 11, 12, 13, 14, 15, 16, 17, 18, 19, 20, 21, 22, 23, 24, 25, 26, 27, 28]) ?_
        refine xN (by kernel_rfl) (?_)
        exact meet ⟨_, b372, ra377aAlive, rc377aAlive, ra377aBags, rc377aBags, ra377aAround, rc377aAround, rx377aBags, rF377aBags, (by exact qj (qj (qj (qj (qj (qj (rfl) rfl) rfl) rfl) rfl) rfl) rfl), (N.pick [0, 7, 8, 9, 11, 12, 13, 14, 15, 16, 22]), H.pick [3, 0, 1, 2, 5, 6, 7, 8, 9, 10, 11, 12, 13, 14, 15, 16, 17, 18] [0, 7, 8, 9, 11, 12, 13, 14, 15, 16, 22, 23, 24, 25, 26, 27]⟩
       refine zn H ti38 [.slice none 0 0, .slice none 0 0, .slice none 0 0] fun b386 w387 H => ?_
       refine ⟨H.pick [1, 2, 3, 4, 5, 6, 7, 8, 9, 10, 11, 12, 13, 14] [5, 6, 7, 8, 9, 10, 11, 12, 13, 14, 15, 16, 17, 18, 19, 20, 21, 22, 23, 24, 25, 26], ?_⟩
       refine xq [5] (by kernel_rfl) (by simp) (xZ rfl ?_ xu)
       have sz388 := H.base.size
       have lt389 := H.ltN (L := [F347Alive, F347Bags, VE, Qb, Xi, G307, G309, G312, G277, zV, vT, zy, zl, zS, F255, jf, jQ, vF, zL, ja, rF23]) [0, 1, 2, 3, 4, 5, 6, 7, 8, 9, 10, 11, 12, 13, 14, 15, 16, 17, 18, 19, 20]
       refine qZ #[.slice aaN aN.length caN] rfl rfl Tryz.call31 (Qq w387 aN aaN caN FaN (H.get 26 rfl).1 (by first | omega | (have := p2 (by omega); omega))) ?_
       rintro v393 w391 r393 x392
       obtain ⟨xs393, F393, f393, H⟩ := H.add_own x392 r393
       obtain ⟨a394, c395, rfl, hc396, hm397⟩ := H.jv 0 rfl
       replace N := N.cons f393 sz388 lt389
       refine ⟨H.pick [2, 3, 4, 5, 6, 7, 8, 9, 10, 11, 12, 13, 14, 15] [6, 7, 8, 9, 10, 11, 12, 13, 14, 15, 16, 17, 18, 19, 20, 21, 22, 23, 24, 25, 26, 27], ?_⟩
       refine xq [6] (by kernel_rfl) (by simp) (xZ rfl ?_ xu)
       obtain ⟨G398, hn399, h400⟩ := H.QW (α := List Int) 0 rfl 0 rfl (by decide)
       have sz404 := H.base.size
       have lt405 := H.ltN (L := [F393, F347Alive, F347Bags, VE, Qb, Xi, G307, G309, G312, G277, zV, vT, zy, zl, zS, F255, jf, jQ, vF, zL, ja, rF23]) [0, 1, 2, 3, 4, 5, 6, 7, 8, 9, 10, 11, 12, 13, 14, 15, 16, 17, 18, 19, 20, 21]
       refine qZ #[.agg #[.int .i64 aS.qJ, .slice XL aS.qf.length XK, .slice a341Rules aS.qg.length c341Rules], .agg #[.slice a347Alive aT.qh.length c347Alive, .slice a347Bags aT.qp.length c347Bags, .slice a347Around aT.ql.length c347Around], .slice a394 aN.length c395] rfl rfl Tryz.call32 (implCh_ok w391 aS aT aN XL XK Qb a341Rules c341Rules Xi a347Alive c347Alive F347Alive a347Bags c347Bags F347Bags a347Around c347Around VE a394 c395 G398 (H.get 4 rfl).1 (H.get 5 rfl).1 (H.get 1 rfl).1 (H.get 2 rfl).1 (H.get 3 rfl).1 h400) ?_
       rintro _ w402 ⟨ra401aAlive, rn401aAlive, rc401aAlive, ra401aBags, rn401aBags, rc401aBags, rx401aBags, rF401aBags, ra401aAround, rn401aAround, rc401aAround, rfl, M, K⟩ _
       replace N := N.merge sz404 lt405 M
       replace H := H.merge K M
       dsimp only [List.cons_append, List.nil_append] at H
       obtain rfl := H.QA 0 rfl
       obtain rfl := H.zt (α := List Int) 1 rfl 0 rfl (by decide)
       obtain rfl := H.QS 2 rfl
       refine ⟨H.pick [5, 6, 7, 8, 9, 10, 11, 12, 13, 14, 15, 16, 17, 18] [7, 8, 9, 10, 11, 12, 13, 14, 15, 16, 17, 18, 19, 20, 21, 22, 23, 24, 25, 26, 27, 28], ?_⟩
       have S := H.yG [5, 6, 7, 8, 9, 10, 11, 12, 13, 14, 15, 16, 17, 18] [7, 8, 9, 10, 11, 12, 13, 14, 15, 16, 17, 18, 19, 20, 21, 22, 23, 24, 25, 26, 27, 28]
       refine rtp 7 (.tuple #[.agg #[.slice ra401aAlive ((((qG aS aT aN).1).qh).length) rc401aAlive, .slice ra401aBags ((((qG aS aT aN).1).qp).length) rc401aBags, .slice ra401aAround ((((qG aS aT aN).1).ql).length) rc401aAround], .int .i64 ((qG aS aT aN).2)]) S ?_
       refine rtp 8 (.agg #[.slice ra401aAlive ((((qG aS aT aN).1).qh).length) rc401aAlive, .slice ra401aBags ((((qG aS aT aN).1).qp).length) rc401aBags, .slice ra401aAround ((((qG aS aT aN).1).ql).length) rc401aAround]) S ?_
       refine rtp 9 (.int .i64 ((qG aS aT aN).2)) S ?_
       refine xq [11] (by kernel_rfl) (by simp) (xZ rfl ?_ xu)
       refine xP H 4 [.slice ra401aAlive ((((qG aS aT aN).1).qh).length) rc401aAlive, .slice ra401aBags ((((qG aS aT aN).1).qp).length) rc401aBags, .slice ra401aAround ((((qG aS aT aN).1).ql).length) rc401aAround] Tryz.sizeOf38 fun w409 H => ?_
       try dsimp only [List.set] at H
       refine ⟨H.pick [5, 6, 7, 8, 9, 10, 11, 12, 13, 14, 15, 16, 17, 18] [7, 8, 9, 10, 11, 12, 13, 14, 15, 16, 17, 18, 19, 20, 21, 22, 23, 24, 25, 26, 27, 28], ?_⟩
       refine rtp 12 (.int .i64 ((qG aS aT aN).2)) (H.pick [5, 6, 7, 8, 9, 10, 11, 12, 13, 14, 15, 16, 17, 18] [7, 8, 9, 10, 11, 12, 13, 14, 15, 16, 17, 18, 19, 20, 21, 22, 23, 24, 25, 26, 27, 28]) ?_
       refine xN (by kernel_rfl) (?_)
       exact meet ⟨_, b386, ra401aAlive, rc401aAlive, ra401aBags, rc401aBags, ra401aAround, rc401aAround, rx401aBags, rF401aBags, (by exact qj (qj (qj (qj (qj (qj (rfl) rfl) rfl) rfl) rfl) rfl) rfl), (N.pick [0, 7, 8, 9, 11, 12, 13, 14, 15, 16, 22]), H.pick [4, 0, 1, 2, 5, 6, 7, 8, 9, 10, 11, 12, 13, 14, 15, 16, 17, 18] [0, 7, 8, 9, 11, 12, 13, 14, 15, 16, 22, 23, 24, 25, 26, 27]⟩
      refine zn H ti38 [.slice none 0 0, .slice none 0 0, .slice none 0 0] fun b410 w411 H => ?_
      refine ⟨H.pick [1, 2, 3, 4, 5, 6, 7, 8, 9, 10, 11, 12, 13, 14] [2, 3, 4, 5, 6, 7, 8, 9, 10, 11, 12, 13, 14, 15, 16, 17, 18, 19, 20, 21, 22, 23], ?_⟩
      refine xq [3] (by kernel_rfl) (by simp) (xZ rfl ?_ xu)
      have sz412 := H.base.size
      have lt413 := H.ltN (L := [Qb, Xi, G307, G309, G312, G277, zV, vT, zy, zl, zS, F255, jf, jQ, vF, zL, ja, rF23]) [0, 1, 2, 3, 4, 5, 6, 7, 8, 9, 10, 11, 12, 13, 14, 15, 16, 17]
      refine qZ #[.agg #[.slice vO aT.qh.length vM, .slice jF aT.qp.length jE, .slice zQ aT.ql.length zO]] rfl rfl Tryz.call12 (Vu w411 aT vO vM Qo jF jE Q5 zQ zO yF (H.get 20 rfl).1 (H.get 21 rfl).1 (H.get 22 rfl).1 (by first | assumption | omega)) ?_
      rintro v417 w415 r417 x416
      obtain ⟨a417Alive, c417Alive, F417Alive, a417Bags, c417Bags, F417Bags, a417Around, c417Around, F417Around, rfl, f417, H⟩ := H.VC x416 r417
      replace N := N.cons f417 sz412 lt413
      replace N := N.split
      replace N := N.split
      refine ⟨H.pick [1, 2, 3, 4, 5, 6, 7, 8, 9, 10, 11, 12, 13, 14] [5, 6, 7, 8, 9, 10, 11, 12, 13, 14, 15, 16, 17, 18, 19, 20, 21, 22, 23, 24, 25, 26], ?_⟩
      refine xq [5] (by kernel_rfl) (by simp) (xZ rfl ?_ xu)
      have sz418 := H.base.size
      have lt419 := H.ltN (L := [F417Alive, F417Bags, F417Around, Qb, Xi, G307, G309, G312, G277, zV, vT, zy, zl, zS, F255, jf, jQ, vF, zL, ja, rF23]) [0, 1, 2, 3, 4, 5, 6, 7, 8, 9, 10, 11, 12, 13, 14, 15, 16, 17, 18, 19, 20]
      refine qZ #[.slice aaN aN.length caN] rfl rfl Tryz.call31 (Qq w415 aN aaN caN FaN (H.get 26 rfl).1 (by first | omega | (have := p2 (by omega); omega))) ?_
      rintro v423 w421 r423 x422
      obtain ⟨xs423, F423, f423, H⟩ := H.add_own x422 r423
      obtain ⟨a424, c425, rfl, hc426, hm427⟩ := H.jv 0 rfl
      replace N := N.cons f423 sz418 lt419
      refine ⟨H.pick [2, 3, 4, 5, 6, 7, 8, 9, 10, 11, 12, 13, 14, 15] [6, 7, 8, 9, 10, 11, 12, 13, 14, 15, 16, 17, 18, 19, 20, 21, 22, 23, 24, 25, 26, 27], ?_⟩
      refine xq [6] (by kernel_rfl) (by simp) (xZ rfl ?_ xu)
      obtain ⟨G428, hn429, h430⟩ := H.QW (α := List Int) 0 rfl 0 rfl (by decide)
      have sz434 := H.base.size
      have lt435 := H.ltN (L := [F423, F417Alive, F417Bags, F417Around, Qb, Xi, G307, G309, G312, G277, zV, vT, zy, zl, zS, F255, jf, jQ, vF, zL, ja, rF23]) [0, 1, 2, 3, 4, 5, 6, 7, 8, 9, 10, 11, 12, 13, 14, 15, 16, 17, 18, 19, 20, 21]
      refine qZ #[.agg #[.int .i64 aS.qJ, .slice XL aS.qf.length XK, .slice a341Rules aS.qg.length c341Rules], .agg #[.slice a417Alive aT.qh.length c417Alive, .slice a417Bags aT.qp.length c417Bags, .slice a417Around aT.ql.length c417Around], .slice a424 aN.length c425] rfl rfl Tryz.call32 (implCh_ok w421 aS aT aN XL XK Qb a341Rules c341Rules Xi a417Alive c417Alive F417Alive a417Bags c417Bags F417Bags a417Around c417Around F417Around a424 c425 G428 (H.get 4 rfl).1 (H.get 5 rfl).1 (H.get 1 rfl).1 (H.get 2 rfl).1 (H.get 3 rfl).1 h430) ?_
      rintro _ w432 ⟨ra431aAlive, rn431aAlive, rc431aAlive, ra431aBags, rn431aBags, rc431aBags, rx431aBags, rF431aBags, ra431aAround, rn431aAround, rc431aAround, rfl, M, K⟩ _
      replace N := N.merge sz434 lt435 M
      replace H := H.merge K M
      dsimp only [List.cons_append, List.nil_append] at H
      obtain rfl := H.QA 0 rfl
      obtain rfl := H.zt (α := List Int) 1 rfl 0 rfl (by decide)
      obtain rfl := H.QS 2 rfl
      refine ⟨H.pick [5, 6, 7, 8, 9, 10, 11, 12, 13, 14, 15, 16, 17, 18] [7, 8, 9, 10, 11, 12, 13, 14, 15, 16, 17, 18, 19, 20, 21, 22, 23, 24, 25, 26, 27, 28], ?_⟩
      have S := H.yG [5, 6, 7, 8, 9, 10, 11, 12, 13, 14, 15, 16, 17, 18] [7, 8, 9, 10, 11, 12, 13, 14, 15, 16, 17, 18, 19, 20, 21, 22, 23, 24, 25, 26, 27, 28]
      refine rtp 7 (.tuple #[.agg #[.slice ra431aAlive ((((qG aS aT aN).1).qh).length) rc431aAlive, .slice ra431aBags ((((qG aS aT aN).1).qp).length) rc431aBags, .slice ra431aAround ((((qG aS aT aN).1).ql).length) rc431aAround], .int .i64 ((qG aS aT aN).2)]) S ?_
      refine rtp 8 (.agg #[.slice ra431aAlive ((((qG aS aT aN).1).qh).length) rc431aAlive, .slice ra431aBags ((((qG aS aT aN).1).qp).length) rc431aBags, .slice ra431aAround ((((qG aS aT aN).1).ql).length) rc431aAround]) S ?_
      refine rtp 9 (.int .i64 ((qG aS aT aN).2)) S ?_
      refine xq [11] (by kernel_rfl) (by simp) (xZ rfl ?_ xu)
      refine xP H 4 [.slice ra431aAlive ((((qG aS aT aN).1).qh).length) rc431aAlive, .slice ra431aBags ((((qG aS aT aN).1).qp).length) rc431aBags, .slice ra431aAround ((((qG aS aT aN).1).ql).length) rc431aAround] Tryz.sizeOf38 fun w439 H => ?_
      try dsimp only [List.set] at H
      refine ⟨H.pick [5, 6, 7, 8, 9, 10, 11, 12, 13, 14, 15, 16, 17, 18] [7, 8, 9, 10, 11, 12, 13, 14, 15, 16, 17, 18, 19, 20, 21, 22, 23, 24, 25, 26, 27, 28], ?_⟩
      refine rtp 12 (.int .i64 ((qG aS aT aN).2)) (H.pick [5, 6, 7, 8, 9, 10, 11, 12, 13, 14, 15, 16, 17, 18] [7, 8, 9, 10, 11, 12, 13, 14, 15, 16, 17, 18, 19, 20, 21, 22, 23, 24, 25, 26, 27, 28]) ?_
      refine xN (by kernel_rfl) (?_)
      exact meet ⟨_, b410, ra431aAlive, rc431aAlive, ra431aBags, rc431aBags, ra431aAround, rc431aAround, rx431aBags, rF431aBags, (by exact qj (qj (qj (qj (qj (qj (rfl) rfl) rfl) rfl) rfl) rfl) rfl), (N.pick [0, 7, 8, 9, 11, 12, 13, 14, 15, 16, 22]), H.pick [4, 0, 1, 2, 5, 6, 7, 8, 9, 10, 11, 12, 13, 14, 15, 16, 17, 18] [0, 7, 8, 9, 11, 12, 13, 14, 15, 16, 22, 23, 24, 25, 26, 27]⟩
     refine zn H ti38 [.slice none 0 0, .slice none 0 0, .slice none 0 0] fun b440 w441 H => ?_
     refine ⟨H.pick [1, 2, 3, 4, 5, 6, 7, 8, 9, 10, 11, 12, 13, 14] [0, 1, 2, 3, 4, 5, 6, 7, 8, 9, 10, 11, 12, 13, 14, 15, 16, 17, 18, 19, 20, 21], ?_⟩
     refine xq [1] (by kernel_rfl) (by simp) (xZ rfl ?_ xu)
     have sz442 := H.base.size
     have lt443 := H.ltN (L := [G307, G309, G312, G277, zV, vT, zy, zl, zS, F255, jf, jQ, vF, zL, ja, rF23]) [0, 1, 2, 3, 4, 5, 6, 7, 8, 9, 10, 11, 12, 13, 14, 15]
     refine qZ #[.agg #[.int .i64 aS.qJ, .slice zD aS.qf.length zC, .slice je aS.qg.length jd]] rfl rfl Tryz.call11 (toSystem_ok w441 aS zD zC yf je jd QH (H.get 16 rfl).1 (H.get 17 rfl).1 (by first | assumption | omega)) ?_
     rintro v447 w445 r447 x446
     obtain ⟨a447Parents, c447Parents, F447Parents, a447Rules, c447Rules, F447Rules, rfl, f447, H⟩ := H.add_SystemD x446 r447
     replace N := N.cons f447 sz442 lt443
     replace N := N.split
     refine ⟨H.pick [1, 2, 3, 4, 5, 6, 7, 8, 9, 10, 11, 12, 13, 14] [2, 3, 4, 5, 6, 7, 8, 9, 10, 11, 12, 13, 14, 15, 16, 17, 18, 19, 20, 21, 22, 23], ?_⟩
     refine xq [3] (by kernel_rfl) (by simp) (xZ rfl ?_ xu)
     have sz448 := H.base.size
     have lt449 := H.ltN (L := [F447Parents, F447Rules, G307, G309, G312, G277, zV, vT, zy, zl, zS, F255, jf, jQ, vF, zL, ja, rF23]) [0, 1, 2, 3, 4, 5, 6, 7, 8, 9, 10, 11, 12, 13, 14, 15, 16, 17]
     refine qZ #[.agg #[.slice vO aT.qh.length vM, .slice jF aT.qp.length jE, .slice zQ aT.ql.length zO]] rfl rfl Tryz.call12 (Vu w445 aT vO vM Qo jF jE Q5 zQ zO yF (H.get 20 rfl).1 (H.get 21 rfl).1 (H.get 22 rfl).1 (by first | assumption | omega)) ?_
     rintro v453 w451 r453 x452
     obtain ⟨a453Alive, c453Alive, F453Alive, a453Bags, c453Bags, F453Bags, a453Around, c453Around, F453Around, rfl, f453, H⟩ := H.VC x452 r453
     replace N := N.cons f453 sz448 lt449
     replace N := N.split
     replace N := N.split
     refine ⟨H.pick [1, 2, 3, 4, 5, 6, 7, 8, 9, 10, 11, 12, 13, 14] [5, 6, 7, 8, 9, 10, 11, 12, 13, 14, 15, 16, 17, 18, 19, 20, 21, 22, 23, 24, 25, 26], ?_⟩
     refine xq [5] (by kernel_rfl) (by simp) (xZ rfl ?_ xu)
     have sz454 := H.base.size
     have lt455 := H.ltN (L := [F453Alive, F453Bags, F453Around, F447Parents, F447Rules, G307, G309, G312, G277, zV, vT, zy, zl, zS, F255, jf, jQ, vF, zL, ja, rF23]) [0, 1, 2, 3, 4, 5, 6, 7, 8, 9, 10, 11, 12, 13, 14, 15, 16, 17, 18, 19, 20]
     refine qZ #[.slice aaN aN.length caN] rfl rfl Tryz.call31 (Qq w451 aN aaN caN FaN (H.get 26 rfl).1 (by first | omega | (have := p2 (by omega); omega))) ?_
     rintro v459 w457 r459 x458
     obtain ⟨xs459, F459, f459, H⟩ := H.add_own x458 r459
     obtain ⟨a460, c461, rfl, hc462, hm463⟩ := H.jv 0 rfl
     replace N := N.cons f459 sz454 lt455
     refine ⟨H.pick [2, 3, 4, 5, 6, 7, 8, 9, 10, 11, 12, 13, 14, 15] [6, 7, 8, 9, 10, 11, 12, 13, 14, 15, 16, 17, 18, 19, 20, 21, 22, 23, 24, 25, 26, 27], ?_⟩
     refine xq [6] (by kernel_rfl) (by simp) (xZ rfl ?_ xu)
     obtain ⟨G464, hn465, h466⟩ := H.QW (α := List Int) 0 rfl 0 rfl (by decide)
     have sz470 := H.base.size
     have lt471 := H.ltN (L := [F459, F453Alive, F453Bags, F453Around, F447Parents, F447Rules, G307, G309, G312, G277, zV, vT, zy, zl, zS, F255, jf, jQ, vF, zL, ja, rF23]) [0, 1, 2, 3, 4, 5, 6, 7, 8, 9, 10, 11, 12, 13, 14, 15, 16, 17, 18, 19, 20, 21]
     refine qZ #[.agg #[.int .i64 aS.qJ, .slice a447Parents aS.qf.length c447Parents, .slice a447Rules aS.qg.length c447Rules], .agg #[.slice a453Alive aT.qh.length c453Alive, .slice a453Bags aT.qp.length c453Bags, .slice a453Around aT.ql.length c453Around], .slice a460 aN.length c461] rfl rfl Tryz.call32 (implCh_ok w457 aS aT aN a447Parents c447Parents F447Parents a447Rules c447Rules F447Rules a453Alive c453Alive F453Alive a453Bags c453Bags F453Bags a453Around c453Around F453Around a460 c461 G464 (H.get 4 rfl).1 (H.get 5 rfl).1 (H.get 1 rfl).1 (H.get 2 rfl).1 (H.get 3 rfl).1 h466) ?_
     rintro _ w468 ⟨ra467aAlive, rn467aAlive, rc467aAlive, ra467aBags, rn467aBags, rc467aBags, rx467aBags, rF467aBags, ra467aAround, rn467aAround, rc467aAround, rfl, M, K⟩ _
     replace N := N.merge sz470 lt471 M
     replace H := H.merge K M
     dsimp only [List.cons_append, List.nil_append] at H
     obtain rfl := H.QA 0 rfl
     obtain rfl := H.zt (α := List Int) 1 rfl 0 rfl (by decide)
     obtain rfl := H.QS 2 rfl
     refine ⟨H.pick [5, 6, 7, 8, 9, 10, 11, 12, 13, 14, 15, 16, 17, 18] [7, 8, 9, 10, 11, 12, 13, 14, 15, 16, 17, 18, 19, 20, 21, 22, 23, 24, 25, 26, 27, 28], ?_⟩
     have S := H.yG [5, 6, 7, 8, 9, 10, 11, 12, 13, 14, 15, 16, 17, 18] [7, 8, 9, 10, 11, 12, 13, 14, 15, 16, 17, 18, 19, 20, 21, 22, 23, 24, 25, 26, 27, 28]
     refine rtp 7 (.tuple #[.agg #[.slice ra467aAlive ((((qG aS aT aN).1).qh).length) rc467aAlive, .slice ra467aBags ((((qG aS aT aN).1).qp).length) rc467aBags, .slice ra467aAround ((((qG aS aT aN).1).ql).length) rc467aAround], .int .i64 ((qG aS aT aN).2)]) S ?_
     refine rtp 8 (.agg #[.slice ra467aAlive ((((qG aS aT aN).1).qh).length) rc467aAlive, .slice ra467aBags ((((qG aS aT aN).1).qp).length) rc467aBags, .slice ra467aAround ((((qG aS aT aN).1).ql).length) rc467aAround]) S ?_
     refine rtp 9 (.int .i64 ((qG aS aT aN).2)) S ?_
     refine xq [11] (by kernel_rfl) (by simp) (xZ rfl ?_ xu)
     refine xP H 4 [.slice ra467aAlive ((((qG aS aT aN).1).qh).length) rc467aAlive, .slice ra467aBags ((((qG aS aT aN).1).qp).length) rc467aBags, .slice ra467aAround ((((qG aS aT aN).1).ql).length) rc467aAround] Tryz.sizeOf38 fun w475 H => ?_
     try dsimp only [List.set] at H
     refine ⟨H.pick [5, 6, 7, 8, 9, 10, 11, 12, 13, 14, 15, 16, 17, 18] [7, 8, 9, 10, 11, 12, 13, 14, 15, 16, 17, 18, 19, 20, 21, 22, 23, 24, 25, 26, 27, 28], ?_⟩
     refine rtp 12 (.int .i64 ((qG aS aT aN).2)) (H.pick [5, 6, 7, 8, 9, 10, 11, 12, 13, 14, 15, 16, 17, 18] [7, 8, 9, 10, 11, 12, 13, 14, 15, 16, 17, 18, 19, 20, 21, 22, 23, 24, 25, 26, 27, 28]) ?_
     refine xN (by kernel_rfl) (?_)
     exact meet ⟨_, b440, ra467aAlive, rc467aAlive, ra467aBags, rc467aBags, ra467aAround, rc467aAround, rx467aBags, rF467aBags, (by exact qj (qj (qj (qj (qj (qj (rfl) rfl) rfl) rfl) rfl) rfl) rfl), (N.pick [0, 7, 8, 9, 11, 12, 13, 14, 15, 16, 22]), H.pick [4, 0, 1, 2, 5, 6, 7, 8, 9, 10, 11, 12, 13, 14, 15, 16, 17, 18] [0, 7, 8, 9, 11, 12, 13, 14, 15, 16, 22, 23, 24, 25, 26, 27]⟩
    clear H N
    rintro ρ w476 ⟨junk, b326, ra327, rc328, ra329, rc330, ra331, rc332, rx333, rF334, rfl, N, H⟩
    refine t_n (qm (qm (qA ?_)))
    refine sw (zg [.slice ra327 ((((qG aS aT aN).1).qh).length) rc328, .slice ra329 ((((qG aS aT aN).1).qp).length) rc330, .slice ra331 ((((qG aS aT aN).1).ql).length) rc332] Tryz.isAgg38 Tryz.sizeOf38 rfl (qH (H.cells 0 rfl) 0 3) ?_)
    refine sw (zg [.slice ra16 ((((qG aS aT aN).1).qh).length) rc17, .slice ra18 ((((qG aS aT aN).1).qp).length) rc19, .slice ra20 ((((qG aS aT aN).1).ql).length) rc21] Tryz.isAgg38 Tryz.sizeOf38 rfl (qH (H.cells 12 rfl) 0 3) ?_)
    obtain ⟨G477, hn478, h479⟩ := H.rowIsB 1 rfl
    obtain ⟨G480, hn481, h482⟩ := H.QW (α := List Int) 2 rfl 0 rfl (by decide)
    obtain ⟨G483, hn484, h485⟩ := H.rowIsI 3 rfl
    obtain ⟨G486, hn487, h488⟩ := H.rowIsB 13 rfl
    obtain ⟨G489, hn490, h491⟩ := H.QW (α := List Int) 14 rfl 10 rfl (by decide)
    obtain ⟨G492, hn493, h494⟩ := H.rowIsI 15 rfl
    refine sw (qZ #[.agg #[.slice ra327 ((((qG aS aT aN).1).qh).length) rc328, .slice ra329 ((((qG aS aT aN).1).qp).length) rc330, .slice ra331 ((((qG aS aT aN).1).ql).length) rc332], .agg #[.slice ra16 ((((qG aS aT aN).1).qh).length) rc17, .slice ra18 ((((qG aS aT aN).1).qp).length) rc19, .slice ra20 ((((qG aS aT aN).1).ql).length) rc21]] rfl rfl Tryz.call16 (eqState_ok w476 ((qG aS aT aN).1) ((qG aS aT aN).1) ra327 rc328 G477 ra329 rc330 G480 ra331 rc332 G483 ra16 rc17 G486 ra18 rc19 G489 ra20 rc21 G492 h479 h482 h485 h488 h491 h494) ?_)
    rintro _ w495 rfl x496
    replace H := H.ext x496
    refine sps [.bool (!(decide (((qG aS aT aN).1) = ((qG aS aT aN).1)))), .bool (!(decide (((qG aS aT aN).1) = ((qG aS aT aN).1))))] ?_
    cases h497 : (!(decide (((qG aS aT aN).1) = ((qG aS aT aN).1))))
    ·skip
     replace h497 := qY h497
     refine qQ 129 rfl rfl ?_
     refine sp (.int .i64 ((qG aS aT aN).2)) ?_
     refine qQ 129 rfl rfl ?_
     refine sp (.int .i64 ((qG aS aT aN).2)) ?_
     refine qQ 129 rfl rfl ?_
     refine sps [.bool (((qG aS aT aN).2 : Int) != ((qG aS aT aN).2)), .bool (((qG aS aT aN).2 : Int) != ((qG aS aT aN).2))] ?_
     refine qx (t_n ?_)
     refine qW (((qG aS aT aN).2 : Int) != ((qG aS aT aN).2)) rfl (fun h => absurd rfl (bne_iff_ne.1 h)) (fun h498 => ?_)
     replace h498 := xR h498
     refine xk (t_n (qm (qA ?_)))
     refine sp (.int .i64 1) ?_
     refine qx (t_n (qm (qA ?_)))
     refine sw (zg [.slice ra197aAlive ((((qG aS aT aN).1).qh).length) rc197aAlive, .slice ra197aBags ((((qG aS aT aN).1).qp).length) rc197aBags, .slice ra197aAround ((((qG aS aT aN).1).ql).length) rc197aAround] Tryz.isAgg38 Tryz.sizeOf38 rfl (qH (H.cells 5 rfl) 0 3) ?_)
     refine sp (.int .i64 1) ?_
     have hn499 := H.isLen 1 rfl
     have hn500 := H.isLen 2 rfl
     have hn501 := H.isLen 3 rfl
     refine sw (qZ #[.agg #[.slice ra197aAlive ((((qG aS aT aN).1).qh).length) rc197aAlive, .slice ra197aBags ((((qG aS aT aN).1).qp).length) rc197aBags, .slice ra197aAround ((((qG aS aT aN).1).ql).length) rc197aAround], .int .i64 1] rfl rfl Tryz.call23 (args_eq (by rw [← hn499, ← hn500, ← hn501]) (heldState_ok w495 (⟨(mrk (((qG aS aT aN).1).qh) (1)), (mrk (((qG aS aT aN).1).qp) (1 + (cnt (((qG aS aT aN).1).qh) : Nat))), (mrk (((qG aS aT aN).1).ql) (1 + (cnt (((qG aS aT aN).1).qh) : Nat) + (cnt (((qG aS aT aN).1).qp) : Nat)))⟩ : qU) 1 ra197aAlive rc197aAlive G307 ra197aBags rc197aBags G309 ra197aAround rc197aAround G312 (hn499 ▸ (H.get 1 rfl).1) (hn500 ▸ (H.get 2 rfl).1) (hn501 ▸ (H.get 3 rfl).1) (by first | exact mkd_mark _ _ | omega | (simp only [cnt_mark]; first | exact mkd_mark _ _ | omega)) (by first | exact mkd_mark _ _ | omega | (simp only [cnt_mark]; first | exact mkd_mark _ _ | omega)) (by first | exact mkd_mark _ _ | omega | (simp only [cnt_mark]; first | exact mkd_mark _ _ | omega)) (by first | exact mkd_mark _ _ | omega | (simp only [cnt_mark]; first | exact mkd_mark _ _ | omega)) (by first | exact mkd_mark _ _ | omega | (simp only [cnt_mark]; first | exact mkd_mark _ _ | omega)))) ?_)
     rintro _ w502 rfl x503
     replace H := H.ext x503
     refine sp (.int .i64 (1 + (cnt (⟨(mrk (((qG aS aT aN).1).qh) (1)), (mrk (((qG aS aT aN).1).qp) (1 + (cnt (((qG aS aT aN).1).qh) : Nat))), (mrk (((qG aS aT aN).1).ql) (1 + (cnt (((qG aS aT aN).1).qh) : Nat) + (cnt (((qG aS aT aN).1).qp) : Nat)))⟩ : qU).qh : Nat) + (cnt (⟨(mrk (((qG aS aT aN).1).qh) (1)), (mrk (((qG aS aT aN).1).qp) (1 + (cnt (((qG aS aT aN).1).qh) : Nat))), (mrk (((qG aS aT aN).1).ql) (1 + (cnt (((qG aS aT aN).1).qh) : Nat) + (cnt (((qG aS aT aN).1).qp) : Nat)))⟩ : qU).qp : Nat) + (cnt (⟨(mrk (((qG aS aT aN).1).qh) (1)), (mrk (((qG aS aT aN).1).qp) (1 + (cnt (((qG aS aT aN).1).qh) : Nat))), (mrk (((qG aS aT aN).1).ql) (1 + (cnt (((qG aS aT aN).1).qh) : Nat) + (cnt (((qG aS aT aN).1).qp) : Nat)))⟩ : qU).ql : Nat))) ?_
     refine qx (t_n (qm (qm (qA ?_))))
     refine sps [.int .i64 (1 + (cnt (⟨(mrk (((qG aS aT aN).1).qh) (1)), (mrk (((qG aS aT aN).1).qp) (1 + (cnt (((qG aS aT aN).1).qh) : Nat))), (mrk (((qG aS aT aN).1).ql) (1 + (cnt (((qG aS aT aN).1).qh) : Nat) + (cnt (((qG aS aT aN).1).qp) : Nat)))⟩ : qU).qh : Nat) + (cnt (⟨(mrk (((qG aS aT aN).1).qh) (1)), (mrk (((qG aS aT aN).1).qp) (1 + (cnt (((qG aS aT aN).1).qh) : Nat))), (mrk (((qG aS aT aN).1).ql) (1 + (cnt (((qG aS aT aN).1).qh) : Nat) + (cnt (((qG aS aT aN).1).qp) : Nat)))⟩ : qU).qp : Nat) + (cnt (⟨(mrk (((qG aS aT aN).1).qh) (1)), (mrk (((qG aS aT aN).1).qp) (1 + (cnt (((qG aS aT aN).1).qh) : Nat))), (mrk (((qG aS aT aN).1).ql) (1 + (cnt (((qG aS aT aN).1).qh) : Nat) + (cnt (((qG aS aT aN).1).qp) : Nat)))⟩ : qU).ql : Nat)), .bool (decide ((1 + (cnt (⟨(mrk (((qG aS aT aN).1).qh) (1)), (mrk (((qG aS aT aN).1).qp) (1 + (cnt (((qG aS aT aN).1).qh) : Nat))), (mrk (((qG aS aT aN).1).ql) (1 + (cnt (((qG aS aT aN).1).qh) : Nat) + (cnt (((qG aS aT aN).1).qp) : Nat)))⟩ : qU).qh : Nat) + (cnt (⟨(mrk (((qG aS aT aN).1).qh) (1)), (mrk (((qG aS aT aN).1).qp) (1 + (cnt (((qG aS aT aN).1).qh) : Nat))), (mrk (((qG aS aT aN).1).ql) (1 + (cnt (((qG aS aT aN).1).qh) : Nat) + (cnt (((qG aS aT aN).1).qp) : Nat)))⟩ : qU).qp : Nat) + (cnt (⟨(mrk (((qG aS aT aN).1).qh) (1)), (mrk (((qG aS aT aN).1).qp) (1 + (cnt (((qG aS aT aN).1).qh) : Nat))), (mrk (((qG aS aT aN).1).ql) (1 + (cnt (((qG aS aT aN).1).qh) : Nat) + (cnt (((qG aS aT aN).1).qp) : Nat)))⟩ : qU).ql : Nat) : Int) < 0))] ?_
     refine qx (t_n ?_)
     refine qW (decide ((1 + (cnt (⟨(mrk (((qG aS aT aN).1).qh) (1)), (mrk (((qG aS aT aN).1).qp) (1 + (cnt (((qG aS aT aN).1).qh) : Nat))), (mrk (((qG aS aT aN).1).ql) (1 + (cnt (((qG aS aT aN).1).qh) : Nat) + (cnt (((qG aS aT aN).1).qp) : Nat)))⟩ : qU).qh : Nat) + (cnt (⟨(mrk (((qG aS aT aN).1).qh) (1)), (mrk (((qG aS aT aN).1).qp) (1 + (cnt (((qG aS aT aN).1).qh) : Nat))), (mrk (((qG aS aT aN).1).ql) (1 + (cnt (((qG aS aT aN).1).qh) : Nat) + (cnt (((qG aS aT aN).1).qp) : Nat)))⟩ : qU).qp : Nat) + (cnt (⟨(mrk (((qG aS aT aN).1).qh) (1)), (mrk (((qG aS aT aN).1).qp) (1 + (cnt (((qG aS aT aN).1).qh) : Nat))), (mrk (((qG aS aT aN).1).ql) (1 + (cnt (((qG aS aT aN).1).qh) : Nat) + (cnt (((qG aS aT aN).1).qp) : Nat)))⟩ : qU).ql : Nat) : Int) < 0)) rfl (fun h504 => ?_) (fun h504 => ?_)
     ·skip
      replace h504 := of_decide_eq_true h504
      refine qm (qA ?_)
      refine sp (.bool false) ?_
      refine qx (t_n (xC (t_r ?_)))
      refine ret1 (.bool false) rfl rfl ⟨_, rfl, ?_, H.base⟩
      exfalso; first | omega
     replace h504 := of_decide_eq_false h504
     refine xk (t_n (qm (qm (qA ?_))))
     refine sps [.int .i64 (1 + (cnt (⟨(mrk (((qG aS aT aN).1).qh) (1)), (mrk (((qG aS aT aN).1).qp) (1 + (cnt (((qG aS aT aN).1).qh) : Nat))), (mrk (((qG aS aT aN).1).ql) (1 + (cnt (((qG aS aT aN).1).qh) : Nat) + (cnt (((qG aS aT aN).1).qp) : Nat)))⟩ : qU).qh : Nat) + (cnt (⟨(mrk (((qG aS aT aN).1).qh) (1)), (mrk (((qG aS aT aN).1).qp) (1 + (cnt (((qG aS aT aN).1).qh) : Nat))), (mrk (((qG aS aT aN).1).ql) (1 + (cnt (((qG aS aT aN).1).qh) : Nat) + (cnt (((qG aS aT aN).1).qp) : Nat)))⟩ : qU).qp : Nat) + (cnt (⟨(mrk (((qG aS aT aN).1).qh) (1)), (mrk (((qG aS aT aN).1).qp) (1 + (cnt (((qG aS aT aN).1).qh) : Nat))), (mrk (((qG aS aT aN).1).ql) (1 + (cnt (((qG aS aT aN).1).qh) : Nat) + (cnt (((qG aS aT aN).1).qp) : Nat)))⟩ : qU).ql : Nat)), .int .i64 (1 + (cnt (((qG aS aT aN).1).qh) : Nat) + (cnt (((qG aS aT aN).1).qp) : Nat) + (cnt (((qG aS aT aN).1).ql) : Nat)), .bool ((1 + (cnt (⟨(mrk (((qG aS aT aN).1).qh) (1)), (mrk (((qG aS aT aN).1).qp) (1 + (cnt (((qG aS aT aN).1).qh) : Nat))), (mrk (((qG aS aT aN).1).ql) (1 + (cnt (((qG aS aT aN).1).qh) : Nat) + (cnt (((qG aS aT aN).1).qp) : Nat)))⟩ : qU).qh : Nat) + (cnt (⟨(mrk (((qG aS aT aN).1).qh) (1)), (mrk (((qG aS aT aN).1).qp) (1 + (cnt (((qG aS aT aN).1).qh) : Nat))), (mrk (((qG aS aT aN).1).ql) (1 + (cnt (((qG aS aT aN).1).qh) : Nat) + (cnt (((qG aS aT aN).1).qp) : Nat)))⟩ : qU).qp : Nat) + (cnt (⟨(mrk (((qG aS aT aN).1).qh) (1)), (mrk (((qG aS aT aN).1).qp) (1 + (cnt (((qG aS aT aN).1).qh) : Nat))), (mrk (((qG aS aT aN).1).ql) (1 + (cnt (((qG aS aT aN).1).qh) : Nat) + (cnt (((qG aS aT aN).1).qp) : Nat)))⟩ : qU).ql : Nat) : Int) != (1 + (cnt (((qG aS aT aN).1).qh) : Nat) + (cnt (((qG aS aT aN).1).qp) : Nat) + (cnt (((qG aS aT aN).1).ql) : Nat)))] ?_
     refine qx (t_n ?_)
     refine qW ((1 + (cnt (⟨(mrk (((qG aS aT aN).1).qh) (1)), (mrk (((qG aS aT aN).1).qp) (1 + (cnt (((qG aS aT aN).1).qh) : Nat))), (mrk (((qG aS aT aN).1).ql) (1 + (cnt (((qG aS aT aN).1).qh) : Nat) + (cnt (((qG aS aT aN).1).qp) : Nat)))⟩ : qU).qh : Nat) + (cnt (⟨(mrk (((qG aS aT aN).1).qh) (1)), (mrk (((qG aS aT aN).1).qp) (1 + (cnt (((qG aS aT aN).1).qh) : Nat))), (mrk (((qG aS aT aN).1).ql) (1 + (cnt (((qG aS aT aN).1).qh) : Nat) + (cnt (((qG aS aT aN).1).qp) : Nat)))⟩ : qU).qp : Nat) + (cnt (⟨(mrk (((qG aS aT aN).1).qh) (1)), (mrk (((qG aS aT aN).1).qp) (1 + (cnt (((qG aS aT aN).1).qh) : Nat))), (mrk (((qG aS aT aN).1).ql) (1 + (cnt (((qG aS aT aN).1).qh) : Nat) + (cnt (((qG aS aT aN).1).qp) : Nat)))⟩ : qU).ql : Nat) : Int) != (1 + (cnt (((qG aS aT aN).1).qh) : Nat) + (cnt (((qG aS aT aN).1).qp) : Nat) + (cnt (((qG aS aT aN).1).ql) : Nat))) rfl (fun h => absurd h324 (bne_iff_ne.1 h)) (fun h505 => ?_)
     replace h505 := xR h505
     refine xk (t_n (qm (qA ?_)))
     refine sp (.bool true) ?_
     refine qx (t_n (xC ?_))
     refine ret1 (.bool true) rfl rfl ⟨_, rfl, ?_, H.base⟩
     rfl
    · exact absurd (xg h497) (by simp)
   · exact absurd (xg h305) (by simp)
  replace h284 := of_decide_eq_true h284
  refine zf [94, 95, 96, 97] ?_
  refine sps [.bool true, .bool true] ?_
  refine zf [100, 101, 102] ?_
  refine sp (.bool true) ?_
  refine qx (t_n ?_)
  refine qW true rfl (fun _ => ?_) (fun h => absurd h (by decide))
  refine qm (qA ?_)
  refine sp (.bool false) ?_
  refine qx (t_n (xC (t_r ?_)))
  refine ret1 (.bool false) rfl rfl ⟨_, rfl, ?_, H.base⟩
  exfalso; first | omega
 · exact absurd (xg h228) (by simp)

end Go.Proofs.YtkmlihdacnfhdaaGreat
