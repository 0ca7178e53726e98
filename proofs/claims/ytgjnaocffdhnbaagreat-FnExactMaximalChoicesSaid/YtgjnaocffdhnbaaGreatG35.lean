/- Walks, printed by program (wip/tools/gv.py): what each function comes to, for all arguments. -/
import Derived.Test.YtgjnaocffdhnbaaGreatG34
import Derived.Test.YtgjnaocffdhnbaaGreatPI
import Derived.Test.YtgjnaocffdhnbaaGreatI
import Derived.Test.YtgjnaocffdhnbaaGreatTI
namespace Go.Proofs.YtgjnaocffdhnbaaGreat
set_option linter.unusedVariables false
set_option linter.unusedSimpArgs false
open Go.Proofs.YtgjnaocffdhnbaaGreat.Tot (tot)
open Go.Proofs.YtgjnaocffdhnbaaGreat.Mark (cnt mrk mkd mkd_mark cnt_mark)
open Go.RowKit
set_option linter.unusedVariables false
set_option linter.unusedSimpArgs false
set_option maxRecDepth 100000
set_option maxHeartbeats 4000000

instance iC57_G35 : Qn Tryz.prog 57 := ⟨Tryz.call57⟩
instance iC58_G35 : Qn Tryz.prog 58 := ⟨Tryz.call58⟩
instance iC63_G35 : Qn Tryz.prog 63 := ⟨Tryz.call63⟩
instance iC64_G35 : Qn Tryz.prog 64 := ⟨Tryz.call64⟩
instance iC14_G35 : Qn Tryz.prog 14 := ⟨Tryz.call14⟩
instance iC15_G35 : Qn Tryz.prog 15 := ⟨Tryz.call15⟩
instance iC17_G35 : Qn Tryz.prog 17 := ⟨Tryz.call17⟩
instance iC18_G35 : Qn Tryz.prog 18 := ⟨Tryz.call18⟩
instance iC16_G35 : Qn Tryz.prog 16 := ⟨Tryz.call16⟩
instance iC19_G35 : Qn Tryz.prog 19 := ⟨Tryz.call19⟩
instance iC21_G35 : Qn Tryz.prog 21 := ⟨Tryz.call21⟩
instance iC22_G35 : Qn Tryz.prog 22 := ⟨Tryz.call22⟩
instance iC26_G35 : Qn Tryz.prog 26 := ⟨Tryz.call26⟩


theorem specMc_ok (w : World) (s : qK) (t : xu) (qx : Option Addr) (qp : Nat) (xn : List Nat) (qN : Option Addr) (qL : Nat) (xG : List Nat) (xB : Option Addr) (xx : Nat) (zy : List Nat) (xK : Option Addr) (xH : Nat) (zX : List Nat) (xg : Option Addr) (xf : Nat) (xW : List Nat) (xh : qE.rep w xn [.slice qx s.qf.length qp] s.qf) (xE : qE.rep w xG [.slice qN s.qh.length qL] s.qh) (zu : qE.rep w zy [.slice xB t.qo.length xx] t.qo) (zV : qE.rep w zX [.slice xK t.qy.length xH] t.qy) (xU : qE.rep w xW [.slice xg t.qm.length xf] t.qm) : Calls Tryz.prog 16 #[.agg #[.int .i64 s.qH, .slice qx s.qf.length qp, .slice qN s.qh.length qL], .agg #[.slice xB t.qo.length xx, .slice xK t.qy.length xH, .slice xg t.qm.length xf]] w (Ret (fun v w' => ∃ (ra0 : Option Addr) (rn0 : Nat) (rc0 : Nat) (rx0 : List Value) (rF0 : List Nat), v = .tuple #[.slice ra0 rn0 rc0, .int .i64 ((xR s t).2)] ∧ Fresh w.heap.size [rF0] ∧ St w w' [.row (.slice ra0 rn0 rc0) 22 1 rn0 rx0] [zn true rF0 rx0 ((xR s t).1)]) w) := by
 refine en Tryz.func16 Tryz.ntmps16 ?_
 have H := (((((St.start w).arg xU).arg zV).arg zu).arg xE).arg xh
 have zU := qA xh
 have jD := qA xE
 have Xr := qA zu
 have nhtBags := qA zV
 have QA := qA xU
 clear xh xE zu zV xU
 have N := Fresh.nil w.heap.size
 refine qi (ql ?_)
 refine sw (zh H [.int .i64 s.qH, .slice qx s.qf.length qp, .slice qN s.qh.length qL] fun b1 w2 H => ?_)
 refine sw (zh H [.slice xB t.qo.length xx, .slice xK t.qy.length xH, .slice xg t.qm.length xf] fun b3 w4 H => ?_)
 refine sps [.slice none 0 0, .int .i64 0] ?_
 refine qj (t_n (qi (qi (ql ?_))))
 refine sw (oc (l03Both_ok _ s t _ _ _ _ _ _ _ _ _ _ _ _ _ _ _ _ _ _ _ (qI (H.cells 1 rfl) 0 3) (H.get 0 rfl).1 (H.get 1 rfl).1 (qI (H.cells 0 rfl) 0 3) (H.get 2 rfl).1 (H.get 3 rfl).1 (H.get 4 rfl).1) ?_)
 rintro _ w6 rfl x7
 replace H := H.ext x7
 refine sp (.bool (!(dec (yw s ∧ zS s t)))) ?_
 refine qj (t_n ?_)
 refine qC (!(dec (yw s ∧ zS s t))) rfl (fun h8 => ?_) (fun h8 => ?_)
 ·skip
  replace h8 := qP h8
  replace h8 := xI h8
  refine qi (ql ?_)
  refine sw (jm H Tryz.underlying27 ti22 fun b9 w10 H => ?_)
  refine sps [.slice (aa b9 0) 0 0, .int .i64 1] ?_
  refine qj (t_n (qV (t_r ?_)))
  replace H := H.boxRow 0 rfl 1 0 rfl (by decide)
  try dsimp only [List.set] at H
  replace H := H.jq (α := List Int)
  refine ret2 (.slice (aa b9 0) 0 0) (.int .i64 1) rfl rfl rfl ⟨_, rfl, ?_, H.base⟩
  rw [mc_1 ‹_›]
  exact ⟨(aa b9 0), 0, 0, [], [], rfl, N.emp, H.pick [0] [0]⟩
 replace h8 := qJ h8
 replace h8 := vC h8
 have k0 := (‹yw s ∧ zS s t› : yw s ∧ zS s t)
 have k1 := k0.1
 have k2 := k0.2
 refine qM (t_n (qi (ql ?_)))
 have sz14 := H.base.size
 refine sw (oc (l03Choices_ok _ s t _ _ _ _ _ _ _ _ _ _ _ _ _ _ _ _ _ _ _ (qI (H.cells 1 rfl) 0 3) (H.get 0 rfl).1 (H.get 1 rfl).1 (qI (H.cells 0 rfl) 0 3) (H.get 2 rfl).1 (H.get 3 rfl).1 (H.get 4 rfl).1 (by first | assumption | omega) (by first | assumption | omega)) ?_)
 rintro _ w12 ⟨ra11a, rn11a, rc11a, rx11a, rF11a, rfl, M, K⟩ _
 replace N := N.merge sz14 (by simp) M
 replace H := H.merge K M
 dsimp only [List.cons_append, List.nil_append] at H
 obtain rfl := H.zK (α := List Int) 0 rfl 0 rfl (by decide)
 refine sps [.slice ra11a (((yx s t).1).length) rc11a, .int .i64 ((yx s t).2), .slice ra11a (((yx s t).1).length) rc11a, .int .i64 ((yx s t).2)] ?_
 refine qj (t_n (qV ?_))
 refine ret2 (.slice ra11a (((yx s t).1).length) rc11a) (.int .i64 ((yx s t).2)) rfl rfl rfl ⟨_, rfl, ?_, H.base⟩
 rw [mc_0 k0]
 exact ⟨ra11a, ((yx s t).1).length, rc11a, rx11a, rF11a, rfl, N, H.pick [0] [0]⟩

theorem implMc_ok (w : World) (s : qK) (t : xu) (qx : Option Addr) (qp : Nat) (xn : List Nat) (qN : Option Addr) (qL : Nat) (xG : List Nat) (xB : Option Addr) (xx : Nat) (zy : List Nat) (xK : Option Addr) (xH : Nat) (zX : List Nat) (xg : Option Addr) (xf : Nat) (xW : List Nat) (xh : qE.rep w xn [.slice qx s.qf.length qp] s.qf) (xE : qE.rep w xG [.slice qN s.qh.length qL] s.qh) (zu : qE.rep w zy [.slice xB t.qo.length xx] t.qo) (zV : qE.rep w zX [.slice xK t.qy.length xH] t.qy) (xU : qE.rep w xW [.slice xg t.qm.length xf] t.qm) : Calls Tryz.prog 19 #[.agg #[.int .i64 s.qH, .slice qx s.qf.length qp, .slice qN s.qh.length qL], .agg #[.slice xB t.qo.length xx, .slice xK t.qy.length xH, .slice xg t.qm.length xf]] w (Ret (fun v w' => ∃ (ra0 : Option Addr) (rn0 : Nat) (rc0 : Nat) (rx0 : List Value) (rF0 : List Nat), v = .tuple #[.slice ra0 rn0 rc0, .int .i64 ((xR s t).2)] ∧ Fresh w.heap.size [rF0] ∧ St w w' [.row (.slice ra0 rn0 rc0) 22 1 rn0 rx0] [zn true rF0 rx0 ((xR s t).1)]) w) := by
 refine en Tryz.func19 Tryz.ntmps19 ?_
 have H := (((((St.start w).arg xU).arg zV).arg zu).arg xE).arg xh
 have zU := qA xh
 have jD := qA xE
 have Xr := qA zu
 have nhtBags := qA zV
 have QA := qA xU
 clear xh xE zu zV xU
 have N := Fresh.nil w.heap.size
 refine qi (ql ?_)
 refine sw (zh H [.int .i64 s.qH, .slice qx s.qf.length qp, .slice qN s.qh.length qL] fun b1 w2 H => ?_)
 refine sw (zh H [.slice xB t.qo.length xx, .slice xK t.qy.length xH, .slice xg t.qm.length xf] fun b3 w4 H => ?_)
 refine sps [.slice none 0 0, .int .i64 0] ?_
 refine qj (t_n (qi (qi (ql ?_))))
 refine sw (zC [.int .i64 s.qH, .slice qx s.qf.length qp, .slice qN s.qh.length qL] Tryz.isAgg36 Tryz.sizeOf36 rfl (qI (H.cells 1 rfl) 0 3) ?_)
 refine sw (zC [.slice xB t.qo.length xx, .slice xK t.qy.length xH, .slice xg t.qm.length xf] Tryz.isAgg38 Tryz.sizeOf38 rfl (qI (H.cells 0 rfl) 0 3) ?_)
 refine sw (oc (validState_ok _ s t _ _ _ _ _ _ _ _ _ _ _ _ _ _ _ (H.get 0 rfl).1 (H.get 1 rfl).1 (H.get 2 rfl).1 (H.get 3 rfl).1 (H.get 4 rfl).1) ?_)
 rintro _ w6 rfl x7
 replace H := H.ext x7
 refine sp (.bool (!(dec (yw s ∧ zS s t)))) ?_
 refine qj (t_n ?_)
 refine qC (!(dec (yw s ∧ zS s t))) rfl (fun h8 => ?_) (fun h8 => ?_)
 ·skip
  replace h8 := qP h8
  replace h8 := xI h8
  refine qi (ql ?_)
  refine sps [.slice none 0 0, .int .i64 1] ?_
  refine qj (t_n (qV (t_r ?_)))
  replace H := H.nilRow 22 1
  replace H := H.jq (α := List Int)
  refine ret2 (.slice none 0 0) (.int .i64 1) rfl rfl rfl ⟨_, rfl, ?_, H.base⟩
  rw [mc_1 ‹_›]
  exact ⟨none, 0, 0, [], [], rfl, N.emp, H.pick [0] [0]⟩
 replace h8 := qJ h8
 replace h8 := vC h8
 have k0 := (‹yw s ∧ zS s t› : yw s ∧ zS s t)
 have k1 := k0.1
 have k2 := k0.2
 refine qM (t_n (qi (ql ?_)))
 refine sw (zC [.int .i64 s.qH, .slice qx s.qf.length qp, .slice qN s.qh.length qL] Tryz.isAgg36 Tryz.sizeOf36 rfl (qI (H.cells 1 rfl) 0 3) ?_)
 refine sw (zC [.slice xB t.qo.length xx, .slice xK t.qy.length xH, .slice xg t.qm.length xf] Tryz.isAgg38 Tryz.sizeOf38 rfl (qI (H.cells 0 rfl) 0 3) ?_)
 have sz12 := H.base.size
 refine sw (oc (choices_ok _ s t _ _ _ _ _ _ _ _ _ _ _ _ _ _ _ (H.get 0 rfl).1 (H.get 1 rfl).1 (H.get 2 rfl).1 (H.get 3 rfl).1 (H.get 4 rfl).1 (by first | assumption | omega) (by first | assumption | omega)) ?_)
 rintro _ w10 ⟨ra9a, rn9a, rc9a, rx9a, rF9a, rfl, M, K⟩ _
 replace N := N.merge sz12 (by simp) M
 replace H := H.merge K M
 dsimp only [List.cons_append, List.nil_append] at H
 obtain rfl := H.zK (α := List Int) 0 rfl 0 rfl (by decide)
 refine sps [.slice ra9a (((yx s t).1).length) rc9a, .int .i64 ((yx s t).2), .slice ra9a (((yx s t).1).length) rc9a, .int .i64 ((yx s t).2)] ?_
 refine qj (t_n (qV ?_))
 refine ret2 (.slice ra9a (((yx s t).1).length) rc9a) (.int .i64 ((yx s t).2)) rfl rfl rfl ⟨_, rfl, ?_, H.base⟩
 rw [mc_0 k0]
 exact ⟨ra9a, ((yx s t).1).length, rc9a, rx9a, rF9a, rfl, N, H.pick [0] [0]⟩

theorem law_MaximalChoices (w : World) (aS : qK) (aT : xu) (jl : Option Addr) (jk : Nat) (XG : List Nat) (yG : Option Addr) (yD : Nat) (FaSRules : List Nat) (yF : Option Addr) (yC : Nat) (FaTAlive : List Nat) (QR : Option Addr) (QQ : Nat) (FaTBags : List Nat) (jJ : Option Addr) (jI : Nat) (FaTAround : List Nat) (haSParents : qE.rep w XG [.slice jl aS.qf.length jk] aS.qf) (haSRules : qE.rep w FaSRules [.slice yG aS.qh.length yD] aS.qh) (haTAlive : qE.rep w FaTAlive [.slice yF aT.qo.length yC] aT.qo) (haTBags : qE.rep w FaTBags [.slice QR aT.qy.length QQ] aT.qy) (haTAround : qE.rep w FaTAround [.slice jJ aT.qm.length jI] aT.qm) : Calls Tryz.prog 3 #[.agg #[.int .i64 aS.qH, .slice jl aS.qf.length jk, .slice yG aS.qh.length yD], .agg #[.slice yF aT.qo.length yC, .slice QR aT.qy.length QQ, .slice jJ aT.qm.length jI]] w (Ret (fun v w' => v = .bool true) w) := by
 refine en Tryz.func3 Tryz.ntmps3 ?_
 have H := (((((St.start w).arg haTAround).arg haTBags).arg haTAlive).arg haSRules).arg haSParents
 have nhaSParents := qA haSParents
 have nhaSRules := qA haSRules
 have nhaTAlive := qA haTAlive
 have nhaTBags := qA haTBags
 have nhaTAround := qA haTAround
 clear haSParents haSRules haTAlive haTBags haTAround
 have N := Fresh.nil w.heap.size
 have A := H.ltN (L := [XG, FaSRules, FaTAlive, FaTBags, FaTAround]) [0, 1, 2, 3, 4]
 have t1 := tot_SystemD aS
 have t2 := tot_StateD aT
 have c0 := QU aS.qf
 have c1 := QU aS.qh
 have c2 := QU aT.qo
 have c3 := QU aT.qy
 have c4 := QU aT.qm
 have f1 := few_mc aS aT
 refine qi (ql ?_)
 refine sw (zh H [.int .i64 aS.qH, .slice jl aS.qf.length jk, .slice yG aS.qh.length yD] fun b1 w2 H => ?_)
 refine sw (zh H [.slice yF aT.qo.length yC, .slice QR aT.qy.length QQ, .slice jJ aT.qm.length jI] fun b3 w4 H => ?_)
 refine sp (.bool false) ?_
 refine qj (t_n (qi (ql ?_)))
 refine sp (.int .i64 1048576) ?_
 refine qj (t_n (qi (ql ?_)))
 refine sw (zC [.int .i64 aS.qH, .slice jl aS.qf.length jk, .slice yG aS.qh.length yD] Tryz.isAgg25 Tryz.sizeOf25 rfl (qI (H.cells 1 rfl) 0 3) ?_)
 refine sp (.int .i64 1048576) ?_
 refine sw (oc (szSystem_ok _ aS 1048576 _ _ _ _ _ _ (H.get 0 rfl).1 (H.get 1 rfl).1 (by omega)) ?_)
 rintro _ w5 rfl x6
 replace H := H.ext x6
 have := xM (tot aS) 1048576
 refine sp (.int .i64 (szR (tot aS) 1048576)) ?_
 refine qj (t_n (qi (qi (ql ?_))))
 refine sps [.int .i64 (szR (tot aS) 1048576), .bool (decide ((szR (tot aS) 1048576 : Int) < 0))] ?_
 refine qj (t_n ?_)
 refine qC (decide ((szR (tot aS) 1048576 : Int) < 0)) rfl (fun h7 => ?_) (fun h7 => ?_)
 ·skip
  replace h7 := of_decide_eq_true h7
  refine qi (ql ?_)
  refine sp (.bool true) ?_
  refine qj (t_n (qV (t_r ?_)))
  refine ret1 (.bool true) rfl rfl ⟨_, rfl, ?_, H.base⟩
  rfl
 replace h7 := of_decide_eq_false h7
 refine qM (t_n (qi (ql ?_)))
 refine sw (zC [.slice yF aT.qo.length yC, .slice QR aT.qy.length QQ, .slice jJ aT.qm.length jI] Tryz.isAgg29 Tryz.sizeOf29 rfl (qI (H.cells 0 rfl) 0 3) ?_)
 refine sp (.int .i64 (szR (tot aS) 1048576)) ?_
 refine sw (oc (szState_ok _ aT (szR (tot aS) 1048576) _ _ _ _ _ _ _ _ _ (H.get 2 rfl).1 (H.get 3 rfl).1 (H.get 4 rfl).1 (by omega)) ?_)
 rintro _ w8 rfl x9
 replace H := H.ext x9
 have := xM (tot aT) (szR (tot aS) 1048576)
 refine sp (.int .i64 (szR (tot aT) (szR (tot aS) 1048576))) ?_
 refine qj (t_n (qi (qi (ql ?_))))
 refine sps [.int .i64 (szR (tot aT) (szR (tot aS) 1048576)), .bool (decide ((szR (tot aT) (szR (tot aS) 1048576) : Int) < 0))] ?_
 refine qj (t_n ?_)
 refine qC (decide ((szR (tot aT) (szR (tot aS) 1048576) : Int) < 0)) rfl (fun h10 => ?_) (fun h10 => ?_)
 ·skip
  replace h10 := of_decide_eq_true h10
  refine qi (ql ?_)
  refine sp (.bool true) ?_
  refine qj (t_n (qV (t_r ?_)))
  refine ret1 (.bool true) rfl rfl ⟨_, rfl, ?_, H.base⟩
  rfl
 replace h10 := of_decide_eq_false h10
 refine qM (t_n (qi ?_))
 refine vZ rfl H fun H => ?_
 refine rt 0 (.agg #[.int .i64 aS.qH, .slice jl aS.qf.length jk, .slice yG aS.qh.length yD]) (Qo (cs := [.int .i64 aS.qH, .slice jl aS.qf.length jk, .slice yG aS.qh.length yD]) Tryz.isAgg25 Tryz.sizeOf25 rfl (fun _ h => qI (h.cells 1 rfl) 0 3)) H ?_
 refine rt 2 (.agg #[.slice yF aT.qo.length yC, .slice QR aT.qy.length QQ, .slice jJ aT.qm.length jI]) (Qo (cs := [.slice yF aT.qo.length yC, .slice QR aT.qy.length QQ, .slice jJ aT.qm.length jI]) Tryz.isAgg29 Tryz.sizeOf29 rfl (fun _ h => qI (h.cells 0 rfl) 0 3)) H ?_
 refine qR [1] (by kernel_rfl) (by simp) (xA rfl ?_ qU)
 have sz12 := H.base.size
 refine oc (toSystem_ok _ aS _ _ _ _ _ _ (H.get 0 rfl).1 (H.get 1 rfl).1 (by first | assumption | omega)) ?_
 rintro v17 w15 r17 x16
 obtain ⟨a17Parents, c17Parents, vg, a17Rules, c17Rules, jT, rfl, f17, H⟩ := H.add_SystemD x16 r17
 replace N := N.cons f17 sz12 (by intro F hF; simp at hF)
 replace N := N.split
 refine ⟨H.pick [0, 1] [2, 3, 4, 5, 6], ?_⟩
 refine qR [3] (by kernel_rfl) (by simp) (xA rfl ?_ qU)
 have sz18 := H.base.size
 have lt19 := H.ltN (L := [vg, jT]) [0, 1]
 refine oc (toState_ok _ aT _ _ _ _ _ _ _ _ _ (H.get 4 rfl).1 (H.get 5 rfl).1 (H.get 6 rfl).1 (by first | assumption | omega)) ?_
 rintro v23 w21 r23 x22
 obtain ⟨a23Alive, c23Alive, yg, a23Bags, c23Bags, Qy, a23Around, c23Around, jB, rfl, f23, H⟩ := H.add_StateD x22 r23
 replace N := N.cons f23 sz18 lt19
 replace N := N.split
 replace N := N.split
 refine ⟨H.pick [0, 1] [5, 6, 7, 8, 9], ?_⟩
 refine qR [4] (by kernel_rfl) (by simp) (xA rfl ?_ qU)
 have sz27 := H.base.size
 have lt28 := H.ltN (L := [yg, Qy, jB, vg, jT]) [0, 1, 2, 3, 4]
 refine oc (specMc_ok _ aS aT _ _ _ _ _ _ _ _ _ _ _ _ _ _ _ (H.get 3 rfl).1 (H.get 4 rfl).1 (H.get 0 rfl).1 (H.get 1 rfl).1 (H.get 2 rfl).1) ?_
 rintro _ w25 ⟨ra24a, rn24a, rc24a, rx24a, rF24a, rfl, M, K⟩ _
 replace N := N.merge sz27 lt28 M
 replace H := H.merge K M
 dsimp only [List.cons_append, List.nil_append] at H
 obtain rfl := H.zK (α := List Int) 0 rfl 0 rfl (by decide)
 refine ⟨H.pick [1, 2] [6, 7, 8, 9, 10], ?_⟩
 have S := H.pickC [1, 2] [6, 7, 8, 9, 10]
 refine rtp 5 (.tuple #[.slice ra24a (((xR aS aT).1).length) rc24a, .int .i64 ((xR aS aT).2)]) S ?_
 refine rtp 6 (.slice ra24a (((xR aS aT).1).length) rc24a) S ?_
 refine rtp 7 (.int .i64 ((xR aS aT).2)) S ?_
 refine rtp 8 (.slice ra24a (((xR aS aT).1).length) rc24a) S ?_
 refine rtp 9 (.int .i64 ((xR aS aT).2)) S ?_
 refine xq (by kernel_rfl) (t_n ?_)
 refine qi (ql ?_)
 refine sw (zC [.int .i64 aS.qH, .slice jl aS.qf.length jk, .slice yG aS.qh.length yD] Tryz.isAgg25 Tryz.sizeOf25 rfl (qI (H.cells 2 rfl) 0 3) ?_)
 have sz30 := H.base.size
 have lt31 := H.ltN (L := [rF24a, yg, Qy, jB, vg, jT]) [0, 1, 2, 3, 4, 5]
 refine sw (oc (toSystem_ok _ aS _ _ _ _ _ _ (H.get 6 rfl).1 (H.get 7 rfl).1 (by first | assumption | omega)) ?_)
 rintro v35 w33 r35 x34
 obtain ⟨jP, jM, ve, QL, QJ, jS, rfl, f35, H⟩ := H.add_SystemD x34 r35
 replace N := N.cons f35 sz30 lt31
 replace N := N.split
 refine sw (xy H ti36 [.int .i64 0, .slice none 0 0, .slice none 0 0] fun b36 w37 H => ?_)
 refine sw (o_storeC H 0 [.int .i64 aS.qH, .slice jP aS.qf.length jM, .slice QL aS.qh.length QJ] Tryz.sizeOf36 fun w38 H => ?_)
 try dsimp only [List.set] at H
 refine qj (t_n (qi (ql ?_)))
 refine sw (zC [.slice yF aT.qo.length yC, .slice QR aT.qy.length QQ, .slice jJ aT.qm.length jI] Tryz.isAgg29 Tryz.sizeOf29 rfl (qI (H.cells 2 rfl) 0 3) ?_)
 have sz39 := H.base.size
 have lt40 := H.ltN (L := [ve, jS, rF24a, yg, Qy, jB, vg, jT]) [0, 1, 2, 3, 4, 5, 6, 7]
 refine sw (oc (toState_ok _ aT _ _ _ _ _ _ _ _ _ (H.get 10 rfl).1 (H.get 11 rfl).1 (H.get 12 rfl).1 (by first | assumption | omega)) ?_)
 rintro v44 w42 r44 x43
 obtain ⟨QK, QI, yf, a44Bags, c44Bags, Qx, yH, yE, jA, rfl, f44, H⟩ := H.add_StateD x43 r44
 replace N := N.cons f44 sz39 lt40
 replace N := N.split
 replace N := N.split
 refine sw (xy H ti38 [.slice none 0 0, .slice none 0 0, .slice none 0 0] fun b45 w46 H => ?_)
 refine sw (o_storeC H 0 [.slice QK aT.qo.length QI, .slice a44Bags aT.qy.length c44Bags, .slice yH aT.qm.length yE] Tryz.sizeOf38 fun w47 H => ?_)
 try dsimp only [List.set] at H
 refine qj (t_n (qi (ql ?_)))
 refine sw (zC [.int .i64 aS.qH, .slice jP aS.qf.length jM, .slice QL aS.qh.length QJ] Tryz.isAgg36 Tryz.sizeOf36 rfl (qI (H.cells 1 rfl) 0 3) ?_)
 refine sw (zC [.slice QK aT.qo.length QI, .slice a44Bags aT.qy.length c44Bags, .slice yH aT.qm.length yE] Tryz.isAgg38 Tryz.sizeOf38 rfl (qI (H.cells 0 rfl) 0 3) ?_)
 have sz51 := H.base.size
 have lt52 := H.ltN (L := [yf, Qx, jA, ve, jS, rF24a, yg, Qy, jB, vg, jT]) [0, 1, 2, 3, 4, 5, 6, 7, 8, 9, 10]
 refine sw (oc (implMc_ok _ aS aT _ _ _ _ _ _ _ _ _ _ _ _ _ _ _ (H.get 3 rfl).1 (H.get 4 rfl).1 (H.get 0 rfl).1 (H.get 1 rfl).1 (H.get 2 rfl).1) ?_)
 rintro _ w49 ⟨ra48a, rn48a, rc48a, rx48a, rF48a, rfl, M, K⟩ _
 replace N := N.merge sz51 lt52 M
 replace H := H.merge K M
 dsimp only [List.cons_append, List.nil_append] at H
 obtain rfl := H.zK (α := List Int) 0 rfl 0 rfl (by decide)
 refine sps [.tuple #[.slice ra48a (((xR aS aT).1).length) rc48a, .int .i64 ((xR aS aT).2)], .slice ra48a (((xR aS aT).1).length) rc48a, .int .i64 ((xR aS aT).2), .slice ra48a (((xR aS aT).1).length) rc48a, .int .i64 ((xR aS aT).2)] ?_
 refine qj (t_n (qi (qi (ql ?_))))
 refine sps [.slice ra48a (((xR aS aT).1).length) rc48a, .slice ra24a (((xR aS aT).1).length) rc24a] ?_
 obtain ⟨G54, hn55, h56⟩ := H.rowIsR (α := List Int) 0 rfl 0 rfl (by decide)
 obtain ⟨G57, hn58, h59⟩ := H.rowIsR (α := List Int) 3 rfl 6 rfl (by decide)
 refine sw (oc (eqInt64SS_ok _ ((xR aS aT).1) ((xR aS aT).1) _ _ _ _ _ _ h56 h59) ?_)
 rintro _ w60 rfl x61
 replace H := H.ext x61
 refine sps [.bool (!(decide (((xR aS aT).1) = ((xR aS aT).1)))), .bool (!(decide (((xR aS aT).1) = ((xR aS aT).1))))] ?_
 cases h62 : (!(decide (((xR aS aT).1) = ((xR aS aT).1))))
 ·skip
  replace h62 := qJ h62
  refine qB 49 rfl rfl ?_
  refine sp (.int .i64 ((xR aS aT).2)) ?_
  refine qB 49 rfl rfl ?_
  refine sp (.int .i64 ((xR aS aT).2)) ?_
  refine qB 49 rfl rfl ?_
  refine sps [.bool (((xR aS aT).2 : Int) != ((xR aS aT).2)), .bool (((xR aS aT).2 : Int) != ((xR aS aT).2))] ?_
  refine qj (t_n ?_)
  refine qC (((xR aS aT).2 : Int) != ((xR aS aT).2)) rfl (fun h => absurd rfl (bne_iff_ne.1 h)) (fun h63 => ?_)
  replace h63 := xw h63
  refine qM (t_n (qi (qi ?_)))
  refine vZ rfl H fun H => ?_
  refine rt 0 (.agg #[.int .i64 aS.qH, .slice jP aS.qf.length jM, .slice QL aS.qh.length QJ]) (Qo (cs := [.int .i64 aS.qH, .slice jP aS.qf.length jM, .slice QL aS.qh.length QJ]) Tryz.isAgg36 Tryz.sizeOf36 rfl (fun _ h => qI (h.cells 2 rfl) 0 3)) H ?_
  refine rt 1 (.agg #[.int .i64 aS.qH, .slice jl aS.qf.length jk, .slice yG aS.qh.length yD]) (Qo (cs := [.int .i64 aS.qH, .slice jl aS.qf.length jk, .slice yG aS.qh.length yD]) Tryz.isAgg25 Tryz.sizeOf25 rfl (fun _ h => qI (h.cells 5 rfl) 0 3)) H ?_
  refine qR [2] (by kernel_rfl) (by simp) (xA rfl ?_ qU)
  have sz65 := H.base.size
  have lt66 := H.ltN (L := [rF48a, yf, Qx, jA, ve, jS, rF24a, yg, Qy, jB, vg, jT]) [0, 1, 2, 3, 4, 5, 6, 7, 8, 9, 10, 11]
  refine oc (toSystem_ok _ aS _ _ _ _ _ _ (H.get 12 rfl).1 (H.get 13 rfl).1 (by first | assumption | omega)) ?_
  rintro v70 w68 r70 x69
  obtain ⟨a70Parents, c70Parents, jR, a70Rules, c70Rules, QM, rfl, f70, H⟩ := H.add_SystemD x69 r70
  replace N := N.cons f70 sz65 lt66
  replace N := N.split
  refine ⟨H.pick [0, 1, 2, 3, 4, 5] [2, 3, 4, 5, 6, 7, 8, 9, 10, 11, 12, 13, 14, 15, 16, 17, 18], ?_⟩
  refine qR [3] (by kernel_rfl) (by simp) (xA rfl ?_ qU)
  refine oc (eqSystem_ok _ aS aS _ _ _ _ _ _ _ _ _ _ _ _ (H.get 6 rfl).1 (H.get 7 rfl).1 (H.get 0 rfl).1 (H.get 1 rfl).1) ?_
  rintro _ w71 rfl x72
  replace H := H.ext x72
  refine ⟨H.pick [0, 1, 2, 3, 4, 5] [2, 3, 4, 5, 6, 7, 8, 9, 10, 11, 12, 13, 14, 15, 16, 17, 18], ?_⟩
  refine rtp 4 (.bool (!(decide (aS = aS)))) (H.pick [0, 1, 2, 3, 4, 5] [2, 3, 4, 5, 6, 7, 8, 9, 10, 11, 12, 13, 14, 15, 16, 17, 18]) ?_
  refine xq (by kernel_rfl) (t_n ?_)
  refine qC (!(decide (aS = aS))) rfl (fun h => absurd (qP h) (by simp)) (fun h73 => ?_)
  replace h73 := qJ h73
  refine qM (t_n (qi (qi ?_)))
  refine vZ rfl H fun H => ?_
  refine rt 0 (.agg #[.slice QK aT.qo.length QI, .slice a44Bags aT.qy.length c44Bags, .slice yH aT.qm.length yE]) (Qo (cs := [.slice QK aT.qo.length QI, .slice a44Bags aT.qy.length c44Bags, .slice yH aT.qm.length yE]) Tryz.isAgg38 Tryz.sizeOf38 rfl (fun _ h => qI (h.cells 1 rfl) 0 3)) H ?_
  refine rt 1 (.agg #[.slice yF aT.qo.length yC, .slice QR aT.qy.length QQ, .slice jJ aT.qm.length jI]) (Qo (cs := [.slice yF aT.qo.length yC, .slice QR aT.qy.length QQ, .slice jJ aT.qm.length jI]) Tryz.isAgg29 Tryz.sizeOf29 rfl (fun _ h => qI (h.cells 4 rfl) 0 3)) H ?_
  refine qR [2] (by kernel_rfl) (by simp) (xA rfl ?_ qU)
  have sz75 := H.base.size
  have lt76 := H.ltN (L := [jR, QM, rF48a, yf, Qx, jA, ve, jS, rF24a, yg, Qy, jB, vg, jT]) [0, 1, 2, 3, 4, 5, 6, 7, 8, 9, 10, 11, 12, 13]
  refine oc (toState_ok _ aT _ _ _ _ _ _ _ _ _ (H.get 16 rfl).1 (H.get 17 rfl).1 (H.get 18 rfl).1 (by first | assumption | omega)) ?_
  rintro v80 w78 r80 x79
  obtain ⟨a80Alive, c80Alive, QW, a80Bags, c80Bags, F80Bags, a80Around, c80Around, Qk, rfl, f80, H⟩ := H.add_StateD x79 r80
  replace N := N.cons f80 sz75 lt76
  replace N := N.split
  replace N := N.split
  refine ⟨H.pick [0, 1, 2, 3, 4, 5] [3, 4, 5, 6, 7, 8, 9, 10, 11, 12, 13, 14, 15, 16, 17, 18, 19, 20, 21], ?_⟩
  refine qR [3] (by kernel_rfl) (by simp) (xA rfl ?_ qU)
  refine oc (eqState_ok _ aT aT _ _ _ _ _ _ _ _ _ _ _ _ _ _ _ _ _ _ (H.get 6 rfl).1 (H.get 7 rfl).1 (H.get 8 rfl).1 (H.get 0 rfl).1 (H.get 1 rfl).1 (H.get 2 rfl).1) ?_
  rintro _ w81 rfl x82
  replace H := H.ext x82
  refine ⟨H.pick [0, 1, 2, 3, 4, 5] [3, 4, 5, 6, 7, 8, 9, 10, 11, 12, 13, 14, 15, 16, 17, 18, 19, 20, 21], ?_⟩
  refine rtp 4 (.bool (!(decide (aT = aT)))) (H.pick [0, 1, 2, 3, 4, 5] [3, 4, 5, 6, 7, 8, 9, 10, 11, 12, 13, 14, 15, 16, 17, 18, 19, 20, 21]) ?_
  refine xq (by kernel_rfl) (t_n ?_)
  refine qC (!(decide (aT = aT))) rfl (fun h => absurd (qP h) (by simp)) (fun h83 => ?_)
  replace h83 := qJ h83
  refine qM (t_n (qi (ql ?_)))
  refine sp (.int .i64 1) ?_
  refine qj (t_n (qi (ql ?_)))
  refine sw (zC [.int .i64 aS.qH, .slice jP aS.qf.length jM, .slice QL aS.qh.length QJ] Tryz.isAgg36 Tryz.sizeOf36 rfl (qI (H.cells 2 rfl) 0 3) ?_)
  refine sp (.int .i64 1) ?_
  have N84 : Fresh w.heap.size [ve, jS, QW, F80Bags, Qk, jR, QM, rF48a, yf, Qx, jA, rF24a, yg, Qy, jB, vg, jT] := (N.pick [9, 10, 0, 1, 2, 3, 4, 5, 6, 7, 8, 11, 12, 13, 14, 15, 16])
  refine sw (QX #[.agg #[.int .i64 aS.qH, .slice jP aS.qf.length jM, .slice QL aS.qh.length QJ], .int .i64 1] rfl rfl Tryz.call23 (markSystem_ok w81 aS 1 jP jM ve QL QJ jS (H.get 9 rfl).1 (H.get 10 rfl).1 (N84.pick [0, 1] : Fresh _ [ve, jS]).join.one.2 (((H.get 9 rfl).2 rfl).app ((H.get 10 rfl).2 rfl)) (by omega) (by omega)) ?_)
  rintro _ w85 ⟨rfl, m87⟩ x86
  replace H : St _ _ [.row (.slice ra48a (((xR aS aT).1).length) rc48a) 22 1 (((xR aS aT).1).length) rx48a, .box b45 [.slice QK aT.qo.length QI, .slice a44Bags aT.qy.length c44Bags, .slice yH aT.qm.length yE] 38, .box b36 [.int .i64 aS.qH, .slice jP aS.qf.length jM, .slice QL aS.qh.length QJ] 36, .row (.slice ra24a (((xR aS aT).1).length) rc24a) 22 1 (((xR aS aT).1).length) rx24a, .box b3 [.slice yF aT.qo.length yC, .slice QR aT.qy.length QQ, .slice jJ aT.qm.length jI] 29, .box b1 [.int .i64 aS.qH, .slice jl aS.qf.length jk, .slice yG aS.qh.length yD] 25] [isF true ve (.slice jP aS.qf.length jM) (mrk aS.qf (1)), isF true jS (.slice QL aS.qh.length QJ) (mrk aS.qh (1 + (cnt aS.qf : Nat))), isF true QW (.slice a80Alive aT.qo.length c80Alive) aT.qo, isF true F80Bags (.slice a80Bags aT.qy.length c80Bags) aT.qy, isF true Qk (.slice a80Around aT.qm.length c80Around) aT.qm, isF true jR (.slice a70Parents aS.qf.length c70Parents) aS.qf, isF true QM (.slice a70Rules aS.qh.length c70Rules) aS.qh, zn true rF48a rx48a ((xR aS aT).1), isF true yf (.slice QK aT.qo.length QI) aT.qo, isF true Qx (.slice a44Bags aT.qy.length c44Bags) aT.qy, isF true jA (.slice yH aT.qm.length yE) aT.qm, zn true rF24a rx24a ((xR aS aT).1), isF true yg (.slice a23Alive aT.qo.length c23Alive) aT.qo, isF true Qy (.slice a23Bags aT.qy.length c23Bags) aT.qy, isF true jB (.slice a23Around aT.qm.length c23Around) aT.qm, isF true vg (.slice a17Parents aS.qf.length c17Parents) aS.qf, isF true jT (.slice a17Rules aS.qh.length c17Rules) aS.qh, isF false XG (.slice jl aS.qf.length jk) aS.qf, isF false FaSRules (.slice yG aS.qh.length yD) aS.qh, isF false FaTAlive (.slice yF aT.qo.length yC) aT.qo, isF false FaTBags (.slice QR aT.qy.length QQ) aT.qy, isF false FaTAround (.slice jJ aT.qm.length jI) aT.qm] := H.chgFacts (Fs := [ve, jS]) (L := [QW, F80Bags, Qk, jR, QM, rF48a, yf, Qx, jA, rF24a, yg, Qy, jB, vg, jT]) (A := [XG, FaSRules, FaTAlive, FaTBags, FaTAround]) N84 A (x86.mono (by intro z hz; simpa using hz)) [9, 10] [isF true ve (.slice jP aS.qf.length jM) (mrk aS.qf (1)), isF true jS (.slice QL aS.qh.length QJ) (mrk aS.qh (1 + (cnt aS.qf : Nat)))] (all_of ⟨m87.1, ⟨m87.2, trivial⟩⟩) [0, 1, 2, 3, 4, 5, 6, 7, 8, 11, 12, 13, 14, 15, 16, 17, 18, 19, 20, 21] [0, 1, 2, 3, 4, 5, 6, 7, 8, 9, 10, 11, 12, 13, 14, 15, 16, 17, 18, 19]
  replace N := N84
  refine sp (.int .i64 (1 + (cnt aS.qf : Nat) + (cnt aS.qh : Nat))) ?_
  refine qj (t_n (qi (ql ?_)))
  refine sw (zC [.slice QK aT.qo.length QI, .slice a44Bags aT.qy.length c44Bags, .slice yH aT.qm.length yE] Tryz.isAgg38 Tryz.sizeOf38 rfl (qI (H.cells 1 rfl) 0 3) ?_)
  refine sp (.int .i64 (1 + (cnt aS.qf : Nat) + (cnt aS.qh : Nat))) ?_
  have N88 : Fresh w.heap.size [yf, Qx, jA, ve, jS, QW, F80Bags, Qk, jR, QM, rF48a, rF24a, yg, Qy, jB, vg, jT] := (N.pick [8, 9, 10, 0, 1, 2, 3, 4, 5, 6, 7, 11, 12, 13, 14, 15, 16])
  refine sw (QX #[.agg #[.slice QK aT.qo.length QI, .slice a44Bags aT.qy.length c44Bags, .slice yH aT.qm.length yE], .int .i64 (1 + (cnt aS.qf : Nat) + (cnt aS.qh : Nat))] rfl rfl Tryz.call24 (markState_ok w85 aT (1 + (cnt aS.qf : Nat) + (cnt aS.qh : Nat)) QK QI yf a44Bags c44Bags Qx yH yE jA (H.get 8 rfl).1 (H.get 9 rfl).1 (H.get 10 rfl).1 (N88.pick [0, 1, 2] : Fresh _ [yf, Qx, jA]).join.join.one.2 ((((H.get 8 rfl).2 rfl).app ((H.get 9 rfl).2 rfl)).app ((H.get 10 rfl).2 rfl)) (by omega) (by omega)) ?_)
  rintro _ w89 ⟨rfl, m91⟩ x90
  replace H : St _ _ [.row (.slice ra48a (((xR aS aT).1).length) rc48a) 22 1 (((xR aS aT).1).length) rx48a, .box b45 [.slice QK aT.qo.length QI, .slice a44Bags aT.qy.length c44Bags, .slice yH aT.qm.length yE] 38, .box b36 [.int .i64 aS.qH, .slice jP aS.qf.length jM, .slice QL aS.qh.length QJ] 36, .row (.slice ra24a (((xR aS aT).1).length) rc24a) 22 1 (((xR aS aT).1).length) rx24a, .box b3 [.slice yF aT.qo.length yC, .slice QR aT.qy.length QQ, .slice jJ aT.qm.length jI] 29, .box b1 [.int .i64 aS.qH, .slice jl aS.qf.length jk, .slice yG aS.qh.length yD] 25] [isF true yf (.slice QK aT.qo.length QI) (mrk aT.qo (1 + (cnt aS.qf : Nat) + (cnt aS.qh : Nat))), isF true Qx (.slice a44Bags aT.qy.length c44Bags) (mrk aT.qy (1 + (cnt aS.qf : Nat) + (cnt aS.qh : Nat) + (cnt aT.qo : Nat))), isF true jA (.slice yH aT.qm.length yE) (mrk aT.qm (1 + (cnt aS.qf : Nat) + (cnt aS.qh : Nat) + (cnt aT.qo : Nat) + (cnt aT.qy : Nat))), isF true ve (.slice jP aS.qf.length jM) (mrk aS.qf (1)), isF true jS (.slice QL aS.qh.length QJ) (mrk aS.qh (1 + (cnt aS.qf : Nat))), isF true QW (.slice a80Alive aT.qo.length c80Alive) aT.qo, isF true F80Bags (.slice a80Bags aT.qy.length c80Bags) aT.qy, isF true Qk (.slice a80Around aT.qm.length c80Around) aT.qm, isF true jR (.slice a70Parents aS.qf.length c70Parents) aS.qf, isF true QM (.slice a70Rules aS.qh.length c70Rules) aS.qh, zn true rF48a rx48a ((xR aS aT).1), zn true rF24a rx24a ((xR aS aT).1), isF true yg (.slice a23Alive aT.qo.length c23Alive) aT.qo, isF true Qy (.slice a23Bags aT.qy.length c23Bags) aT.qy, isF true jB (.slice a23Around aT.qm.length c23Around) aT.qm, isF true vg (.slice a17Parents aS.qf.length c17Parents) aS.qf, isF true jT (.slice a17Rules aS.qh.length c17Rules) aS.qh, isF false XG (.slice jl aS.qf.length jk) aS.qf, isF false FaSRules (.slice yG aS.qh.length yD) aS.qh, isF false FaTAlive (.slice yF aT.qo.length yC) aT.qo, isF false FaTBags (.slice QR aT.qy.length QQ) aT.qy, isF false FaTAround (.slice jJ aT.qm.length jI) aT.qm] := H.chgFacts (Fs := [yf, Qx, jA]) (L := [ve, jS, QW, F80Bags, Qk, jR, QM, rF48a, rF24a, yg, Qy, jB, vg, jT]) (A := [XG, FaSRules, FaTAlive, FaTBags, FaTAround]) N88 A (x90.mono (by intro z hz; simpa using hz)) [8, 9, 10] [isF true yf (.slice QK aT.qo.length QI) (mrk aT.qo (1 + (cnt aS.qf : Nat) + (cnt aS.qh : Nat))), isF true Qx (.slice a44Bags aT.qy.length c44Bags) (mrk aT.qy (1 + (cnt aS.qf : Nat) + (cnt aS.qh : Nat) + (cnt aT.qo : Nat))), isF true jA (.slice yH aT.qm.length yE) (mrk aT.qm (1 + (cnt aS.qf : Nat) + (cnt aS.qh : Nat) + (cnt aT.qo : Nat) + (cnt aT.qy : Nat)))] (all_of ⟨m91.1, ⟨m91.2.1, ⟨m91.2.2, trivial⟩⟩⟩) [0, 1, 2, 3, 4, 5, 6, 7, 11, 12, 13, 14, 15, 16, 17, 18, 19, 20, 21] [0, 1, 2, 3, 4, 5, 6, 7, 8, 9, 10, 11, 12, 13, 14, 15, 16, 17, 18]
  replace N := N88
  refine sp (.int .i64 (1 + (cnt aS.qf : Nat) + (cnt aS.qh : Nat) + (cnt aT.qo : Nat) + (cnt aT.qy : Nat) + (cnt aT.qm : Nat))) ?_
  refine qj (t_n (qi (qi (ql ?_))))
  refine sps [.int .i64 (1 + (cnt aS.qf : Nat) + (cnt aS.qh : Nat) + (cnt aT.qo : Nat) + (cnt aT.qy : Nat) + (cnt aT.qm : Nat)), .bool (decide ((1 + (cnt aS.qf : Nat) + (cnt aS.qh : Nat) + (cnt aT.qo : Nat) + (cnt aT.qy : Nat) + (cnt aT.qm : Nat) : Int) < 0)), .bool (decide ((1 + (cnt aS.qf : Nat) + (cnt aS.qh : Nat) + (cnt aT.qo : Nat) + (cnt aT.qy : Nat) + (cnt aT.qm : Nat) : Int) < 0))] ?_
  cases h92 : (decide ((1 + (cnt aS.qf : Nat) + (cnt aS.qh : Nat) + (cnt aT.qo : Nat) + (cnt aT.qy : Nat) + (cnt aT.qm : Nat) : Int) < 0))
  ·skip
   replace h92 := of_decide_eq_false h92
   refine qB 72 rfl rfl ?_
   refine sp (.slice ra48a (((xR aS aT).1).length) rc48a) ?_
   refine qB 72 rfl rfl ?_
   refine sp (.slice ra24a (((xR aS aT).1).length) rc24a) ?_
   refine qB 72 rfl rfl ?_
   obtain ⟨G93, hn94, h95⟩ := H.rowIsR (α := List Int) 0 rfl 10 rfl (by decide)
   obtain ⟨G96, hn97, h98⟩ := H.rowIsR (α := List Int) 3 rfl 11 rfl (by decide)
   refine sw (oc (eqInt64SS_ok _ ((xR aS aT).1) ((xR aS aT).1) _ _ _ _ _ _ h95 h98) ?_)
   rintro _ w99 rfl x100
   replace H := H.ext x100
   refine qB 72 rfl rfl ?_
   refine sps [.bool (!(decide (((xR aS aT).1) = ((xR aS aT).1)))), .bool (!(decide (((xR aS aT).1) = ((xR aS aT).1)))), .bool (!(decide (((xR aS aT).1) = ((xR aS aT).1))))] ?_
   cases h101 : (!(decide (((xR aS aT).1) = ((xR aS aT).1))))
   ·skip
    replace h101 := qJ h101
    refine qB 78 rfl rfl ?_
    refine sp (.int .i64 ((xR aS aT).2)) ?_
    refine qB 78 rfl rfl ?_
    refine sp (.int .i64 ((xR aS aT).2)) ?_
    refine qB 78 rfl rfl ?_
    refine sps [.bool (((xR aS aT).2 : Int) != ((xR aS aT).2)), .bool (((xR aS aT).2 : Int) != ((xR aS aT).2))] ?_
    refine qj (t_n ?_)
    refine qC (((xR aS aT).2 : Int) != ((xR aS aT).2)) rfl (fun h => absurd rfl (bne_iff_ne.1 h)) (fun h102 => ?_)
    replace h102 := xw h102
    refine qM (t_n (qi (ql ?_)))
    refine sp (.int .i64 1) ?_
    refine qj (t_n (qi (ql ?_)))
    refine sps [.slice ra48a (((xR aS aT).1).length) rc48a, .int .i64 1] ?_
    have H0 := H
    obtain ⟨G103, hg105, hn104, H⟩ := H.freezeR (α := List Int) 0 rfl 10 rfl (by decide)
    replace N : Fresh w.heap.size [G103, yf, Qx, jA, ve, jS, QW, F80Bags, Qk, jR, QM, rF24a, yg, Qy, jB, vg, jT] := Fresh.ice (N.pick [10, 0, 1, 2, 3, 4, 5, 6, 7, 8, 9, 11, 12, 13, 14, 15, 16]) H0 0 hg105.1 hg105.2 (H0.awayN [0, 1, 2, 3, 4, 5, 6, 7, 8, 9, 11, 12, 13, 14, 15, 16])
    clear H0
    try dsimp only [List.set] at H
    have N106 : Fresh w.heap.size [G103, yf, Qx, jA, ve, jS, QW, F80Bags, Qk, jR, QM, rF24a, yg, Qy, jB, vg, jT] := N
    refine sw (QX #[.slice ra48a (((xR aS aT).1).length) rc48a, .int .i64 1] rfl rfl Tryz.call25 (markInt64SS_ok w99 ((xR aS aT).1) 1 ra48a rc48a G103 (H.get 0 rfl).1 (N106.pick [0] : Fresh _ [G103]).one.2 ((H.get 0 rfl).2 rfl) (by omega) (by omega)) ?_)
    rintro _ w107 ⟨rfl, m109⟩ x108
    replace H : St _ _ [.row (.slice none 0 0) 0 1 0 [], .box b45 [.slice QK aT.qo.length QI, .slice a44Bags aT.qy.length c44Bags, .slice yH aT.qm.length yE] 38, .box b36 [.int .i64 aS.qH, .slice jP aS.qf.length jM, .slice QL aS.qh.length QJ] 36, .row (.slice ra24a (((xR aS aT).1).length) rc24a) 22 1 (((xR aS aT).1).length) rx24a, .box b3 [.slice yF aT.qo.length yC, .slice QR aT.qy.length QQ, .slice jJ aT.qm.length jI] 29, .box b1 [.int .i64 aS.qH, .slice jl aS.qf.length jk, .slice yG aS.qh.length yD] 25] [isF true G103 (.slice ra48a (((xR aS aT).1).length) rc48a) (mrk ((xR aS aT).1) (1)), isF true yf (.slice QK aT.qo.length QI) (mrk aT.qo (1 + (cnt aS.qf : Nat) + (cnt aS.qh : Nat))), isF true Qx (.slice a44Bags aT.qy.length c44Bags) (mrk aT.qy (1 + (cnt aS.qf : Nat) + (cnt aS.qh : Nat) + (cnt aT.qo : Nat))), isF true jA (.slice yH aT.qm.length yE) (mrk aT.qm (1 + (cnt aS.qf : Nat) + (cnt aS.qh : Nat) + (cnt aT.qo : Nat) + (cnt aT.qy : Nat))), isF true ve (.slice jP aS.qf.length jM) (mrk aS.qf (1)), isF true jS (.slice QL aS.qh.length QJ) (mrk aS.qh (1 + (cnt aS.qf : Nat))), isF true QW (.slice a80Alive aT.qo.length c80Alive) aT.qo, isF true F80Bags (.slice a80Bags aT.qy.length c80Bags) aT.qy, isF true Qk (.slice a80Around aT.qm.length c80Around) aT.qm, isF true jR (.slice a70Parents aS.qf.length c70Parents) aS.qf, isF true QM (.slice a70Rules aS.qh.length c70Rules) aS.qh, zn true rF24a rx24a ((xR aS aT).1), isF true yg (.slice a23Alive aT.qo.length c23Alive) aT.qo, isF true Qy (.slice a23Bags aT.qy.length c23Bags) aT.qy, isF true jB (.slice a23Around aT.qm.length c23Around) aT.qm, isF true vg (.slice a17Parents aS.qf.length c17Parents) aS.qf, isF true jT (.slice a17Rules aS.qh.length c17Rules) aS.qh, isF false XG (.slice jl aS.qf.length jk) aS.qf, isF false FaSRules (.slice yG aS.qh.length yD) aS.qh, isF false FaTAlive (.slice yF aT.qo.length yC) aT.qo, isF false FaTBags (.slice QR aT.qy.length QQ) aT.qy, isF false FaTAround (.slice jJ aT.qm.length jI) aT.qm] := H.chgFacts (Fs := [G103]) (L := [yf, Qx, jA, ve, jS, QW, F80Bags, Qk, jR, QM, rF24a, yg, Qy, jB, vg, jT]) (A := [XG, FaSRules, FaTAlive, FaTBags, FaTAround]) N106 A (x108.mono (by intro z hz; simpa using hz)) [0] [isF true G103 (.slice ra48a (((xR aS aT).1).length) rc48a) (mrk ((xR aS aT).1) (1))] (all_of ⟨m109, trivial⟩) [1, 2, 3, 4, 5, 6, 7, 8, 9, 10, 12, 13, 14, 15, 16, 17, 18, 19, 20, 21, 22] [0, 1, 2, 3, 4, 5, 6, 7, 8, 9, 10, 11, 12, 13, 14, 15, 16, 17, 18, 19, 20]
    replace N := N106
    refine sp (.int .i64 (1 + (cnt ((xR aS aT).1) : Nat))) ?_
    refine qj (t_n (qi (ql ?_)))
    refine sp (.int .i64 1) ?_
    refine qj (t_n (qi (ql ?_)))
    refine sps [.slice ra48a (((xR aS aT).1).length) rc48a, .int .i64 1] ?_
    have hn110 := H.isLen 0 rfl
    refine sw (oc (args_eq (by rw [← hn110]) (heldInt64SS_ok _ (mrk ((xR aS aT).1) (1)) 1 _ _ _ (hn110 ▸ (H.get 0 rfl).1) (by first | exact mkd_mark _ _ | omega | (simp only [cnt_mark]; first | exact mkd_mark _ _ | omega)) (by first | exact mkd_mark _ _ | omega | (simp only [cnt_mark]; first | exact mkd_mark _ _ | omega)) (by first | exact mkd_mark _ _ | omega | (simp only [cnt_mark]; first | exact mkd_mark _ _ | omega)))) ?_)
    rintro _ w111 rfl x112
    replace H := H.ext x112
    refine sp (.int .i64 (1 + (cnt (mrk ((xR aS aT).1) (1)) : Nat))) ?_
    refine qj (t_n (qi (qi (ql ?_))))
    refine sps [.int .i64 (1 + (cnt (mrk ((xR aS aT).1) (1)) : Nat)), .bool (decide ((1 + (cnt (mrk ((xR aS aT).1) (1)) : Nat) : Int) < 0))] ?_
    refine qj (t_n ?_)
    refine qC (decide ((1 + (cnt (mrk ((xR aS aT).1) (1)) : Nat) : Int) < 0)) rfl (fun h113 => ?_) (fun h113 => ?_)
    ·skip
     replace h113 := of_decide_eq_true h113
     refine qi (ql ?_)
     refine sp (.bool false) ?_
     refine qj (t_n (qV (t_r ?_)))
     refine ret1 (.bool false) rfl rfl ⟨_, rfl, ?_, H.base⟩
     exfalso; first | omega
    replace h113 := of_decide_eq_false h113
    refine qM (t_n (qi (qi (ql ?_))))
    refine sps [.int .i64 (1 + (cnt (mrk ((xR aS aT).1) (1)) : Nat)), .int .i64 (1 + (cnt ((xR aS aT).1) : Nat)), .bool ((1 + (cnt (mrk ((xR aS aT).1) (1)) : Nat) : Int) != (1 + (cnt ((xR aS aT).1) : Nat)))] ?_
    refine qj (t_n ?_)
    refine qC ((1 + (cnt (mrk ((xR aS aT).1) (1)) : Nat) : Int) != (1 + (cnt ((xR aS aT).1) : Nat))) rfl (fun h114 => ?_) (fun h114 => ?_)
    ·skip
     replace h114 := bne_iff_ne.1 h114
     refine qi (ql ?_)
     refine sp (.bool false) ?_
     refine qj (t_n (qV (t_r ?_)))
     refine ret1 (.bool false) rfl rfl ⟨_, rfl, ?_, H.base⟩
     exfalso; first | omega | exact h114 (by simp only [cnt_mark])
    replace h114 := xw h114
    refine qM (t_n (qi ?_))
    refine vZ rfl H fun H => ?_
    refine rt 0 (.agg #[.int .i64 aS.qH, .slice jl aS.qf.length jk, .slice yG aS.qh.length yD]) (Qo (cs := [.int .i64 aS.qH, .slice jl aS.qf.length jk, .slice yG aS.qh.length yD]) Tryz.isAgg25 Tryz.sizeOf25 rfl (fun _ h => qI (h.cells 5 rfl) 0 3)) H ?_
    refine rt 2 (.agg #[.slice yF aT.qo.length yC, .slice QR aT.qy.length QQ, .slice jJ aT.qm.length jI]) (Qo (cs := [.slice yF aT.qo.length yC, .slice QR aT.qy.length QQ, .slice jJ aT.qm.length jI]) Tryz.isAgg29 Tryz.sizeOf29 rfl (fun _ h => qI (h.cells 4 rfl) 0 3)) H ?_
    refine qR [1] (by kernel_rfl) (by simp) (xA rfl ?_ qU)
    have sz116 := H.base.size
    have lt117 := H.ltN (L := [G103, yf, Qx, jA, ve, jS, QW, F80Bags, Qk, jR, QM, rF24a, yg, Qy, jB, vg, jT]) [0, 1, 2, 3, 4, 5, 6, 7, 8, 9, 10, 11, 12, 13, 14, 15, 16]
    refine oc (toSystem_ok _ aS _ _ _ _ _ _ (H.get 17 rfl).1 (H.get 18 rfl).1 (by first | assumption | omega)) ?_
    rintro v121 w119 r121 x120
    obtain ⟨a121Parents, c121Parents, F121Parents, a121Rules, c121Rules, F121Rules, rfl, f121, H⟩ := H.add_SystemD x120 r121
    replace N := N.cons f121 sz116 lt117
    replace N := N.split
    refine ⟨H.pick [0, 1, 2, 3, 4, 5] [2, 3, 4, 5, 6, 7, 8, 9, 10, 11, 12, 13, 14, 15, 16, 17, 18, 19, 20, 21, 22, 23], ?_⟩
    refine qR [3] (by kernel_rfl) (by simp) (xA rfl ?_ qU)
    have sz122 := H.base.size
    have lt123 := H.ltN (L := [F121Parents, F121Rules, G103, yf, Qx, jA, ve, jS, QW, F80Bags, Qk, jR, QM, rF24a, yg, Qy, jB, vg, jT]) [0, 1, 2, 3, 4, 5, 6, 7, 8, 9, 10, 11, 12, 13, 14, 15, 16, 17, 18]
    refine oc (toState_ok _ aT _ _ _ _ _ _ _ _ _ (H.get 21 rfl).1 (H.get 22 rfl).1 (H.get 23 rfl).1 (by first | assumption | omega)) ?_
    rintro v127 w125 r127 x126
    obtain ⟨a127Alive, c127Alive, F127Alive, a127Bags, c127Bags, F127Bags, a127Around, c127Around, F127Around, rfl, f127, H⟩ := H.add_StateD x126 r127
    replace N := N.cons f127 sz122 lt123
    replace N := N.split
    replace N := N.split
    refine ⟨H.pick [0, 1, 2, 3, 4, 5] [5, 6, 7, 8, 9, 10, 11, 12, 13, 14, 15, 16, 17, 18, 19, 20, 21, 22, 23, 24, 25, 26], ?_⟩
    refine qR [4] (by kernel_rfl) (by simp) (xA rfl ?_ qU)
    have sz131 := H.base.size
    have lt132 := H.ltN (L := [F127Alive, F127Bags, F127Around, F121Parents, F121Rules, G103, yf, Qx, jA, ve, jS, QW, F80Bags, Qk, jR, QM, rF24a, yg, Qy, jB, vg, jT]) [0, 1, 2, 3, 4, 5, 6, 7, 8, 9, 10, 11, 12, 13, 14, 15, 16, 17, 18, 19, 20, 21]
    refine oc (implMc_ok _ aS aT _ _ _ _ _ _ _ _ _ _ _ _ _ _ _ (H.get 3 rfl).1 (H.get 4 rfl).1 (H.get 0 rfl).1 (H.get 1 rfl).1 (H.get 2 rfl).1) ?_
    rintro _ w129 ⟨ra128a, rn128a, rc128a, rx128a, rF128a, rfl, M, K⟩ _
    replace N := N.merge sz131 lt132 M
    replace H := H.merge K M
    dsimp only [List.cons_append, List.nil_append] at H
    obtain rfl := H.zK (α := List Int) 0 rfl 0 rfl (by decide)
    refine ⟨H.pick [1, 2, 3, 4, 5, 6] [6, 7, 8, 9, 10, 11, 12, 13, 14, 15, 16, 17, 18, 19, 20, 21, 22, 23, 24, 25, 26, 27], ?_⟩
    have S := H.pickC [1, 2, 3, 4, 5, 6] [6, 7, 8, 9, 10, 11, 12, 13, 14, 15, 16, 17, 18, 19, 20, 21, 22, 23, 24, 25, 26, 27]
    refine rtp 5 (.tuple #[.slice ra128a (((xR aS aT).1).length) rc128a, .int .i64 ((xR aS aT).2)]) S ?_
    refine rtp 6 (.slice ra128a (((xR aS aT).1).length) rc128a) S ?_
    refine rtp 7 (.int .i64 ((xR aS aT).2)) S ?_
    refine rtp 8 (.slice ra128a (((xR aS aT).1).length) rc128a) S ?_
    refine rtp 9 (.int .i64 ((xR aS aT).2)) S ?_
    refine xq (by kernel_rfl) (t_n ?_)
    refine qi (qi (ql ?_))
    refine sps [.slice ra128a (((xR aS aT).1).length) rc128a, .slice ra24a (((xR aS aT).1).length) rc24a] ?_
    obtain ⟨G134, hn135, h136⟩ := H.rowIsR (α := List Int) 0 rfl 0 rfl (by decide)
    obtain ⟨G137, hn138, h139⟩ := H.rowIsR (α := List Int) 4 rfl 17 rfl (by decide)
    refine sw (oc (eqInt64SS_ok _ ((xR aS aT).1) ((xR aS aT).1) _ _ _ _ _ _ h136 h139) ?_)
    rintro _ w140 rfl x141
    replace H := H.ext x141
    refine sps [.bool (!(decide (((xR aS aT).1) = ((xR aS aT).1)))), .bool (!(decide (((xR aS aT).1) = ((xR aS aT).1))))] ?_
    cases h142 : (!(decide (((xR aS aT).1) = ((xR aS aT).1))))
    ·skip
     replace h142 := qJ h142
     refine qB 106 rfl rfl ?_
     refine sp (.int .i64 ((xR aS aT).2)) ?_
     refine qB 106 rfl rfl ?_
     refine sp (.int .i64 ((xR aS aT).2)) ?_
     refine qB 106 rfl rfl ?_
     refine sps [.bool (((xR aS aT).2 : Int) != ((xR aS aT).2)), .bool (((xR aS aT).2 : Int) != ((xR aS aT).2))] ?_
     refine qj (t_n ?_)
     refine qC (((xR aS aT).2 : Int) != ((xR aS aT).2)) rfl (fun h => absurd rfl (bne_iff_ne.1 h)) (fun h143 => ?_)
     replace h143 := xw h143
     refine qM (t_n (qi (ql ?_)))
     refine sp (.int .i64 1) ?_
     refine qj (t_n (qi (ql ?_)))
     refine sps [.slice ra48a (((xR aS aT).1).length) rc48a, .int .i64 1] ?_
     have hn144 := H.isLen 6 rfl
     refine sw (oc (args_eq (by rw [← hn144]) (heldInt64SS_ok _ (mrk ((xR aS aT).1) (1)) 1 _ _ _ (hn144 ▸ (H.get 6 rfl).1) (by first | exact mkd_mark _ _ | omega | (simp only [cnt_mark]; first | exact mkd_mark _ _ | omega)) (by first | exact mkd_mark _ _ | omega | (simp only [cnt_mark]; first | exact mkd_mark _ _ | omega)) (by first | exact mkd_mark _ _ | omega | (simp only [cnt_mark]; first | exact mkd_mark _ _ | omega)))) ?_)
     rintro _ w145 rfl x146
     replace H := H.ext x146
     refine sp (.int .i64 (1 + (cnt (mrk ((xR aS aT).1) (1)) : Nat))) ?_
     refine qj (t_n (qi (qi (ql ?_))))
     refine sps [.int .i64 (1 + (cnt (mrk ((xR aS aT).1) (1)) : Nat)), .bool (decide ((1 + (cnt (mrk ((xR aS aT).1) (1)) : Nat) : Int) < 0))] ?_
     refine qj (t_n ?_)
     refine qC (decide ((1 + (cnt (mrk ((xR aS aT).1) (1)) : Nat) : Int) < 0)) rfl (fun h147 => ?_) (fun h147 => ?_)
     ·skip
      replace h147 := of_decide_eq_true h147
      refine qi (ql ?_)
      refine sp (.bool false) ?_
      refine qj (t_n (qV (t_r ?_)))
      refine ret1 (.bool false) rfl rfl ⟨_, rfl, ?_, H.base⟩
      exfalso; first | omega
     replace h147 := of_decide_eq_false h147
     refine qM (t_n (qi (qi (ql ?_))))
     refine sps [.int .i64 (1 + (cnt (mrk ((xR aS aT).1) (1)) : Nat)), .int .i64 (1 + (cnt ((xR aS aT).1) : Nat)), .bool ((1 + (cnt (mrk ((xR aS aT).1) (1)) : Nat) : Int) != (1 + (cnt ((xR aS aT).1) : Nat)))] ?_
     refine qj (t_n ?_)
     refine qC ((1 + (cnt (mrk ((xR aS aT).1) (1)) : Nat) : Int) != (1 + (cnt ((xR aS aT).1) : Nat))) rfl (fun h => absurd h114 (bne_iff_ne.1 h)) (fun h148 => ?_)
     replace h148 := xw h148
     refine qM (t_n (qi (ql ?_)))
     refine sp (.bool true) ?_
     refine qj (t_n (qV ?_))
     refine ret1 (.bool true) rfl rfl ⟨_, rfl, ?_, H.base⟩
     rfl
    · exact absurd (qP h142) (by simp)
   · exact absurd (qP h101) (by simp)
  replace h92 := of_decide_eq_true h92
  refine xF [73, 74, 75, 76] ?_
  refine sps [.bool true, .bool true] ?_
  refine xF [79, 80, 81] ?_
  refine sp (.bool true) ?_
  refine qj (t_n ?_)
  refine qC true rfl (fun _ => ?_) (fun h => absurd h (by decide))
  refine qi (ql ?_)
  refine sp (.bool false) ?_
  refine qj (t_n (qV (t_r ?_)))
  refine ret1 (.bool false) rfl rfl ⟨_, rfl, ?_, H.base⟩
  exfalso; first | omega
 · exact absurd (qP h62) (by simp)

end Go.Proofs.YtgjnaocffdhnbaaGreat
