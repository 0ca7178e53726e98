/- Walks, printed by program (wip/tools/gv.py): what each function comes to, for all arguments. -/
import Derived.Test.YtkmlihdacnfhdaaG15
namespace Go.Proofs.Ytkmlihdacnfhdaa
open Go.Proofs.Ytkmlihdacnfhdaa.Tot (tot)
open Go.Proofs.Ytkmlihdacnfhdaa.Mark (cnt mrk mkd mkd_mark cnt_mark)
open Go.RowKit
set_option linter.unusedVariables false
set_option linter.unusedSimpArgs false
set_option maxRecDepth 100000
set_option maxHeartbeats 4000000



theorem implRun_ok (w : World) (s : qV) (t : qQ) (steps : Int) (qw : Option Addr) (qm : Nat) (qM : List Nat) (qG : Option Addr) (qC : Nat) (xu : List Nat) (qP : Option Addr) (qJ : Nat) (xJ : List Nat) (xG : Option Addr) (xA : Nat) (zF : List Nat) (qL : Option Addr) (qK : Nat) (xI : List Nat) (xx : qW.rep w qM [.slice qw s.qf.length qm] s.qf) (xN : qW.rep w xu [.slice qG s.qg.length qC] s.qg) (zA : qW.rep w xJ [.slice qP t.qh.length qJ] t.qh) (vC : qW.rep w zF [.slice xG t.qp.length xA] t.qp) (xZ : qW.rep w xI [.slice qL t.ql.length qK] t.ql) : Calls Try.prog 22 #[.agg #[.int .i64 s.qI, .slice qw s.qf.length qm, .slice qG s.qg.length qC], .agg #[.slice qP t.qh.length qJ, .slice xG t.qp.length xA, .slice qL t.ql.length qK], .int .i64 steps] w (Ret (fun v w' => ∃ (ra0Alive : Option Addr) (Xt : Nat) (rc0Alive : Nat) (ra0Bags : Option Addr) (Vm : Nat) (rc0Bags : Nat) (rx0Bags : List Value) (rF0Bags : List Nat) (XK : Option Addr) (QO : Nat) (XJ : Nat), v = .tuple #[.agg #[.slice ra0Alive Xt rc0Alive, .slice ra0Bags Vm rc0Bags, .slice XK QO XJ], .int .i64 ((qx s t steps).2.1), .int .i64 ((qx s t steps).2.2)] ∧ Fresh w.heap.size [rF0Bags] ∧ St w w' [.row (.slice ra0Alive Xt rc0Alive) 4 1 Xt ((((qx s t steps).1).qh).map (Value.bool)), .row (.slice ra0Bags Vm rc0Bags) 22 1 Vm rx0Bags, .row (.slice XK QO XJ) 2 1 QO ((((qx s t steps).1).ql).map (Value.int .i64))] [jl true rF0Bags rx0Bags (((qx s t steps).1).qp)]) w) := by
 refine enter (n := 52) Try.func22 rfl Try.ntmps22 (Nat.le_of_ble_eq_true rfl) ?_
 have H := (((((St.start w).arg xZ).arg vC).arg zA).arg xN).arg xx
 have vW := qN xx
 have yh := qN xN
 have QU := qN zA
 have XA := qN vC
 have Qa := qN xZ
 clear xx xN zA vC xZ
 have N := Fresh.nil w.heap.size
 refine qo (qB ?_)
 refine sw (y9 H [.int .i64 s.qI, .slice qw s.qf.length qm, .slice qG s.qg.length qC] fun b1 w2 H => ?_)
 refine sw (y9 H [.slice qP t.qh.length qJ, .slice xG t.qp.length xA, .slice qL t.ql.length qK] fun b3 w4 H => ?_)
 refine sw (zy H ti41 [.slice none 0 0, .slice none 0 0, .slice none 0 0] fun b5 w6 H => ?_)
 refine sps [.int .i64 0, .int .i64 0] ?_
 refine qA (t_n (qo (qo (qB ?_))))
 refine sw (zu [.int .i64 s.qI, .slice qw s.qf.length qm, .slice qG s.qg.length qC] Try.isAgg30 Try.sizeOf30 rfl (qH (H.cells 2 rfl) 0 3) ?_)
 refine sw (zu [.slice qP t.qh.length qJ, .slice xG t.qp.length xA, .slice qL t.ql.length qK] Try.isAgg41 Try.sizeOf41 rfl (qH (H.cells 1 rfl) 0 3) ?_)
 refine sw (xf #[.agg #[.int .i64 s.qI, .slice qw s.qf.length qm, .slice qG s.qg.length qC], .agg #[.slice qP t.qh.length qJ, .slice xG t.qp.length xA, .slice qL t.ql.length qK]] rfl rfl Try.call59 (validState_ok w6 s t qw qm qM qG qC xu qP qJ xJ xG xA zF qL qK xI (H.get 0 rfl).1 (H.get 1 rfl).1 (H.get 2 rfl).1 (H.get 3 rfl).1 (H.get 4 rfl).1) ?_)
 rintro _ w8 rfl x9
 replace H := H.ext x9
 refine sp (.bool (!(dec (yP s ∧ zJ s t)))) ?_
 refine qA (t_n ?_)
 refine qX (!(dec (yP s ∧ zJ s t))) rfl (fun h10 => ?_) (fun h10 => ?_)
 ·skip
  replace h10 := xh h10
  replace h10 := zt h10
  refine qo (qB ?_)
  refine sw (jJ [.slice none 0 0, .slice none 0 0, .slice none 0 0] [] ?_)
  refine sw (xR H 0 [.slice none 0 0, .slice none 0 0, .slice none 0 0] Try.sizeOf41 fun w11 H => ?_)
  try dsimp only [List.set] at H
  refine sps [.int .i64 0, .int .i64 1] ?_
  refine qA (t_n (xE (t_r ?_)))
  replace H := H.nilRowB 4
  replace H := H.nilRow 22 1
  replace H := H.Xh (α := List Int)
  replace H := H.nilRowI 2
  refine retC3 H 3 rfl (.int .i64 0) (.int .i64 1) rfl Try.isAgg41 Try.sizeOf41 rfl rfl rfl ⟨_, rfl, ?_, H.base⟩
  rw [run_1 ‹_›]
  exact ⟨none, 0, 0, none, 0, 0, [], [], none, 0, 0, rfl, N.emp, H.pick [2, 1, 0] [0]⟩
 replace h10 := qY h10
 replace h10 := jZ h10
 have k0 := (‹yP s ∧ zJ s t› : yP s ∧ zJ s t)
 have k1 := k0.1
 have k2 := k0.2
 obtain ⟨q7, q8, q9, q10⟩ := k2.sizes k1.1
 have q13 := fun k hk => Nat.le_trans (q10 k hk) (by decide : 8 ≤ 1000000)
 refine xy (t_n (qo (qo (qB ?_))))
 refine sp (.int .i64 steps) ?_
 refine sw (xf #[.int .i64 steps, .int .i64 0, .int .i64 200] rfl rfl Try.call60 (Vx w8 steps 0 200) ?_)
 rintro _ w12 rfl x13
 replace H := H.ext x13
 refine sp (.bool (!(inR steps 0 200))) ?_
 refine qA (t_n ?_)
 refine qX (!(inR steps 0 200)) rfl (fun h14 => ?_) (fun h14 => ?_)
 ·skip
  replace h14 := xh h14
  replace h14 := XB h14
  refine qo (qB ?_)
  refine sw (jJ [.slice none 0 0, .slice none 0 0, .slice none 0 0] [] ?_)
  refine sw (xR H 0 [.slice none 0 0, .slice none 0 0, .slice none 0 0] Try.sizeOf41 fun w15 H => ?_)
  try dsimp only [List.set] at H
  refine sps [.int .i64 0, .int .i64 2] ?_
  refine qA (t_n (xE (t_r ?_)))
  replace H := H.nilRowB 4
  replace H := H.nilRow 22 1
  replace H := H.Xh (α := List Int)
  replace H := H.nilRowI 2
  refine retC3 H 3 rfl (.int .i64 0) (.int .i64 2) rfl Try.isAgg41 Try.sizeOf41 rfl rfl rfl ⟨_, rfl, ?_, H.base⟩
  rw [run_2 ‹_› ‹_›]
  exact ⟨none, 0, 0, none, 0, 0, [], [], none, 0, 0, rfl, N.emp, H.pick [2, 1, 0] [0]⟩
 replace h14 := qY h14
 replace h14 := Q9.1 h14
 refine xy (t_n (qo (qB ?_)))
 refine sw (zu [.slice qP t.qh.length qJ, .slice xG t.qp.length xA, .slice qL t.ql.length qK] Try.isAgg41 Try.sizeOf41 rfl (qH (H.cells 1 rfl) 0 3) ?_)
 have sz19 := H.base.size
 refine sw (xf #[.agg #[.slice qP t.qh.length qJ, .slice xG t.qp.length xA, .slice qL t.ql.length qK]] rfl rfl Try.call42 (yl w12 t qP qJ xJ xG xA zF qL qK xI (H.get 2 rfl).1 (H.get 3 rfl).1 (H.get 4 rfl).1 (by first | assumption | omega) (by first | assumption | omega) (by first | assumption | omega) (by first | assumption | omega)) ?_)
 rintro _ w17 ⟨ra16Alive, rn16Alive, rc16Alive, ra16Bags, rn16Bags, rc16Bags, rx16Bags, rF16Bags, ra16Around, rn16Around, rc16Around, rfl, M, K⟩ _
 replace N := N.merge sz19 (by simp) M
 replace H := H.merge K M
 dsimp only [List.cons_append, List.nil_append] at H
 obtain rfl := H.QE 0 rfl
 obtain rfl := H.zx (α := List Int) 1 rfl 0 rfl (by decide)
 obtain rfl := H.QD 2 rfl
 refine sw (zy H ti41 [.slice none 0 0, .slice none 0 0, .slice none 0 0] fun b24 w25 H => ?_)
 refine sw (xR H 0 [.slice ra16Alive t.qh.length rc16Alive, .slice ra16Bags t.qp.length rc16Bags, .slice ra16Around t.ql.length rc16Around] Try.sizeOf41 fun w26 H => ?_)
 try dsimp only [List.set] at H
 refine qA (t_n (qo (qB ?_)))
 refine sp (.int .i64 0) ?_
 refine qA (t_n (xC ?_))
 refine vw (fun m' ρ w27 => ∃ (junk : Env) (n : Nat) (zn : Option Addr) (zD : Nat) (zl : Nat) (now_Alive : List Bool) (zC : Option Addr) (zQ : Nat) (zB : Nat) (now_Bags : List (List Int)) (QM : List Value) (yL : List Nat) (xX : Option Addr) (zq : Nat) (xW : Nat) (now_Around : List Int) (u : qQ), ρ = upd (upd (upd (upd (upd junk 2 (.int .i64 steps)) 3 (pp b1 0)) 6 (pp b5 0)) 9 (pp b24 0)) 10 (.int .i64 n) ∧ now_Alive = u.qh ∧ now_Bags = u.qp ∧ now_Around = u.ql ∧ (zJ s u) ∧ (0 ≤ (n : Int) ∧ (n : Int) ≤ steps) ∧ (qx s t steps = runGo s (steps - n).toNat n u) ∧ m' = (steps - n).toNat ∧ Fresh w.heap.size [yL] ∧ St w w27 [.box b24 [.slice zn zD zl, .slice zC zQ zB, .slice xX zq xW] 41, .row (.slice zn zD zl) 4 1 zD (now_Alive.map (Value.bool)), .row (.slice zC zQ zB) 22 1 zQ QM, .row (.slice xX zq xW) 2 1 zq (now_Around.map (Value.int .i64)), .box b5 [.slice none 0 0, .slice none 0 0, .slice none 0 0] 41, .box b3 [.slice qP t.qh.length qJ, .slice xG t.qp.length xA, .slice qL t.ql.length qK] 41, .box b1 [.int .i64 s.qI, .slice qw s.qf.length qm, .slice qG s.qg.length qC] 30] [jl true yL QM now_Bags, isF false qM (.slice qw s.qf.length qm) s.qf, isF false xu (.slice qG s.qg.length qC) s.qg, isF false xJ (.slice qP t.qh.length qJ) t.qh, isF false zF (.slice xG t.qp.length xA) t.qp, isF false xI (.slice qL t.ql.length qK) t.ql]) ((steps - 0).toNat) ⟨_, 0, ra16Alive, t.qh.length, rc16Alive, t.qh, ra16Bags, t.qp.length, rc16Bags, t.qp, rx16Bags, rF16Bags, ra16Around, t.ql.length, rc16Around, t.ql, t, (by exact qj (qj (qj (qj (qj (rfl) rfl) rfl) rfl) rfl) rfl), (by rfl), (by rfl), (by rfl), (by exact k2), (by omega), (by rw [run_0 ‹yP s ∧ zJ s t› (by omega), show (steps - (0 : Nat)).toNat = steps.toNat by omega]; rfl), rfl, N, H⟩ ?_
 clear H N
 rintro m' ρ w28 ⟨junk, n, zn, zD, zl, now_Alive, zC, zQ, zB, now_Bags, QM, yL, xX, zq, xW, now_Around, u, rfl, rfl, rfl, rfl, ku, km, kr, rfl, N, H⟩
 have hn_now_Alive := H.QE 1 rfl
 have hn_now_Bags := H.zx (α := List Int) 2 rfl 0 rfl (by decide)
 have hn_now_Around := H.QD 3 rfl
 refine qo (xC (qo (qo (qB ?_))))
 refine sps [.int .i64 n, .int .i64 steps, .bool ((n : Int) == steps), .bool ((n : Int) == steps)] ?_
 cases h29 : ((n : Int) == steps)
 ·skip
  replace h29 := ne_of_beq_false h29
  refine qU 29 rfl rfl ?_
  refine sw (zu [.int .i64 s.qI, .slice qw s.qf.length qm, .slice qG s.qg.length qC] Try.isAgg30 Try.sizeOf30 rfl (qH (H.cells 6 rfl) 0 3) ?_)
  refine qU 29 rfl rfl ?_
  refine sw (zu [.slice zn zD zl, .slice zC zQ zB, .slice xX zq xW] Try.isAgg41 Try.sizeOf41 rfl (qH (H.cells 0 rfl) 0 3) ?_)
  refine qU 29 rfl rfl ?_
  obtain ⟨G30, hn31, h32⟩ := H.rowIsB 1 rfl
  obtain ⟨G33, hn34, h35⟩ := H.rowIsR (α := List Int) 2 rfl 0 rfl (by decide)
  obtain ⟨G36, hn37, h38⟩ := H.XE 3 rfl
  have sz42 := H.base.size
  refine sw (xf #[.agg #[.int .i64 s.qI, .slice qw s.qf.length qm, .slice qG s.qg.length qC], .agg #[.slice zn zD zl, .slice zC zQ zB, .slice xX zq xW]] rfl rfl Try.call61 (args_eq (by rw [← hn31, ← hn34, ← hn37]) (applicable_ok w28 s u qw qm qM qG qC xu zn zl G30 zC zB G33 xX xW G36 (H.get 1 rfl).1 (H.get 2 rfl).1 (hn31 ▸ h32) (hn34 ▸ h35) (hn37 ▸ h38) (by first | assumption | omega) (by first | assumption | omega))) ?_)
  rintro _ w40 ⟨ra39, rn39, rc39, rfl, M, K⟩ _
  replace H := H.merge K M
  dsimp only [List.cons_append, List.nil_append] at H
  obtain rfl := H.QD 0 rfl
  refine qU 29 rfl rfl ?_
  refine sw (vI Try.underlying22 ra39 ((appls s u).length) rc39 rfl ?_)
  refine qU 29 rfl rfl ?_
  refine sps [.bool (((appls s u).length : Int) == 0), .bool (((appls s u).length : Int) == 0)] ?_
  refine qA (t_n ?_)
  refine qX (((appls s u).length : Int) == 0) rfl (fun h45 => ?_) (fun h45 => ?_)
  ·skip
   replace h45 := eq_of_beq h45
   refine qo (qB ?_)
   refine sw (zu [.slice zn zD zl, .slice zC zQ zB, .slice xX zq xW] Try.isAgg41 Try.sizeOf41 rfl (qH (H.cells 1 rfl) 0 3) ?_)
   refine sp (.int .i64 n) ?_
   refine sw (xR H 5 [.slice zn zD zl, .slice zC zQ zB, .slice xX zq xW] Try.sizeOf41 fun w46 H => ?_)
   try dsimp only [List.set] at H
   refine sps [.int .i64 n, .int .i64 0] ?_
   refine qA (t_n (xE (t_r (b_r (t_r (t_r (b_r ?_)))))))
   refine retC3 H 5 rfl (.int .i64 n) (.int .i64 0) rfl Try.isAgg41 Try.sizeOf41 rfl rfl rfl ⟨_, rfl, ?_, H.base⟩
   first | rw [kr, runGo_end (by omega)] | rw [kr, runGo_halt (appls_halt.1 (by omega))]
   exact ⟨zn, zD, zl, zC, zQ, zB, QM, yL, xX, zq, xW, rfl, N, H.pick [2, 3, 4] [0]⟩
  replace h45 := ne_of_beq_false h45
  refine xy (t_n (qo ?_))
  refine c_cut (fun ρ w47 => ∃ (junk : Env) (b48 : Nat) (ra49 : Option Addr) (rc50 : Nat) (ra51 : Option Addr) (rc52 : Nat) (ra53 : Option Addr) (rc54 : Nat) (rx55 : List Value) (rF56 : List Nat), ρ = upd (upd (upd (upd (upd (upd (upd (upd (upd (upd (upd (upd junk 2 (.int .i64 steps)) 3 (pp b1 0)) 6 (pp b5 0)) 9 (pp b24 0)) 10 (.int .i64 n)) 11 (pp b48 0)) 12 (.int .i64 ((zf s u (xY s u)).2))) 30 (.agg #[.int .i64 s.qI, .slice qw s.qf.length qm, .slice qG s.qg.length qC])) 31 (.agg #[.slice zn zD zl, .slice zC zQ zB, .slice xX zq xW])) 32 (.slice ra39 ((appls s u).length) rc39)) 33 (.int .i64 ((appls s u).length))) 34 (.bool (((appls s u).length : Int) == 0)) ∧ Fresh w.heap.size [rF56, yL] ∧ St w w47 [.box b48 [.slice ra49 ((((zf s u (xY s u)).1).qh).length) rc50, .slice ra51 ((((zf s u (xY s u)).1).qp).length) rc52, .slice ra53 ((((zf s u (xY s u)).1).ql).length) rc54] 41, .row (.slice ra49 ((((zf s u (xY s u)).1).qh).length) rc50) 4 1 ((((zf s u (xY s u)).1).qh).length) ((((zf s u (xY s u)).1).qh).map (Value.bool)), .row (.slice ra51 ((((zf s u (xY s u)).1).qp).length) rc52) 22 1 ((((zf s u (xY s u)).1).qp).length) rx55, .row (.slice ra53 ((((zf s u (xY s u)).1).ql).length) rc54) 2 1 ((((zf s u (xY s u)).1).ql).length) ((((zf s u (xY s u)).1).ql).map (Value.int .i64)), .row (.slice ra39 ((appls s u).length) rc39) 2 1 ((appls s u).length) ((appls s u).map (Value.int .i64)), .box b24 [.slice zn zD zl, .slice zC zQ zB, .slice xX zq xW] 41, .row (.slice zn zD zl) 4 1 zD (u.qh.map (Value.bool)), .row (.slice zC zQ zB) 22 1 zQ QM, .row (.slice xX zq xW) 2 1 zq (u.ql.map (Value.int .i64)), .box b5 [.slice none 0 0, .slice none 0 0, .slice none 0 0] 41, .box b3 [.slice qP t.qh.length qJ, .slice xG t.qp.length xA, .slice qL t.ql.length qK] 41, .box b1 [.int .i64 s.qI, .slice qw s.qf.length qm, .slice qG s.qg.length qC] 30] [jl true rF56 rx55 (((zf s u (xY s u)).1).qp), jl true yL QM u.qp, isF false qM (.slice qw s.qf.length qm) s.qf, isF false xu (.slice qG s.qg.length qC) s.qg, isF false xJ (.slice qP t.qh.length qJ) t.qh, isF false zF (.slice xG t.qp.length xA) t.qp, isF false xI (.slice qL t.ql.length qK) t.ql]) ?_ ?_
  ·skip
   refine yg rfl H fun H => ?_
   refine rt 0 (.agg #[.int .i64 s.qI, .slice qw s.qf.length qm, .slice qG s.qg.length qC]) (yV (cs := [.int .i64 s.qI, .slice qw s.qf.length qm, .slice qG s.qg.length qC]) Try.isAgg30 Try.sizeOf30 rfl (fun _ h => qH (h.cells 7 rfl) 0 3)) H ?_
   refine rt 1 (.agg #[.slice zn zD zl, .slice zC zQ zB, .slice xX zq xW]) (yV (cs := [.slice zn zD zl, .slice zC zQ zB, .slice xX zq xW]) Try.isAgg41 Try.sizeOf41 rfl (fun _ h => qH (h.cells 1 rfl) 0 3)) H ?_
   refine rt 2 (.agg #[.int .i64 s.qI, .slice qw s.qf.length qm, .slice qG s.qg.length qC]) (yV (cs := [.int .i64 s.qI, .slice qw s.qf.length qm, .slice qG s.qg.length qC]) Try.isAgg30 Try.sizeOf30 rfl (fun _ h => qH (h.cells 7 rfl) 0 3)) H ?_
   refine rt 3 (.agg #[.slice zn zD zl, .slice zC zQ zB, .slice xX zq xW]) (yV (cs := [.slice zn zD zl, .slice zC zQ zB, .slice xX zq xW]) Try.isAgg41 Try.sizeOf41 rfl (fun _ h => qH (h.cells 1 rfl) 0 3)) H ?_
   refine xn [4, 9] (by kernel_rfl) (by simp) (zg rfl ?_ (zg rfl ?_ xq))
   ·skip
    obtain ⟨G58, hn59, h60⟩ := H.rowIsB 2 rfl
    obtain ⟨G61, hn62, h63⟩ := H.rowIsR (α := List Int) 3 rfl 0 rfl (by decide)
    obtain ⟨G64, hn65, h66⟩ := H.XE 4 rfl
    have sz70 := H.base.size
    refine xf #[.agg #[.int .i64 s.qI, .slice qw s.qf.length qm, .slice qG s.qg.length qC], .agg #[.slice zn zD zl, .slice zC zQ zB, .slice xX zq xW]] rfl rfl Try.call63 (args_eq (by rw [← hn59, ← hn62, ← hn65]) (firstChoice_ok w40.drew s u qw qm qM qG qC xu zn zl G58 zC zB G61 xX xW G64 (H.get 1 rfl).1 (H.get 2 rfl).1 (hn59 ▸ h60) (hn62 ▸ h63) (hn65 ▸ h66) (by first | assumption | omega) (by first | assumption | omega))) ?_
    rintro _ w68 ⟨ra67, rn67, rc67, rfl, M, K⟩ _
    replace H := H.merge K M
    dsimp only [List.cons_append, List.nil_append] at H
    obtain rfl := H.QD 0 rfl
    refine ⟨H.pick [1, 2, 3, 4, 5, 6, 7, 8] [0, 1, 2, 3, 4, 5], ?_⟩
    refine xn [5, 9] (by kernel_rfl) (by simp) (zg rfl ?_ (zg rfl ?_ xq))
    ·skip
     obtain ⟨G73, hn74, h75⟩ := H.rowIsB 3 rfl
     obtain ⟨G76, hn77, h78⟩ := H.rowIsR (α := List Int) 4 rfl 0 rfl (by decide)
     obtain ⟨G79, hn80, h81⟩ := H.XE 5 rfl
     obtain ⟨G82, hn83, h84⟩ := H.XE 0 rfl
     have k3 := first_cnt k1 ku
     have k4 := first_isCh k1 ku
     have sz88 := H.base.size
     have lt89 := H.ltN (L := [yL]) [0]
     refine xf #[.agg #[.int .i64 s.qI, .slice qw s.qf.length qm, .slice qG s.qg.length qC], .agg #[.slice zn zD zl, .slice zC zQ zB, .slice xX zq xW], .slice ra67 ((xY s u).length) rc67] rfl rfl Try.call62 (args_eq (by rw [← hn74, ← hn77, ← hn80]) (step_ok w68 s u (xY s u) qw qm qM qG qC xu zn zl G73 zC zB G76 xX xW G79 ra67 rc67 G82 (H.get 1 rfl).1 (H.get 2 rfl).1 (hn74 ▸ h75) (hn77 ▸ h78) (hn80 ▸ h81) h84 (by first | assumption | omega) (by first | assumption | omega) (by first | assumption | omega) (by first | assumption | omega))) ?_
     rintro _ w86 ⟨ra85aAlive, rn85aAlive, rc85aAlive, ra85aBags, rn85aBags, rc85aBags, rx85aBags, rF85aBags, ra85aAround, rn85aAround, rc85aAround, rfl, M, K⟩ _
     replace N := N.merge sz88 lt89 M
     replace H := H.merge K M
     dsimp only [List.cons_append, List.nil_append] at H
     obtain rfl := H.QE 0 rfl
     obtain rfl := H.zx (α := List Int) 1 rfl 0 rfl (by decide)
     obtain rfl := H.QD 2 rfl
     refine ⟨H.pick [4, 5, 6, 7, 8, 9, 10, 11] [1, 2, 3, 4, 5, 6], ?_⟩
     have S := H.jP [4, 5, 6, 7, 8, 9, 10, 11] [1, 2, 3, 4, 5, 6]
     refine rtp 6 (.tuple #[.agg #[.slice ra85aAlive ((((zf s u (xY s u)).1).qh).length) rc85aAlive, .slice ra85aBags ((((zf s u (xY s u)).1).qp).length) rc85aBags, .slice ra85aAround ((((zf s u (xY s u)).1).ql).length) rc85aAround], .int .i64 ((zf s u (xY s u)).2)]) S ?_
     refine rtp 7 (.agg #[.slice ra85aAlive ((((zf s u (xY s u)).1).qh).length) rc85aAlive, .slice ra85aBags ((((zf s u (xY s u)).1).qp).length) rc85aBags, .slice ra85aAround ((((zf s u (xY s u)).1).ql).length) rc85aAround]) S ?_
     refine rtp 8 (.int .i64 ((zf s u (xY s u)).2)) S ?_
     refine xn [9] (by kernel_rfl) (by simp) (zg rfl ?_ xq)
     refine zy H ti41 [.slice none 0 0, .slice none 0 0, .slice none 0 0] fun b93 w94 H => ?_
     refine ⟨H.pick [5, 6, 7, 8, 9, 10, 11, 12] [1, 2, 3, 4, 5, 6], ?_⟩
     refine xn [10] (by kernel_rfl) (by simp) (zg rfl ?_ xq)
     refine xR H 0 [.slice ra85aAlive ((((zf s u (xY s u)).1).qh).length) rc85aAlive, .slice ra85aBags ((((zf s u (xY s u)).1).qp).length) rc85aBags, .slice ra85aAround ((((zf s u (xY s u)).1).ql).length) rc85aAround] Try.sizeOf41 fun w95 H => ?_
     try dsimp only [List.set] at H
     refine ⟨H.pick [5, 6, 7, 8, 9, 10, 11, 12] [1, 2, 3, 4, 5, 6], ?_⟩
     refine rtp 11 (.int .i64 ((zf s u (xY s u)).2)) (H.pick [5, 6, 7, 8, 9, 10, 11, 12] [1, 2, 3, 4, 5, 6]) ?_
     refine xM (by kernel_rfl) (?_)
     exact meet ⟨_, b93, ra85aAlive, rc85aAlive, ra85aBags, rc85aBags, ra85aAround, rc85aAround, rx85aBags, rF85aBags, (by exact qj (qj (qj (qj (qj (qj (qj (qj (qj (qj (qj (qj (rfl) rfl) rfl) rfl) rfl) rfl) rfl) rfl) rfl) rfl) rfl) rfl) rfl), N, H.pick [0, 1, 2, 3, 5, 6, 7, 8, 9, 10, 11, 12] [0, 1, 2, 3, 4, 5, 6]⟩
    refine zy H ti41 [.slice none 0 0, .slice none 0 0, .slice none 0 0] fun b96 w97 H => ?_
    refine ⟨H.pick [2, 3, 4, 5, 6, 7, 8, 9] [0, 1, 2, 3, 4, 5], ?_⟩
    refine xn [5] (by kernel_rfl) (by simp) (zg rfl ?_ xq)
    obtain ⟨G98, hn99, h100⟩ := H.rowIsB 4 rfl
    obtain ⟨G101, hn102, h103⟩ := H.rowIsR (α := List Int) 5 rfl 0 rfl (by decide)
    obtain ⟨G104, hn105, h106⟩ := H.XE 6 rfl
    obtain ⟨G107, hn108, h109⟩ := H.XE 1 rfl
    have k3 := first_cnt k1 ku
    have k4 := first_isCh k1 ku
    have sz113 := H.base.size
    have lt114 := H.ltN (L := [yL]) [0]
    refine xf #[.agg #[.int .i64 s.qI, .slice qw s.qf.length qm, .slice qG s.qg.length qC], .agg #[.slice zn zD zl, .slice zC zQ zB, .slice xX zq xW], .slice ra67 ((xY s u).length) rc67] rfl rfl Try.call62 (args_eq (by rw [← hn99, ← hn102, ← hn105]) (step_ok w97 s u (xY s u) qw qm qM qG qC xu zn zl G98 zC zB G101 xX xW G104 ra67 rc67 G107 (H.get 1 rfl).1 (H.get 2 rfl).1 (hn99 ▸ h100) (hn102 ▸ h103) (hn105 ▸ h106) h109 (by first | assumption | omega) (by first | assumption | omega) (by first | assumption | omega) (by first | assumption | omega))) ?_
    rintro _ w111 ⟨ra110aAlive, rn110aAlive, rc110aAlive, ra110aBags, rn110aBags, rc110aBags, rx110aBags, rF110aBags, ra110aAround, rn110aAround, rc110aAround, rfl, M, K⟩ _
    replace N := N.merge sz113 lt114 M
    replace H := H.merge K M
    dsimp only [List.cons_append, List.nil_append] at H
    obtain rfl := H.QE 0 rfl
    obtain rfl := H.zx (α := List Int) 1 rfl 0 rfl (by decide)
    obtain rfl := H.QD 2 rfl
    refine ⟨H.pick [5, 6, 7, 8, 9, 10, 11, 12] [1, 2, 3, 4, 5, 6], ?_⟩
    have S := H.jP [5, 6, 7, 8, 9, 10, 11, 12] [1, 2, 3, 4, 5, 6]
    refine rtp 6 (.tuple #[.agg #[.slice ra110aAlive ((((zf s u (xY s u)).1).qh).length) rc110aAlive, .slice ra110aBags ((((zf s u (xY s u)).1).qp).length) rc110aBags, .slice ra110aAround ((((zf s u (xY s u)).1).ql).length) rc110aAround], .int .i64 ((zf s u (xY s u)).2)]) S ?_
    refine rtp 7 (.agg #[.slice ra110aAlive ((((zf s u (xY s u)).1).qh).length) rc110aAlive, .slice ra110aBags ((((zf s u (xY s u)).1).qp).length) rc110aBags, .slice ra110aAround ((((zf s u (xY s u)).1).ql).length) rc110aAround]) S ?_
    refine rtp 8 (.int .i64 ((zf s u (xY s u)).2)) S ?_
    refine xn [10] (by kernel_rfl) (by simp) (zg rfl ?_ xq)
    refine xR H 3 [.slice ra110aAlive ((((zf s u (xY s u)).1).qh).length) rc110aAlive, .slice ra110aBags ((((zf s u (xY s u)).1).qp).length) rc110aBags, .slice ra110aAround ((((zf s u (xY s u)).1).ql).length) rc110aAround] Try.sizeOf41 fun w118 H => ?_
    try dsimp only [List.set] at H
    refine ⟨H.pick [5, 6, 7, 8, 9, 10, 11, 12] [1, 2, 3, 4, 5, 6], ?_⟩
    refine rtp 11 (.int .i64 ((zf s u (xY s u)).2)) (H.pick [5, 6, 7, 8, 9, 10, 11, 12] [1, 2, 3, 4, 5, 6]) ?_
    refine xM (by kernel_rfl) (?_)
    exact meet ⟨_, b96, ra110aAlive, rc110aAlive, ra110aBags, rc110aBags, ra110aAround, rc110aAround, rx110aBags, rF110aBags, (by exact qj (qj (qj (qj (qj (qj (qj (qj (qj (qj (qj (qj (rfl) rfl) rfl) rfl) rfl) rfl) rfl) rfl) rfl) rfl) rfl) rfl) rfl), N, H.pick [3, 0, 1, 2, 5, 6, 7, 8, 9, 10, 11, 12] [0, 1, 2, 3, 4, 5, 6]⟩
   refine zy H ti41 [.slice none 0 0, .slice none 0 0, .slice none 0 0] fun b119 w120 H => ?_
   refine ⟨H.pick [1, 2, 3, 4, 5, 6, 7, 8] [0, 1, 2, 3, 4, 5], ?_⟩
   refine xn [4] (by kernel_rfl) (by simp) (zg rfl ?_ xq)
   obtain ⟨G121, hn122, h123⟩ := H.rowIsB 3 rfl
   obtain ⟨G124, hn125, h126⟩ := H.rowIsR (α := List Int) 4 rfl 0 rfl (by decide)
   obtain ⟨G127, hn128, h129⟩ := H.XE 5 rfl
   have sz133 := H.base.size
   refine xf #[.agg #[.int .i64 s.qI, .slice qw s.qf.length qm, .slice qG s.qg.length qC], .agg #[.slice zn zD zl, .slice zC zQ zB, .slice xX zq xW]] rfl rfl Try.call63 (args_eq (by rw [← hn122, ← hn125, ← hn128]) (firstChoice_ok w120 s u qw qm qM qG qC xu zn zl G121 zC zB G124 xX xW G127 (H.get 1 rfl).1 (H.get 2 rfl).1 (hn122 ▸ h123) (hn125 ▸ h126) (hn128 ▸ h129) (by first | assumption | omega) (by first | assumption | omega))) ?_
   rintro _ w131 ⟨ra130, rn130, rc130, rfl, M, K⟩ _
   replace H := H.merge K M
   dsimp only [List.cons_append, List.nil_append] at H
   obtain rfl := H.QD 0 rfl
   refine ⟨H.pick [2, 3, 4, 5, 6, 7, 8, 9] [0, 1, 2, 3, 4, 5], ?_⟩
   refine xn [5] (by kernel_rfl) (by simp) (zg rfl ?_ xq)
   obtain ⟨G136, hn137, h138⟩ := H.rowIsB 4 rfl
   obtain ⟨G139, hn140, h141⟩ := H.rowIsR (α := List Int) 5 rfl 0 rfl (by decide)
   obtain ⟨G142, hn143, h144⟩ := H.XE 6 rfl
   obtain ⟨G145, hn146, h147⟩ := H.XE 0 rfl
   have k3 := first_cnt k1 ku
   have k4 := first_isCh k1 ku
   have sz151 := H.base.size
   have lt152 := H.ltN (L := [yL]) [0]
   refine xf #[.agg #[.int .i64 s.qI, .slice qw s.qf.length qm, .slice qG s.qg.length qC], .agg #[.slice zn zD zl, .slice zC zQ zB, .slice xX zq xW], .slice ra130 ((xY s u).length) rc130] rfl rfl Try.call62 (args_eq (by rw [← hn137, ← hn140, ← hn143]) (step_ok w131 s u (xY s u) qw qm qM qG qC xu zn zl G136 zC zB G139 xX xW G142 ra130 rc130 G145 (H.get 1 rfl).1 (H.get 2 rfl).1 (hn137 ▸ h138) (hn140 ▸ h141) (hn143 ▸ h144) h147 (by first | assumption | omega) (by first | assumption | omega) (by first | assumption | omega) (by first | assumption | omega))) ?_
   rintro _ w149 ⟨ra148aAlive, rn148aAlive, rc148aAlive, ra148aBags, rn148aBags, rc148aBags, rx148aBags, rF148aBags, ra148aAround, rn148aAround, rc148aAround, rfl, M, K⟩ _
   replace N := N.merge sz151 lt152 M
   replace H := H.merge K M
   dsimp only [List.cons_append, List.nil_append] at H
   obtain rfl := H.QE 0 rfl
   obtain rfl := H.zx (α := List Int) 1 rfl 0 rfl (by decide)
   obtain rfl := H.QD 2 rfl
   refine ⟨H.pick [5, 6, 7, 8, 9, 10, 11, 12] [1, 2, 3, 4, 5, 6], ?_⟩
   have S := H.jP [5, 6, 7, 8, 9, 10, 11, 12] [1, 2, 3, 4, 5, 6]
   refine rtp 6 (.tuple #[.agg #[.slice ra148aAlive ((((zf s u (xY s u)).1).qh).length) rc148aAlive, .slice ra148aBags ((((zf s u (xY s u)).1).qp).length) rc148aBags, .slice ra148aAround ((((zf s u (xY s u)).1).ql).length) rc148aAround], .int .i64 ((zf s u (xY s u)).2)]) S ?_
   refine rtp 7 (.agg #[.slice ra148aAlive ((((zf s u (xY s u)).1).qh).length) rc148aAlive, .slice ra148aBags ((((zf s u (xY s u)).1).qp).length) rc148aBags, .slice ra148aAround ((((zf s u (xY s u)).1).ql).length) rc148aAround]) S ?_
   refine rtp 8 (.int .i64 ((zf s u (xY s u)).2)) S ?_
   refine xn [10] (by kernel_rfl) (by simp) (zg rfl ?_ xq)
   refine xR H 4 [.slice ra148aAlive ((((zf s u (xY s u)).1).qh).length) rc148aAlive, .slice ra148aBags ((((zf s u (xY s u)).1).qp).length) rc148aBags, .slice ra148aAround ((((zf s u (xY s u)).1).ql).length) rc148aAround] Try.sizeOf41 fun w156 H => ?_
   try dsimp only [List.set] at H
   refine ⟨H.pick [5, 6, 7, 8, 9, 10, 11, 12] [1, 2, 3, 4, 5, 6], ?_⟩
   refine rtp 11 (.int .i64 ((zf s u (xY s u)).2)) (H.pick [5, 6, 7, 8, 9, 10, 11, 12] [1, 2, 3, 4, 5, 6]) ?_
   refine xM (by kernel_rfl) (?_)
   exact meet ⟨_, b119, ra148aAlive, rc148aAlive, ra148aBags, rc148aBags, ra148aAround, rc148aAround, rx148aBags, rF148aBags, (by exact qj (qj (qj (qj (qj (qj (qj (qj (qj (qj (qj (qj (rfl) rfl) rfl) rfl) rfl) rfl) rfl) rfl) rfl) rfl) rfl) rfl) rfl), N, H.pick [4, 0, 1, 2, 5, 6, 7, 8, 9, 10, 11, 12] [0, 1, 2, 3, 4, 5, 6]⟩
  clear H N
  rintro ρ w157 ⟨junk, b48, ra49, rc50, ra51, rc52, ra53, rc54, rx55, rF56, rfl, N, H⟩
  refine t_n (qo (qo (qB ?_)))
  refine sps [.int .i64 ((zf s u (xY s u)).2), .bool (((zf s u (xY s u)).2 : Int) != 0)] ?_
  refine qA (t_n ?_)
  refine qX (((zf s u (xY s u)).2 : Int) != 0) rfl (fun h158 => ?_) (fun h158 => ?_)
  ·skip
   replace h158 := bne_iff_ne.1 h158
   refine qo (qB ?_)
   refine sw (jJ [.slice none 0 0, .slice none 0 0, .slice none 0 0] [] ?_)
   refine sp (.int .i64 ((zf s u (xY s u)).2)) ?_
   refine sw (xR H 9 [.slice none 0 0, .slice none 0 0, .slice none 0 0] Try.sizeOf41 fun w159 H => ?_)
   try dsimp only [List.set] at H
   refine sps [.int .i64 0, .int .i64 ((zf s u (xY s u)).2)] ?_
   refine qA (t_n (xE (t_r (b_r (t_r (t_r (b_r ?_)))))))
   replace H := H.nilRowB 4
   replace H := H.nilRow 22 1
   replace H := H.Xh (α := List Int)
   replace H := H.nilRowI 2
   refine retC3 H 12 rfl (.int .i64 0) (.int .i64 ((zf s u (xY s u)).2)) rfl Try.isAgg41 Try.sizeOf41 rfl rfl rfl ⟨_, rfl, ?_, H.base⟩
   rw [kr, runGo_bad (by omega) (fun h => by have := appls_halt.2 h; omega) ‹_›]
   exact ⟨none, 0, 0, none, 0, 0, [], [], none, 0, 0, rfl, (N.emp.pick [0]), H.pick [2, 1, 0] [0]⟩
  replace h158 := xP h158
  refine xy (t_n (qB ?_))
  refine sw (zu [.slice ra49 ((((zf s u (xY s u)).1).qh).length) rc50, .slice ra51 ((((zf s u (xY s u)).1).qp).length) rc52, .slice ra53 ((((zf s u (xY s u)).1).ql).length) rc54] Try.isAgg41 Try.sizeOf41 rfl (qH (H.cells 0 rfl) 0 3) ?_)
  refine sw (xR H 5 [.slice ra49 ((((zf s u (xY s u)).1).qh).length) rc50, .slice ra51 ((((zf s u (xY s u)).1).qp).length) rc52, .slice ra53 ((((zf s u (xY s u)).1).ql).length) rc54] Try.sizeOf41 fun w160 H => ?_)
  try dsimp only [List.set] at H
  refine qA (b_n (t_n (qB ?_)))
  refine sp (.int .i64 n) ?_
  refine sw (vz n 1 rfl rfl (by omega) ?_)
  refine sp (.int .i64 (n + 1)) ?_
  refine qA ?_
  refine xH (m' := (steps - (n + 1)).toNat) (by omega) ⟨_, n + 1, ra49, (((zf s u (xY s u)).1).qh).length, rc50, ((zf s u (xY s u)).1).qh, ra51, (((zf s u (xY s u)).1).qp).length, rc52, ((zf s u (xY s u)).1).qp, rx55, rF56, ra53, (((zf s u (xY s u)).1).ql).length, rc54, ((zf s u (xY s u)).1).ql, (zf s u (xY s u)).1, (by exact qj (qj (qj (qj (qj (rfl) rfl) rfl) rfl) rfl) rfl), ?_, ?_, ?_, ?_, ?_, ?_, rfl, (N.pick [0]), H.pick [5, 1, 2, 3, 9, 10, 11] [0, 2, 3, 4, 5, 6]⟩
  · rfl
  · rfl
  · rfl
  · exact stepBy_ok ‹_›
  · omega
  · exact kr.trans (runGo_go (by omega) (fun h => by have := appls_halt.2 h; omega) ‹_›)
 replace h29 := eq_of_beq h29
 refine zi [30, 31, 32, 33, 34] ?_
 refine sp (.bool true) ?_
 refine qA (t_n ?_)
 refine qX true rfl (fun _ => ?_) (fun h => absurd h (by decide))
 refine qo (qB ?_)
 refine sw (zu [.slice zn zD zl, .slice zC zQ zB, .slice xX zq xW] Try.isAgg41 Try.sizeOf41 rfl (qH (H.cells 0 rfl) 0 3) ?_)
 refine sp (.int .i64 n) ?_
 refine sw (xR H 4 [.slice zn zD zl, .slice zC zQ zB, .slice xX zq xW] Try.sizeOf41 fun w161 H => ?_)
 try dsimp only [List.set] at H
 refine sps [.int .i64 n, .int .i64 0] ?_
 refine qA (t_n (xE (t_r (b_r (t_r (t_r (b_r ?_)))))))
 refine retC3 H 4 rfl (.int .i64 n) (.int .i64 0) rfl Try.isAgg41 Try.sizeOf41 rfl rfl rfl ⟨_, rfl, ?_, H.base⟩
 first | rw [kr, runGo_end (by omega)] | rw [kr, runGo_halt (appls_halt.1 (by omega))]
 exact ⟨zn, zD, zl, zC, zQ, zB, QM, yL, xX, zq, xW, rfl, N, H.pick [1, 2, 3] [0]⟩

end Go.Proofs.Ytkmlihdacnfhdaa
