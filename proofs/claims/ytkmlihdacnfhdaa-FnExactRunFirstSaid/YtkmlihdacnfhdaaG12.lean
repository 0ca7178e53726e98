/- Walks, printed by program (wip/tools/gv.py): what each function comes to, for all arguments. -/
import Derived.Test.YtkmlihdacnfhdaaG11
import Derived.Test.YtkmlihdacnfhdaaP7
namespace Go.Proofs.Ytkmlihdacnfhdaa
open Go.Proofs.Ytkmlihdacnfhdaa.Tot (tot)
open Go.Proofs.Ytkmlihdacnfhdaa.Mark (cnt mrk mkd mkd_mark cnt_mark)
open Go.RowKit
set_option linter.unusedVariables false
set_option linter.unusedSimpArgs false
set_option maxRecDepth 100000
set_option maxHeartbeats 4000000



theorem specRun_ok (w : World) (s : qV) (t : qQ) (steps : Int) (qw : Option Addr) (qm : Nat) (qM : List Nat) (qG : Option Addr) (qC : Nat) (xu : List Nat) (qP : Option Addr) (qJ : Nat) (xJ : List Nat) (xG : Option Addr) (xA : Nat) (zF : List Nat) (qL : Option Addr) (qK : Nat) (xI : List Nat) (xx : qW.rep w qM [.slice qw s.qf.length qm] s.qf) (xN : qW.rep w xu [.slice qG s.qg.length qC] s.qg) (zA : qW.rep w xJ [.slice qP t.qh.length qJ] t.qh) (vC : qW.rep w zF [.slice xG t.qp.length xA] t.qp) (xZ : qW.rep w xI [.slice qL t.ql.length qK] t.ql) : Calls Try.prog 21 #[.agg #[.int .i64 s.qI, .slice qw s.qf.length qm, .slice qG s.qg.length qC], .agg #[.slice qP t.qh.length qJ, .slice xG t.qp.length xA, .slice qL t.ql.length qK], .int .i64 steps] w (Ret (fun v w' => ∃ (ra0Alive : Option Addr) (Xt : Nat) (rc0Alive : Nat) (ra0Bags : Option Addr) (Vm : Nat) (rc0Bags : Nat) (rx0Bags : List Value) (rF0Bags : List Nat) (XK : Option Addr) (QO : Nat) (XJ : Nat), v = .tuple #[.agg #[.slice ra0Alive Xt rc0Alive, .slice ra0Bags Vm rc0Bags, .slice XK QO XJ], .int .i64 ((qx s t steps).2.1), .int .i64 ((qx s t steps).2.2)] ∧ Fresh w.heap.size [rF0Bags] ∧ St w w' [.row (.slice ra0Alive Xt rc0Alive) 4 1 Xt ((((qx s t steps).1).qh).map (Value.bool)), .row (.slice ra0Bags Vm rc0Bags) 22 1 Vm rx0Bags, .row (.slice XK QO XJ) 2 1 QO ((((qx s t steps).1).ql).map (Value.int .i64))] [jl true rF0Bags rx0Bags (((qx s t steps).1).qp)]) w) := by
 refine enter (n := 42) Try.func21 rfl Try.ntmps21 (Nat.le_of_ble_eq_true rfl) ?_
 have H := (((((St.start w).arg xZ).arg vC).arg zA).arg xN).arg xx
 have vW := qN xx
 have yh := qN xN
 have QU := qN zA
 have XA := qN vC
 have Qa := qN xZ
 clear xx xN zA vC xZ
 have N := Fresh.nil w.heap.size
 refine qo (qB ?_)
 refine sw (y9 H [.int .i64 s.qI, .slice qw s.qf.length qm, .slice qG s.qg.length qC] fun b1 w2 H => ?_)
 refine sw (y9 H [.slice qP t.qh.length qJ, .slice xG t.qp.length xA, .slice qL t.ql.length qK] fun b3 w4 H => ?_)
 refine sw (zy H ti41 [.slice none 0 0, .slice none 0 0, .slice none 0 0] fun b5 w6 H => ?_)
 refine sps [.int .i64 0, .int .i64 0] ?_
 refine qA (t_n (qo (qo (qB ?_))))
 refine sw (xf #[pp b1 0, pp b3 0] rfl rfl Try.call54 (l03Both_ok w6 s t b1 0 qw qm qM qG qC xu b3 0 qP qJ xJ xG xA zF qL qK xI (qH (H.cells 2 rfl) 0 3) (H.get 0 rfl).1 (H.get 1 rfl).1 (qH (H.cells 1 rfl) 0 3) (H.get 2 rfl).1 (H.get 3 rfl).1 (H.get 4 rfl).1) ?_)
 rintro _ w8 rfl x9
 replace H := H.ext x9
 refine sp (.bool (!(dec (yP s ∧ zJ s t)))) ?_
 refine qA (t_n ?_)
 refine qX (!(dec (yP s ∧ zJ s t))) rfl (fun h10 => ?_) (fun h10 => ?_)
 ·skip
  replace h10 := xh h10
  replace h10 := zt h10
  refine qo (qB ?_)
  refine sw (jJ [.slice none 0 0, .slice none 0 0, .slice none 0 0] [] ?_)
  refine sw (xR H 0 [.slice none 0 0, .slice none 0 0, .slice none 0 0] Try.sizeOf41 fun w11 H => ?_)
  try dsimp only [List.set] at H
  refine sps [.int .i64 0, .int .i64 1] ?_
  refine qA (t_n (xE (t_r ?_)))
  replace H := H.nilRowB 4
  replace H := H.nilRow 22 1
  replace H := H.Xh (α := List Int)
  replace H := H.nilRowI 2
  refine retC3 H 3 rfl (.int .i64 0) (.int .i64 1) rfl Try.isAgg41 Try.sizeOf41 rfl rfl rfl ⟨_, rfl, ?_, H.base⟩
  rw [run_1 ‹_›]
  exact ⟨none, 0, 0, none, 0, 0, [], [], none, 0, 0, rfl, N.emp, H.pick [2, 1, 0] [0]⟩
 replace h10 := qY h10
 replace h10 := jZ h10
 have k0 := (‹yP s ∧ zJ s t› : yP s ∧ zJ s t)
 have k1 := k0.1
 have k2 := k0.2
 obtain ⟨q7, q8, q9, q10⟩ := k2.sizes k1.1
 have q13 := fun k hk => Nat.le_trans (q10 k hk) (by decide : 8 ≤ 1000000)
 refine xy (t_n (qo (qo (qB ?_))))
 refine sp (.int .i64 steps) ?_
 refine sw (xf #[.int .i64 steps, .int .i64 0, .int .i64 200] rfl rfl Try.call55 (l00In_ok w8 steps 0 200) ?_)
 rintro _ w12 rfl x13
 replace H := H.ext x13
 refine sp (.bool (!(inR steps 0 200))) ?_
 refine qA (t_n ?_)
 refine qX (!(inR steps 0 200)) rfl (fun h14 => ?_) (fun h14 => ?_)
 ·skip
  replace h14 := xh h14
  replace h14 := XB h14
  refine qo (qB ?_)
  refine sw (jJ [.slice none 0 0, .slice none 0 0, .slice none 0 0] [] ?_)
  refine sw (xR H 0 [.slice none 0 0, .slice none 0 0, .slice none 0 0] Try.sizeOf41 fun w15 H => ?_)
  try dsimp only [List.set] at H
  refine sps [.int .i64 0, .int .i64 2] ?_
  refine qA (t_n (xE (t_r ?_)))
  replace H := H.nilRowB 4
  replace H := H.nilRow 22 1
  replace H := H.Xh (α := List Int)
  replace H := H.nilRowI 2
  refine retC3 H 3 rfl (.int .i64 0) (.int .i64 2) rfl Try.isAgg41 Try.sizeOf41 rfl rfl rfl ⟨_, rfl, ?_, H.base⟩
  rw [run_2 ‹_› ‹_›]
  exact ⟨none, 0, 0, none, 0, 0, [], [], none, 0, 0, rfl, N.emp, H.pick [2, 1, 0] [0]⟩
 replace h14 := qY h14
 replace h14 := Q9.1 h14
 refine xy (t_n (qo (qB ?_)))
 have sz19 := H.base.size
 refine sw (xf #[pp b3 0] rfl rfl Try.call36 (l02Own_ok w12 t b3 0 qP qJ xJ xG xA zF qL qK xI (qH (H.cells 1 rfl) 0 3) (H.get 2 rfl).1 (H.get 3 rfl).1 (H.get 4 rfl).1 (by first | assumption | omega) (by first | assumption | omega) (by first | assumption | omega) (by first | assumption | omega)) ?_)
 rintro _ w17 ⟨ra16Alive, rn16Alive, rc16Alive, ra16Bags, rn16Bags, rc16Bags, rx16Bags, rF16Bags, ra16Around, rn16Around, rc16Around, rfl, M, K⟩ _
 replace N := N.merge sz19 (by simp) M
 replace H := H.merge K M
 dsimp only [List.cons_append, List.nil_append] at H
 obtain rfl := H.QE 0 rfl
 obtain rfl := H.zx (α := List Int) 1 rfl 0 rfl (by decide)
 obtain rfl := H.QD 2 rfl
 refine sw (zy H ti41 [.slice none 0 0, .slice none 0 0, .slice none 0 0] fun b24 w25 H => ?_)
 refine sw (xR H 0 [.slice ra16Alive t.qh.length rc16Alive, .slice ra16Bags t.qp.length rc16Bags, .slice ra16Around t.ql.length rc16Around] Try.sizeOf41 fun w26 H => ?_)
 try dsimp only [List.set] at H
 refine qA (t_n (qo (qB ?_)))
 refine sp (.int .i64 0) ?_
 refine qA (t_n (qo (xC ?_)))
 refine vw (fun m' ρ w27 => ∃ (junk : Env) (made : Nat) (zn : Option Addr) (zD : Nat) (zl : Nat) (now_Alive : List Bool) (zC : Option Addr) (zQ : Nat) (zB : Nat) (now_Bags : List (List Int)) (QM : List Value) (yL : List Nat) (xX : Option Addr) (zq : Nat) (xW : Nat) (now_Around : List Int) (u : qQ), ρ = upd (upd (upd (upd (upd junk 2 (.int .i64 steps)) 3 (pp b1 0)) 6 (pp b5 0)) 9 (pp b24 0)) 10 (.int .i64 made) ∧ now_Alive = u.qh ∧ now_Bags = u.qp ∧ now_Around = u.ql ∧ (zJ s u) ∧ (0 ≤ (made : Int) ∧ (made : Int) ≤ steps) ∧ (qx s t steps = runGo s (steps - made).toNat made u) ∧ m' = (steps - made).toNat ∧ Fresh w.heap.size [yL] ∧ St w w27 [.box b24 [.slice zn zD zl, .slice zC zQ zB, .slice xX zq xW] 41, .row (.slice zn zD zl) 4 1 zD (now_Alive.map (Value.bool)), .row (.slice zC zQ zB) 22 1 zQ QM, .row (.slice xX zq xW) 2 1 zq (now_Around.map (Value.int .i64)), .box b5 [.slice none 0 0, .slice none 0 0, .slice none 0 0] 41, .box b3 [.slice qP t.qh.length qJ, .slice xG t.qp.length xA, .slice qL t.ql.length qK] 41, .box b1 [.int .i64 s.qI, .slice qw s.qf.length qm, .slice qG s.qg.length qC] 30] [jl true yL QM now_Bags, isF false qM (.slice qw s.qf.length qm) s.qf, isF false xu (.slice qG s.qg.length qC) s.qg, isF false xJ (.slice qP t.qh.length qJ) t.qh, isF false zF (.slice xG t.qp.length xA) t.qp, isF false xI (.slice qL t.ql.length qK) t.ql]) ((steps - 0).toNat) ⟨_, 0, ra16Alive, t.qh.length, rc16Alive, t.qh, ra16Bags, t.qp.length, rc16Bags, t.qp, rx16Bags, rF16Bags, ra16Around, t.ql.length, rc16Around, t.ql, t, (by exact qj (qj (qj (qj (qj (rfl) rfl) rfl) rfl) rfl) rfl), (by rfl), (by rfl), (by rfl), (by exact k2), (by omega), (by rw [run_0 ‹yP s ∧ zJ s t› (by omega), show (steps - (0 : Nat)).toNat = steps.toNat by omega]; rfl), rfl, N, H⟩ ?_
 clear H N
 rintro m' ρ w28 ⟨junk, made, zn, zD, zl, now_Alive, zC, zQ, zB, now_Bags, QM, yL, xX, zq, xW, now_Around, u, rfl, rfl, rfl, rfl, ku, km, kr, rfl, N, H⟩
 have hn_now_Alive := H.QE 1 rfl
 have hn_now_Bags := H.zx (α := List Int) 2 rfl 0 rfl (by decide)
 have hn_now_Around := H.QD 3 rfl
 refine qo (qo (qB ?_))
 refine sps [.int .i64 made, .int .i64 steps, .bool (decide ((made : Int) < steps)), .bool (decide ((made : Int) < steps))] ?_
 cases h29 : (decide ((made : Int) < steps))
 ·skip
  replace h29 := of_decide_eq_false h29
  refine zi [25, 26] ?_
  refine sp (.bool false) ?_
  refine qA (t_n ?_)
  refine qX false rfl (fun h => absurd h (by decide)) (fun _ => ?_)
  refine ve (t_x (t_x (b_x (t_n (qo (qB ?_))))))
  refine sw (zu [.slice zn zD zl, .slice zC zQ zB, .slice xX zq xW] Try.isAgg41 Try.sizeOf41 rfl (qH (H.cells 0 rfl) 0 3) ?_)
  refine sp (.int .i64 made) ?_
  refine sw (xR H 4 [.slice zn zD zl, .slice zC zQ zB, .slice xX zq xW] Try.sizeOf41 fun w30 H => ?_)
  try dsimp only [List.set] at H
  refine sps [.int .i64 made, .int .i64 0] ?_
  refine qA (t_n (xE ?_))
  refine retC3 H 4 rfl (.int .i64 made) (.int .i64 0) rfl Try.isAgg41 Try.sizeOf41 rfl rfl rfl ⟨_, rfl, ?_, H.base⟩
  first | rw [kr, runGo_end (by omega)] | rw [kr, runGo_halt ‹Halted s u›]
  exact ⟨zn, zD, zl, zC, zQ, zB, QM, yL, xX, zq, xW, rfl, N, H.pick [1, 2, 3] [0]⟩
 replace h29 := of_decide_eq_true h29
 refine qU 24 rfl rfl ?_
 obtain ⟨G31, hn32, h33⟩ := H.rowIsB 1 rfl
 obtain ⟨G34, hn35, h36⟩ := H.rowIsR (α := List Int) 2 rfl 0 rfl (by decide)
 obtain ⟨G37, hn38, h39⟩ := H.XE 3 rfl
 refine sw (xf #[pp b1 0, pp b24 0] rfl rfl Try.call56 (l03Halted_ok w28 s u b1 0 qw qm qM qG qC xu b24 0 zn zl G31 zC zB G34 xX xW G37 (qH (H.cells 6 rfl) 0 3) (H.get 1 rfl).1 (H.get 2 rfl).1 (by have hz := (qH (H.cells 0 rfl) 0 3); rw [hn32, hn35, hn38] at hz; exact hz) (hn32 ▸ h33) (hn35 ▸ h36) (hn38 ▸ h39) (by first | assumption | omega) (by first | assumption | omega)) ?_)
 rintro _ w41 rfl x42
 replace H := H.ext x42
 refine qU 24 rfl rfl ?_
 refine sps [.bool (!(dec (Halted s u))), .bool (!(dec (Halted s u)))] ?_
 refine qA (t_n ?_)
 refine qX (!(dec (Halted s u))) rfl (fun h43 => ?_) (fun h43 => ?_)
 ·skip
  replace h43 := xh h43
  replace h43 := zt h43
  refine xy (t_n (xC (qo (qB ?_))))
  obtain ⟨G44, hn45, h46⟩ := H.rowIsB 1 rfl
  obtain ⟨G47, hn48, h49⟩ := H.rowIsR (α := List Int) 2 rfl 0 rfl (by decide)
  obtain ⟨G50, hn51, h52⟩ := H.XE 3 rfl
  have sz56 := H.base.size
  refine sw (xf #[pp b1 0, pp b24 0] rfl rfl Try.call58 (l03First_ok w41 s u b1 0 qw qm qM qG qC xu b24 0 zn zl G44 zC zB G47 xX xW G50 (qH (H.cells 6 rfl) 0 3) (H.get 1 rfl).1 (H.get 2 rfl).1 (by have hz := (qH (H.cells 0 rfl) 0 3); rw [hn45, hn48, hn51] at hz; exact hz) (hn45 ▸ h46) (hn48 ▸ h49) (hn51 ▸ h52) (by first | assumption | omega) (by first | assumption | omega)) ?_)
  rintro _ w54 ⟨ra53, rn53, rc53, rfl, M, K⟩ _
  replace H := H.merge K M
  dsimp only [List.cons_append, List.nil_append] at H
  obtain rfl := H.QD 0 rfl
  obtain ⟨G59, hn60, h61⟩ := H.rowIsB 2 rfl
  obtain ⟨G62, hn63, h64⟩ := H.rowIsR (α := List Int) 3 rfl 0 rfl (by decide)
  obtain ⟨G65, hn66, h67⟩ := H.XE 4 rfl
  obtain ⟨G68, hn69, h70⟩ := H.XE 0 rfl
  have k3 := first_cnt k1 ku
  have sz74 := H.base.size
  have lt75 := H.ltN (L := [yL]) [0]
  refine sw (xf #[pp b1 0, pp b24 0, .slice ra53 ((xY s u).length) rc53] rfl rfl Try.call57 (l03Step_ok w54 s u (xY s u) b1 0 qw qm qM qG qC xu b24 0 zn zl G59 zC zB G62 xX xW G65 ra53 rc53 G68 (qH (H.cells 7 rfl) 0 3) (H.get 1 rfl).1 (H.get 2 rfl).1 (by have hz := (qH (H.cells 1 rfl) 0 3); rw [hn60, hn63, hn66] at hz; exact hz) (hn60 ▸ h61) (hn63 ▸ h64) (hn66 ▸ h67) h70 (by first | assumption | omega) (by first | assumption | omega) (by first | assumption | omega)) ?_)
  rintro _ w72 ⟨ra71aAlive, rn71aAlive, rc71aAlive, ra71aBags, rn71aBags, rc71aBags, rx71aBags, rF71aBags, ra71aAround, rn71aAround, rc71aAround, rfl, M, K⟩ _
  replace N := N.merge sz74 lt75 M
  replace H := H.merge K M
  dsimp only [List.cons_append, List.nil_append] at H
  obtain rfl := H.QE 0 rfl
  obtain rfl := H.zx (α := List Int) 1 rfl 0 rfl (by decide)
  obtain rfl := H.QD 2 rfl
  refine sps [.tuple #[.agg #[.slice ra71aAlive ((((zf s u (xY s u)).1).qh).length) rc71aAlive, .slice ra71aBags ((((zf s u (xY s u)).1).qp).length) rc71aBags, .slice ra71aAround ((((zf s u (xY s u)).1).ql).length) rc71aAround], .int .i64 ((zf s u (xY s u)).2)], .agg #[.slice ra71aAlive ((((zf s u (xY s u)).1).qh).length) rc71aAlive, .slice ra71aBags ((((zf s u (xY s u)).1).qp).length) rc71aBags, .slice ra71aAround ((((zf s u (xY s u)).1).ql).length) rc71aAround], .int .i64 ((zf s u (xY s u)).2)] ?_
  refine sw (zy H ti41 [.slice none 0 0, .slice none 0 0, .slice none 0 0] fun b79 w80 H => ?_)
  refine sw (xR H 0 [.slice ra71aAlive ((((zf s u (xY s u)).1).qh).length) rc71aAlive, .slice ra71aBags ((((zf s u (xY s u)).1).qp).length) rc71aBags, .slice ra71aAround ((((zf s u (xY s u)).1).ql).length) rc71aAround] Try.sizeOf41 fun w81 H => ?_)
  try dsimp only [List.set] at H
  refine sp (.int .i64 ((zf s u (xY s u)).2)) ?_
  refine qA (t_n (qo (qo (qB ?_))))
  refine sps [.int .i64 ((zf s u (xY s u)).2), .bool (((zf s u (xY s u)).2 : Int) != 0)] ?_
  refine qA (t_n ?_)
  refine qX (((zf s u (xY s u)).2 : Int) != 0) rfl (fun h82 => ?_) (fun h82 => ?_)
  ·skip
   replace h82 := bne_iff_ne.1 h82
   refine qo (qB ?_)
   refine sw (jJ [.slice none 0 0, .slice none 0 0, .slice none 0 0] [] ?_)
   refine sp (.int .i64 ((zf s u (xY s u)).2)) ?_
   refine sw (xR H 9 [.slice none 0 0, .slice none 0 0, .slice none 0 0] Try.sizeOf41 fun w83 H => ?_)
   try dsimp only [List.set] at H
   refine sps [.int .i64 0, .int .i64 ((zf s u (xY s u)).2)] ?_
   refine qA (t_n (xE (t_r (b_r (t_r (b_r (t_r ?_)))))))
   replace H := H.nilRowB 4
   replace H := H.nilRow 22 1
   replace H := H.Xh (α := List Int)
   replace H := H.nilRowI 2
   refine retC3 H 12 rfl (.int .i64 0) (.int .i64 ((zf s u (xY s u)).2)) rfl Try.isAgg41 Try.sizeOf41 rfl rfl rfl ⟨_, rfl, ?_, H.base⟩
   rw [kr, runGo_bad (by omega) ‹¬ Halted s u› ‹_›]
   exact ⟨none, 0, 0, none, 0, 0, [], [], none, 0, 0, rfl, (N.emp.pick [0]), H.pick [2, 1, 0] [0]⟩
  replace h82 := xP h82
  refine xy (t_n (qo (qB ?_)))
  refine sw (zu [.slice ra71aAlive ((((zf s u (xY s u)).1).qh).length) rc71aAlive, .slice ra71aBags ((((zf s u (xY s u)).1).qp).length) rc71aBags, .slice ra71aAround ((((zf s u (xY s u)).1).ql).length) rc71aAround] Try.isAgg41 Try.sizeOf41 rfl (qH (H.cells 0 rfl) 0 3) ?_)
  refine sw (xR H 5 [.slice ra71aAlive ((((zf s u (xY s u)).1).qh).length) rc71aAlive, .slice ra71aBags ((((zf s u (xY s u)).1).qp).length) rc71aBags, .slice ra71aAround ((((zf s u (xY s u)).1).ql).length) rc71aAround] Try.sizeOf41 fun w84 H => ?_)
  try dsimp only [List.set] at H
  refine qA (t_n (qB ?_))
  refine sp (.int .i64 made) ?_
  refine sw (vz made 1 rfl rfl (by omega) ?_)
  refine sp (.int .i64 (made + 1)) ?_
  refine qA (b_n ?_)
  refine xH (m' := (steps - (made + 1)).toNat) (by omega) ⟨_, made + 1, ra71aAlive, (((zf s u (xY s u)).1).qh).length, rc71aAlive, ((zf s u (xY s u)).1).qh, ra71aBags, (((zf s u (xY s u)).1).qp).length, rc71aBags, ((zf s u (xY s u)).1).qp, rx71aBags, rF71aBags, ra71aAround, (((zf s u (xY s u)).1).ql).length, rc71aAround, ((zf s u (xY s u)).1).ql, (zf s u (xY s u)).1, (by exact qj (qj (qj (qj (qj (rfl) rfl) rfl) rfl) rfl) rfl), ?_, ?_, ?_, ?_, ?_, ?_, rfl, (N.pick [0]), H.pick [5, 1, 2, 3, 9, 10, 11] [0, 2, 3, 4, 5, 6]⟩
  · rfl
  · rfl
  · rfl
  · exact stepBy_ok ‹_›
  · omega
  · exact kr.trans (runGo_go (by omega) ‹¬ Halted s u› ‹_›)
 replace h43 := qY h43
 replace h43 := jZ h43
 refine ve (t_x (t_x (b_x (t_n (qo (qB ?_))))))
 refine sw (zu [.slice zn zD zl, .slice zC zQ zB, .slice xX zq xW] Try.isAgg41 Try.sizeOf41 rfl (qH (H.cells 0 rfl) 0 3) ?_)
 refine sp (.int .i64 made) ?_
 refine sw (xR H 4 [.slice zn zD zl, .slice zC zQ zB, .slice xX zq xW] Try.sizeOf41 fun w85 H => ?_)
 try dsimp only [List.set] at H
 refine sps [.int .i64 made, .int .i64 0] ?_
 refine qA (t_n (xE ?_))
 refine retC3 H 4 rfl (.int .i64 made) (.int .i64 0) rfl Try.isAgg41 Try.sizeOf41 rfl rfl rfl ⟨_, rfl, ?_, H.base⟩
 first | rw [kr, runGo_end (by omega)] | rw [kr, runGo_halt ‹Halted s u›]
 exact ⟨zn, zD, zl, zC, zQ, zB, QM, yL, xX, zq, xW, rfl, N, H.pick [1, 2, 3] [0]⟩

end Go.Proofs.Ytkmlihdacnfhdaa
