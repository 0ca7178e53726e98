/- Walks, printed by program (wip/tools/gv.py): what each function comes to, for all arguments. -/
import Derived.Test.YtgjnaocffdhnbaaGreatG4
import Derived.Test.YtgjnaocffdhnbaaGreatQ
import Derived.Test.YtgjnaocffdhnbaaGreatP2
import Derived.Test.YtgjnaocffdhnbaaGreatI
import Derived.Test.YtgjnaocffdhnbaaGreatTI
namespace Go.Proofs.YtgjnaocffdhnbaaGreat
set_option linter.unusedVariables false
set_option linter.unusedSimpArgs false
open Go.Proofs.YtgjnaocffdhnbaaGreat.Tot (tot)
open Go.Proofs.YtgjnaocffdhnbaaGreat.Mark (cnt mrk mkd mkd_mark cnt_mark)
open Go.RowKit
set_option linter.unusedVariables false
set_option linter.unusedSimpArgs false
set_option maxRecDepth 100000
set_option maxHeartbeats 4000000

instance iC173_G6 : Qn Tryz.prog 173 := ⟨Tryz.call173⟩
instance iC105_G6 : Qn Tryz.prog 105 := ⟨Tryz.call105⟩
instance iC174_G6 : Qn Tryz.prog 174 := ⟨Tryz.call174⟩
instance iC106_G6 : Qn Tryz.prog 106 := ⟨Tryz.call106⟩


theorem isShell_ok (w : World) (s : qK) (qx : Option Addr) (qp : Nat) (xn : List Nat) (qN : Option Addr) (qL : Nat) (xG : List Nat) (xh : qE.rep w xn [.slice qx s.qf.length qp] s.qf) (xE : qE.rep w xG [.slice qN s.qh.length qL] s.qh) : Calls Tryz.prog 138 #[.agg #[.int .i64 s.qH, .slice qx s.qf.length qp, .slice qN s.qh.length qL]] w (Ret (fun v w' => v = .bool (dec (yt s))) w) := by
 refine en Tryz.func138 Tryz.ntmps138 ?_
 have H := ((St.start w).arg xE).arg xh
 have zU := qA xh
 have jD := qA xE
 clear xh xE
 have N := Fresh.nil w.heap.size
 refine qi (ql ?_)
 refine sw (zh H [.int .i64 s.qH, .slice qx s.qf.length qp, .slice qN s.qh.length qL] fun b1 w2 H => ?_)
 refine sp (.bool false) ?_
 refine qj (t_n (qi (qi (ql ?_))))
 refine oF rfl ?_
 refine oL rfl (H.cell 0 rfl rfl) ?_
 refine sw (oc (XD w2 s.qH 1 8) ?_)
 rintro _ w3 rfl x4
 replace H := H.ext x4
 refine sps [.bool (!(inR s.qH 1 8)), .bool (!(inR s.qH 1 8))] ?_
 cases h5 : (!(inR s.qH 1 8))
 ·skip
  replace h5 := qJ h5
  replace h5 := yV.1 h5
  refine qB 9 rfl rfl ?_
  refine oF rfl ?_
  refine qB 9 rfl rfl ?_
  refine oL rfl (H.cell 0 rfl rfl) ?_
  refine qB 9 rfl rfl ?_
  refine sw (oc (sizeI_ok _ s.qf _ _ _ (H.get 0 rfl).1) ?_)
  rintro _ w6 rfl x7
  replace H := H.ext x7
  refine qB 9 rfl rfl ?_
  refine sw (oc (XD w6 (s.qf.length : Int) 1 6) ?_)
  rintro _ w8 rfl x9
  replace H := H.ext x9
  refine qB 9 rfl rfl ?_
  refine sps [.bool (!(inR (s.qf.length : Int) 1 6)), .bool (!(inR (s.qf.length : Int) 1 6)), .bool (!(inR (s.qf.length : Int) 1 6))] ?_
  cases h10 : (!(inR (s.qf.length : Int) 1 6))
  ·skip
   replace h10 := qJ h10
   replace h10 := yV.1 h10
   refine qB 16 rfl rfl ?_
   refine oF rfl ?_
   refine qB 16 rfl rfl ?_
   refine oL rfl (H.cell 0 rfl rfl) ?_
   refine qB 16 rfl rfl ?_
   obtain ⟨b11, o12, rfl⟩ := H.addr 0 rfl (by omega)
   refine oI rfl rfl ?_
   refine qB 16 rfl rfl ?_
   refine oL rfl (H.vT 0 rfl 0 (by omega) (by omega)) ?_
   refine qB 16 rfl rfl ?_
   refine sps [.bool ((s.qf[0]! : Int) != (-1)), .bool ((s.qf[0]! : Int) != (-1))] ?_
   refine qj (t_n ?_)
   refine qC ((s.qf[0]! : Int) != (-1)) rfl (fun h14 => ?_) (fun h14 => ?_)
   ·skip
    replace h14 := bne_iff_ne.1 h14
    refine qi (ql ?_)
    refine sp (.bool false) ?_
    refine qj (t_n (qV (t_r ?_)))
    refine ret1 (.bool false) rfl rfl ⟨_, rfl, ?_, H.base⟩
    rw [qY (fun h => by obtain ⟨h1, h2, h3, h4⟩ := h; first | omega | (have := h4 (c + 1) (by omega) (by omega); rw [← dg (by omega)] at this; omega))]
   replace h14 := xw h14
   refine qM (t_n (qi (qi (ql ?_))))
   refine oF rfl ?_
   refine oL rfl (H.cell 0 rfl rfl) ?_
   refine sw (o_tail H 0 rfl 1 Tryz.underlying22 ti2 rfl (by omega) fun a15 G16 hG17 H => ?_)
   have hl18 : (s.qf.drop 1).length = s.qf.length - 1 := List.length_drop
   refine oN rfl ?_
   refine sp (.int .i64 0) ?_
   refine qj (t_n (qW ?_))
   refine zf (fun m' ρ w19 => ∃ (junk : Env) (c : Nat), ρ = upd (upd (upd junk 25 (.slice a15 ((s.qf.drop 1).length) (qp - 1))) 26 (.int .i64 ((s.qf.drop 1).length))) 27 (.int .i64 c) ∧ ((c : Int) ≤ ((s.qf.drop 1).length)) ∧ (FrameTo s (c + 1)) ∧ m' = (((s.qf.drop 1).length) - (c : Int)).toNat ∧ Fresh w.heap.size [] ∧ St w w19 [.box b1 [.int .i64 s.qH, .slice (aa b11 o12) s.qf.length qp, .slice qN s.qh.length qL] 36] [isF false G16 (.slice a15 ((s.qf.drop 1).length) (qp - 1)) (s.qf.drop 1), isF false xn (.slice (aa b11 o12) s.qf.length qp) s.qf, isF false xG (.slice qN s.qh.length qL) s.qh]) ((((s.qf.drop 1).length) - (0 : Int)).toNat) ⟨_, 0, (by exact qg (qg (qg (rfl) rfl) rfl) rfl), (by omega), (by exact FrameTo.one s), rfl, N, H⟩ ?_
   clear H N
   rintro m' ρ w20 ⟨junk, c, rfl, i0, i1, rfl, N, H⟩
   have dg := drop_get (l := s.qf) (k := c)
   refine qi (ql ?_)
   refine sp (.bool (decide ((c : Int) < ((s.qf.drop 1).length)))) ?_
   refine qj (t_n (qi ?_))
   refine qC (decide ((c : Int) < ((s.qf.drop 1).length))) rfl (fun h21 => ?_) (fun h21 => ?_)
   ·skip
    replace h21 := of_decide_eq_true h21
    refine qM (t_n (qi (qW (qi (ql ?_)))))
    refine sp (.int .i64 c) ?_
    obtain ⟨b22, o23, rfl⟩ := H.addr 0 rfl (by omega)
    refine oI rfl rfl ?_
    refine oL rfl (H.vT 0 rfl c (by omega) (by omega)) ?_
    refine sps [.int .i64 c, .int .i64 ((s.qf.drop 1)[c]!)] ?_
    refine qj (t_n (qi (ql ?_)))
    refine sps [.int .i64 ((s.qf.drop 1)[c]!), .int .i64 c] ?_
    refine sw (oc (XD w20 ((s.qf.drop 1)[c]!) 0 c) ?_)
    rintro _ w25 rfl x26
    replace H := H.ext x26
    refine sp (.bool (!(inR ((s.qf.drop 1)[c]!) 0 c))) ?_
    refine qj (t_n ?_)
    refine qC (!(inR ((s.qf.drop 1)[c]!) 0 c)) rfl (fun h27 => ?_) (fun h27 => ?_)
    ·skip
     replace h27 := qP h27
     replace h27 := QP h27
     refine qi (ql ?_)
     refine sp (.bool false) ?_
     refine qj (t_n (qV (b_r (t_r (t_r (b_r (t_r ?_)))))))
     refine ret1 (.bool false) rfl rfl ⟨_, rfl, ?_, H.base⟩
     rw [qY (fun h => by obtain ⟨h1, h2, h3, h4⟩ := h; first | omega | (have := h4 (c + 1) (by omega) (by omega); rw [← dg (by omega)] at this; omega))]
    replace h27 := qJ h27
    replace h27 := yV.1 h27
    refine qM (b_n (t_n (ql ?_)))
    refine sw (zk c 1 rfl rfl (by omega) ?_)
    refine sp (.int .i64 (c + 1)) ?_
    refine qj ?_
    refine xk (m' := (((s.qf.drop 1).length) - ((c + 1) : Int)).toNat) (by omega) ⟨_, c + 1, (by exact qg (qg (qg (rfl) rfl) rfl) rfl), ?_, ?_, rfl, N, H⟩
    · omega
    · exact i1.succ (by rw [← dg (by omega)]; omega)
   replace h21 := of_decide_eq_false h21
   refine xQ (t_x (t_x (b_x (t_n (qi (ql ?_))))))
   refine sp (.bool true) ?_
   refine qj (t_n (qV ?_))
   refine ret1 (.bool true) rfl rfl ⟨_, rfl, ?_, H.base⟩
   rw [jE ⟨by omega, by omega, by omega, (show s.qf.length = c + 1 by omega) ▸ i1⟩]
  replace h10 := qP h10
  replace h10 := QP h10
  refine xF [17, 18, 19, 20, 21] ?_
  refine sp (.bool true) ?_
  refine qj (t_n ?_)
  refine qC true rfl (fun _ => ?_) (fun h => absurd h (by decide))
  refine qi (ql ?_)
  refine sp (.bool false) ?_
  refine qj (t_n (qV (t_r ?_)))
  refine ret1 (.bool false) rfl rfl ⟨_, rfl, ?_, H.base⟩
  rw [qY (fun h => by obtain ⟨h1, h2, h3, h4⟩ := h; first | omega | (have := h4 (c + 1) (by omega) (by omega); rw [← dg (by omega)] at this; omega))]
 replace h5 := qP h5
 replace h5 := QP h5
 refine xF [10, 11, 12, 13, 14] ?_
 refine sps [.bool true, .bool true] ?_
 refine xF [17, 18, 19, 20, 21] ?_
 refine sp (.bool true) ?_
 refine qj (t_n ?_)
 refine qC true rfl (fun _ => ?_) (fun h => absurd h (by decide))
 refine qi (ql ?_)
 refine sp (.bool false) ?_
 refine qj (t_n (qV (t_r ?_)))
 refine ret1 (.bool false) rfl rfl ⟨_, rfl, ?_, H.base⟩
 rw [qY (fun h => by obtain ⟨h1, h2, h3, h4⟩ := h; first | omega | (have := h4 (c + 1) (by omega) (by omega); rw [← dg (by omega)] at this; omega))]

theorem isCell_ok (w : World) (s : qK) (c : Int) (qx : Option Addr) (qp : Nat) (xn : List Nat) (qN : Option Addr) (qL : Nat) (xG : List Nat) (xh : qE.rep w xn [.slice qx s.qf.length qp] s.qf) (xE : qE.rep w xG [.slice qN s.qh.length qL] s.qh) : Calls Tryz.prog 173 #[.agg #[.int .i64 s.qH, .slice qx s.qf.length qp, .slice qN s.qh.length qL], .int .i64 c] w (Ret (fun v w' => v = .bool (inR c 0 ((s.qf.length : Int) - 1))) w) := by
 refine en Tryz.func173 Tryz.ntmps173 ?_
 have H := ((St.start w).arg xE).arg xh
 have zU := qA xh
 have jD := qA xE
 clear xh xE
 have N := Fresh.nil w.heap.size
 refine qi (ql ?_)
 refine sw (zh H [.int .i64 s.qH, .slice qx s.qf.length qp, .slice qN s.qh.length qL] fun b1 w2 H => ?_)
 refine sp (.bool false) ?_
 refine qj (t_n (qi (ql ?_)))
 refine sp (.int .i64 c) ?_
 refine oF rfl ?_
 refine oL rfl (H.cell 0 rfl rfl) ?_
 refine sw (oc (sizeI_ok _ s.qf _ _ _ (H.get 0 rfl).1) ?_)
 rintro _ w3 rfl x4
 replace H := H.ext x4
 refine sw (o_sub (s.qf.length : Int) 1 rfl rfl (by omega) ?_)
 refine sw (oc (XD w3 c 0 ((s.qf.length : Int) - 1)) ?_)
 rintro _ w5 rfl x6
 replace H := H.ext x6
 refine sp (.bool (inR c 0 ((s.qf.length : Int) - 1))) ?_
 refine qj (t_n (qV ?_))
 refine ret1 (.bool (inR c 0 ((s.qf.length : Int) - 1))) rfl rfl ⟨_, rfl, ?_, H.base⟩
 rfl

theorem lies_ok (w : World) (s : qK) (c : Int) (within : Int) (qx : Option Addr) (qp : Nat) (xn : List Nat) (qN : Option Addr) (qL : Nat) (xG : List Nat) (xh : qE.rep w xn [.slice qx s.qf.length qp] s.qf) (xE : qE.rep w xG [.slice qN s.qh.length qL] s.qh) (p0 : yt s) (p1 : CellIn s c) : Calls Tryz.prog 174 #[.agg #[.int .i64 s.qH, .slice qx s.qf.length qp, .slice qN s.qh.length qL], .int .i64 c, .int .i64 within] w (Ret (fun v w' => v = .bool (dec (Lies s.qf within c))) w) := by
 refine en Tryz.func174 Tryz.ntmps174 ?_
 have H := ((St.start w).arg xE).arg xh
 have zU := qA xh
 have jD := qA xE
 clear xh xE
 have N := Fresh.nil w.heap.size
 have p2 := p0.step p1.1 p1.2
 refine qi (ql ?_)
 refine sw (zh H [.int .i64 s.qH, .slice qx s.qf.length qp, .slice qN s.qh.length qL] fun b1 w2 H => ?_)
 refine sp (.bool false) ?_
 refine qj (t_n (qi (qi (ql ?_))))
 refine oF rfl ?_
 refine oL rfl (H.cell 0 rfl rfl) ?_
 refine sp (.int .i64 c) ?_
 obtain ⟨b3, o4, rfl⟩ := H.addr 0 rfl (by omega)
 refine oI rfl rfl ?_
 refine oL rfl (H.vT 0 rfl c (by omega) (by omega)) ?_
 refine sp (.int .i64 (s.qf[c.toNat]!)) ?_
 refine qj (t_n (qW ?_))
 refine zf (fun m' ρ w6 => ∃ (junk : Env) (c_1 : Int), ρ = upd (upd (upd junk 1 (.int .i64 c_1)) 2 (.int .i64 within)) 3 (pp b1 0) ∧ (-1 ≤ c_1 ∧ c_1 ≤ (s.qf.length : Int) - 1) ∧ (Lies s.qf within c ↔ 0 ≤ c_1 ∧ (c_1 = within ∨ Lies s.qf within c_1)) ∧ m' = (c_1 + 1).toNat ∧ Fresh w.heap.size [] ∧ St w w6 [.box b1 [.int .i64 s.qH, .slice (aa b3 o4) s.qf.length qp, .slice qN s.qh.length qL] 36] [isF false xn (.slice (aa b3 o4) s.qf.length qp) s.qf, isF false xG (.slice qN s.qh.length qL) s.qh]) (((s.qf[c.toNat]!) + 1).toNat) ⟨_, s.qf[c.toNat]!, (by exact qg (qg (qg (rfl) rfl) rfl) rfl), (by omega), (by exact lies_up p0 p1), rfl, N, H⟩ ?_
 clear H N
 rintro m' ρ w7 ⟨junk, c_1, rfl, i0, i1, rfl, N, H⟩
 have up := fun h => p0.step (c := c_1) h i0.2
 refine qi (qi (ql ?_))
 refine sps [.int .i64 c_1, .bool (decide ((c_1 : Int) ≥ 0))] ?_
 refine qj (t_n ?_)
 refine qC (decide ((c_1 : Int) ≥ 0)) rfl (fun h8 => ?_) (fun h8 => ?_)
 ·skip
  replace h8 := of_decide_eq_true h8
  refine qM (t_n (qi (qW (qi (ql ?_)))))
  refine sps [.int .i64 c_1, .int .i64 within, .bool ((c_1 : Int) == within)] ?_
  refine qj (t_n ?_)
  refine qC ((c_1 : Int) == within) rfl (fun h9 => ?_) (fun h9 => ?_)
  ·skip
   replace h9 := eq_of_beq h9
   refine qi (ql ?_)
   refine sp (.bool true) ?_
   refine qj (t_n (qV (b_r (t_r (t_r (b_r (t_r ?_)))))))
   refine ret1 (.bool true) rfl rfl ⟨_, rfl, ?_, H.base⟩
   rw [jE (i1.2 ⟨by omega, .inl ‹_›⟩)]
  replace h9 := ne_of_beq_false h9
  refine qM (b_n (t_n (ql ?_)))
  refine oF rfl ?_
  refine oL rfl (H.cell 0 rfl rfl) ?_
  refine sp (.int .i64 c_1) ?_
  refine oI rfl rfl ?_
  refine oL rfl (H.vT 0 rfl c_1 (by omega) (by omega)) ?_
  refine sp (.int .i64 (s.qf[c_1.toNat]!)) ?_
  refine qj ?_
  have up1 := up (by omega)
  refine xk (m' := ((s.qf[c_1.toNat]!) + 1).toNat) (by omega) ⟨_, s.qf[c_1.toNat]!, (by exact qg (qg (qg (rfl) rfl) rfl) rfl), ?_, ?_, rfl, N, H⟩
  · omega
  · exact i1.trans ⟨fun h => (lies_up p0 ⟨by omega, by omega⟩).1 (h.2.resolve_left ‹_›), fun h => ⟨by omega, .inr ((lies_up p0 ⟨by omega, by omega⟩).2 h)⟩⟩
 replace h8 := of_decide_eq_false h8
 refine xQ (t_x (t_x (b_x (t_n (qi (ql ?_))))))
 refine sp (.bool false) ?_
 refine qj (t_n (qV ?_))
 refine ret1 (.bool false) rfl rfl ⟨_, rfl, ?_, H.base⟩
 rw [qY (fun h => by have := (i1.1 h).1; omega)]

theorem isRule_ok (w : World) (s : qK) (r : Qm) (qx : Option Addr) (qp : Nat) (xn : List Nat) (qN : Option Addr) (qL : Nat) (xG : List Nat) (ja : Option Addr) (vU : Nat) (Xl : List Nat) (jd : Option Addr) (vX : Nat) (Xo : List Nat) (jb : Option Addr) (vV : Nat) (Xm : List Nat) (jc : Option Addr) (vW : Nat) (Xn : List Nat) (yK : Option Addr) (yJ : Nat) (FrOut : List Nat) (vz : Option Addr) (vw : Nat) (FrInto : List Nat) (xh : qE.rep w xn [.slice qx s.qf.length qp] s.qf) (xE : qE.rep w xG [.slice qN s.qh.length qL] s.qh) (hrNeed : qE.rep w Xl [.slice ja r.qO.length vU] r.qO) (hrHave : qE.rep w Xo [.slice jd r.qX.length vX] r.qX) (hrLack : qE.rep w Xm [.slice jb r.xe.length vV] r.xe) (hrHere : qE.rep w Xn [.slice jc r.xm.length vW] r.xm) (hrOut : qE.rep w FrOut [.slice yK r.xZ.length yJ] r.xZ) (hrInto : qE.rep w FrInto [.slice vz r.qF.length vw] r.qF) (p0 : yt s) : Calls Tryz.prog 139 #[.agg #[.int .i64 s.qH, .slice qx s.qf.length qp, .slice qN s.qh.length qL], .agg #[.int .i64 r.qw, .int .i64 r.xN, .slice ja r.qO.length vU, .slice jd r.qX.length vX, .slice jb r.xe.length vV, .slice jc r.xm.length vW, .slice yK r.xZ.length yJ, .slice vz r.qF.length vw, .bool r.xO]] w (Ret (fun v w' => v = .bool (dec (RuleOk s r))) w) := by
 refine en Tryz.func139 Tryz.ntmps139 ?_
 have H := ((((((((St.start w).arg hrInto).arg hrOut).arg hrHere).arg hrLack).arg hrHave).arg hrNeed).arg xE).arg xh
 have zU := qA xh
 have jD := qA xE
 have nhrNeed := qA hrNeed
 have nhrHave := qA hrHave
 have nhrLack := qA hrLack
 have nhrHere := qA hrHere
 have nhrOut := qA hrOut
 have nhrInto := qA hrInto
 clear xh xE hrNeed hrHave hrLack hrHere hrOut hrInto
 have N := Fresh.nil w.heap.size
 refine qi (ql ?_)
 refine sw (zh H [.int .i64 s.qH, .slice qx s.qf.length qp, .slice qN s.qh.length qL] fun b1 w2 H => ?_)
 refine sw (zh H [.int .i64 r.qw, .int .i64 r.xN, .slice ja r.qO.length vU, .slice jd r.qX.length vX, .slice jb r.xe.length vV, .slice jc r.xm.length vW, .slice yK r.xZ.length yJ, .slice vz r.qF.length vw, .bool r.xO] fun b3 w4 H => ?_)
 refine sp (.bool false) ?_
 refine qj (t_n (qi (qi (ql ?_))))
 refine sw (zC [.int .i64 s.qH, .slice qx s.qf.length qp, .slice qN s.qh.length qL] Tryz.isAgg36 Tryz.sizeOf36 rfl (qI (H.cells 1 rfl) 0 3) ?_)
 refine oF rfl ?_
 refine oL rfl (H.cell 0 rfl rfl) ?_
 refine sw (oc (isCell_ok _ s r.qw _ _ _ _ _ _ (H.get 0 rfl).1 (H.get 1 rfl).1) ?_)
 rintro _ w6 rfl x7
 replace H := H.ext x7
 refine sps [.bool (!(inR r.qw 0 ((s.qf.length : Int) - 1))), .bool (!(inR r.qw 0 ((s.qf.length : Int) - 1)))] ?_
 cases h8 : (!(inR r.qw 0 ((s.qf.length : Int) - 1)))
 ·skip
  replace h8 := qJ h8
  replace h8 := yV.1 h8
  refine qB 14 rfl rfl ?_
  refine oF rfl ?_
  refine qB 14 rfl rfl ?_
  refine oL rfl (H.cell 0 rfl rfl) ?_
  refine qB 14 rfl rfl ?_
  refine sw (oc (XD w6 r.xN 0 9) ?_)
  rintro _ w9 rfl x10
  replace H := H.ext x10
  refine qB 14 rfl rfl ?_
  refine sps [.bool (!(inR r.xN 0 9)), .bool (!(inR r.xN 0 9)), .bool (!(inR r.xN 0 9))] ?_
  cases h11 : (!(inR r.xN 0 9))
  ·skip
   replace h11 := qJ h11
   replace h11 := yV.1 h11
   refine qB 20 rfl rfl ?_
   refine oF rfl ?_
   refine qB 20 rfl rfl ?_
   refine oL rfl (H.cell 0 rfl rfl) ?_
   refine qB 20 rfl rfl ?_
   refine sp (.bool r.xO) ?_
   cases h12 : (r.xO)
   ·skip
    rw [h12] at H
    refine xF [24, 25, 26] ?_
    refine qB 20 rfl rfl ?_
    refine sps [.bool false, .bool false, .bool false] ?_
    refine qB 29 rfl rfl ?_
    refine oF rfl ?_
    refine qB 29 rfl rfl ?_
    refine oL rfl (H.cell 0 rfl rfl) ?_
    refine qB 29 rfl rfl ?_
    refine oN rfl ?_
    refine qB 29 rfl rfl ?_
    refine sps [.bool (decide ((r.qF.length : Int) > 3)), .bool (decide ((r.qF.length : Int) > 3))] ?_
    refine qj (t_n ?_)
    refine qC (decide ((r.qF.length : Int) > 3)) rfl (fun h13 => ?_) (fun h13 => ?_)
    ·skip
     replace h13 := of_decide_eq_true h13
     refine qi (ql ?_)
     refine sp (.bool false) ?_
     refine qj (t_n (qV (t_r ?_)))
     refine ret1 (.bool false) rfl rfl ⟨_, rfl, ?_, H.base⟩
     rw [qY (fun h => by obtain ⟨h1, h2, h3, h4, h5, h6, h7, h8, h9, h10, h11⟩ := h; first | contradiction | omega | exact h3 ⟨‹_›, ‹_›⟩ | (obtain ⟨q1, q2, q3, q4, q5⟩ := h11 i (by omega); first | contradiction | omega | (have := q5 (by omega); omega)) | (refine absurd ?_ ‹¬ zg _ _›; rcases (show k = 0 ∨ k = 1 ∨ k = 2 ∨ k = 3 ∨ k = 4 by omega) with e | e | e | e | e <;> subst e <;> assumption))]
    replace h13 := of_decide_eq_false h13
    refine qM (t_n (qi (qi (ql ?_))))
    refine oF rfl ?_
    refine oL rfl (H.cell 0 rfl rfl) ?_
    refine oF rfl ?_
    refine oL rfl (H.cell 0 rfl rfl) ?_
    refine oF rfl ?_
    refine oL rfl (H.cell 0 rfl rfl) ?_
    refine oF rfl ?_
    refine oL rfl (H.cell 0 rfl rfl) ?_
    refine oF rfl ?_
    refine oL rfl (H.cell 0 rfl rfl) ?_
    refine sw (o_buildF H Tryz.underlying27 ti22 [.slice ja r.qO.length vU, .slice jd r.qX.length vX, .slice jb r.xe.length vV, .slice jc r.xm.length vW, .slice yK r.xZ.length yJ] rfl (by simp [Value.cells]) rfl (by decide) (by decide) fun b14 w15 H => ?_)
    refine oN rfl ?_
    refine sp (.int .i64 0) ?_
    refine qj (t_n (qW ?_))
    replace H := H.boxRow 0 rfl 1 5 rfl (by decide)
    try dsimp only [List.set] at H
    replace H := H.jq (α := List Int)
    replace H := H.Xq false 7 rfl 0 rfl (by simp)
    replace H := H.Xq false 7 rfl 0 rfl (by simp)
    replace H := H.Xq false 7 rfl 0 rfl (by simp)
    replace H := H.Xq false 7 rfl 0 rfl (by simp)
    replace H := H.Xq false 7 rfl 0 rfl (by simp)
    refine zf (fun m' ρ w16 => ∃ (junk : Env) (k : Nat), ρ = upd (upd (upd (upd (upd junk 2 (pp b1 0)) 3 (pp b3 0)) 45 (.slice (aa b14 0) 5 5)) 46 (.int .i64 5)) 47 (.int .i64 k) ∧ ((k : Int) ≤ 5) ∧ (∀ j, j < k → zg s.qH ([r.qO, r.qX, r.xe, r.xm, r.xZ][j]!)) ∧ m' = (5 - (k : Int)).toNat ∧ Fresh w.heap.size [] ∧ St w w16 [.row (.slice (aa b14 0) 5 5) 22 1 5 [.slice ja r.qO.length vU, .slice jd r.qX.length vX, .slice jb r.xe.length vV, .slice jc r.xm.length vW, .slice yK r.xZ.length yJ], .box b3 [.int .i64 r.qw, .int .i64 r.xN, .slice ja r.qO.length vU, .slice jd r.qX.length vX, .slice jb r.xe.length vV, .slice jc r.xm.length vW, .slice yK r.xZ.length yJ, .slice vz r.qF.length vw, .bool false] 121, .box b1 [.int .i64 s.qH, .slice qx s.qf.length qp, .slice qN s.qh.length qL] 36] [zn false (Xl ++ (Xo ++ (Xm ++ (Xn ++ (FrOut ++ []))))) [.slice ja r.qO.length vU, .slice jd r.qX.length vX, .slice jb r.xe.length vV, .slice jc r.xm.length vW, .slice yK r.xZ.length yJ] [r.qO, r.qX, r.xe, r.xm, r.xZ], isF false xn (.slice qx s.qf.length qp) s.qf, isF false xG (.slice qN s.qh.length qL) s.qh, isF false Xl (.slice ja r.qO.length vU) r.qO, isF false Xo (.slice jd r.qX.length vX) r.qX, isF false Xm (.slice jb r.xe.length vV) r.xe, isF false Xn (.slice jc r.xm.length vW) r.xm, isF false FrOut (.slice yK r.xZ.length yJ) r.xZ, isF false FrInto (.slice vz r.qF.length vw) r.qF]) ((5 - (0 : Int)).toNat) ⟨_, 0, (by exact qg (qg (qg (qg (qg (rfl) rfl) rfl) rfl) rfl) rfl), (by omega), (by intro j hj; omega), rfl, N, H.pick [0, 1, 2] [0, 6, 7, 8, 9, 10, 11, 12, 13]⟩ ?_
    clear H N
    rintro m' ρ w17 ⟨junk, k, rfl, i0, i1, rfl, N, H⟩
    refine qi (ql ?_)
    refine sp (.bool (decide ((k : Int) < 5))) ?_
    refine qj (t_n (qi ?_))
    refine qC (decide ((k : Int) < 5)) rfl (fun h18 => ?_) (fun h18 => ?_)
    ·skip
     replace h18 := of_decide_eq_true h18
     refine qM (t_n (qi (qW (qi (ql ?_)))))
     refine oI rfl rfl ?_
     obtain ⟨a19, c20, G21, s22, h23, H⟩ := H.rowElemL 0 rfl 0 rfl (iv := k) k (by omega) (by omega)
     refine oL rfl (h23) ?_
     refine sp (.slice a19 (([r.qO, r.qX, r.xe, r.xm, r.xZ][k]!).length) c20) ?_
     refine qj (t_n (qi (ql ?_)))
     refine oF rfl ?_
     refine oL rfl (H.cell 2 rfl rfl) ?_
     refine sp (.slice a19 (([r.qO, r.qX, r.xe, r.xm, r.xZ][k]!).length) c20) ?_
     refine sw (oc (Xv _ s.qH ([r.qO, r.qX, r.xe, r.xm, r.xZ][k]!) _ _ _ (H.get 0 rfl).1) ?_)
     rintro _ w24 rfl x25
     replace H := H.ext x25
     refine sp (.bool (!(dec (zg s.qH ([r.qO, r.qX, r.xe, r.xm, r.xZ][k]!))))) ?_
     refine qj (t_n ?_)
     refine qC (!(dec (zg s.qH ([r.qO, r.qX, r.xe, r.xm, r.xZ][k]!)))) rfl (fun h26 => ?_) (fun h26 => ?_)
     ·skip
      replace h26 := qP h26
      replace h26 := xI h26
      refine qi (ql ?_)
      refine sp (.bool false) ?_
      refine qj (t_n (qV (b_r (t_r (t_r (b_r (t_r ?_)))))))
      refine ret1 (.bool false) rfl rfl ⟨_, rfl, ?_, H.base⟩
      rw [qY (fun h => by obtain ⟨h1, h2, h3, h4, h5, h6, h7, h8, h9, h10, h11⟩ := h; first | contradiction | omega | exact h3 ⟨‹_›, ‹_›⟩ | (obtain ⟨q1, q2, q3, q4, q5⟩ := h11 i (by omega); first | contradiction | omega | (have := q5 (by omega); omega)) | (refine absurd ?_ ‹¬ zg _ _›; rcases (show k = 0 ∨ k = 1 ∨ k = 2 ∨ k = 3 ∨ k = 4 by omega) with e | e | e | e | e <;> subst e <;> assumption))]
     replace h26 := qJ h26
     replace h26 := vC h26
     refine qM (b_n (t_n (ql ?_)))
     refine sw (zk k 1 rfl rfl (by omega) ?_)
     refine sp (.int .i64 (k + 1)) ?_
     refine qj ?_
     refine xk (m' := (5 - ((k + 1) : Int)).toNat) (by omega) ⟨_, k + 1, (by exact qg (qg (qg (qg (qg (rfl) rfl) rfl) rfl) rfl) rfl), ?_, ?_, rfl, N, H.pick [0, 1, 2] [1, 2, 3, 4, 5, 6, 7, 8, 9]⟩
     · omega
     · intro j hj; by_cases e : j = k; (subst e; assumption); exact i1 j (by omega)
    replace h18 := of_decide_eq_false h18
    refine xQ (t_x (t_x (b_x (t_n (qi (qi (ql ?_)))))))
    refine oF rfl ?_
    refine oL rfl (H.cell 1 rfl rfl) ?_
    refine oN rfl ?_
    refine sp (.int .i64 0) ?_
    refine qj (t_n (qW ?_))
    have n1 : zg s.qH r.qO := i1 0 (by omega)
    have n2 : zg s.qH r.qX := i1 1 (by omega)
    have n3 : zg s.qH r.xe := i1 2 (by omega)
    have n4 : zg s.qH r.xm := i1 3 (by omega)
    have n5 : zg s.qH r.xZ := i1 4 (by omega)
    refine zf (fun m' ρ w27 => ∃ (junk : Env) (i : Nat), ρ = upd (upd (upd (upd (upd junk 2 (pp b1 0)) 3 (pp b3 0)) 58 (.slice vz r.qF.length vw)) 59 (.int .i64 r.qF.length)) 60 (.int .i64 i) ∧ ((i : Int) ≤ r.qF.length) ∧ (IntosTo s r i) ∧ m' = (r.qF.length - (i : Int)).toNat ∧ Fresh w.heap.size [] ∧ St w w27 [.row (.slice (aa b14 0) 5 5) 22 1 5 [.slice ja r.qO.length vU, .slice jd r.qX.length vX, .slice jb r.xe.length vV, .slice jc r.xm.length vW, .slice yK r.xZ.length yJ], .box b3 [.int .i64 r.qw, .int .i64 r.xN, .slice ja r.qO.length vU, .slice jd r.qX.length vX, .slice jb r.xe.length vV, .slice jc r.xm.length vW, .slice yK r.xZ.length yJ, .slice vz r.qF.length vw, .bool false] 121, .box b1 [.int .i64 s.qH, .slice qx s.qf.length qp, .slice qN s.qh.length qL] 36] [zn false (Xl ++ (Xo ++ (Xm ++ (Xn ++ (FrOut ++ []))))) [.slice ja r.qO.length vU, .slice jd r.qX.length vX, .slice jb r.xe.length vV, .slice jc r.xm.length vW, .slice yK r.xZ.length yJ] [r.qO, r.qX, r.xe, r.xm, r.xZ], isF false xn (.slice qx s.qf.length qp) s.qf, isF false xG (.slice qN s.qh.length qL) s.qh, isF false Xl (.slice ja r.qO.length vU) r.qO, isF false Xo (.slice jd r.qX.length vX) r.qX, isF false Xm (.slice jb r.xe.length vV) r.xe, isF false Xn (.slice jc r.xm.length vW) r.xm, isF false FrOut (.slice yK r.xZ.length yJ) r.xZ, isF false FrInto (.slice vz r.qF.length vw) r.qF]) ((r.qF.length - (0 : Int)).toNat) ⟨_, 0, (by exact qg (qg (qg (qg (qg (rfl) rfl) rfl) rfl) rfl) rfl), (by omega), (by exact fun j hj => by omega), rfl, N, H⟩ ?_
    clear H N
    rintro m' ρ w28 ⟨junk, i, rfl, i0, i2, rfl, N, H⟩
    refine qi (ql ?_)
    refine sp (.bool (decide ((i : Int) < r.qF.length))) ?_
    refine qj (t_n (qi ?_))
    refine qC (decide ((i : Int) < r.qF.length)) rfl (fun h29 => ?_) (fun h29 => ?_)
    ·skip
     replace h29 := of_decide_eq_true h29
     refine qM (t_n (qi (qW (qi (ql ?_)))))
     refine sp (.int .i64 i) ?_
     obtain ⟨b30, o31, rfl⟩ := H.addr 8 rfl (by omega)
     obtain ⟨ae33Bag, ce33Bag, Fe33Bag, H⟩ := H.jC 8 rfl i i (by omega) (by omega) (by omega)
     refine oI rfl rfl ?_
     refine sw (zC [.int .i64 ((r.qF[i]!).qw), .slice ae33Bag (((r.qF[i]!).zZ).length) ce33Bag] Tryz.isAgg164 Tryz.sizeOf164 rfl (qI (H.get 1 rfl) 0 2) ?_)
     refine sw (xy H ti164 [.int .i64 0, .slice none 0 0] fun b34 w35 H => ?_)
     refine sp (.int .i64 i) ?_
     refine sw (o_storeC H 0 [.int .i64 ((r.qF[i]!).qw), .slice ae33Bag (((r.qF[i]!).zZ).length) ce33Bag] Tryz.sizeOf164 fun w36 H => ?_)
     try dsimp only [List.set] at H
     refine qj (t_n (qi ?_))
     refine vZ rfl H fun H => ?_
     refine rt 0 (.agg #[.int .i64 s.qH, .slice qx s.qf.length qp, .slice qN s.qh.length qL]) (Qo (cs := [.int .i64 s.qH, .slice qx s.qf.length qp, .slice qN s.qh.length qL]) Tryz.isAgg36 Tryz.sizeOf36 rfl (fun _ h => qI (h.cells 3 rfl) 0 3)) H ?_
     refine tF 1 rfl rfl H ?_
     refine tL 2 rfl rfl (fun _ h => h.cell 0 rfl rfl) H ?_
     refine qR [3] (by kernel_rfl) (by simp) (xA rfl ?_ qU)
     refine oc (isCell_ok _ s ((r.qF[i]!).qw) _ _ _ _ _ _ (H.get 3 rfl).1 (H.get 4 rfl).1) ?_
     rintro _ w39 rfl x40
     replace H := H.ext x40
     refine ⟨H, ?_⟩
     refine rtp 4 (.bool (!(inR ((r.qF[i]!).qw) 0 ((s.qf.length : Int) - 1)))) H ?_
     refine rtp 5 (.bool (!(inR ((r.qF[i]!).qw) 0 ((s.qf.length : Int) - 1)))) H ?_
     cases h41 : (!(inR ((r.qF[i]!).qw) 0 ((s.qf.length : Int) - 1)))
     ·skip
      replace h41 := qJ h41
      replace h41 := yV.1 h41
      refine rg 6 (.agg #[.int .i64 s.qH, .slice qx s.qf.length qp, .slice qN s.qh.length qL]) 70 (Qo (cs := [.int .i64 s.qH, .slice qx s.qf.length qp, .slice qN s.qh.length qL]) Tryz.isAgg36 Tryz.sizeOf36 rfl (fun _ h => qI (h.cells 3 rfl) 0 3)) H ?_
      refine gF 7 rfl rfl H ?_
      refine gL 8 rfl rfl (fun _ h => h.cell 0 rfl rfl) H ?_
      refine gF 9 rfl rfl H ?_
      refine gL 10 rfl rfl (fun _ h => h.cell 2 rfl rfl) H ?_
      refine qR [11] (by kernel_rfl) (by simp) (r_opG rfl (e := 70) rfl rfl ?_ qU)
      refine oc (lies_ok _ s ((r.qF[i]!).qw) r.qw _ _ _ _ _ _ (H.get 3 rfl).1 (H.get 4 rfl).1 (by first | assumption | omega) (by first | assumption | omega)) ?_
      rintro _ w43 rfl x44
      replace H := H.ext x44
      refine ⟨H, ?_⟩
      refine rgp 12 (.bool (!(dec (Lies s.qf r.qw ((r.qF[i]!).qw))))) 70 H ?_
      refine rtp 13 (.bool (!(dec (Lies s.qf r.qw ((r.qF[i]!).qw))))) H ?_
      refine rtp 14 (.bool (!(dec (Lies s.qf r.qw ((r.qF[i]!).qw))))) H ?_
      cases h45 : (!(dec (Lies s.qf r.qw ((r.qF[i]!).qw))))
      ·skip
       replace h45 := qJ h45
       replace h45 := vC h45
       refine gF 15 rfl rfl H ?_
       refine gL 16 rfl rfl (fun _ h => h.cell 3 rfl rfl) H ?_
       refine gF 17 rfl rfl H ?_
       refine gL 18 rfl rfl (fun _ h => h.cell 0 rfl rfl) H ?_
       refine qR [19] (by kernel_rfl) (by simp) (r_opG rfl (e := 79) rfl rfl ?_ qU)
       refine oc (Xv _ s.qH ((r.qF[i]!).zZ) _ _ _ (H.get 0 rfl).1) ?_
       rintro _ w46 rfl x47
       replace H := H.ext x47
       refine ⟨H, ?_⟩
       refine rgp 20 (.bool (!(dec (zg s.qH ((r.qF[i]!).zZ))))) 79 H ?_
       refine rtp 21 (.bool (!(dec (zg s.qH ((r.qF[i]!).zZ))))) H ?_
       refine rtp 22 (.bool (!(dec (zg s.qH ((r.qF[i]!).zZ))))) H ?_
       cases h48 : (!(dec (zg s.qH ((r.qF[i]!).zZ))))
       ·skip
        replace h48 := qJ h48
        replace h48 := vC h48
        refine gF 23 rfl rfl H ?_
        refine gL 24 rfl rfl (fun _ h => h.cell 0 rfl rfl) H ?_
        refine qR [25] (by kernel_rfl) (by simp) (r_opG rfl (e := 87) rfl rfl ?_ qU)
        have sm : Small ((r.qF[i]!).zZ) := zo (by first | assumption | exact i1 0 (by omega))
        refine oc (QV _ ((r.qF[i]!).zZ) _ _ _ (H.get 0 rfl).1 (by first | assumption | exact zo (by assumption) | exact jw (by assumption))) ?_
        rintro _ w49 rfl x50
        replace H := H.ext x50
        refine ⟨H, ?_⟩
        refine rgp 26 (.bool ((Qz ((r.qF[i]!).zZ) : Int) == 0)) 87 H ?_
        refine rtp 27 (.bool ((Qz ((r.qF[i]!).zZ) : Int) == 0)) H ?_
        refine rtp 28 (.bool ((Qz ((r.qF[i]!).zZ) : Int) == 0)) H ?_
        cases h51 : ((Qz ((r.qF[i]!).zZ) : Int) == 0)
        ·skip
         replace h51 := ne_of_beq_false h51
         refine rgp 29 (.int .i64 i) 93 H ?_
         refine rgp 30 (.bool (decide ((i : Int) > 0))) 93 H ?_
         refine rgp 31 (.bool (decide ((i : Int) > 0))) 93 H ?_
         cases h52 : (decide ((i : Int) > 0))
         ·skip
          replace h52 := of_decide_eq_false h52
          refine zi [32, 33, 34, 35, 36, 37, 38, 39, 40, 41] 10 (H) ?_
          refine rgp 42 (.bool false) 93 H ?_
          refine rtp 43 (.bool false) H ?_
          refine xq (by kernel_rfl) (t_n ?_)
          refine qC false rfl (fun h => absurd h (by decide)) (fun _ => ?_)
          refine qM (b_n (t_n (ql ?_)))
          refine sw (zk i 1 rfl rfl (by omega) ?_)
          refine sp (.int .i64 (i + 1)) ?_
          refine qj ?_
          refine xk (m' := (r.qF.length - ((i + 1) : Int)).toNat) (by omega) ⟨_, i + 1, (by exact qg (qg (qg (qg (qg (rfl) rfl) rfl) rfl) rfl) rfl), ?_, ?_, rfl, N, H.pick [1, 2, 3] [2, 3, 4, 5, 6, 7, 8, 9, 10]⟩
          · omega
          · exact i2.succ ⟨‹_›, ‹_›, ‹_›, ‹_›, fun hk => by omega⟩
         replace h52 := of_decide_eq_true h52
         refine gF 32 rfl rfl H ?_
         refine gL 33 rfl rfl (fun _ h => h.cell 0 rfl rfl) H ?_
         refine gF 34 rfl rfl H ?_
         refine gL 35 rfl rfl (fun _ h => h.cell 2 rfl rfl) H ?_
         refine rgp 36 (.int .i64 i) 96 H ?_
         refine rg 37 (.int .i64 (i - 1)) 96 (y_sub i 1 rfl rfl (by omega)) H ?_
         obtain ⟨ae53Bag, ce53Bag, Fe53Bag, H⟩ := H.jC 10 rfl (i - 1) (i - 1) (by omega) (by omega) (by omega)
         have S := H.pickC [0, 1, 2, 3] [2, 3, 4, 5, 6, 7, 8, 9, 10, 11, 12]
         refine gI 38 rfl rfl rfl S ?_
         refine gF 39 rfl rfl S ?_
         refine qR [40] (by kernel_rfl) (by simp) (r_opG rfl (e := 96) rfl rfl ?_ qU)
         refine jU (.int .i64 ((r.qF[i - 1]!).qw)) Tryz.isAgg2 rfl (H.xJ 1 rfl 0 rfl) ?_
         refine ⟨H.pick [0, 1, 2, 3] [2, 3, 4, 5, 6, 7, 8, 9, 10, 11, 12], ?_⟩
         have S := H.pickC [0, 1, 2, 3] [2, 3, 4, 5, 6, 7, 8, 9, 10, 11, 12]
         refine rgp 41 (.bool (decide (((r.qF[i]!).qw : Int) ≤ ((r.qF[i - 1]!).qw)))) 96 S ?_
         refine rgp 42 (.bool (decide (((r.qF[i]!).qw : Int) ≤ ((r.qF[i - 1]!).qw)))) 93 S ?_
         refine rtp 43 (.bool (decide (((r.qF[i]!).qw : Int) ≤ ((r.qF[i - 1]!).qw)))) S ?_
         refine xq (by kernel_rfl) (t_n ?_)
         refine qC (decide (((r.qF[i]!).qw : Int) ≤ ((r.qF[i - 1]!).qw))) rfl (fun h54 => ?_) (fun h54 => ?_)
         ·skip
          replace h54 := of_decide_eq_true h54
          refine qi (ql ?_)
          refine sp (.bool false) ?_
          refine qj (t_n (qV (b_r (t_r (t_r (b_r (t_r ?_)))))))
          refine ret1 (.bool false) rfl rfl ⟨_, rfl, ?_, H.base⟩
          rw [qY (fun h => by obtain ⟨h1, h2, h3, h4, h5, h6, h7, h8, h9, h10, h11⟩ := h; first | contradiction | omega | exact h3 ⟨‹_›, ‹_›⟩ | (obtain ⟨q1, q2, q3, q4, q5⟩ := h11 i (by omega); first | contradiction | omega | (have := q5 (by omega); omega)) | (refine absurd ?_ ‹¬ zg _ _›; rcases (show k = 0 ∨ k = 1 ∨ k = 2 ∨ k = 3 ∨ k = 4 by omega) with e | e | e | e | e <;> subst e <;> assumption))]
         replace h54 := of_decide_eq_false h54
         refine qM (b_n (t_n (ql ?_)))
         refine sw (zk i 1 rfl rfl (by omega) ?_)
         refine sp (.int .i64 (i + 1)) ?_
         refine qj ?_
         refine xk (m' := (r.qF.length - ((i + 1) : Int)).toNat) (by omega) ⟨_, i + 1, (by exact qg (qg (qg (qg (qg (rfl) rfl) rfl) rfl) rfl) rfl), ?_, ?_, rfl, N, H.pick [1, 2, 3] [4, 5, 6, 7, 8, 9, 10, 11, 12]⟩
         · omega
         · exact i2.succ ⟨‹_›, ‹_›, ‹_›, ‹_›, fun hk => by omega⟩
        replace h51 := eq_of_beq h51
        refine zi [29, 30, 31, 32, 33, 34, 35, 36, 37, 38, 39, 40, 41, 42] 14 (H) ?_
        refine rtp 43 (.bool true) H ?_
        refine xq (by kernel_rfl) (t_n ?_)
        refine qC true rfl (fun _ => ?_) (fun h => absurd h (by decide))
        refine qi (ql ?_)
        refine sp (.bool false) ?_
        refine qj (t_n (qV (b_r (t_r (t_r (b_r (t_r ?_)))))))
        refine ret1 (.bool false) rfl rfl ⟨_, rfl, ?_, H.base⟩
        rw [qY (fun h => by obtain ⟨h1, h2, h3, h4, h5, h6, h7, h8, h9, h10, h11⟩ := h; first | contradiction | omega | exact h3 ⟨‹_›, ‹_›⟩ | (obtain ⟨q1, q2, q3, q4, q5⟩ := h11 i (by omega); first | contradiction | omega | (have := q5 (by omega); omega)) | (refine absurd ?_ ‹¬ zg _ _›; rcases (show k = 0 ∨ k = 1 ∨ k = 2 ∨ k = 3 ∨ k = 4 by omega) with e | e | e | e | e <;> subst e <;> assumption))]
       replace h48 := qP h48
       replace h48 := xI h48
       refine zi [23, 24, 25, 26] 4 (H) ?_
       refine rtp 27 (.bool true) H ?_
       refine rtp 28 (.bool true) H ?_
       refine zi [29, 30, 31, 32, 33, 34, 35, 36, 37, 38, 39, 40, 41, 42] 14 (H) ?_
       refine rtp 43 (.bool true) H ?_
       refine xq (by kernel_rfl) (t_n ?_)
       refine qC true rfl (fun _ => ?_) (fun h => absurd h (by decide))
       refine qi (ql ?_)
       refine sp (.bool false) ?_
       refine qj (t_n (qV (b_r (t_r (t_r (b_r (t_r ?_)))))))
       refine ret1 (.bool false) rfl rfl ⟨_, rfl, ?_, H.base⟩
       rw [qY (fun h => by obtain ⟨h1, h2, h3, h4, h5, h6, h7, h8, h9, h10, h11⟩ := h; first | contradiction | omega | exact h3 ⟨‹_›, ‹_›⟩ | (obtain ⟨q1, q2, q3, q4, q5⟩ := h11 i (by omega); first | contradiction | omega | (have := q5 (by omega); omega)) | (refine absurd ?_ ‹¬ zg _ _›; rcases (show k = 0 ∨ k = 1 ∨ k = 2 ∨ k = 3 ∨ k = 4 by omega) with e | e | e | e | e <;> subst e <;> assumption))]
      replace h45 := qP h45
      replace h45 := xI h45
      refine zi [15, 16, 17, 18, 19, 20] 6 (H) ?_
      refine rtp 21 (.bool true) H ?_
      refine rtp 22 (.bool true) H ?_
      refine zi [23, 24, 25, 26] 4 (H) ?_
      refine rtp 27 (.bool true) H ?_
      refine rtp 28 (.bool true) H ?_
      refine zi [29, 30, 31, 32, 33, 34, 35, 36, 37, 38, 39, 40, 41, 42] 14 (H) ?_
      refine rtp 43 (.bool true) H ?_
      refine xq (by kernel_rfl) (t_n ?_)
      refine qC true rfl (fun _ => ?_) (fun h => absurd h (by decide))
      refine qi (ql ?_)
      refine sp (.bool false) ?_
      refine qj (t_n (qV (b_r (t_r (t_r (b_r (t_r ?_)))))))
      refine ret1 (.bool false) rfl rfl ⟨_, rfl, ?_, H.base⟩
      rw [qY (fun h => by obtain ⟨h1, h2, h3, h4, h5, h6, h7, h8, h9, h10, h11⟩ := h; first | contradiction | omega | exact h3 ⟨‹_›, ‹_›⟩ | (obtain ⟨q1, q2, q3, q4, q5⟩ := h11 i (by omega); first | contradiction | omega | (have := q5 (by omega); omega)) | (refine absurd ?_ ‹¬ zg _ _›; rcases (show k = 0 ∨ k = 1 ∨ k = 2 ∨ k = 3 ∨ k = 4 by omega) with e | e | e | e | e <;> subst e <;> assumption))]
     replace h41 := qP h41
     replace h41 := QP h41
     refine zi [6, 7, 8, 9, 10, 11, 12] 7 (H) ?_
     refine rtp 13 (.bool true) H ?_
     refine rtp 14 (.bool true) H ?_
     refine zi [15, 16, 17, 18, 19, 20] 6 (H) ?_
     refine rtp 21 (.bool true) H ?_
     refine rtp 22 (.bool true) H ?_
     refine zi [23, 24, 25, 26] 4 (H) ?_
     refine rtp 27 (.bool true) H ?_
     refine rtp 28 (.bool true) H ?_
     refine zi [29, 30, 31, 32, 33, 34, 35, 36, 37, 38, 39, 40, 41, 42] 14 (H) ?_
     refine rtp 43 (.bool true) H ?_
     refine xq (by kernel_rfl) (t_n ?_)
     refine qC true rfl (fun _ => ?_) (fun h => absurd h (by decide))
     refine qi (ql ?_)
     refine sp (.bool false) ?_
     refine qj (t_n (qV (b_r (t_r (t_r (b_r (t_r ?_)))))))
     refine ret1 (.bool false) rfl rfl ⟨_, rfl, ?_, H.base⟩
     rw [qY (fun h => by obtain ⟨h1, h2, h3, h4, h5, h6, h7, h8, h9, h10, h11⟩ := h; first | contradiction | omega | exact h3 ⟨‹_›, ‹_›⟩ | (obtain ⟨q1, q2, q3, q4, q5⟩ := h11 i (by omega); first | contradiction | omega | (have := q5 (by omega); omega)) | (refine absurd ?_ ‹¬ zg _ _›; rcases (show k = 0 ∨ k = 1 ∨ k = 2 ∨ k = 3 ∨ k = 4 by omega) with e | e | e | e | e <;> subst e <;> assumption))]
    replace h29 := of_decide_eq_false h29
    refine xQ (t_x (t_x (b_x (t_n (qi (ql ?_))))))
    refine oF rfl ?_
    refine oL rfl (H.cell 1 rfl rfl) ?_
    have sm : Small r.qO := zo (by first | assumption | exact i1 0 (by omega))
    refine sw (oc (QV _ r.qO _ _ _ (H.get 3 rfl).1 (by first | assumption | exact zo (by assumption) | exact jw (by assumption))) ?_)
    rintro _ w55 rfl x56
    replace H := H.ext x56
    refine sps [.bool (decide ((Qz r.qO : Int) > 0)), .bool (decide ((Qz r.qO : Int) > 0))] ?_
    refine qj (t_n (qV ?_))
    refine ret1 (.bool (decide ((Qz r.qO : Int) > 0))) rfl rfl ⟨_, rfl, ?_, H.base⟩
    refine congrArg Value.bool (dec_eq ?_)
    rw [decide_eq_true_iff]
    exact ⟨fun h => ⟨by omega, by omega, by simp_all, by omega, n1, n2, n3, n4, n5, by omega, (show i = r.qF.length by omega) ▸ i2⟩, fun h => by have := h.2.2.2.2.2.2.2.2.2.1; have := sum_nonneg n1.1; omega⟩
   rw [h12] at H
   refine qB 23 rfl rfl ?_
   refine oF rfl ?_
   refine qB 23 rfl rfl ?_
   refine oL rfl (H.cell 0 rfl rfl) ?_
   refine qB 23 rfl rfl ?_
   refine sp (.bool ((r.qw : Int) == 0)) ?_
   refine qB 20 rfl rfl ?_
   refine sps [.bool ((r.qw : Int) == 0), .bool ((r.qw : Int) == 0), .bool ((r.qw : Int) == 0)] ?_
   cases h57 : ((r.qw : Int) == 0)
   ·skip
    replace h57 := ne_of_beq_false h57
    refine qB 29 rfl rfl ?_
    refine oF rfl ?_
    refine qB 29 rfl rfl ?_
    refine oL rfl (H.cell 0 rfl rfl) ?_
    refine qB 29 rfl rfl ?_
    refine oN rfl ?_
    refine qB 29 rfl rfl ?_
    refine sps [.bool (decide ((r.qF.length : Int) > 3)), .bool (decide ((r.qF.length : Int) > 3))] ?_
    refine qj (t_n ?_)
    refine qC (decide ((r.qF.length : Int) > 3)) rfl (fun h58 => ?_) (fun h58 => ?_)
    ·skip
     replace h58 := of_decide_eq_true h58
     refine qi (ql ?_)
     refine sp (.bool false) ?_
     refine qj (t_n (qV (t_r ?_)))
     refine ret1 (.bool false) rfl rfl ⟨_, rfl, ?_, H.base⟩
     rw [qY (fun h => by obtain ⟨h1, h2, h3, h4, h5, h6, h7, h8, h9, h10, h11⟩ := h; first | contradiction | omega | exact h3 ⟨‹_›, ‹_›⟩ | (obtain ⟨q1, q2, q3, q4, q5⟩ := h11 i (by omega); first | contradiction | omega | (have := q5 (by omega); omega)) | (refine absurd ?_ ‹¬ zg _ _›; rcases (show k = 0 ∨ k = 1 ∨ k = 2 ∨ k = 3 ∨ k = 4 by omega) with e | e | e | e | e <;> subst e <;> assumption))]
    replace h58 := of_decide_eq_false h58
    refine qM (t_n (qi (qi (ql ?_))))
    refine oF rfl ?_
    refine oL rfl (H.cell 0 rfl rfl) ?_
    refine oF rfl ?_
    refine oL rfl (H.cell 0 rfl rfl) ?_
    refine oF rfl ?_
    refine oL rfl (H.cell 0 rfl rfl) ?_
    refine oF rfl ?_
    refine oL rfl (H.cell 0 rfl rfl) ?_
    refine oF rfl ?_
    refine oL rfl (H.cell 0 rfl rfl) ?_
    refine sw (o_buildF H Tryz.underlying27 ti22 [.slice ja r.qO.length vU, .slice jd r.qX.length vX, .slice jb r.xe.length vV, .slice jc r.xm.length vW, .slice yK r.xZ.length yJ] rfl (by simp [Value.cells]) rfl (by decide) (by decide) fun b59 w60 H => ?_)
    refine oN rfl ?_
    refine sp (.int .i64 0) ?_
    refine qj (t_n (qW ?_))
    replace H := H.boxRow 0 rfl 1 5 rfl (by decide)
    try dsimp only [List.set] at H
    replace H := H.jq (α := List Int)
    replace H := H.Xq false 7 rfl 0 rfl (by simp)
    replace H := H.Xq false 7 rfl 0 rfl (by simp)
    replace H := H.Xq false 7 rfl 0 rfl (by simp)
    replace H := H.Xq false 7 rfl 0 rfl (by simp)
    replace H := H.Xq false 7 rfl 0 rfl (by simp)
    refine zf (fun m' ρ w61 => ∃ (junk : Env) (k : Nat), ρ = upd (upd (upd (upd (upd junk 2 (pp b1 0)) 3 (pp b3 0)) 45 (.slice (aa b59 0) 5 5)) 46 (.int .i64 5)) 47 (.int .i64 k) ∧ ((k : Int) ≤ 5) ∧ (∀ j, j < k → zg s.qH ([r.qO, r.qX, r.xe, r.xm, r.xZ][j]!)) ∧ m' = (5 - (k : Int)).toNat ∧ Fresh w.heap.size [] ∧ St w w61 [.row (.slice (aa b59 0) 5 5) 22 1 5 [.slice ja r.qO.length vU, .slice jd r.qX.length vX, .slice jb r.xe.length vV, .slice jc r.xm.length vW, .slice yK r.xZ.length yJ], .box b3 [.int .i64 r.qw, .int .i64 r.xN, .slice ja r.qO.length vU, .slice jd r.qX.length vX, .slice jb r.xe.length vV, .slice jc r.xm.length vW, .slice yK r.xZ.length yJ, .slice vz r.qF.length vw, .bool true] 121, .box b1 [.int .i64 s.qH, .slice qx s.qf.length qp, .slice qN s.qh.length qL] 36] [zn false (Xl ++ (Xo ++ (Xm ++ (Xn ++ (FrOut ++ []))))) [.slice ja r.qO.length vU, .slice jd r.qX.length vX, .slice jb r.xe.length vV, .slice jc r.xm.length vW, .slice yK r.xZ.length yJ] [r.qO, r.qX, r.xe, r.xm, r.xZ], isF false xn (.slice qx s.qf.length qp) s.qf, isF false xG (.slice qN s.qh.length qL) s.qh, isF false Xl (.slice ja r.qO.length vU) r.qO, isF false Xo (.slice jd r.qX.length vX) r.qX, isF false Xm (.slice jb r.xe.length vV) r.xe, isF false Xn (.slice jc r.xm.length vW) r.xm, isF false FrOut (.slice yK r.xZ.length yJ) r.xZ, isF false FrInto (.slice vz r.qF.length vw) r.qF]) ((5 - (0 : Int)).toNat) ⟨_, 0, (by exact qg (qg (qg (qg (qg (rfl) rfl) rfl) rfl) rfl) rfl), (by omega), (by intro j hj; omega), rfl, N, H.pick [0, 1, 2] [0, 6, 7, 8, 9, 10, 11, 12, 13]⟩ ?_
    clear H N
    rintro m' ρ w62 ⟨junk, k, rfl, i0, i1, rfl, N, H⟩
    refine qi (ql ?_)
    refine sp (.bool (decide ((k : Int) < 5))) ?_
    refine qj (t_n (qi ?_))
    refine qC (decide ((k : Int) < 5)) rfl (fun h63 => ?_) (fun h63 => ?_)
    ·skip
     replace h63 := of_decide_eq_true h63
     refine qM (t_n (qi (qW (qi (ql ?_)))))
     refine oI rfl rfl ?_
     obtain ⟨a64, c65, G66, s67, h68, H⟩ := H.rowElemL 0 rfl 0 rfl (iv := k) k (by omega) (by omega)
     refine oL rfl (h68) ?_
     refine sp (.slice a64 (([r.qO, r.qX, r.xe, r.xm, r.xZ][k]!).length) c65) ?_
     refine qj (t_n (qi (ql ?_)))
     refine oF rfl ?_
     refine oL rfl (H.cell 2 rfl rfl) ?_
     refine sp (.slice a64 (([r.qO, r.qX, r.xe, r.xm, r.xZ][k]!).length) c65) ?_
     refine sw (oc (Xv _ s.qH ([r.qO, r.qX, r.xe, r.xm, r.xZ][k]!) _ _ _ (H.get 0 rfl).1) ?_)
     rintro _ w69 rfl x70
     replace H := H.ext x70
     refine sp (.bool (!(dec (zg s.qH ([r.qO, r.qX, r.xe, r.xm, r.xZ][k]!))))) ?_
     refine qj (t_n ?_)
     refine qC (!(dec (zg s.qH ([r.qO, r.qX, r.xe, r.xm, r.xZ][k]!)))) rfl (fun h71 => ?_) (fun h71 => ?_)
     ·skip
      replace h71 := qP h71
      replace h71 := xI h71
      refine qi (ql ?_)
      refine sp (.bool false) ?_
      refine qj (t_n (qV (b_r (t_r (t_r (b_r (t_r ?_)))))))
      refine ret1 (.bool false) rfl rfl ⟨_, rfl, ?_, H.base⟩
      rw [qY (fun h => by obtain ⟨h1, h2, h3, h4, h5, h6, h7, h8, h9, h10, h11⟩ := h; first | contradiction | omega | exact h3 ⟨‹_›, ‹_›⟩ | (obtain ⟨q1, q2, q3, q4, q5⟩ := h11 i (by omega); first | contradiction | omega | (have := q5 (by omega); omega)) | (refine absurd ?_ ‹¬ zg _ _›; rcases (show k = 0 ∨ k = 1 ∨ k = 2 ∨ k = 3 ∨ k = 4 by omega) with e | e | e | e | e <;> subst e <;> assumption))]
     replace h71 := qJ h71
     replace h71 := vC h71
     refine qM (b_n (t_n (ql ?_)))
     refine sw (zk k 1 rfl rfl (by omega) ?_)
     refine sp (.int .i64 (k + 1)) ?_
     refine qj ?_
     refine xk (m' := (5 - ((k + 1) : Int)).toNat) (by omega) ⟨_, k + 1, (by exact qg (qg (qg (qg (qg (rfl) rfl) rfl) rfl) rfl) rfl), ?_, ?_, rfl, N, H.pick [0, 1, 2] [1, 2, 3, 4, 5, 6, 7, 8, 9]⟩
     · omega
     · intro j hj; by_cases e : j = k; (subst e; assumption); exact i1 j (by omega)
    replace h63 := of_decide_eq_false h63
    refine xQ (t_x (t_x (b_x (t_n (qi (qi (ql ?_)))))))
    refine oF rfl ?_
    refine oL rfl (H.cell 1 rfl rfl) ?_
    refine oN rfl ?_
    refine sp (.int .i64 0) ?_
    refine qj (t_n (qW ?_))
    have n1 : zg s.qH r.qO := i1 0 (by omega)
    have n2 : zg s.qH r.qX := i1 1 (by omega)
    have n3 : zg s.qH r.xe := i1 2 (by omega)
    have n4 : zg s.qH r.xm := i1 3 (by omega)
    have n5 : zg s.qH r.xZ := i1 4 (by omega)
    refine zf (fun m' ρ w72 => ∃ (junk : Env) (i : Nat), ρ = upd (upd (upd (upd (upd junk 2 (pp b1 0)) 3 (pp b3 0)) 58 (.slice vz r.qF.length vw)) 59 (.int .i64 r.qF.length)) 60 (.int .i64 i) ∧ ((i : Int) ≤ r.qF.length) ∧ (IntosTo s r i) ∧ m' = (r.qF.length - (i : Int)).toNat ∧ Fresh w.heap.size [] ∧ St w w72 [.row (.slice (aa b59 0) 5 5) 22 1 5 [.slice ja r.qO.length vU, .slice jd r.qX.length vX, .slice jb r.xe.length vV, .slice jc r.xm.length vW, .slice yK r.xZ.length yJ], .box b3 [.int .i64 r.qw, .int .i64 r.xN, .slice ja r.qO.length vU, .slice jd r.qX.length vX, .slice jb r.xe.length vV, .slice jc r.xm.length vW, .slice yK r.xZ.length yJ, .slice vz r.qF.length vw, .bool true] 121, .box b1 [.int .i64 s.qH, .slice qx s.qf.length qp, .slice qN s.qh.length qL] 36] [zn false (Xl ++ (Xo ++ (Xm ++ (Xn ++ (FrOut ++ []))))) [.slice ja r.qO.length vU, .slice jd r.qX.length vX, .slice jb r.xe.length vV, .slice jc r.xm.length vW, .slice yK r.xZ.length yJ] [r.qO, r.qX, r.xe, r.xm, r.xZ], isF false xn (.slice qx s.qf.length qp) s.qf, isF false xG (.slice qN s.qh.length qL) s.qh, isF false Xl (.slice ja r.qO.length vU) r.qO, isF false Xo (.slice jd r.qX.length vX) r.qX, isF false Xm (.slice jb r.xe.length vV) r.xe, isF false Xn (.slice jc r.xm.length vW) r.xm, isF false FrOut (.slice yK r.xZ.length yJ) r.xZ, isF false FrInto (.slice vz r.qF.length vw) r.qF]) ((r.qF.length - (0 : Int)).toNat) ⟨_, 0, (by exact qg (qg (qg (qg (qg (rfl) rfl) rfl) rfl) rfl) rfl), (by omega), (by exact fun j hj => by omega), rfl, N, H⟩ ?_
    clear H N
    rintro m' ρ w73 ⟨junk, i, rfl, i0, i2, rfl, N, H⟩
    refine qi (ql ?_)
    refine sp (.bool (decide ((i : Int) < r.qF.length))) ?_
    refine qj (t_n (qi ?_))
    refine qC (decide ((i : Int) < r.qF.length)) rfl (fun h74 => ?_) (fun h74 => ?_)
    ·skip
     replace h74 := of_decide_eq_true h74
     refine qM (t_n (qi (qW (qi (ql ?_)))))
     refine sp (.int .i64 i) ?_
     obtain ⟨b75, o76, rfl⟩ := H.addr 8 rfl (by omega)
     obtain ⟨ae78Bag, ce78Bag, Fe78Bag, H⟩ := H.jC 8 rfl i i (by omega) (by omega) (by omega)
     refine oI rfl rfl ?_
     refine sw (zC [.int .i64 ((r.qF[i]!).qw), .slice ae78Bag (((r.qF[i]!).zZ).length) ce78Bag] Tryz.isAgg164 Tryz.sizeOf164 rfl (qI (H.get 1 rfl) 0 2) ?_)
     refine sw (xy H ti164 [.int .i64 0, .slice none 0 0] fun b79 w80 H => ?_)
     refine sp (.int .i64 i) ?_
     refine sw (o_storeC H 0 [.int .i64 ((r.qF[i]!).qw), .slice ae78Bag (((r.qF[i]!).zZ).length) ce78Bag] Tryz.sizeOf164 fun w81 H => ?_)
     try dsimp only [List.set] at H
     refine qj (t_n (qi ?_))
     refine vZ rfl H fun H => ?_
     refine rt 0 (.agg #[.int .i64 s.qH, .slice qx s.qf.length qp, .slice qN s.qh.length qL]) (Qo (cs := [.int .i64 s.qH, .slice qx s.qf.length qp, .slice qN s.qh.length qL]) Tryz.isAgg36 Tryz.sizeOf36 rfl (fun _ h => qI (h.cells 3 rfl) 0 3)) H ?_
     refine tF 1 rfl rfl H ?_
     refine tL 2 rfl rfl (fun _ h => h.cell 0 rfl rfl) H ?_
     refine qR [3] (by kernel_rfl) (by simp) (xA rfl ?_ qU)
     refine oc (isCell_ok _ s ((r.qF[i]!).qw) _ _ _ _ _ _ (H.get 3 rfl).1 (H.get 4 rfl).1) ?_
     rintro _ w84 rfl x85
     replace H := H.ext x85
     refine ⟨H, ?_⟩
     refine rtp 4 (.bool (!(inR ((r.qF[i]!).qw) 0 ((s.qf.length : Int) - 1)))) H ?_
     refine rtp 5 (.bool (!(inR ((r.qF[i]!).qw) 0 ((s.qf.length : Int) - 1)))) H ?_
     cases h86 : (!(inR ((r.qF[i]!).qw) 0 ((s.qf.length : Int) - 1)))
     ·skip
      replace h86 := qJ h86
      replace h86 := yV.1 h86
      refine rg 6 (.agg #[.int .i64 s.qH, .slice qx s.qf.length qp, .slice qN s.qh.length qL]) 70 (Qo (cs := [.int .i64 s.qH, .slice qx s.qf.length qp, .slice qN s.qh.length qL]) Tryz.isAgg36 Tryz.sizeOf36 rfl (fun _ h => qI (h.cells 3 rfl) 0 3)) H ?_
      refine gF 7 rfl rfl H ?_
      refine gL 8 rfl rfl (fun _ h => h.cell 0 rfl rfl) H ?_
      refine gF 9 rfl rfl H ?_
      refine gL 10 rfl rfl (fun _ h => h.cell 2 rfl rfl) H ?_
      refine qR [11] (by kernel_rfl) (by simp) (r_opG rfl (e := 70) rfl rfl ?_ qU)
      refine oc (lies_ok _ s ((r.qF[i]!).qw) r.qw _ _ _ _ _ _ (H.get 3 rfl).1 (H.get 4 rfl).1 (by first | assumption | omega) (by first | assumption | omega)) ?_
      rintro _ w88 rfl x89
      replace H := H.ext x89
      refine ⟨H, ?_⟩
      refine rgp 12 (.bool (!(dec (Lies s.qf r.qw ((r.qF[i]!).qw))))) 70 H ?_
      refine rtp 13 (.bool (!(dec (Lies s.qf r.qw ((r.qF[i]!).qw))))) H ?_
      refine rtp 14 (.bool (!(dec (Lies s.qf r.qw ((r.qF[i]!).qw))))) H ?_
      cases h90 : (!(dec (Lies s.qf r.qw ((r.qF[i]!).qw))))
      ·skip
       replace h90 := qJ h90
       replace h90 := vC h90
       refine gF 15 rfl rfl H ?_
       refine gL 16 rfl rfl (fun _ h => h.cell 3 rfl rfl) H ?_
       refine gF 17 rfl rfl H ?_
       refine gL 18 rfl rfl (fun _ h => h.cell 0 rfl rfl) H ?_
       refine qR [19] (by kernel_rfl) (by simp) (r_opG rfl (e := 79) rfl rfl ?_ qU)
       refine oc (Xv _ s.qH ((r.qF[i]!).zZ) _ _ _ (H.get 0 rfl).1) ?_
       rintro _ w91 rfl x92
       replace H := H.ext x92
       refine ⟨H, ?_⟩
       refine rgp 20 (.bool (!(dec (zg s.qH ((r.qF[i]!).zZ))))) 79 H ?_
       refine rtp 21 (.bool (!(dec (zg s.qH ((r.qF[i]!).zZ))))) H ?_
       refine rtp 22 (.bool (!(dec (zg s.qH ((r.qF[i]!).zZ))))) H ?_
       cases h93 : (!(dec (zg s.qH ((r.qF[i]!).zZ))))
       ·skip
        replace h93 := qJ h93
        replace h93 := vC h93
        refine gF 23 rfl rfl H ?_
        refine gL 24 rfl rfl (fun _ h => h.cell 0 rfl rfl) H ?_
        refine qR [25] (by kernel_rfl) (by simp) (r_opG rfl (e := 87) rfl rfl ?_ qU)
        have sm : Small ((r.qF[i]!).zZ) := zo (by first | assumption | exact i1 0 (by omega))
        refine oc (QV _ ((r.qF[i]!).zZ) _ _ _ (H.get 0 rfl).1 (by first | assumption | exact zo (by assumption) | exact jw (by assumption))) ?_
        rintro _ w94 rfl x95
        replace H := H.ext x95
        refine ⟨H, ?_⟩
        refine rgp 26 (.bool ((Qz ((r.qF[i]!).zZ) : Int) == 0)) 87 H ?_
        refine rtp 27 (.bool ((Qz ((r.qF[i]!).zZ) : Int) == 0)) H ?_
        refine rtp 28 (.bool ((Qz ((r.qF[i]!).zZ) : Int) == 0)) H ?_
        cases h96 : ((Qz ((r.qF[i]!).zZ) : Int) == 0)
        ·skip
         replace h96 := ne_of_beq_false h96
         refine rgp 29 (.int .i64 i) 93 H ?_
         refine rgp 30 (.bool (decide ((i : Int) > 0))) 93 H ?_
         refine rgp 31 (.bool (decide ((i : Int) > 0))) 93 H ?_
         cases h97 : (decide ((i : Int) > 0))
         ·skip
          replace h97 := of_decide_eq_false h97
          refine zi [32, 33, 34, 35, 36, 37, 38, 39, 40, 41] 10 (H) ?_
          refine rgp 42 (.bool false) 93 H ?_
          refine rtp 43 (.bool false) H ?_
          refine xq (by kernel_rfl) (t_n ?_)
          refine qC false rfl (fun h => absurd h (by decide)) (fun _ => ?_)
          refine qM (b_n (t_n (ql ?_)))
          refine sw (zk i 1 rfl rfl (by omega) ?_)
          refine sp (.int .i64 (i + 1)) ?_
          refine qj ?_
          refine xk (m' := (r.qF.length - ((i + 1) : Int)).toNat) (by omega) ⟨_, i + 1, (by exact qg (qg (qg (qg (qg (rfl) rfl) rfl) rfl) rfl) rfl), ?_, ?_, rfl, N, H.pick [1, 2, 3] [2, 3, 4, 5, 6, 7, 8, 9, 10]⟩
          · omega
          · exact i2.succ ⟨‹_›, ‹_›, ‹_›, ‹_›, fun hk => by omega⟩
         replace h97 := of_decide_eq_true h97
         refine gF 32 rfl rfl H ?_
         refine gL 33 rfl rfl (fun _ h => h.cell 0 rfl rfl) H ?_
         refine gF 34 rfl rfl H ?_
         refine gL 35 rfl rfl (fun _ h => h.cell 2 rfl rfl) H ?_
         refine rgp 36 (.int .i64 i) 96 H ?_
         refine rg 37 (.int .i64 (i - 1)) 96 (y_sub i 1 rfl rfl (by omega)) H ?_
         obtain ⟨ae98Bag, ce98Bag, Fe98Bag, H⟩ := H.jC 10 rfl (i - 1) (i - 1) (by omega) (by omega) (by omega)
         have S := H.pickC [0, 1, 2, 3] [2, 3, 4, 5, 6, 7, 8, 9, 10, 11, 12]
         refine gI 38 rfl rfl rfl S ?_
         refine gF 39 rfl rfl S ?_
         refine qR [40] (by kernel_rfl) (by simp) (r_opG rfl (e := 96) rfl rfl ?_ qU)
         refine jU (.int .i64 ((r.qF[i - 1]!).qw)) Tryz.isAgg2 rfl (H.xJ 1 rfl 0 rfl) ?_
         refine ⟨H.pick [0, 1, 2, 3] [2, 3, 4, 5, 6, 7, 8, 9, 10, 11, 12], ?_⟩
         have S := H.pickC [0, 1, 2, 3] [2, 3, 4, 5, 6, 7, 8, 9, 10, 11, 12]
         refine rgp 41 (.bool (decide (((r.qF[i]!).qw : Int) ≤ ((r.qF[i - 1]!).qw)))) 96 S ?_
         refine rgp 42 (.bool (decide (((r.qF[i]!).qw : Int) ≤ ((r.qF[i - 1]!).qw)))) 93 S ?_
         refine rtp 43 (.bool (decide (((r.qF[i]!).qw : Int) ≤ ((r.qF[i - 1]!).qw)))) S ?_
         refine xq (by kernel_rfl) (t_n ?_)
         refine qC (decide (((r.qF[i]!).qw : Int) ≤ ((r.qF[i - 1]!).qw))) rfl (fun h99 => ?_) (fun h99 => ?_)
         ·skip
          replace h99 := of_decide_eq_true h99
          refine qi (ql ?_)
          refine sp (.bool false) ?_
          refine qj (t_n (qV (b_r (t_r (t_r (b_r (t_r ?_)))))))
          refine ret1 (.bool false) rfl rfl ⟨_, rfl, ?_, H.base⟩
          rw [qY (fun h => by obtain ⟨h1, h2, h3, h4, h5, h6, h7, h8, h9, h10, h11⟩ := h; first | contradiction | omega | exact h3 ⟨‹_›, ‹_›⟩ | (obtain ⟨q1, q2, q3, q4, q5⟩ := h11 i (by omega); first | contradiction | omega | (have := q5 (by omega); omega)) | (refine absurd ?_ ‹¬ zg _ _›; rcases (show k = 0 ∨ k = 1 ∨ k = 2 ∨ k = 3 ∨ k = 4 by omega) with e | e | e | e | e <;> subst e <;> assumption))]
         replace h99 := of_decide_eq_false h99
         refine qM (b_n (t_n (ql ?_)))
         refine sw (zk i 1 rfl rfl (by omega) ?_)
         refine sp (.int .i64 (i + 1)) ?_
         refine qj ?_
         refine xk (m' := (r.qF.length - ((i + 1) : Int)).toNat) (by omega) ⟨_, i + 1, (by exact qg (qg (qg (qg (qg (rfl) rfl) rfl) rfl) rfl) rfl), ?_, ?_, rfl, N, H.pick [1, 2, 3] [4, 5, 6, 7, 8, 9, 10, 11, 12]⟩
         · omega
         · exact i2.succ ⟨‹_›, ‹_›, ‹_›, ‹_›, fun hk => by omega⟩
        replace h96 := eq_of_beq h96
        refine zi [29, 30, 31, 32, 33, 34, 35, 36, 37, 38, 39, 40, 41, 42] 14 (H) ?_
        refine rtp 43 (.bool true) H ?_
        refine xq (by kernel_rfl) (t_n ?_)
        refine qC true rfl (fun _ => ?_) (fun h => absurd h (by decide))
        refine qi (ql ?_)
        refine sp (.bool false) ?_
        refine qj (t_n (qV (b_r (t_r (t_r (b_r (t_r ?_)))))))
        refine ret1 (.bool false) rfl rfl ⟨_, rfl, ?_, H.base⟩
        rw [qY (fun h => by obtain ⟨h1, h2, h3, h4, h5, h6, h7, h8, h9, h10, h11⟩ := h; first | contradiction | omega | exact h3 ⟨‹_›, ‹_›⟩ | (obtain ⟨q1, q2, q3, q4, q5⟩ := h11 i (by omega); first | contradiction | omega | (have := q5 (by omega); omega)) | (refine absurd ?_ ‹¬ zg _ _›; rcases (show k = 0 ∨ k = 1 ∨ k = 2 ∨ k = 3 ∨ k = 4 by omega) with e | e | e | e | e <;> subst e <;> assumption))]
       replace h93 := qP h93
       replace h93 := xI h93
       refine zi [23, 24, 25, 26] 4 (H) ?_
       refine rtp 27 (.bool true) H ?_
       refine rtp 28 (.bool true) H ?_
       refine zi [29, 30, 31, 32, 33, 34, 35, 36, 37, 38, 39, 40, 41, 42] 14 (H) ?_
       refine rtp 43 (.bool true) H ?_
       refine xq (by kernel_rfl) (t_n ?_)
       refine qC true rfl (fun _ => ?_) (fun h => absurd h (by decide))
       refine qi (ql ?_)
       refine sp (.bool false) ?_
       refine qj (t_n (qV (b_r (t_r (t_r (b_r (t_r ?_)))))))
       refine ret1 (.bool false) rfl rfl ⟨_, rfl, ?_, H.base⟩
       rw [qY (fun h => by obtain ⟨h1, h2, h3, h4, h5, h6, h7, h8, h9, h10, h11⟩ := h; first | contradiction | omega | exact h3 ⟨‹_›, ‹_›⟩ | (obtain ⟨q1, q2, q3, q4, q5⟩ := h11 i (by omega); first | contradiction | omega | (have := q5 (by omega); omega)) | (refine absurd ?_ ‹¬ zg _ _›; rcases (show k = 0 ∨ k = 1 ∨ k = 2 ∨ k = 3 ∨ k = 4 by omega) with e | e | e | e | e <;> subst e <;> assumption))]
      replace h90 := qP h90
      replace h90 := xI h90
      refine zi [15, 16, 17, 18, 19, 20] 6 (H) ?_
      refine rtp 21 (.bool true) H ?_
      refine rtp 22 (.bool true) H ?_
      refine zi [23, 24, 25, 26] 4 (H) ?_
      refine rtp 27 (.bool true) H ?_
      refine rtp 28 (.bool true) H ?_
      refine zi [29, 30, 31, 32, 33, 34, 35, 36, 37, 38, 39, 40, 41, 42] 14 (H) ?_
      refine rtp 43 (.bool true) H ?_
      refine xq (by kernel_rfl) (t_n ?_)
      refine qC true rfl (fun _ => ?_) (fun h => absurd h (by decide))
      refine qi (ql ?_)
      refine sp (.bool false) ?_
      refine qj (t_n (qV (b_r (t_r (t_r (b_r (t_r ?_)))))))
      refine ret1 (.bool false) rfl rfl ⟨_, rfl, ?_, H.base⟩
      rw [qY (fun h => by obtain ⟨h1, h2, h3, h4, h5, h6, h7, h8, h9, h10, h11⟩ := h; first | contradiction | omega | exact h3 ⟨‹_›, ‹_›⟩ | (obtain ⟨q1, q2, q3, q4, q5⟩ := h11 i (by omega); first | contradiction | omega | (have := q5 (by omega); omega)) | (refine absurd ?_ ‹¬ zg _ _›; rcases (show k = 0 ∨ k = 1 ∨ k = 2 ∨ k = 3 ∨ k = 4 by omega) with e | e | e | e | e <;> subst e <;> assumption))]
     replace h86 := qP h86
     replace h86 := QP h86
     refine zi [6, 7, 8, 9, 10, 11, 12] 7 (H) ?_
     refine rtp 13 (.bool true) H ?_
     refine rtp 14 (.bool true) H ?_
     refine zi [15, 16, 17, 18, 19, 20] 6 (H) ?_
     refine rtp 21 (.bool true) H ?_
     refine rtp 22 (.bool true) H ?_
     refine zi [23, 24, 25, 26] 4 (H) ?_
     refine rtp 27 (.bool true) H ?_
     refine rtp 28 (.bool true) H ?_
     refine zi [29, 30, 31, 32, 33, 34, 35, 36, 37, 38, 39, 40, 41, 42] 14 (H) ?_
     refine rtp 43 (.bool true) H ?_
     refine xq (by kernel_rfl) (t_n ?_)
     refine qC true rfl (fun _ => ?_) (fun h => absurd h (by decide))
     refine qi (ql ?_)
     refine sp (.bool false) ?_
     refine qj (t_n (qV (b_r (t_r (t_r (b_r (t_r ?_)))))))
     refine ret1 (.bool false) rfl rfl ⟨_, rfl, ?_, H.base⟩
     rw [qY (fun h => by obtain ⟨h1, h2, h3, h4, h5, h6, h7, h8, h9, h10, h11⟩ := h; first | contradiction | omega | exact h3 ⟨‹_›, ‹_›⟩ | (obtain ⟨q1, q2, q3, q4, q5⟩ := h11 i (by omega); first | contradiction | omega | (have := q5 (by omega); omega)) | (refine absurd ?_ ‹¬ zg _ _›; rcases (show k = 0 ∨ k = 1 ∨ k = 2 ∨ k = 3 ∨ k = 4 by omega) with e | e | e | e | e <;> subst e <;> assumption))]
    replace h74 := of_decide_eq_false h74
    refine xQ (t_x (t_x (b_x (t_n (qi (ql ?_))))))
    refine oF rfl ?_
    refine oL rfl (H.cell 1 rfl rfl) ?_
    have sm : Small r.qO := zo (by first | assumption | exact i1 0 (by omega))
    refine sw (oc (QV _ r.qO _ _ _ (H.get 3 rfl).1 (by first | assumption | exact zo (by assumption) | exact jw (by assumption))) ?_)
    rintro _ w100 rfl x101
    replace H := H.ext x101
    refine sps [.bool (decide ((Qz r.qO : Int) > 0)), .bool (decide ((Qz r.qO : Int) > 0))] ?_
    refine qj (t_n (qV ?_))
    refine ret1 (.bool (decide ((Qz r.qO : Int) > 0))) rfl rfl ⟨_, rfl, ?_, H.base⟩
    refine congrArg Value.bool (dec_eq ?_)
    rw [decide_eq_true_iff]
    exact ⟨fun h => ⟨by omega, by omega, by simp_all, by omega, n1, n2, n3, n4, n5, by omega, (show i = r.qF.length by omega) ▸ i2⟩, fun h => by have := h.2.2.2.2.2.2.2.2.2.1; have := sum_nonneg n1.1; omega⟩
   replace h57 := eq_of_beq h57
   refine xF [30, 31, 32, 33] ?_
   refine sp (.bool true) ?_
   refine qj (t_n ?_)
   refine qC true rfl (fun _ => ?_) (fun h => absurd h (by decide))
   refine qi (ql ?_)
   refine sp (.bool false) ?_
   refine qj (t_n (qV (t_r ?_)))
   refine ret1 (.bool false) rfl rfl ⟨_, rfl, ?_, H.base⟩
   rw [qY (fun h => by obtain ⟨h1, h2, h3, h4, h5, h6, h7, h8, h9, h10, h11⟩ := h; first | contradiction | omega | exact h3 ⟨‹_›, ‹_›⟩ | (obtain ⟨q1, q2, q3, q4, q5⟩ := h11 i (by omega); first | contradiction | omega | (have := q5 (by omega); omega)) | (refine absurd ?_ ‹¬ zg _ _›; rcases (show k = 0 ∨ k = 1 ∨ k = 2 ∨ k = 3 ∨ k = 4 by omega) with e | e | e | e | e <;> subst e <;> assumption))]
  replace h11 := qP h11
  replace h11 := QP h11
  refine xF [21, 22, 23, 24, 25, 26, 27] ?_
  refine sps [.bool true, .bool true] ?_
  refine xF [30, 31, 32, 33] ?_
  refine sp (.bool true) ?_
  refine qj (t_n ?_)
  refine qC true rfl (fun _ => ?_) (fun h => absurd h (by decide))
  refine qi (ql ?_)
  refine sp (.bool false) ?_
  refine qj (t_n (qV (t_r ?_)))
  refine ret1 (.bool false) rfl rfl ⟨_, rfl, ?_, H.base⟩
  rw [qY (fun h => by obtain ⟨h1, h2, h3, h4, h5, h6, h7, h8, h9, h10, h11⟩ := h; first | contradiction | omega | exact h3 ⟨‹_›, ‹_›⟩ | (obtain ⟨q1, q2, q3, q4, q5⟩ := h11 i (by omega); first | contradiction | omega | (have := q5 (by omega); omega)) | (refine absurd ?_ ‹¬ zg _ _›; rcases (show k = 0 ∨ k = 1 ∨ k = 2 ∨ k = 3 ∨ k = 4 by omega) with e | e | e | e | e <;> subst e <;> assumption))]
 replace h8 := qP h8
 replace h8 := QP h8
 refine xF [15, 16, 17, 18] ?_
 refine sps [.bool true, .bool true] ?_
 refine xF [21, 22, 23, 24, 25, 26, 27] ?_
 refine sps [.bool true, .bool true] ?_
 refine xF [30, 31, 32, 33] ?_
 refine sp (.bool true) ?_
 refine qj (t_n ?_)
 refine qC true rfl (fun _ => ?_) (fun h => absurd h (by decide))
 refine qi (ql ?_)
 refine sp (.bool false) ?_
 refine qj (t_n (qV (t_r ?_)))
 refine ret1 (.bool false) rfl rfl ⟨_, rfl, ?_, H.base⟩
 rw [qY (fun h => by obtain ⟨h1, h2, h3, h4, h5, h6, h7, h8, h9, h10, h11⟩ := h; first | contradiction | omega | exact h3 ⟨‹_›, ‹_›⟩ | (obtain ⟨q1, q2, q3, q4, q5⟩ := h11 i (by omega); first | contradiction | omega | (have := q5 (by omega); omega)) | (refine absurd ?_ ‹¬ zg _ _›; rcases (show k = 0 ∨ k = 1 ∨ k = 2 ∨ k = 3 ∨ k = 4 by omega) with e | e | e | e | e <;> subst e <;> assumption))]

end Go.Proofs.YtgjnaocffdhnbaaGreat
