/- Walks, printed by program (wip/tools/gv.py): what each function comes to, for all arguments. -/
import Derived.Test.YtkmlihdacnfhdaaGreatG5
namespace Go.Proofs.YtkmlihdacnfhdaaGreat
open Go.Proofs.YtkmlihdacnfhdaaGreat.Tot (tot)
open Go.Proofs.YtkmlihdacnfhdaaGreat.Mark (cnt mrk mkd mkd_mark cnt_mark)
open Go.RowKit
set_option linter.unusedVariables false
set_option linter.unusedSimpArgs false
set_option maxRecDepth 100000
set_option maxHeartbeats 4000000



theorem isShell_ok (w : World) (s : qR) (qm : Option Addr) (ql : Nat) (qL : List Nat) (qE : Option Addr) (qA : Nat) (xk : List Nat) (qY : qM.rep w qL [.slice qm s.qg.length ql] s.qg) (xA : qM.rep w xk [.slice qE s.qf.length qA] s.qf) : Calls Tryz.prog 152 #[.agg #[.int .i64 s.qF, .slice qm s.qg.length ql, .slice qE s.qf.length qA]] w (Ret (fun v w' => v = .bool (dec (vZ s))) w) := by
 refine enter (n := 37) Tryz.func152 rfl Tryz.ntmps152 (Nat.le_of_ble_eq_true rfl) ?_
 have H := ((St.start w).arg xA).arg qY
 have zH := qJ qY
 have vN := qJ xA
 clear qY xA
 have N := Fresh.nil w.heap.size
 refine qh (qp ?_)
 refine sw (jy H [.int .i64 s.qF, .slice qm s.qg.length ql, .slice qE s.qf.length qA] fun b1 w2 H => ?_)
 refine sp (.bool false) ?_
 refine qo (t_n (qh (qh (qp ?_))))
 refine sw (qH b1 (0) 0 Tryz.underlying36 rfl rfl Tryz.sizeOf2 rfl ?_)
 refine sw (qC (.int .i64 s.qF) Tryz.isAgg2 rfl (H.cell 0 rfl rfl) ?_)
 refine sw (xm #[.int .i64 s.qF, .int .i64 1, .int .i64 8] rfl rfl Tryz.call94 (inRange_ok w2 s.qF 1 8) ?_)
 rintro _ w3 rfl x4
 replace H := H.ext x4
 refine sps [.bool (!(inR s.qF 1 8)), .bool (!(inR s.qF 1 8))] ?_
 cases h5 : (!(inR s.qF 1 8))
 ·skip
  replace h5 := qN h5
  replace h5 := yZ.1 h5
  refine qO 9 rfl rfl ?_
  refine sw (qH b1 (0) 1 Tryz.underlying36 rfl rfl Tryz.sizeOf22 rfl ?_)
  refine qO 9 rfl rfl ?_
  refine sw (qC (.slice qm s.qg.length ql) Tryz.isAgg22 rfl (H.cell 0 rfl rfl) ?_)
  refine qO 9 rfl rfl ?_
  refine sw (xm #[.slice qm s.qg.length ql] rfl rfl Tryz.call95 (sizeI_ok w3 s.qg qm ql qL (H.get 0 rfl).1) ?_)
  rintro _ w6 rfl x7
  replace H := H.ext x7
  refine qO 9 rfl rfl ?_
  refine sw (xm #[.int .i64 (s.qg.length : Int), .int .i64 1, .int .i64 6] rfl rfl Tryz.call94 (inRange_ok w6 (s.qg.length : Int) 1 6) ?_)
  rintro _ w8 rfl x9
  replace H := H.ext x9
  refine qO 9 rfl rfl ?_
  refine sps [.bool (!(inR (s.qg.length : Int) 1 6)), .bool (!(inR (s.qg.length : Int) 1 6)), .bool (!(inR (s.qg.length : Int) 1 6))] ?_
  cases h10 : (!(inR (s.qg.length : Int) 1 6))
  ·skip
   replace h10 := qN h10
   replace h10 := yZ.1 h10
   refine qO 16 rfl rfl ?_
   refine sw (qH b1 (0) 1 Tryz.underlying36 rfl rfl Tryz.sizeOf22 rfl ?_)
   refine qO 16 rfl rfl ?_
   refine sw (qC (.slice qm s.qg.length ql) Tryz.isAgg22 rfl (H.cell 0 rfl rfl) ?_)
   refine qO 16 rfl rfl ?_
   obtain ⟨b11, o12, rfl⟩ := H.addr 0 rfl (by omega)
   refine sw (xE 0 Tryz.underlying22 ti2 rfl rfl (by omega) (by omega) ?_)
   refine qO 16 rfl rfl ?_
   refine sw (qC (.int .i64 (s.qg[0]!)) Tryz.isAgg2 rfl (H.vH 0 rfl 0 (by omega) (by omega)) ?_)
   refine qO 16 rfl rfl ?_
   refine sps [.bool ((s.qg[0]! : Int) != (-1)), .bool ((s.qg[0]! : Int) != (-1))] ?_
   refine qo (t_n ?_)
   refine qP ((s.qg[0]! : Int) != (-1)) rfl (fun h14 => ?_) (fun h14 => ?_)
   ·skip
    replace h14 := bne_iff_ne.1 h14
    refine qh (qp ?_)
    refine sp (.bool false) ?_
    refine qo (t_n (xh (t_r ?_)))
    refine ret1 (.bool false) rfl rfl ⟨_, rfl, ?_, H.base⟩
    rw [xf (fun h => by obtain ⟨h1, h2, h3, h4⟩ := h; first | omega | (have := h4 (c + 1) (by omega) (by omega); rw [← dg (by omega)] at this; omega))]
   replace h14 := xI h14
   refine xg (t_n (qh (qh (qp ?_))))
   refine sw (qH b1 (0) 1 Tryz.underlying36 rfl rfl Tryz.sizeOf22 rfl ?_)
   refine sw (qC (.slice (aa b11 o12) s.qg.length ql) Tryz.isAgg22 rfl (H.cell 0 rfl rfl) ?_)
   refine sw (o_tail H 0 rfl 1 Tryz.underlying22 ti2 rfl (by omega) fun a15 G16 hG17 H => ?_)
   have hl18 : (s.qg.drop 1).length = s.qg.length - 1 := List.length_drop
   refine sw (zK Tryz.underlying22 a15 ((s.qg.drop 1).length) (ql - 1) rfl ?_)
   refine sp (.int .i64 0) ?_
   refine qo (t_n (xn ?_))
   refine zC (fun m' ρ w19 => ∃ (junk : Env) (c : Nat), ρ = upd (upd (upd junk 25 (.slice a15 ((s.qg.drop 1).length) (ql - 1))) 26 (.int .i64 ((s.qg.drop 1).length))) 27 (.int .i64 c) ∧ ((c : Int) ≤ ((s.qg.drop 1).length)) ∧ (FrameTo s (c + 1)) ∧ m' = (((s.qg.drop 1).length) - (c : Int)).toNat ∧ Fresh w.heap.size [] ∧ St w w19 [.box b1 [.int .i64 s.qF, .slice (aa b11 o12) s.qg.length ql, .slice qE s.qf.length qA] 36] [isF false G16 (.slice a15 ((s.qg.drop 1).length) (ql - 1)) (s.qg.drop 1), isF false qL (.slice (aa b11 o12) s.qg.length ql) s.qg, isF false xk (.slice qE s.qf.length qA) s.qf]) ((((s.qg.drop 1).length) - (0 : Int)).toNat) ⟨_, 0, (by exact qj (qj (qj (rfl) rfl) rfl) rfl), (by omega), (by exact FrameTo.one s), rfl, N, H⟩ ?_
   clear H N
   rintro m' ρ w20 ⟨junk, c, rfl, i0, i1, rfl, N, H⟩
   have dg := drop_get (l := s.qg) (k := c)
   refine qh (qp ?_)
   refine sp (.bool (decide ((c : Int) < ((s.qg.drop 1).length)))) ?_
   refine qo (t_n (qh ?_))
   refine qP (decide ((c : Int) < ((s.qg.drop 1).length))) rfl (fun h21 => ?_) (fun h21 => ?_)
   ·skip
    replace h21 := of_decide_eq_true h21
    refine xg (t_n (qh (xn (qh (qp ?_)))))
    refine sp (.int .i64 c) ?_
    obtain ⟨b22, o23, rfl⟩ := H.addr 0 rfl (by omega)
    refine sw (xE c Tryz.underlying22 ti2 rfl rfl (by omega) (by omega) ?_)
    refine sw (qC (.int .i64 ((s.qg.drop 1)[c]!)) Tryz.isAgg2 rfl (H.vH 0 rfl c (by omega) (by omega)) ?_)
    refine sps [.int .i64 c, .int .i64 ((s.qg.drop 1)[c]!)] ?_
    refine qo (t_n (qh (qp ?_)))
    refine sps [.int .i64 ((s.qg.drop 1)[c]!), .int .i64 c] ?_
    refine sw (xm #[.int .i64 ((s.qg.drop 1)[c]!), .int .i64 0, .int .i64 c] rfl rfl Tryz.call94 (inRange_ok w20 ((s.qg.drop 1)[c]!) 0 c) ?_)
    rintro _ w25 rfl x26
    replace H := H.ext x26
    refine sp (.bool (!(inR ((s.qg.drop 1)[c]!) 0 c))) ?_
    refine qo (t_n ?_)
    refine qP (!(inR ((s.qg.drop 1)[c]!) 0 c)) rfl (fun h27 => ?_) (fun h27 => ?_)
    ·skip
     replace h27 := qQ h27
     replace h27 := Qx h27
     refine qh (qp ?_)
     refine sp (.bool false) ?_
     refine qo (t_n (xh (b_r (t_r (t_r (b_r (t_r ?_)))))))
     refine ret1 (.bool false) rfl rfl ⟨_, rfl, ?_, H.base⟩
     rw [xf (fun h => by obtain ⟨h1, h2, h3, h4⟩ := h; first | omega | (have := h4 (c + 1) (by omega) (by omega); rw [← dg (by omega)] at this; omega))]
    replace h27 := qN h27
    replace h27 := yZ.1 h27
    refine xg (b_n (t_n (qp ?_)))
    refine sw (zD c 1 rfl rfl (by omega) ?_)
    refine sp (.int .i64 (c + 1)) ?_
    refine qo ?_
    refine xy (m' := (((s.qg.drop 1).length) - ((c + 1) : Int)).toNat) (by omega) ⟨_, c + 1, (by exact qj (qj (qj (rfl) rfl) rfl) rfl), ?_, ?_, rfl, N, H⟩
    · omega
    · exact i1.succ (by rw [← dg (by omega)]; omega)
   replace h21 := of_decide_eq_false h21
   refine zx (t_x (t_x (b_x (t_n (qh (qp ?_))))))
   refine sp (.bool true) ?_
   refine qo (t_n (xh ?_))
   refine ret1 (.bool true) rfl rfl ⟨_, rfl, ?_, H.base⟩
   rw [jD ⟨by omega, by omega, by omega, (show s.qg.length = c + 1 by omega) ▸ i1⟩]
  replace h10 := qQ h10
  replace h10 := Qx h10
  refine xN [17, 18, 19, 20, 21] ?_
  refine sp (.bool true) ?_
  refine qo (t_n ?_)
  refine qP true rfl (fun _ => ?_) (fun h => absurd h (by decide))
  refine qh (qp ?_)
  refine sp (.bool false) ?_
  refine qo (t_n (xh (t_r ?_)))
  refine ret1 (.bool false) rfl rfl ⟨_, rfl, ?_, H.base⟩
  rw [xf (fun h => by obtain ⟨h1, h2, h3, h4⟩ := h; first | omega | (have := h4 (c + 1) (by omega) (by omega); rw [← dg (by omega)] at this; omega))]
 replace h5 := qQ h5
 replace h5 := Qx h5
 refine xN [10, 11, 12, 13, 14] ?_
 refine sps [.bool true, .bool true] ?_
 refine xN [17, 18, 19, 20, 21] ?_
 refine sp (.bool true) ?_
 refine qo (t_n ?_)
 refine qP true rfl (fun _ => ?_) (fun h => absurd h (by decide))
 refine qh (qp ?_)
 refine sp (.bool false) ?_
 refine qo (t_n (xh (t_r ?_)))
 refine ret1 (.bool false) rfl rfl ⟨_, rfl, ?_, H.base⟩
 rw [xf (fun h => by obtain ⟨h1, h2, h3, h4⟩ := h; first | omega | (have := h4 (c + 1) (by omega) (by omega); rw [← dg (by omega)] at this; omega))]

theorem isCell_ok (w : World) (s : qR) (c : Int) (qm : Option Addr) (ql : Nat) (qL : List Nat) (qE : Option Addr) (qA : Nat) (xk : List Nat) (qY : qM.rep w qL [.slice qm s.qg.length ql] s.qg) (xA : qM.rep w xk [.slice qE s.qf.length qA] s.qf) : Calls Tryz.prog 51 #[.agg #[.int .i64 s.qF, .slice qm s.qg.length ql, .slice qE s.qf.length qA], .int .i64 c] w (Ret (fun v w' => v = .bool (inR c 0 ((s.qg.length : Int) - 1))) w) := by
 refine enter (n := 11) Tryz.func51 rfl Tryz.ntmps51 (Nat.le_of_ble_eq_true rfl) ?_
 have H := ((St.start w).arg xA).arg qY
 have zH := qJ qY
 have vN := qJ xA
 clear qY xA
 have N := Fresh.nil w.heap.size
 refine qh (qp ?_)
 refine sw (jy H [.int .i64 s.qF, .slice qm s.qg.length ql, .slice qE s.qf.length qA] fun b1 w2 H => ?_)
 refine sp (.bool false) ?_
 refine qo (t_n (qh (qp ?_)))
 refine sp (.int .i64 c) ?_
 refine sw (qH b1 (0) 1 Tryz.underlying36 rfl rfl Tryz.sizeOf22 rfl ?_)
 refine sw (qC (.slice qm s.qg.length ql) Tryz.isAgg22 rfl (H.cell 0 rfl rfl) ?_)
 refine sw (xm #[.slice qm s.qg.length ql] rfl rfl Tryz.call95 (sizeI_ok w2 s.qg qm ql qL (H.get 0 rfl).1) ?_)
 rintro _ w3 rfl x4
 replace H := H.ext x4
 refine sw (o_sub (s.qg.length : Int) 1 rfl rfl (by omega) ?_)
 refine sw (xm #[.int .i64 c, .int .i64 0, .int .i64 ((s.qg.length : Int) - 1)] rfl rfl Tryz.call94 (inRange_ok w3 c 0 ((s.qg.length : Int) - 1)) ?_)
 rintro _ w5 rfl x6
 replace H := H.ext x6
 refine sp (.bool (inR c 0 ((s.qg.length : Int) - 1))) ?_
 refine qo (t_n (xh ?_))
 refine ret1 (.bool (inR c 0 ((s.qg.length : Int) - 1))) rfl rfl ⟨_, rfl, ?_, H.base⟩
 rfl

theorem lies_ok (w : World) (s : qR) (c : Int) (within : Int) (qm : Option Addr) (ql : Nat) (qL : List Nat) (qE : Option Addr) (qA : Nat) (xk : List Nat) (qY : qM.rep w qL [.slice qm s.qg.length ql] s.qg) (xA : qM.rep w xk [.slice qE s.qf.length qA] s.qf) (p0 : vZ s) (p1 : CellIn s c) : Calls Tryz.prog 164 #[.agg #[.int .i64 s.qF, .slice qm s.qg.length ql, .slice qE s.qf.length qA], .int .i64 c, .int .i64 within] w (Ret (fun v w' => v = .bool (dec (Lies s.qg within c))) w) := by
 refine enter (n := 22) Tryz.func164 rfl Tryz.ntmps164 (Nat.le_of_ble_eq_true rfl) ?_
 have H := ((St.start w).arg xA).arg qY
 have zH := qJ qY
 have vN := qJ xA
 clear qY xA
 have N := Fresh.nil w.heap.size
 have p2 := p0.step p1.1 p1.2
 refine qh (qp ?_)
 refine sw (jy H [.int .i64 s.qF, .slice qm s.qg.length ql, .slice qE s.qf.length qA] fun b1 w2 H => ?_)
 refine sp (.bool false) ?_
 refine qo (t_n (qh (qh (qp ?_))))
 refine sw (qH b1 (0) 1 Tryz.underlying36 rfl rfl Tryz.sizeOf22 rfl ?_)
 refine sw (qC (.slice qm s.qg.length ql) Tryz.isAgg22 rfl (H.cell 0 rfl rfl) ?_)
 refine sp (.int .i64 c) ?_
 obtain ⟨b3, o4, rfl⟩ := H.addr 0 rfl (by omega)
 refine sw (xE c Tryz.underlying22 ti2 rfl rfl (by omega) (by omega) ?_)
 refine sw (qC (.int .i64 (s.qg[c.toNat]!)) Tryz.isAgg2 rfl (H.vH 0 rfl c (by omega) (by omega)) ?_)
 refine sp (.int .i64 (s.qg[c.toNat]!)) ?_
 refine qo (t_n (xn ?_))
 refine zC (fun m' ρ w6 => ∃ (junk : Env) (c_1 : Int), ρ = upd (upd (upd junk 1 (.int .i64 c_1)) 2 (.int .i64 within)) 3 (pp b1 0) ∧ (-1 ≤ c_1 ∧ c_1 ≤ (s.qg.length : Int) - 1) ∧ (Lies s.qg within c ↔ 0 ≤ c_1 ∧ (c_1 = within ∨ Lies s.qg within c_1)) ∧ m' = (c_1 + 1).toNat ∧ Fresh w.heap.size [] ∧ St w w6 [.box b1 [.int .i64 s.qF, .slice (aa b3 o4) s.qg.length ql, .slice qE s.qf.length qA] 36] [isF false qL (.slice (aa b3 o4) s.qg.length ql) s.qg, isF false xk (.slice qE s.qf.length qA) s.qf]) (((s.qg[c.toNat]!) + 1).toNat) ⟨_, s.qg[c.toNat]!, (by exact qj (qj (qj (rfl) rfl) rfl) rfl), (by omega), (by exact lies_up p0 p1), rfl, N, H⟩ ?_
 clear H N
 rintro m' ρ w7 ⟨junk, c_1, rfl, i0, i1, rfl, N, H⟩
 have up := fun h => p0.step (c := c_1) h i0.2
 refine qh (qh (qp ?_))
 refine sps [.int .i64 c_1, .bool (decide ((c_1 : Int) ≥ 0))] ?_
 refine qo (t_n ?_)
 refine qP (decide ((c_1 : Int) ≥ 0)) rfl (fun h8 => ?_) (fun h8 => ?_)
 ·skip
  replace h8 := of_decide_eq_true h8
  refine xg (t_n (qh (xn (qh (qp ?_)))))
  refine sps [.int .i64 c_1, .int .i64 within, .bool ((c_1 : Int) == within)] ?_
  refine qo (t_n ?_)
  refine qP ((c_1 : Int) == within) rfl (fun h9 => ?_) (fun h9 => ?_)
  ·skip
   replace h9 := eq_of_beq h9
   refine qh (qp ?_)
   refine sp (.bool true) ?_
   refine qo (t_n (xh (b_r (t_r (t_r (b_r (t_r ?_)))))))
   refine ret1 (.bool true) rfl rfl ⟨_, rfl, ?_, H.base⟩
   rw [jD (i1.2 ⟨by omega, .inl ‹_›⟩)]
  replace h9 := ne_of_beq_false h9
  refine xg (b_n (t_n (qp ?_)))
  refine sw (qH b1 (0) 1 Tryz.underlying36 rfl rfl Tryz.sizeOf22 rfl ?_)
  refine sw (qC (.slice (aa b3 o4) s.qg.length ql) Tryz.isAgg22 rfl (H.cell 0 rfl rfl) ?_)
  refine sp (.int .i64 c_1) ?_
  refine sw (xE c_1 Tryz.underlying22 ti2 rfl rfl (by omega) (by omega) ?_)
  refine sw (qC (.int .i64 (s.qg[c_1.toNat]!)) Tryz.isAgg2 rfl (H.vH 0 rfl c_1 (by omega) (by omega)) ?_)
  refine sp (.int .i64 (s.qg[c_1.toNat]!)) ?_
  refine qo ?_
  have up1 := up (by omega)
  refine xy (m' := ((s.qg[c_1.toNat]!) + 1).toNat) (by omega) ⟨_, s.qg[c_1.toNat]!, (by exact qj (qj (qj (rfl) rfl) rfl) rfl), ?_, ?_, rfl, N, H⟩
  · omega
  · exact i1.trans ⟨fun h => (lies_up p0 ⟨by omega, by omega⟩).1 (h.2.resolve_left ‹_›), fun h => ⟨by omega, .inr ((lies_up p0 ⟨by omega, by omega⟩).2 h)⟩⟩
 replace h8 := of_decide_eq_false h8
 refine zx (t_x (t_x (b_x (t_n (qh (qp ?_))))))
 refine sp (.bool false) ?_
 refine qo (t_n (xh ?_))
 refine ret1 (.bool false) rfl rfl ⟨_, rfl, ?_, H.base⟩
 rw [xf (fun h => by have := (i1.1 h).1; omega)]

theorem isRule_ok (w : World) (s : qR) (r : yB) (qm : Option Addr) (ql : Nat) (qL : List Nat) (qE : Option Addr) (qA : Nat) (xk : List Nat) (zJ : Option Addr) (zI : Nat) (yV : List Nat) (ve : Option Addr) (zZ : Nat) (Qw : List Nat) (zQ : Option Addr) (zO : Nat) (Qk : List Nat) (vJ : Option Addr) (vI : Nat) (QK : List Nat) (yj : Option Addr) (yh : Nat) (FrOut : List Nat) (zy : Option Addr) (zh : Nat) (FrInto : List Nat) (qY : qM.rep w qL [.slice qm s.qg.length ql] s.qg) (xA : qM.rep w xk [.slice qE s.qf.length qA] s.qf) (hrNeed : qM.rep w yV [.slice zJ r.qI.length zI] r.qI) (hrHave : qM.rep w Qw [.slice ve r.qW.length zZ] r.qW) (hrLack : qM.rep w Qk [.slice zQ r.qX.length zO] r.qX) (hrHere : qM.rep w QK [.slice vJ r.xe.length vI] r.xe) (hrOut : qM.rep w FrOut [.slice yj r.xO.length yh] r.xO) (hrInto : qM.rep w FrInto [.slice zy r.qx.length zh] r.qx) (p0 : vZ s) : Calls Tryz.prog 153 #[.agg #[.int .i64 s.qF, .slice qm s.qg.length ql, .slice qE s.qf.length qA], .agg #[.int .i64 r.qw, .int .i64 r.xM, .slice zJ r.qI.length zI, .slice ve r.qW.length zZ, .slice zQ r.qX.length zO, .slice vJ r.xe.length vI, .slice yj r.xO.length yh, .slice zy r.qx.length zh, .bool r.xG]] w (Ret (fun v w' => v = .bool (dec (RuleOk s r))) w) := by
 refine enter (n := 114) Tryz.func153 rfl Tryz.ntmps153 (Nat.le_of_ble_eq_true rfl) ?_
 have H := ((((((((St.start w).arg hrInto).arg hrOut).arg hrHere).arg hrLack).arg hrHave).arg hrNeed).arg xA).arg qY
 have zH := qJ qY
 have vN := qJ xA
 have nhrNeed := qJ hrNeed
 have nhrHave := qJ hrHave
 have nhrLack := qJ hrLack
 have nhrHere := qJ hrHere
 have nhrOut := qJ hrOut
 have nhrInto := qJ hrInto
 clear qY xA hrNeed hrHave hrLack hrHere hrOut hrInto
 have N := Fresh.nil w.heap.size
 refine qh (qp ?_)
 refine sw (jy H [.int .i64 s.qF, .slice qm s.qg.length ql, .slice qE s.qf.length qA] fun b1 w2 H => ?_)
 refine sw (jy H [.int .i64 r.qw, .int .i64 r.xM, .slice zJ r.qI.length zI, .slice ve r.qW.length zZ, .slice zQ r.qX.length zO, .slice vJ r.xe.length vI, .slice yj r.xO.length yh, .slice zy r.qx.length zh, .bool r.xG] fun b3 w4 H => ?_)
 refine sp (.bool false) ?_
 refine qo (t_n (qh (qh (qp ?_))))
 refine sw (zn [.int .i64 s.qF, .slice qm s.qg.length ql, .slice qE s.qf.length qA] Tryz.isAgg36 Tryz.sizeOf36 rfl (qK (H.cells 1 rfl) 0 3) ?_)
 refine sw (qH b3 (0) 0 Tryz.underlying110 rfl rfl Tryz.sizeOf2 rfl ?_)
 refine sw (qC (.int .i64 r.qw) Tryz.isAgg2 rfl (H.cell 0 rfl rfl) ?_)
 refine sw (xm #[.agg #[.int .i64 s.qF, .slice qm s.qg.length ql, .slice qE s.qf.length qA], .int .i64 r.qw] rfl rfl Tryz.call51 (isCell_ok w4 s r.qw qm ql qL qE qA xk (H.get 0 rfl).1 (H.get 1 rfl).1) ?_)
 rintro _ w6 rfl x7
 replace H := H.ext x7
 refine sps [.bool (!(inR r.qw 0 ((s.qg.length : Int) - 1))), .bool (!(inR r.qw 0 ((s.qg.length : Int) - 1)))] ?_
 cases h8 : (!(inR r.qw 0 ((s.qg.length : Int) - 1)))
 ·skip
  replace h8 := qN h8
  replace h8 := yZ.1 h8
  refine qO 14 rfl rfl ?_
  refine sw (qH b3 (0) 1 Tryz.underlying110 rfl rfl Tryz.sizeOf2 rfl ?_)
  refine qO 14 rfl rfl ?_
  refine sw (qC (.int .i64 r.xM) Tryz.isAgg2 rfl (H.cell 0 rfl rfl) ?_)
  refine qO 14 rfl rfl ?_
  refine sw (xm #[.int .i64 r.xM, .int .i64 0, .int .i64 9] rfl rfl Tryz.call94 (inRange_ok w6 r.xM 0 9) ?_)
  rintro _ w9 rfl x10
  replace H := H.ext x10
  refine qO 14 rfl rfl ?_
  refine sps [.bool (!(inR r.xM 0 9)), .bool (!(inR r.xM 0 9)), .bool (!(inR r.xM 0 9))] ?_
  cases h11 : (!(inR r.xM 0 9))
  ·skip
   replace h11 := qN h11
   replace h11 := yZ.1 h11
   refine qO 20 rfl rfl ?_
   refine sw (qH b3 (0) 8 Tryz.underlying110 rfl rfl Tryz.sizeOf4 rfl ?_)
   refine qO 20 rfl rfl ?_
   refine sw (qC (.bool r.xG) Tryz.isAgg4 rfl (H.cell 0 rfl rfl) ?_)
   refine qO 20 rfl rfl ?_
   refine sp (.bool r.xG) ?_
   cases h12 : (r.xG)
   ·skip
    rw [h12] at H
    refine xN [24, 25, 26] ?_
    refine qO 20 rfl rfl ?_
    refine sps [.bool false, .bool false, .bool false] ?_
    refine qO 29 rfl rfl ?_
    refine sw (qH b3 (0) 7 Tryz.underlying110 rfl rfl Tryz.sizeOf108 rfl ?_)
    refine qO 29 rfl rfl ?_
    refine sw (qC (.slice zy r.qx.length zh) Tryz.isAgg108 rfl (H.cell 0 rfl rfl) ?_)
    refine qO 29 rfl rfl ?_
    refine sw (zK Tryz.underlying108 zy r.qx.length zh rfl ?_)
    refine qO 29 rfl rfl ?_
    refine sps [.bool (decide ((r.qx.length : Int) > 3)), .bool (decide ((r.qx.length : Int) > 3))] ?_
    refine qo (t_n ?_)
    refine qP (decide ((r.qx.length : Int) > 3)) rfl (fun h13 => ?_) (fun h13 => ?_)
    ·skip
     replace h13 := of_decide_eq_true h13
     refine qh (qp ?_)
     refine sp (.bool false) ?_
     refine qo (t_n (xh (t_r ?_)))
     refine ret1 (.bool false) rfl rfl ⟨_, rfl, ?_, H.base⟩
     rw [xf (fun h => by obtain ⟨h1, h2, h3, h4, h5, h6, h7, h8, h9, h10, h11⟩ := h; first | contradiction | omega | exact h3 ⟨‹_›, ‹_›⟩ | (obtain ⟨q1, q2, q3, q4, q5⟩ := h11 i (by omega); first | contradiction | omega | (have := q5 (by omega); omega)) | (refine absurd ?_ ‹¬ zi _ _›; rcases (show k = 0 ∨ k = 1 ∨ k = 2 ∨ k = 3 ∨ k = 4 by omega) with e | e | e | e | e <;> subst e <;> assumption))]
    replace h13 := of_decide_eq_false h13
    refine xg (t_n (qh (qh (qp ?_))))
    refine sw (qH b3 (0) 2 Tryz.underlying110 rfl rfl Tryz.sizeOf22 rfl ?_)
    refine sw (qC (.slice zJ r.qI.length zI) Tryz.isAgg22 rfl (H.cell 0 rfl rfl) ?_)
    refine sw (qH b3 (0) 3 Tryz.underlying110 rfl rfl Tryz.sizeOf22 rfl ?_)
    refine sw (qC (.slice ve r.qW.length zZ) Tryz.isAgg22 rfl (H.cell 0 rfl rfl) ?_)
    refine sw (qH b3 (0) 4 Tryz.underlying110 rfl rfl Tryz.sizeOf22 rfl ?_)
    refine sw (qC (.slice zQ r.qX.length zO) Tryz.isAgg22 rfl (H.cell 0 rfl rfl) ?_)
    refine sw (qH b3 (0) 5 Tryz.underlying110 rfl rfl Tryz.sizeOf22 rfl ?_)
    refine sw (qC (.slice vJ r.xe.length vI) Tryz.isAgg22 rfl (H.cell 0 rfl rfl) ?_)
    refine sw (qH b3 (0) 6 Tryz.underlying110 rfl rfl Tryz.sizeOf22 rfl ?_)
    refine sw (qC (.slice yj r.xO.length yh) Tryz.isAgg22 rfl (H.cell 0 rfl rfl) ?_)
    refine sw (o_buildF H Tryz.underlying27 ti22 [.slice zJ r.qI.length zI, .slice ve r.qW.length zZ, .slice zQ r.qX.length zO, .slice vJ r.xe.length vI, .slice yj r.xO.length yh] rfl (by simp [Value.cells]) rfl (by decide) (by decide) fun b14 w15 H => ?_)
    refine sw (zK Tryz.underlying27 (aa b14 0) 5 5 rfl ?_)
    refine sp (.int .i64 0) ?_
    refine qo (t_n (xn ?_))
    replace H := H.boxRow 0 rfl 1 5 rfl (by decide)
    try dsimp only [List.set] at H
    replace H := H.Qp (α := List Int)
    replace H := H.repsCons false 7 rfl 0 rfl (by simp)
    replace H := H.repsCons false 7 rfl 0 rfl (by simp)
    replace H := H.repsCons false 7 rfl 0 rfl (by simp)
    replace H := H.repsCons false 7 rfl 0 rfl (by simp)
    replace H := H.repsCons false 7 rfl 0 rfl (by simp)
    refine zC (fun m' ρ w16 => ∃ (junk : Env) (k : Nat), ρ = upd (upd (upd (upd (upd junk 2 (pp b1 0)) 3 (pp b3 0)) 45 (.slice (aa b14 0) 5 5)) 46 (.int .i64 5)) 47 (.int .i64 k) ∧ ((k : Int) ≤ 5) ∧ (∀ j, j < k → zi s.qF ([r.qI, r.qW, r.qX, r.xe, r.xO][j]!)) ∧ m' = (5 - (k : Int)).toNat ∧ Fresh w.heap.size [] ∧ St w w16 [.row (.slice (aa b14 0) 5 5) 22 1 5 [.slice zJ r.qI.length zI, .slice ve r.qW.length zZ, .slice zQ r.qX.length zO, .slice vJ r.xe.length vI, .slice yj r.xO.length yh], .box b3 [.int .i64 r.qw, .int .i64 r.xM, .slice zJ r.qI.length zI, .slice ve r.qW.length zZ, .slice zQ r.qX.length zO, .slice vJ r.xe.length vI, .slice yj r.xO.length yh, .slice zy r.qx.length zh, .bool false] 110, .box b1 [.int .i64 s.qF, .slice qm s.qg.length ql, .slice qE s.qf.length qA] 36] [jo false (yV ++ (Qw ++ (Qk ++ (QK ++ (FrOut ++ []))))) [.slice zJ r.qI.length zI, .slice ve r.qW.length zZ, .slice zQ r.qX.length zO, .slice vJ r.xe.length vI, .slice yj r.xO.length yh] [r.qI, r.qW, r.qX, r.xe, r.xO], isF false qL (.slice qm s.qg.length ql) s.qg, isF false xk (.slice qE s.qf.length qA) s.qf, isF false yV (.slice zJ r.qI.length zI) r.qI, isF false Qw (.slice ve r.qW.length zZ) r.qW, isF false Qk (.slice zQ r.qX.length zO) r.qX, isF false QK (.slice vJ r.xe.length vI) r.xe, isF false FrOut (.slice yj r.xO.length yh) r.xO, isF false FrInto (.slice zy r.qx.length zh) r.qx]) ((5 - (0 : Int)).toNat) ⟨_, 0, (by exact qj (qj (qj (qj (qj (rfl) rfl) rfl) rfl) rfl) rfl), (by omega), (by intro j hj; omega), rfl, N, H.pick [0, 1, 2] [0, 6, 7, 8, 9, 10, 11, 12, 13]⟩ ?_
    clear H N
    rintro m' ρ w17 ⟨junk, k, rfl, i0, i1, rfl, N, H⟩
    refine qh (qp ?_)
    refine sp (.bool (decide ((k : Int) < 5))) ?_
    refine qo (t_n (qh ?_))
    refine qP (decide ((k : Int) < 5)) rfl (fun h18 => ?_) (fun h18 => ?_)
    ·skip
     replace h18 := of_decide_eq_true h18
     refine xg (t_n (qh (xn (qh (qp ?_)))))
     refine sw (xE k Tryz.underlying27 ti22 rfl rfl (by omega) (by omega) ?_)
     obtain ⟨a19, c20, G21, s22, h23, H⟩ := H.Qb 0 rfl 0 rfl (iv := k) k (by omega) (by omega)
     refine sw (qC (.slice a19 (([r.qI, r.qW, r.qX, r.xe, r.xO][k]!).length) c20) Tryz.isAgg22 rfl (h23) ?_)
     refine sp (.slice a19 (([r.qI, r.qW, r.qX, r.xe, r.xO][k]!).length) c20) ?_
     refine qo (t_n (qh (qp ?_)))
     refine sw (qH b1 (0) 0 Tryz.underlying36 rfl rfl Tryz.sizeOf2 rfl ?_)
     refine sw (qC (.int .i64 s.qF) Tryz.isAgg2 rfl (H.cell 2 rfl rfl) ?_)
     refine sp (.slice a19 (([r.qI, r.qW, r.qX, r.xe, r.xO][k]!).length) c20) ?_
     refine sw (xm #[.int .i64 s.qF, .slice a19 (([r.qI, r.qW, r.qX, r.xe, r.xO][k]!).length) c20] rfl rfl Tryz.call123 (Xl w17 s.qF ([r.qI, r.qW, r.qX, r.xe, r.xO][k]!) a19 c20 G21 (H.get 0 rfl).1) ?_)
     rintro _ w24 rfl x25
     replace H := H.ext x25
     refine sp (.bool (!(dec (zi s.qF ([r.qI, r.qW, r.qX, r.xe, r.xO][k]!))))) ?_
     refine qo (t_n ?_)
     refine qP (!(dec (zi s.qF ([r.qI, r.qW, r.qX, r.xe, r.xO][k]!)))) rfl (fun h26 => ?_) (fun h26 => ?_)
     ·skip
      replace h26 := qQ h26
      replace h26 := xP h26
      refine qh (qp ?_)
      refine sp (.bool false) ?_
      refine qo (t_n (xh (b_r (t_r (t_r (b_r (t_r ?_)))))))
      refine ret1 (.bool false) rfl rfl ⟨_, rfl, ?_, H.base⟩
      rw [xf (fun h => by obtain ⟨h1, h2, h3, h4, h5, h6, h7, h8, h9, h10, h11⟩ := h; first | contradiction | omega | exact h3 ⟨‹_›, ‹_›⟩ | (obtain ⟨q1, q2, q3, q4, q5⟩ := h11 i (by omega); first | contradiction | omega | (have := q5 (by omega); omega)) | (refine absurd ?_ ‹¬ zi _ _›; rcases (show k = 0 ∨ k = 1 ∨ k = 2 ∨ k = 3 ∨ k = 4 by omega) with e | e | e | e | e <;> subst e <;> assumption))]
     replace h26 := qN h26
     replace h26 := vT h26
     refine xg (b_n (t_n (qp ?_)))
     refine sw (zD k 1 rfl rfl (by omega) ?_)
     refine sp (.int .i64 (k + 1)) ?_
     refine qo ?_
     refine xy (m' := (5 - ((k + 1) : Int)).toNat) (by omega) ⟨_, k + 1, (by exact qj (qj (qj (qj (qj (rfl) rfl) rfl) rfl) rfl) rfl), ?_, ?_, rfl, N, H.pick [0, 1, 2] [1, 2, 3, 4, 5, 6, 7, 8, 9]⟩
     · omega
     · intro j hj; by_cases e : j = k; (subst e; assumption); exact i1 j (by omega)
    replace h18 := of_decide_eq_false h18
    refine zx (t_x (t_x (b_x (t_n (qh (qh (qp ?_)))))))
    refine sw (qH b3 (0) 7 Tryz.underlying110 rfl rfl Tryz.sizeOf108 rfl ?_)
    refine sw (qC (.slice zy r.qx.length zh) Tryz.isAgg108 rfl (H.cell 1 rfl rfl) ?_)
    refine sw (zK Tryz.underlying108 zy r.qx.length zh rfl ?_)
    refine sp (.int .i64 0) ?_
    refine qo (t_n (xn ?_))
    have n1 : zi s.qF r.qI := i1 0 (by omega)
    have n2 : zi s.qF r.qW := i1 1 (by omega)
    have n3 : zi s.qF r.qX := i1 2 (by omega)
    have n4 : zi s.qF r.xe := i1 3 (by omega)
    have n5 : zi s.qF r.xO := i1 4 (by omega)
    refine zC (fun m' ρ w27 => ∃ (junk : Env) (i : Nat), ρ = upd (upd (upd (upd (upd junk 2 (pp b1 0)) 3 (pp b3 0)) 58 (.slice zy r.qx.length zh)) 59 (.int .i64 r.qx.length)) 60 (.int .i64 i) ∧ ((i : Int) ≤ r.qx.length) ∧ (IntosTo s r i) ∧ m' = (r.qx.length - (i : Int)).toNat ∧ Fresh w.heap.size [] ∧ St w w27 [.row (.slice (aa b14 0) 5 5) 22 1 5 [.slice zJ r.qI.length zI, .slice ve r.qW.length zZ, .slice zQ r.qX.length zO, .slice vJ r.xe.length vI, .slice yj r.xO.length yh], .box b3 [.int .i64 r.qw, .int .i64 r.xM, .slice zJ r.qI.length zI, .slice ve r.qW.length zZ, .slice zQ r.qX.length zO, .slice vJ r.xe.length vI, .slice yj r.xO.length yh, .slice zy r.qx.length zh, .bool false] 110, .box b1 [.int .i64 s.qF, .slice qm s.qg.length ql, .slice qE s.qf.length qA] 36] [jo false (yV ++ (Qw ++ (Qk ++ (QK ++ (FrOut ++ []))))) [.slice zJ r.qI.length zI, .slice ve r.qW.length zZ, .slice zQ r.qX.length zO, .slice vJ r.xe.length vI, .slice yj r.xO.length yh] [r.qI, r.qW, r.qX, r.xe, r.xO], isF false qL (.slice qm s.qg.length ql) s.qg, isF false xk (.slice qE s.qf.length qA) s.qf, isF false yV (.slice zJ r.qI.length zI) r.qI, isF false Qw (.slice ve r.qW.length zZ) r.qW, isF false Qk (.slice zQ r.qX.length zO) r.qX, isF false QK (.slice vJ r.xe.length vI) r.xe, isF false FrOut (.slice yj r.xO.length yh) r.xO, isF false FrInto (.slice zy r.qx.length zh) r.qx]) ((r.qx.length - (0 : Int)).toNat) ⟨_, 0, (by exact qj (qj (qj (qj (qj (rfl) rfl) rfl) rfl) rfl) rfl), (by omega), (by exact fun j hj => by omega), rfl, N, H⟩ ?_
    clear H N
    rintro m' ρ w28 ⟨junk, i, rfl, i0, i2, rfl, N, H⟩
    refine qh (qp ?_)
    refine sp (.bool (decide ((i : Int) < r.qx.length))) ?_
    refine qo (t_n (qh ?_))
    refine qP (decide ((i : Int) < r.qx.length)) rfl (fun h29 => ?_) (fun h29 => ?_)
    ·skip
     replace h29 := of_decide_eq_true h29
     refine xg (t_n (qh (xn (qh (qp ?_)))))
     refine sp (.int .i64 i) ?_
     obtain ⟨b30, o31, rfl⟩ := H.addr 8 rfl (by omega)
     obtain ⟨Xp, Xo, Fe33Bag, H⟩ := H.vP 8 rfl i i (by omega) (by omega) (by omega)
     refine sw (xE i Tryz.underlying108 ti115 rfl rfl (by omega) (by omega) ?_)
     refine sw (zn [.int .i64 ((r.qx[i]!).qw), .slice Xp (((r.qx[i]!).zF).length) Xo] Tryz.isAgg115 Tryz.sizeOf115 rfl (qK (H.get 1 rfl) 0 2) ?_)
     refine sw (QP H ti115 [.int .i64 0, .slice none 0 0] fun b34 w35 H => ?_)
     refine sp (.int .i64 i) ?_
     refine sw (QO H 0 [.int .i64 ((r.qx[i]!).qw), .slice Xp (((r.qx[i]!).zF).length) Xo] Tryz.sizeOf115 fun w36 H => ?_)
     try dsimp only [List.set] at H
     refine qo (t_n (qh ?_))
     refine jf rfl H fun H => ?_
     refine rt 0 (.agg #[.int .i64 s.qF, .slice qm s.qg.length ql, .slice qE s.qf.length qA]) (yu (cs := [.int .i64 s.qF, .slice qm s.qg.length ql, .slice qE s.qf.length qA]) Tryz.isAgg36 Tryz.sizeOf36 rfl (fun _ h => qK (h.cells 3 rfl) 0 3)) H ?_
     refine rt 1 (pp b34 (0 + 0)) (xH b34 (0) 0 Tryz.underlying115 rfl rfl Tryz.sizeOf2 rfl) H ?_
     refine rt 2 (.int .i64 ((r.qx[i]!).qw)) (xw Tryz.isAgg2 rfl (fun _ h => h.cell 0 rfl rfl)) H ?_
     refine zt [3] (by kernel_rfl) (by simp) (yF rfl ?_ zu)
     refine xm #[.agg #[.int .i64 s.qF, .slice qm s.qg.length ql, .slice qE s.qf.length qA], .int .i64 ((r.qx[i]!).qw)] rfl rfl Tryz.call51 (isCell_ok w36.drew s ((r.qx[i]!).qw) qm ql qL qE qA xk (H.get 3 rfl).1 (H.get 4 rfl).1) ?_
     rintro _ w39 rfl x40
     replace H := H.ext x40
     refine ⟨H, ?_⟩
     refine rtp 4 (.bool (!(inR ((r.qx[i]!).qw) 0 ((s.qg.length : Int) - 1)))) H ?_
     refine rtp 5 (.bool (!(inR ((r.qx[i]!).qw) 0 ((s.qg.length : Int) - 1)))) H ?_
     cases h41 : (!(inR ((r.qx[i]!).qw) 0 ((s.qg.length : Int) - 1)))
     ·skip
      replace h41 := qN h41
      replace h41 := yZ.1 h41
      refine rg 6 (.agg #[.int .i64 s.qF, .slice qm s.qg.length ql, .slice qE s.qf.length qA]) 70 (yu (cs := [.int .i64 s.qF, .slice qm s.qg.length ql, .slice qE s.qf.length qA]) Tryz.isAgg36 Tryz.sizeOf36 rfl (fun _ h => qK (h.cells 3 rfl) 0 3)) H ?_
      refine rg 7 (pp b34 (0 + 0)) 70 (xH b34 (0) 0 Tryz.underlying115 rfl rfl Tryz.sizeOf2 rfl) H ?_
      refine rg 8 (.int .i64 ((r.qx[i]!).qw)) 70 (xw Tryz.isAgg2 rfl (fun _ h => h.cell 0 rfl rfl)) H ?_
      refine rg 9 (pp b3 (0 + 0)) 70 (xH b3 (0) 0 Tryz.underlying110 rfl rfl Tryz.sizeOf2 rfl) H ?_
      refine rg 10 (.int .i64 r.qw) 70 (xw Tryz.isAgg2 rfl (fun _ h => h.cell 2 rfl rfl)) H ?_
      refine zt [11] (by kernel_rfl) (by simp) (r_opG rfl (e := 70) rfl rfl ?_ zu)
      refine xm #[.agg #[.int .i64 s.qF, .slice qm s.qg.length ql, .slice qE s.qf.length qA], .int .i64 ((r.qx[i]!).qw), .int .i64 r.qw] rfl rfl Tryz.call164 (lies_ok w39 s ((r.qx[i]!).qw) r.qw qm ql qL qE qA xk (H.get 3 rfl).1 (H.get 4 rfl).1 (by first | assumption | omega) (by first | assumption | omega)) ?_
      rintro _ w43 rfl x44
      replace H := H.ext x44
      refine ⟨H, ?_⟩
      refine rgp 12 (.bool (!(dec (Lies s.qg r.qw ((r.qx[i]!).qw))))) 70 H ?_
      refine rtp 13 (.bool (!(dec (Lies s.qg r.qw ((r.qx[i]!).qw))))) H ?_
      refine rtp 14 (.bool (!(dec (Lies s.qg r.qw ((r.qx[i]!).qw))))) H ?_
      cases h45 : (!(dec (Lies s.qg r.qw ((r.qx[i]!).qw))))
      ·skip
       replace h45 := qN h45
       replace h45 := vT h45
       refine rg 15 (pp b1 (0 + 0)) 79 (xH b1 (0) 0 Tryz.underlying36 rfl rfl Tryz.sizeOf2 rfl) H ?_
       refine rg 16 (.int .i64 s.qF) 79 (xw Tryz.isAgg2 rfl (fun _ h => h.cell 3 rfl rfl)) H ?_
       refine rg 17 (pp b34 (0 + 1)) 79 (xH b34 (0) 1 Tryz.underlying115 rfl rfl Tryz.sizeOf22 rfl) H ?_
       refine rg 18 (.slice Xp (((r.qx[i]!).zF).length) Xo) 79 (xw Tryz.isAgg22 rfl (fun _ h => h.cell 0 rfl rfl)) H ?_
       refine zt [19] (by kernel_rfl) (by simp) (r_opG rfl (e := 79) rfl rfl ?_ zu)
       refine xm #[.int .i64 s.qF, .slice Xp (((r.qx[i]!).zF).length) Xo] rfl rfl Tryz.call123 (Xl w43 s.qF ((r.qx[i]!).zF) Xp Xo Fe33Bag (H.get 0 rfl).1) ?_
       rintro _ w46 rfl x47
       replace H := H.ext x47
       refine ⟨H, ?_⟩
       refine rgp 20 (.bool (!(dec (zi s.qF ((r.qx[i]!).zF))))) 79 H ?_
       refine rtp 21 (.bool (!(dec (zi s.qF ((r.qx[i]!).zF))))) H ?_
       refine rtp 22 (.bool (!(dec (zi s.qF ((r.qx[i]!).zF))))) H ?_
       cases h48 : (!(dec (zi s.qF ((r.qx[i]!).zF))))
       ·skip
        replace h48 := qN h48
        replace h48 := vT h48
        refine rg 23 (pp b34 (0 + 1)) 87 (xH b34 (0) 1 Tryz.underlying115 rfl rfl Tryz.sizeOf22 rfl) H ?_
        refine rg 24 (.slice Xp (((r.qx[i]!).zF).length) Xo) 87 (xw Tryz.isAgg22 rfl (fun _ h => h.cell 0 rfl rfl)) H ?_
        refine zt [25] (by kernel_rfl) (by simp) (r_opG rfl (e := 87) rfl rfl ?_ zu)
        have sm : Small ((r.qx[i]!).zF) := vG (by first | assumption | exact i1 0 (by omega))
        refine xm #[.slice Xp (((r.qx[i]!).zF).length) Xo] rfl rfl Tryz.call124 (bagSize_ok w46 ((r.qx[i]!).zF) Xp Xo Fe33Bag (H.get 0 rfl).1 (by first | assumption | exact vG (by assumption) | exact Qi (by assumption))) ?_
        rintro _ w49 rfl x50
        replace H := H.ext x50
        refine ⟨H, ?_⟩
        refine rgp 26 (.bool ((sumL ((r.qx[i]!).zF) : Int) == 0)) 87 H ?_
        refine rtp 27 (.bool ((sumL ((r.qx[i]!).zF) : Int) == 0)) H ?_
        refine rtp 28 (.bool ((sumL ((r.qx[i]!).zF) : Int) == 0)) H ?_
        cases h51 : ((sumL ((r.qx[i]!).zF) : Int) == 0)
        ·skip
         replace h51 := ne_of_beq_false h51
         refine rgp 29 (.int .i64 i) 93 H ?_
         refine rgp 30 (.bool (decide ((i : Int) > 0))) 93 H ?_
         refine rgp 31 (.bool (decide ((i : Int) > 0))) 93 H ?_
         cases h52 : (decide ((i : Int) > 0))
         ·skip
          replace h52 := of_decide_eq_false h52
          refine zq [32, 33, 34, 35, 36, 37, 38, 39, 40, 41] 10 (H) ?_
          refine rgp 42 (.bool false) 93 H ?_
          refine rtp 43 (.bool false) H ?_
          refine xZ (by kernel_rfl) (t_n ?_)
          refine qP false rfl (fun h => absurd h (by decide)) (fun _ => ?_)
          refine xg (b_n (t_n (qp ?_)))
          refine sw (zD i 1 rfl rfl (by omega) ?_)
          refine sp (.int .i64 (i + 1)) ?_
          refine qo ?_
          refine xy (m' := (r.qx.length - ((i + 1) : Int)).toNat) (by omega) ⟨_, i + 1, (by exact qj (qj (qj (qj (qj (rfl) rfl) rfl) rfl) rfl) rfl), ?_, ?_, rfl, N, H.pick [1, 2, 3] [2, 3, 4, 5, 6, 7, 8, 9, 10]⟩
          · omega
          · exact i2.succ ⟨‹_›, ‹_›, ‹_›, ‹_›, fun hk => by omega⟩
         replace h52 := of_decide_eq_true h52
         refine rg 32 (pp b34 (0 + 0)) 96 (xH b34 (0) 0 Tryz.underlying115 rfl rfl Tryz.sizeOf2 rfl) H ?_
         refine rg 33 (.int .i64 ((r.qx[i]!).qw)) 96 (xw Tryz.isAgg2 rfl (fun _ h => h.cell 0 rfl rfl)) H ?_
         refine rg 34 (pp b3 (0 + 7)) 96 (xH b3 (0) 7 Tryz.underlying110 rfl rfl Tryz.sizeOf108 rfl) H ?_
         refine rg 35 (.slice (aa b30 o31) r.qx.length zh) 96 (xw Tryz.isAgg108 rfl (fun _ h => h.cell 2 rfl rfl)) H ?_
         refine rgp 36 (.int .i64 i) 96 H ?_
         refine rg 37 (.int .i64 (i - 1)) 96 (y_sub i 1 rfl rfl (by omega)) H ?_
         obtain ⟨ae53Bag, ce53Bag, Fe53Bag, H⟩ := H.vP 10 rfl (i - 1) (i - 1) (by omega) (by omega) (by omega)
         have S := H.QN [0, 1, 2, 3] [2, 3, 4, 5, 6, 7, 8, 9, 10, 11, 12]
         refine rg 38 (pp b30 (o31 + (i - 1 : Int).toNat * 2)) 96 (xQ b30 (o31) r.qx.length zh (i - 1) Tryz.underlying108 ti115 rfl rfl (by omega) (by omega)) S ?_
         refine rg 39 (pp b30 (o31 + (i - 1 : Int).toNat * 2 + 0)) 96 (xH b30 (o31 + (i - 1 : Int).toNat * 2) 0 Tryz.underlying115 rfl rfl Tryz.sizeOf2 rfl) S ?_
         refine zt [40] (by kernel_rfl) (by simp) (r_opG rfl (e := 96) rfl rfl ?_ zu)
         refine qC (.int .i64 ((r.qx[i - 1]!).qw)) Tryz.isAgg2 rfl (H.xU 1 rfl 0 rfl) ?_
         refine ⟨H.pick [0, 1, 2, 3] [2, 3, 4, 5, 6, 7, 8, 9, 10, 11, 12], ?_⟩
         have S := H.QN [0, 1, 2, 3] [2, 3, 4, 5, 6, 7, 8, 9, 10, 11, 12]
         refine rgp 41 (.bool (decide (((r.qx[i]!).qw : Int) ≤ ((r.qx[i - 1]!).qw)))) 96 S ?_
         refine rgp 42 (.bool (decide (((r.qx[i]!).qw : Int) ≤ ((r.qx[i - 1]!).qw)))) 93 S ?_
         refine rtp 43 (.bool (decide (((r.qx[i]!).qw : Int) ≤ ((r.qx[i - 1]!).qw)))) S ?_
         refine xZ (by kernel_rfl) (t_n ?_)
         refine qP (decide (((r.qx[i]!).qw : Int) ≤ ((r.qx[i - 1]!).qw))) rfl (fun h54 => ?_) (fun h54 => ?_)
         ·skip
          replace h54 := of_decide_eq_true h54
          refine qh (qp ?_)
          refine sp (.bool false) ?_
          refine qo (t_n (xh (b_r (t_r (t_r (b_r (t_r ?_)))))))
          refine ret1 (.bool false) rfl rfl ⟨_, rfl, ?_, H.base⟩
          rw [xf (fun h => by obtain ⟨h1, h2, h3, h4, h5, h6, h7, h8, h9, h10, h11⟩ := h; first | contradiction | omega | exact h3 ⟨‹_›, ‹_›⟩ | (obtain ⟨q1, q2, q3, q4, q5⟩ := h11 i (by omega); first | contradiction | omega | (have := q5 (by omega); omega)) | (refine absurd ?_ ‹¬ zi _ _›; rcases (show k = 0 ∨ k = 1 ∨ k = 2 ∨ k = 3 ∨ k = 4 by omega) with e | e | e | e | e <;> subst e <;> assumption))]
         replace h54 := of_decide_eq_false h54
         refine xg (b_n (t_n (qp ?_)))
         refine sw (zD i 1 rfl rfl (by omega) ?_)
         refine sp (.int .i64 (i + 1)) ?_
         refine qo ?_
         refine xy (m' := (r.qx.length - ((i + 1) : Int)).toNat) (by omega) ⟨_, i + 1, (by exact qj (qj (qj (qj (qj (rfl) rfl) rfl) rfl) rfl) rfl), ?_, ?_, rfl, N, H.pick [1, 2, 3] [4, 5, 6, 7, 8, 9, 10, 11, 12]⟩
         · omega
         · exact i2.succ ⟨‹_›, ‹_›, ‹_›, ‹_›, fun hk => by omega⟩
        replace h51 := eq_of_beq h51
        refine zq [29, 30, 31, 32, 33, 34, 35, 36, 37, 38, 39, 40, 41, 42] 14 (H) ?_
        refine rtp 43 (.bool true) H ?_
        refine xZ (by kernel_rfl) (t_n ?_)
        refine qP true rfl (fun _ => ?_) (fun h => absurd h (by decide))
        refine qh (qp ?_)
        refine sp (.bool false) ?_
        refine qo (t_n (xh (b_r (t_r (t_r (b_r (t_r ?_)))))))
        refine ret1 (.bool false) rfl rfl ⟨_, rfl, ?_, H.base⟩
        rw [xf (fun h => by obtain ⟨h1, h2, h3, h4, h5, h6, h7, h8, h9, h10, h11⟩ := h; first | contradiction | omega | exact h3 ⟨‹_›, ‹_›⟩ | (obtain ⟨q1, q2, q3, q4, q5⟩ := h11 i (by omega); first | contradiction | omega | (have := q5 (by omega); omega)) | (refine absurd ?_ ‹¬ zi _ _›; rcases (show k = 0 ∨ k = 1 ∨ k = 2 ∨ k = 3 ∨ k = 4 by omega) with e | e | e | e | e <;> subst e <;> assumption))]
       replace h48 := qQ h48
       replace h48 := xP h48
       refine zq [23, 24, 25, 26] 4 (H) ?_
       refine rtp 27 (.bool true) H ?_
       refine rtp 28 (.bool true) H ?_
       refine zq [29, 30, 31, 32, 33, 34, 35, 36, 37, 38, 39, 40, 41, 42] 14 (H) ?_
       refine rtp 43 (.bool true) H ?_
       refine xZ (by kernel_rfl) (t_n ?_)
       refine qP true rfl (fun _ => ?_) (fun h => absurd h (by decide))
       refine qh (qp ?_)
       refine sp (.bool false) ?_
       refine qo (t_n (xh (b_r (t_r (t_r (b_r (t_r ?_)))))))
       refine ret1 (.bool false) rfl rfl ⟨_, rfl, ?_, H.base⟩
       rw [xf (fun h => by obtain ⟨h1, h2, h3, h4, h5, h6, h7, h8, h9, h10, h11⟩ := h; first | contradiction | omega | exact h3 ⟨‹_›, ‹_›⟩ | (obtain ⟨q1, q2, q3, q4, q5⟩ := h11 i (by omega); first | contradiction | omega | (have := q5 (by omega); omega)) | (refine absurd ?_ ‹¬ zi _ _›; rcases (show k = 0 ∨ k = 1 ∨ k = 2 ∨ k = 3 ∨ k = 4 by omega) with e | e | e | e | e <;> subst e <;> assumption))]
      replace h45 := qQ h45
      replace h45 := xP h45
      refine zq [15, 16, 17, 18, 19, 20] 6 (H) ?_
      refine rtp 21 (.bool true) H ?_
      refine rtp 22 (.bool true) H ?_
      refine zq [23, 24, 25, 26] 4 (H) ?_
      refine rtp 27 (.bool true) H ?_
      refine rtp 28 (.bool true) H ?_
      refine zq [29, 30, 31, 32, 33, 34, 35, 36, 37, 38, 39, 40, 41, 42] 14 (H) ?_
      refine rtp 43 (.bool true) H ?_
      refine xZ (by kernel_rfl) (t_n ?_)
      refine qP true rfl (fun _ => ?_) (fun h => absurd h (by decide))
      refine qh (qp ?_)
      refine sp (.bool false) ?_
      refine qo (t_n (xh (b_r (t_r (t_r (b_r (t_r ?_)))))))
      refine ret1 (.bool false) rfl rfl ⟨_, rfl, ?_, H.base⟩
      rw [xf (fun h => by obtain ⟨h1, h2, h3, h4, h5, h6, h7, h8, h9, h10, h11⟩ := h; first | contradiction | omega | exact h3 ⟨‹_›, ‹_›⟩ | (obtain ⟨q1, q2, q3, q4, q5⟩ := h11 i (by omega); first | contradiction | omega | (have := q5 (by omega); omega)) | (refine absurd ?_ ‹¬ zi _ _›; rcases (show k = 0 ∨ k = 1 ∨ k = 2 ∨ k = 3 ∨ k = 4 by omega) with e | e | e | e | e <;> subst e <;> assumption))]
     replace h41 := qQ h41
     replace h41 := Qx h41
     refine zq [6, 7, 8, 9, 10, 11, 12] 7 (H) ?_
     refine rtp 13 (.bool true) H ?_
     refine rtp 14 (.bool true) H ?_
     refine zq [15, 16, 17, 18, 19, 20] 6 (H) ?_
     refine rtp 21 (.bool true) H ?_
     refine rtp 22 (.bool true) H ?_
     refine zq [23, 24, 25, 26] 4 (H) ?_
     refine rtp 27 (.bool true) H ?_
     refine rtp 28 (.bool true) H ?_
     refine zq [29, 30, 31, 32, 33, 34, 35, 36, 37, 38, 39, 40, 41, 42] 14 (H) ?_
     refine rtp 43 (.bool true) H ?_
     refine xZ (by kernel_rfl) (t_n ?_)
     refine qP true rfl (fun _ => ?_) (fun h => absurd h (by decide))
     refine qh (qp ?_)
     refine sp (.bool false) ?_
     refine qo (t_n (xh (b_r (t_r (t_r (b_r (t_r ?_)))))))
     refine ret1 (.bool false) rfl rfl ⟨_, rfl, ?_, H.base⟩
     rw [xf (fun h => by obtain ⟨h1, h2, h3, h4, h5, h6, h7, h8, h9, h10, h11⟩ := h; first | contradiction | omega | exact h3 ⟨‹_›, ‹_›⟩ | (obtain ⟨q1, q2, q3, q4, q5⟩ := h11 i (by omega); first | contradiction | omega | (have := q5 (by omega); omega)) | (refine absurd ?_ ‹¬ zi _ _›; rcases (show k = 0 ∨ k = 1 ∨ k = 2 ∨ k = 3 ∨ k = 4 by omega) with e | e | e | e | e <;> subst e <;> assumption))]
    replace h29 := of_decide_eq_false h29
    refine zx (t_x (t_x (b_x (t_n (qh (qp ?_))))))
    refine sw (qH b3 (0) 2 Tryz.underlying110 rfl rfl Tryz.sizeOf22 rfl ?_)
    refine sw (qC (.slice zJ r.qI.length zI) Tryz.isAgg22 rfl (H.cell 1 rfl rfl) ?_)
    have sm : Small r.qI := vG (by first | assumption | exact i1 0 (by omega))
    refine sw (xm #[.slice zJ r.qI.length zI] rfl rfl Tryz.call124 (bagSize_ok w28 r.qI zJ zI yV (H.get 3 rfl).1 (by first | assumption | exact vG (by assumption) | exact Qi (by assumption))) ?_)
    rintro _ w55 rfl x56
    replace H := H.ext x56
    refine sps [.bool (decide ((sumL r.qI : Int) > 0)), .bool (decide ((sumL r.qI : Int) > 0))] ?_
    refine qo (t_n (xh ?_))
    refine ret1 (.bool (decide ((sumL r.qI : Int) > 0))) rfl rfl ⟨_, rfl, ?_, H.base⟩
    refine congrArg Value.bool (dec_eq ?_)
    rw [decide_eq_true_iff]
    exact ⟨fun h => ⟨by omega, by omega, by simp_all, by omega, n1, n2, n3, n4, n5, by omega, (show i = r.qx.length by omega) ▸ i2⟩, fun h => by have := h.2.2.2.2.2.2.2.2.2.1; have := sum_nonneg n1.1; omega⟩
   rw [h12] at H
   refine qO 23 rfl rfl ?_
   refine sw (qH b3 (0) 0 Tryz.underlying110 rfl rfl Tryz.sizeOf2 rfl ?_)
   refine qO 23 rfl rfl ?_
   refine sw (qC (.int .i64 r.qw) Tryz.isAgg2 rfl (H.cell 0 rfl rfl) ?_)
   refine qO 23 rfl rfl ?_
   refine sp (.bool ((r.qw : Int) == 0)) ?_
   refine qO 20 rfl rfl ?_
   refine sps [.bool ((r.qw : Int) == 0), .bool ((r.qw : Int) == 0), .bool ((r.qw : Int) == 0)] ?_
   cases h57 : ((r.qw : Int) == 0)
   ·skip
    replace h57 := ne_of_beq_false h57
    refine qO 29 rfl rfl ?_
    refine sw (qH b3 (0) 7 Tryz.underlying110 rfl rfl Tryz.sizeOf108 rfl ?_)
    refine qO 29 rfl rfl ?_
    refine sw (qC (.slice zy r.qx.length zh) Tryz.isAgg108 rfl (H.cell 0 rfl rfl) ?_)
    refine qO 29 rfl rfl ?_
    refine sw (zK Tryz.underlying108 zy r.qx.length zh rfl ?_)
    refine qO 29 rfl rfl ?_
    refine sps [.bool (decide ((r.qx.length : Int) > 3)), .bool (decide ((r.qx.length : Int) > 3))] ?_
    refine qo (t_n ?_)
    refine qP (decide ((r.qx.length : Int) > 3)) rfl (fun h58 => ?_) (fun h58 => ?_)
    ·skip
     replace h58 := of_decide_eq_true h58
     refine qh (qp ?_)
     refine sp (.bool false) ?_
     refine qo (t_n (xh (t_r ?_)))
     refine ret1 (.bool false) rfl rfl ⟨_, rfl, ?_, H.base⟩
     rw [xf (fun h => by obtain ⟨h1, h2, h3, h4, h5, h6, h7, h8, h9, h10, h11⟩ := h; first | contradiction | omega | exact h3 ⟨‹_›, ‹_›⟩ | (obtain ⟨q1, q2, q3, q4, q5⟩ := h11 i (by omega); first | contradiction | omega | (have := q5 (by omega); omega)) | (refine absurd ?_ ‹¬ zi _ _›; rcases (show k = 0 ∨ k = 1 ∨ k = 2 ∨ k = 3 ∨ k = 4 by omega) with e | e | e | e | e <;> subst e <;> assumption))]
    replace h58 := of_decide_eq_false h58
    refine xg (t_n (qh (qh (qp ?_))))
    refine sw (qH b3 (0) 2 Tryz.underlying110 rfl rfl Tryz.sizeOf22 rfl ?_)
    refine sw (qC (.slice zJ r.qI.length zI) Tryz.isAgg22 rfl (H.cell 0 rfl rfl) ?_)
    refine sw (qH b3 (0) 3 Tryz.underlying110 rfl rfl Tryz.sizeOf22 rfl ?_)
    refine sw (qC (.slice ve r.qW.length zZ) Tryz.isAgg22 rfl (H.cell 0 rfl rfl) ?_)
    refine sw (qH b3 (0) 4 Tryz.underlying110 rfl rfl Tryz.sizeOf22 rfl ?_)
    refine sw (qC (.slice zQ r.qX.length zO) Tryz.isAgg22 rfl (H.cell 0 rfl rfl) ?_)
    refine sw (qH b3 (0) 5 Tryz.underlying110 rfl rfl Tryz.sizeOf22 rfl ?_)
    refine sw (qC (.slice vJ r.xe.length vI) Tryz.isAgg22 rfl (H.cell 0 rfl rfl) ?_)
    refine sw (qH b3 (0) 6 Tryz.underlying110 rfl rfl Tryz.sizeOf22 rfl ?_)
    refine sw (qC (.slice yj r.xO.length yh) Tryz.isAgg22 rfl (H.cell 0 rfl rfl) ?_)
    refine sw (o_buildF H Tryz.underlying27 ti22 [.slice zJ r.qI.length zI, .slice ve r.qW.length zZ, .slice zQ r.qX.length zO, .slice vJ r.xe.length vI, .slice yj r.xO.length yh] rfl (by simp [Value.cells]) rfl (by decide) (by decide) fun b59 w60 H => ?_)
    refine sw (zK Tryz.underlying27 (aa b59 0) 5 5 rfl ?_)
    refine sp (.int .i64 0) ?_
    refine qo (t_n (xn ?_))
    replace H := H.boxRow 0 rfl 1 5 rfl (by decide)
    try dsimp only [List.set] at H
    replace H := H.Qp (α := List Int)
    replace H := H.repsCons false 7 rfl 0 rfl (by simp)
    replace H := H.repsCons false 7 rfl 0 rfl (by simp)
    replace H := H.repsCons false 7 rfl 0 rfl (by simp)
    replace H := H.repsCons false 7 rfl 0 rfl (by simp)
    replace H := H.repsCons false 7 rfl 0 rfl (by simp)
    refine zC (fun m' ρ w61 => ∃ (junk : Env) (k : Nat), ρ = upd (upd (upd (upd (upd junk 2 (pp b1 0)) 3 (pp b3 0)) 45 (.slice (aa b59 0) 5 5)) 46 (.int .i64 5)) 47 (.int .i64 k) ∧ ((k : Int) ≤ 5) ∧ (∀ j, j < k → zi s.qF ([r.qI, r.qW, r.qX, r.xe, r.xO][j]!)) ∧ m' = (5 - (k : Int)).toNat ∧ Fresh w.heap.size [] ∧ St w w61 [.row (.slice (aa b59 0) 5 5) 22 1 5 [.slice zJ r.qI.length zI, .slice ve r.qW.length zZ, .slice zQ r.qX.length zO, .slice vJ r.xe.length vI, .slice yj r.xO.length yh], .box b3 [.int .i64 r.qw, .int .i64 r.xM, .slice zJ r.qI.length zI, .slice ve r.qW.length zZ, .slice zQ r.qX.length zO, .slice vJ r.xe.length vI, .slice yj r.xO.length yh, .slice zy r.qx.length zh, .bool true] 110, .box b1 [.int .i64 s.qF, .slice qm s.qg.length ql, .slice qE s.qf.length qA] 36] [jo false (yV ++ (Qw ++ (Qk ++ (QK ++ (FrOut ++ []))))) [.slice zJ r.qI.length zI, .slice ve r.qW.length zZ, .slice zQ r.qX.length zO, .slice vJ r.xe.length vI, .slice yj r.xO.length yh] [r.qI, r.qW, r.qX, r.xe, r.xO], isF false qL (.slice qm s.qg.length ql) s.qg, isF false xk (.slice qE s.qf.length qA) s.qf, isF false yV (.slice zJ r.qI.length zI) r.qI, isF false Qw (.slice ve r.qW.length zZ) r.qW, isF false Qk (.slice zQ r.qX.length zO) r.qX, isF false QK (.slice vJ r.xe.length vI) r.xe, isF false FrOut (.slice yj r.xO.length yh) r.xO, isF false FrInto (.slice zy r.qx.length zh) r.qx]) ((5 - (0 : Int)).toNat) ⟨_, 0, (by exact qj (qj (qj (qj (qj (rfl) rfl) rfl) rfl) rfl) rfl), (by omega), (by intro j hj; omega), rfl, N, H.pick [0, 1, 2] [0, 6, 7, 8, 9, 10, 11, 12, 13]⟩ ?_
    clear H N
    rintro m' ρ w62 ⟨junk, k, rfl, i0, i1, rfl, N, H⟩
    refine qh (qp ?_)
    refine sp (.bool (decide ((k : Int) < 5))) ?_
    refine qo (t_n (qh ?_))
    refine qP (decide ((k : Int) < 5)) rfl (fun h63 => ?_) (fun h63 => ?_)
    ·skip
     replace h63 := of_decide_eq_true h63
     refine xg (t_n (qh (xn (qh (qp ?_)))))
     refine sw (xE k Tryz.underlying27 ti22 rfl rfl (by omega) (by omega) ?_)
     obtain ⟨a64, c65, G66, s67, h68, H⟩ := H.Qb 0 rfl 0 rfl (iv := k) k (by omega) (by omega)
     refine sw (qC (.slice a64 (([r.qI, r.qW, r.qX, r.xe, r.xO][k]!).length) c65) Tryz.isAgg22 rfl (h68) ?_)
     refine sp (.slice a64 (([r.qI, r.qW, r.qX, r.xe, r.xO][k]!).length) c65) ?_
     refine qo (t_n (qh (qp ?_)))
     refine sw (qH b1 (0) 0 Tryz.underlying36 rfl rfl Tryz.sizeOf2 rfl ?_)
     refine sw (qC (.int .i64 s.qF) Tryz.isAgg2 rfl (H.cell 2 rfl rfl) ?_)
     refine sp (.slice a64 (([r.qI, r.qW, r.qX, r.xe, r.xO][k]!).length) c65) ?_
     refine sw (xm #[.int .i64 s.qF, .slice a64 (([r.qI, r.qW, r.qX, r.xe, r.xO][k]!).length) c65] rfl rfl Tryz.call123 (Xl w62 s.qF ([r.qI, r.qW, r.qX, r.xe, r.xO][k]!) a64 c65 G66 (H.get 0 rfl).1) ?_)
     rintro _ w69 rfl x70
     replace H := H.ext x70
     refine sp (.bool (!(dec (zi s.qF ([r.qI, r.qW, r.qX, r.xe, r.xO][k]!))))) ?_
     refine qo (t_n ?_)
     refine qP (!(dec (zi s.qF ([r.qI, r.qW, r.qX, r.xe, r.xO][k]!)))) rfl (fun h71 => ?_) (fun h71 => ?_)
     ·skip
      replace h71 := qQ h71
      replace h71 := xP h71
      refine qh (qp ?_)
      refine sp (.bool false) ?_
      refine qo (t_n (xh (b_r (t_r (t_r (b_r (t_r ?_)))))))
      refine ret1 (.bool false) rfl rfl ⟨_, rfl, ?_, H.base⟩
      rw [xf (fun h => by obtain ⟨h1, h2, h3, h4, h5, h6, h7, h8, h9, h10, h11⟩ := h; first | contradiction | omega | exact h3 ⟨‹_›, ‹_›⟩ | (obtain ⟨q1, q2, q3, q4, q5⟩ := h11 i (by omega); first | contradiction | omega | (have := q5 (by omega); omega)) | (refine absurd ?_ ‹¬ zi _ _›; rcases (show k = 0 ∨ k = 1 ∨ k = 2 ∨ k = 3 ∨ k = 4 by omega) with e | e | e | e | e <;> subst e <;> assumption))]
     replace h71 := qN h71
     replace h71 := vT h71
     refine xg (b_n (t_n (qp ?_)))
     refine sw (zD k 1 rfl rfl (by omega) ?_)
     refine sp (.int .i64 (k + 1)) ?_
     refine qo ?_
     refine xy (m' := (5 - ((k + 1) : Int)).toNat) (by omega) ⟨_, k + 1, (by exact qj (qj (qj (qj (qj (rfl) rfl) rfl) rfl) rfl) rfl), ?_, ?_, rfl, N, H.pick [0, 1, 2] [1, 2, 3, 4, 5, 6, 7, 8, 9]⟩
     · omega
     · intro j hj; by_cases e : j = k; (subst e; assumption); exact i1 j (by omega)
    replace h63 := of_decide_eq_false h63
    refine zx (t_x (t_x (b_x (t_n (qh (qh (qp ?_)))))))
    refine sw (qH b3 (0) 7 Tryz.underlying110 rfl rfl Tryz.sizeOf108 rfl ?_)
    refine sw (qC (.slice zy r.qx.length zh) Tryz.isAgg108 rfl (H.cell 1 rfl rfl) ?_)
    refine sw (zK Tryz.underlying108 zy r.qx.length zh rfl ?_)
    refine sp (.int .i64 0) ?_
    refine qo (t_n (xn ?_))
    have n1 : zi s.qF r.qI := i1 0 (by omega)
    have n2 : zi s.qF r.qW := i1 1 (by omega)
    have n3 : zi s.qF r.qX := i1 2 (by omega)
    have n4 : zi s.qF r.xe := i1 3 (by omega)
    have n5 : zi s.qF r.xO := i1 4 (by omega)
    refine zC (fun m' ρ w72 => ∃ (junk : Env) (i : Nat), ρ = upd (upd (upd (upd (upd junk 2 (pp b1 0)) 3 (pp b3 0)) 58 (.slice zy r.qx.length zh)) 59 (.int .i64 r.qx.length)) 60 (.int .i64 i) ∧ ((i : Int) ≤ r.qx.length) ∧ (IntosTo s r i) ∧ m' = (r.qx.length - (i : Int)).toNat ∧ Fresh w.heap.size [] ∧ St w w72 [.row (.slice (aa b59 0) 5 5) 22 1 5 [.slice zJ r.qI.length zI, .slice ve r.qW.length zZ, .slice zQ r.qX.length zO, .slice vJ r.xe.length vI, .slice yj r.xO.length yh], .box b3 [.int .i64 r.qw, .int .i64 r.xM, .slice zJ r.qI.length zI, .slice ve r.qW.length zZ, .slice zQ r.qX.length zO, .slice vJ r.xe.length vI, .slice yj r.xO.length yh, .slice zy r.qx.length zh, .bool true] 110, .box b1 [.int .i64 s.qF, .slice qm s.qg.length ql, .slice qE s.qf.length qA] 36] [jo false (yV ++ (Qw ++ (Qk ++ (QK ++ (FrOut ++ []))))) [.slice zJ r.qI.length zI, .slice ve r.qW.length zZ, .slice zQ r.qX.length zO, .slice vJ r.xe.length vI, .slice yj r.xO.length yh] [r.qI, r.qW, r.qX, r.xe, r.xO], isF false qL (.slice qm s.qg.length ql) s.qg, isF false xk (.slice qE s.qf.length qA) s.qf, isF false yV (.slice zJ r.qI.length zI) r.qI, isF false Qw (.slice ve r.qW.length zZ) r.qW, isF false Qk (.slice zQ r.qX.length zO) r.qX, isF false QK (.slice vJ r.xe.length vI) r.xe, isF false FrOut (.slice yj r.xO.length yh) r.xO, isF false FrInto (.slice zy r.qx.length zh) r.qx]) ((r.qx.length - (0 : Int)).toNat) ⟨_, 0, (by exact qj (qj (qj (qj (qj (rfl) rfl) rfl) rfl) rfl) rfl), (by omega), (by exact fun j hj => by omega), rfl, N, H⟩ ?_
    clear H N
    rintro m' ρ w73 ⟨junk, i, rfl, i0, i2, rfl, N, H⟩
    refine qh (qp ?_)
    refine sp (.bool (decide ((i : Int) < r.qx.length))) ?_
    refine qo (t_n (qh ?_))
    refine qP (decide ((i : Int) < r.qx.length)) rfl (fun h74 => ?_) (fun h74 => ?_)
    ·skip
     replace h74 := of_decide_eq_true h74
     refine xg (t_n (qh (xn (qh (qp ?_)))))
     refine sp (.int .i64 i) ?_
     obtain ⟨b75, o76, rfl⟩ := H.addr 8 rfl (by omega)
     obtain ⟨ae78Bag, ce78Bag, Fe78Bag, H⟩ := H.vP 8 rfl i i (by omega) (by omega) (by omega)
     refine sw (xE i Tryz.underlying108 ti115 rfl rfl (by omega) (by omega) ?_)
     refine sw (zn [.int .i64 ((r.qx[i]!).qw), .slice ae78Bag (((r.qx[i]!).zF).length) ce78Bag] Tryz.isAgg115 Tryz.sizeOf115 rfl (qK (H.get 1 rfl) 0 2) ?_)
     refine sw (QP H ti115 [.int .i64 0, .slice none 0 0] fun b79 w80 H => ?_)
     refine sp (.int .i64 i) ?_
     refine sw (QO H 0 [.int .i64 ((r.qx[i]!).qw), .slice ae78Bag (((r.qx[i]!).zF).length) ce78Bag] Tryz.sizeOf115 fun w81 H => ?_)
     try dsimp only [List.set] at H
     refine qo (t_n (qh ?_))
     refine jf rfl H fun H => ?_
     refine rt 0 (.agg #[.int .i64 s.qF, .slice qm s.qg.length ql, .slice qE s.qf.length qA]) (yu (cs := [.int .i64 s.qF, .slice qm s.qg.length ql, .slice qE s.qf.length qA]) Tryz.isAgg36 Tryz.sizeOf36 rfl (fun _ h => qK (h.cells 3 rfl) 0 3)) H ?_
     refine rt 1 (pp b79 (0 + 0)) (xH b79 (0) 0 Tryz.underlying115 rfl rfl Tryz.sizeOf2 rfl) H ?_
     refine rt 2 (.int .i64 ((r.qx[i]!).qw)) (xw Tryz.isAgg2 rfl (fun _ h => h.cell 0 rfl rfl)) H ?_
     refine zt [3] (by kernel_rfl) (by simp) (yF rfl ?_ zu)
     refine xm #[.agg #[.int .i64 s.qF, .slice qm s.qg.length ql, .slice qE s.qf.length qA], .int .i64 ((r.qx[i]!).qw)] rfl rfl Tryz.call51 (isCell_ok w81.drew s ((r.qx[i]!).qw) qm ql qL qE qA xk (H.get 3 rfl).1 (H.get 4 rfl).1) ?_
     rintro _ w84 rfl x85
     replace H := H.ext x85
     refine ⟨H, ?_⟩
     refine rtp 4 (.bool (!(inR ((r.qx[i]!).qw) 0 ((s.qg.length : Int) - 1)))) H ?_
     refine rtp 5 (.bool (!(inR ((r.qx[i]!).qw) 0 ((s.qg.length : Int) - 1)))) H ?_
     cases h86 : (!(inR ((r.qx[i]!).qw) 0 ((s.qg.length : Int) - 1)))
     ·skip
      replace h86 := qN h86
      replace h86 := yZ.1 h86
      refine rg 6 (.agg #[.int .i64 s.qF, .slice qm s.qg.length ql, .slice qE s.qf.length qA]) 70 (yu (cs := [.int .i64 s.qF, .slice qm s.qg.length ql, .slice qE s.qf.length qA]) Tryz.isAgg36 Tryz.sizeOf36 rfl (fun _ h => qK (h.cells 3 rfl) 0 3)) H ?_
      refine rg 7 (pp b79 (0 + 0)) 70 (xH b79 (0) 0 Tryz.underlying115 rfl rfl Tryz.sizeOf2 rfl) H ?_
      refine rg 8 (.int .i64 ((r.qx[i]!).qw)) 70 (xw Tryz.isAgg2 rfl (fun _ h => h.cell 0 rfl rfl)) H ?_
      refine rg 9 (pp b3 (0 + 0)) 70 (xH b3 (0) 0 Tryz.underlying110 rfl rfl Tryz.sizeOf2 rfl) H ?_
      refine rg 10 (.int .i64 r.qw) 70 (xw Tryz.isAgg2 rfl (fun _ h => h.cell 2 rfl rfl)) H ?_
      refine zt [11] (by kernel_rfl) (by simp) (r_opG rfl (e := 70) rfl rfl ?_ zu)
      refine xm #[.agg #[.int .i64 s.qF, .slice qm s.qg.length ql, .slice qE s.qf.length qA], .int .i64 ((r.qx[i]!).qw), .int .i64 r.qw] rfl rfl Tryz.call164 (lies_ok w84 s ((r.qx[i]!).qw) r.qw qm ql qL qE qA xk (H.get 3 rfl).1 (H.get 4 rfl).1 (by first | assumption | omega) (by first | assumption | omega)) ?_
      rintro _ w88 rfl x89
      replace H := H.ext x89
      refine ⟨H, ?_⟩
      refine rgp 12 (.bool (!(dec (Lies s.qg r.qw ((r.qx[i]!).qw))))) 70 H ?_
      refine rtp 13 (.bool (!(dec (Lies s.qg r.qw ((r.qx[i]!).qw))))) H ?_
      refine rtp 14 (.bool (!(dec (Lies s.qg r.qw ((r.qx[i]!).qw))))) H ?_
      cases h90 : (!(dec (Lies s.qg r.qw ((r.qx[i]!).qw))))
      ·skip
       replace h90 := qN h90
       replace h90 := vT h90
       refine rg 15 (pp b1 (0 + 0)) 79 (xH b1 (0) 0 Tryz.underlying36 rfl rfl Tryz.sizeOf2 rfl) H ?_
       refine rg 16 (.int .i64 s.qF) 79 (xw Tryz.isAgg2 rfl (fun _ h => h.cell 3 rfl rfl)) H ?_
       refine rg 17 (pp b79 (0 + 1)) 79 (xH b79 (0) 1 Tryz.underlying115 rfl rfl Tryz.sizeOf22 rfl) H ?_
       refine rg 18 (.slice ae78Bag (((r.qx[i]!).zF).length) ce78Bag) 79 (xw Tryz.isAgg22 rfl (fun _ h => h.cell 0 rfl rfl)) H ?_
       refine zt [19] (by kernel_rfl) (by simp) (r_opG rfl (e := 79) rfl rfl ?_ zu)
       refine xm #[.int .i64 s.qF, .slice ae78Bag (((r.qx[i]!).zF).length) ce78Bag] rfl rfl Tryz.call123 (Xl w88 s.qF ((r.qx[i]!).zF) ae78Bag ce78Bag Fe78Bag (H.get 0 rfl).1) ?_
       rintro _ w91 rfl x92
       replace H := H.ext x92
       refine ⟨H, ?_⟩
       refine rgp 20 (.bool (!(dec (zi s.qF ((r.qx[i]!).zF))))) 79 H ?_
       refine rtp 21 (.bool (!(dec (zi s.qF ((r.qx[i]!).zF))))) H ?_
       refine rtp 22 (.bool (!(dec (zi s.qF ((r.qx[i]!).zF))))) H ?_
       cases h93 : (!(dec (zi s.qF ((r.qx[i]!).zF))))
       ·skip
        replace h93 := qN h93
        replace h93 := vT h93
        refine rg 23 (pp b79 (0 + 1)) 87 (xH b79 (0) 1 Tryz.underlying115 rfl rfl Tryz.sizeOf22 rfl) H ?_
        refine rg 24 (.slice ae78Bag (((r.qx[i]!).zF).length) ce78Bag) 87 (xw Tryz.isAgg22 rfl (fun _ h => h.cell 0 rfl rfl)) H ?_
        refine zt [25] (by kernel_rfl) (by simp) (r_opG rfl (e := 87) rfl rfl ?_ zu)
        have sm : Small ((r.qx[i]!).zF) := vG (by first | assumption | exact i1 0 (by omega))
        refine xm #[.slice ae78Bag (((r.qx[i]!).zF).length) ce78Bag] rfl rfl Tryz.call124 (bagSize_ok w91 ((r.qx[i]!).zF) ae78Bag ce78Bag Fe78Bag (H.get 0 rfl).1 (by first | assumption | exact vG (by assumption) | exact Qi (by assumption))) ?_
        rintro _ w94 rfl x95
        replace H := H.ext x95
        refine ⟨H, ?_⟩
        refine rgp 26 (.bool ((sumL ((r.qx[i]!).zF) : Int) == 0)) 87 H ?_
        refine rtp 27 (.bool ((sumL ((r.qx[i]!).zF) : Int) == 0)) H ?_
        refine rtp 28 (.bool ((sumL ((r.qx[i]!).zF) : Int) == 0)) H ?_
        cases h96 : ((sumL ((r.qx[i]!).zF) : Int) == 0)
        ·skip
         replace h96 := ne_of_beq_false h96
         refine rgp 29 (.int .i64 i) 93 H ?_
         refine rgp 30 (.bool (decide ((i : Int) > 0))) 93 H ?_
         refine rgp 31 (.bool (decide ((i : Int) > 0))) 93 H ?_
         cases h97 : (decide ((i : Int) > 0))
         ·skip
          replace h97 := of_decide_eq_false h97
          refine zq [32, 33, 34, 35, 36, 37, 38, 39, 40, 41] 10 (H) ?_
          refine rgp 42 (.bool false) 93 H ?_
          refine rtp 43 (.bool false) H ?_
          refine xZ (by kernel_rfl) (t_n ?_)
          refine qP false rfl (fun h => absurd h (by decide)) (fun _ => ?_)
          refine xg (b_n (t_n (qp ?_)))
          refine sw (zD i 1 rfl rfl (by omega) ?_)
          refine sp (.int .i64 (i + 1)) ?_
          refine qo ?_
          refine xy (m' := (r.qx.length - ((i + 1) : Int)).toNat) (by omega) ⟨_, i + 1, (by exact qj (qj (qj (qj (qj (rfl) rfl) rfl) rfl) rfl) rfl), ?_, ?_, rfl, N, H.pick [1, 2, 3] [2, 3, 4, 5, 6, 7, 8, 9, 10]⟩
          · omega
          · exact i2.succ ⟨‹_›, ‹_›, ‹_›, ‹_›, fun hk => by omega⟩
         replace h97 := of_decide_eq_true h97
         refine rg 32 (pp b79 (0 + 0)) 96 (xH b79 (0) 0 Tryz.underlying115 rfl rfl Tryz.sizeOf2 rfl) H ?_
         refine rg 33 (.int .i64 ((r.qx[i]!).qw)) 96 (xw Tryz.isAgg2 rfl (fun _ h => h.cell 0 rfl rfl)) H ?_
         refine rg 34 (pp b3 (0 + 7)) 96 (xH b3 (0) 7 Tryz.underlying110 rfl rfl Tryz.sizeOf108 rfl) H ?_
         refine rg 35 (.slice (aa b75 o76) r.qx.length zh) 96 (xw Tryz.isAgg108 rfl (fun _ h => h.cell 2 rfl rfl)) H ?_
         refine rgp 36 (.int .i64 i) 96 H ?_
         refine rg 37 (.int .i64 (i - 1)) 96 (y_sub i 1 rfl rfl (by omega)) H ?_
         obtain ⟨ae98Bag, ce98Bag, Fe98Bag, H⟩ := H.vP 10 rfl (i - 1) (i - 1) (by omega) (by omega) (by omega)
         have S := H.QN [0, 1, 2, 3] [2, 3, 4, 5, 6, 7, 8, 9, 10, 11, 12]
         refine rg 38 (pp b75 (o76 + (i - 1 : Int).toNat * 2)) 96 (xQ b75 (o76) r.qx.length zh (i - 1) Tryz.underlying108 ti115 rfl rfl (by omega) (by omega)) S ?_
         refine rg 39 (pp b75 (o76 + (i - 1 : Int).toNat * 2 + 0)) 96 (xH b75 (o76 + (i - 1 : Int).toNat * 2) 0 Tryz.underlying115 rfl rfl Tryz.sizeOf2 rfl) S ?_
         refine zt [40] (by kernel_rfl) (by simp) (r_opG rfl (e := 96) rfl rfl ?_ zu)
         refine qC (.int .i64 ((r.qx[i - 1]!).qw)) Tryz.isAgg2 rfl (H.xU 1 rfl 0 rfl) ?_
         refine ⟨H.pick [0, 1, 2, 3] [2, 3, 4, 5, 6, 7, 8, 9, 10, 11, 12], ?_⟩
         have S := H.QN [0, 1, 2, 3] [2, 3, 4, 5, 6, 7, 8, 9, 10, 11, 12]
         refine rgp 41 (.bool (decide (((r.qx[i]!).qw : Int) ≤ ((r.qx[i - 1]!).qw)))) 96 S ?_
         refine rgp 42 (.bool (decide (((r.qx[i]!).qw : Int) ≤ ((r.qx[i - 1]!).qw)))) 93 S ?_
         refine rtp 43 (.bool (decide (((r.qx[i]!).qw : Int) ≤ ((r.qx[i - 1]!).qw)))) S ?_
         refine xZ (by kernel_rfl) (t_n ?_)
         refine qP (decide (((r.qx[i]!).qw : Int) ≤ ((r.qx[i - 1]!).qw))) rfl (fun h99 => ?_) (fun h99 => ?_)
         ·skip
          replace h99 := of_decide_eq_true h99
          refine qh (qp ?_)
          refine sp (.bool false) ?_
          refine qo (t_n (xh (b_r (t_r (t_r (b_r (t_r ?_)))))))
          refine ret1 (.bool false) rfl rfl ⟨_, rfl, ?_, H.base⟩
          rw [xf (fun h => by obtain ⟨h1, h2, h3, h4, h5, h6, h7, h8, h9, h10, h11⟩ := h; first | contradiction | omega | exact h3 ⟨‹_›, ‹_›⟩ | (obtain ⟨q1, q2, q3, q4, q5⟩ := h11 i (by omega); first | contradiction | omega | (have := q5 (by omega); omega)) | (refine absurd ?_ ‹¬ zi _ _›; rcases (show k = 0 ∨ k = 1 ∨ k = 2 ∨ k = 3 ∨ k = 4 by omega) with e | e | e | e | e <;> subst e <;> assumption))]
         replace h99 := of_decide_eq_false h99
         refine xg (b_n (t_n (qp ?_)))
         refine sw (zD i 1 rfl rfl (by omega) ?_)
         refine sp (.int .i64 (i + 1)) ?_
         refine qo ?_
         refine xy (m' := (r.qx.length - ((i + 1) : Int)).toNat) (by omega) ⟨_, i + 1, (by exact qj (qj (qj (qj (qj (rfl) rfl) rfl) rfl) rfl) rfl), ?_, ?_, rfl, N, H.pick [1, 2, 3] [4, 5, 6, 7, 8, 9, 10, 11, 12]⟩
         · omega
         · exact i2.succ ⟨‹_›, ‹_›, ‹_›, ‹_›, fun hk => by omega⟩
        replace h96 := eq_of_beq h96
        refine zq [29, 30, 31, 32, 33, 34, 35, 36, 37, 38, 39, 40, 41, 42] 14 (H) ?_
        refine rtp 43 (.bool true) H ?_
        refine xZ (by kernel_rfl) (t_n ?_)
        refine qP true rfl (fun _ => ?_) (fun h => absurd h (by decide))
        refine qh (qp ?_)
        refine sp (.bool false) ?_
        refine qo (t_n (xh (b_r (t_r (t_r (b_r (t_r ?_)))))))
        refine ret1 (.bool false) rfl rfl ⟨_, rfl, ?_, H.base⟩
        rw [xf (fun h => by obtain ⟨h1, h2, h3, h4, h5, h6, h7, h8, h9, h10, h11⟩ := h; first | contradiction | omega | exact h3 ⟨‹_›, ‹_›⟩ | (obtain ⟨q1, q2, q3, q4, q5⟩ := h11 i (by omega); first | contradiction | omega | (have := q5 (by omega); omega)) | (refine absurd ?_ ‹¬ zi _ _›; rcases (show k = 0 ∨ k = 1 ∨ k = 2 ∨ k = 3 ∨ k = 4 by omega) with e | e | e | e | e <;> subst e <;> assumption))]
       replace h93 := qQ h93
       replace h93 := xP h93
       refine zq [23, 24, 25, 26] 4 (H) ?_
       refine rtp 27 (.bool true) H ?_
       refine rtp 28 (.bool true) H ?_
       refine zq [29, 30, 31, 32, 33, 34, 35, 36, 37, 38, 39, 40, 41, 42] 14 (H) ?_
       refine rtp 43 (.bool true) H ?_
       refine xZ (by kernel_rfl) (t_n ?_)
       refine qP true rfl (fun _ => ?_) (fun h => absurd h (by decide))
       refine qh (qp ?_)
       refine sp (.bool false) ?_
       refine qo (t_n (xh (b_r (t_r (t_r (b_r (t_r ?_)))))))
       refine ret1 (.bool false) rfl rfl ⟨_, rfl, ?_, H.base⟩
       rw [xf (fun h => by obtain ⟨h1, h2, h3, h4, h5, h6, h7, h8, h9, h10, h11⟩ := h; first | contradiction | omega | exact h3 ⟨‹_›, ‹_›⟩ | (obtain ⟨q1, q2, q3, q4, q5⟩ := h11 i (by omega); first | contradiction | omega | (have := q5 (by omega); omega)) | (refine absurd ?_ ‹¬ zi _ _›; rcases (show k = 0 ∨ k = 1 ∨ k = 2 ∨ k = 3 ∨ k = 4 by omega) with e | e | e | e | e <;> subst e <;> assumption))]
      replace h90 := qQ h90
      replace h90 := xP h90
      refine zq [15, 16, 17, 18, 19, 20] 6 (H) ?_
      refine rtp 21 (.bool true) H ?_
      refine rtp 22 (.bool true) H ?_
      refine zq [23, 24, 25, 26] 4 (H) ?_
      refine rtp 27 (.bool true) H ?_
      refine rtp 28 (.bool true) H ?_
      refine zq [29, 30, 31, 32, 33, 34, 35, 36, 37, 38, 39, 40, 41, 42] 14 (H) ?_
      refine rtp 43 (.bool true) H ?_
      refine xZ (by kernel_rfl) (t_n ?_)
      refine qP true rfl (fun _ => ?_) (fun h => absurd h (by decide))
      refine qh (qp ?_)
      refine sp (.bool false) ?_
      refine qo (t_n (xh (b_r (t_r (t_r (b_r (t_r ?_)))))))
      refine ret1 (.bool false) rfl rfl ⟨_, rfl, ?_, H.base⟩
      rw [xf (fun h => by obtain ⟨h1, h2, h3, h4, h5, h6, h7, h8, h9, h10, h11⟩ := h; first | contradiction | omega | exact h3 ⟨‹_›, ‹_›⟩ | (obtain ⟨q1, q2, q3, q4, q5⟩ := h11 i (by omega); first | contradiction | omega | (have := q5 (by omega); omega)) | (refine absurd ?_ ‹¬ zi _ _›; rcases (show k = 0 ∨ k = 1 ∨ k = 2 ∨ k = 3 ∨ k = 4 by omega) with e | e | e | e | e <;> subst e <;> assumption))]
     replace h86 := qQ h86
     replace h86 := Qx h86
     refine zq [6, 7, 8, 9, 10, 11, 12] 7 (H) ?_
     refine rtp 13 (.bool true) H ?_
     refine rtp 14 (.bool true) H ?_
     refine zq [15, 16, 17, 18, 19, 20] 6 (H) ?_
     refine rtp 21 (.bool true) H ?_
     refine rtp 22 (.bool true) H ?_
     refine zq [23, 24, 25, 26] 4 (H) ?_
     refine rtp 27 (.bool true) H ?_
     refine rtp 28 (.bool true) H ?_
     refine zq [29, 30, 31, 32, 33, 34, 35, 36, 37, 38, 39, 40, 41, 42] 14 (H) ?_
     refine rtp 43 (.bool true) H ?_
     refine xZ (by kernel_rfl) (t_n ?_)
     refine qP true rfl (fun _ => ?_) (fun h => absurd h (by decide))
     refine qh (qp ?_)
     refine sp (.bool false) ?_
     refine qo (t_n (xh (b_r (t_r (t_r (b_r (t_r ?_)))))))
     refine ret1 (.bool false) rfl rfl ⟨_, rfl, ?_, H.base⟩
     rw [xf (fun h => by obtain ⟨h1, h2, h3, h4, h5, h6, h7, h8, h9, h10, h11⟩ := h; first | contradiction | omega | exact h3 ⟨‹_›, ‹_›⟩ | (obtain ⟨q1, q2, q3, q4, q5⟩ := h11 i (by omega); first | contradiction | omega | (have := q5 (by omega); omega)) | (refine absurd ?_ ‹¬ zi _ _›; rcases (show k = 0 ∨ k = 1 ∨ k = 2 ∨ k = 3 ∨ k = 4 by omega) with e | e | e | e | e <;> subst e <;> assumption))]
    replace h74 := of_decide_eq_false h74
    refine zx (t_x (t_x (b_x (t_n (qh (qp ?_))))))
    refine sw (qH b3 (0) 2 Tryz.underlying110 rfl rfl Tryz.sizeOf22 rfl ?_)
    refine sw (qC (.slice zJ r.qI.length zI) Tryz.isAgg22 rfl (H.cell 1 rfl rfl) ?_)
    have sm : Small r.qI := vG (by first | assumption | exact i1 0 (by omega))
    refine sw (xm #[.slice zJ r.qI.length zI] rfl rfl Tryz.call124 (bagSize_ok w73 r.qI zJ zI yV (H.get 3 rfl).1 (by first | assumption | exact vG (by assumption) | exact Qi (by assumption))) ?_)
    rintro _ w100 rfl x101
    replace H := H.ext x101
    refine sps [.bool (decide ((sumL r.qI : Int) > 0)), .bool (decide ((sumL r.qI : Int) > 0))] ?_
    refine qo (t_n (xh ?_))
    refine ret1 (.bool (decide ((sumL r.qI : Int) > 0))) rfl rfl ⟨_, rfl, ?_, H.base⟩
    refine congrArg Value.bool (dec_eq ?_)
    rw [decide_eq_true_iff]
    exact ⟨fun h => ⟨by omega, by omega, by simp_all, by omega, n1, n2, n3, n4, n5, by omega, (show i = r.qx.length by omega) ▸ i2⟩, fun h => by have := h.2.2.2.2.2.2.2.2.2.1; have := sum_nonneg n1.1; omega⟩
   replace h57 := eq_of_beq h57
   refine xN [30, 31, 32, 33] ?_
   refine sp (.bool true) ?_
   refine qo (t_n ?_)
   refine qP true rfl (fun _ => ?_) (fun h => absurd h (by decide))
   refine qh (qp ?_)
   refine sp (.bool false) ?_
   refine qo (t_n (xh (t_r ?_)))
   refine ret1 (.bool false) rfl rfl ⟨_, rfl, ?_, H.base⟩
   rw [xf (fun h => by obtain ⟨h1, h2, h3, h4, h5, h6, h7, h8, h9, h10, h11⟩ := h; first | contradiction | omega | exact h3 ⟨‹_›, ‹_›⟩ | (obtain ⟨q1, q2, q3, q4, q5⟩ := h11 i (by omega); first | contradiction | omega | (have := q5 (by omega); omega)) | (refine absurd ?_ ‹¬ zi _ _›; rcases (show k = 0 ∨ k = 1 ∨ k = 2 ∨ k = 3 ∨ k = 4 by omega) with e | e | e | e | e <;> subst e <;> assumption))]
  replace h11 := qQ h11
  replace h11 := Qx h11
  refine xN [21, 22, 23, 24, 25, 26, 27] ?_
  refine sps [.bool true, .bool true] ?_
  refine xN [30, 31, 32, 33] ?_
  refine sp (.bool true) ?_
  refine qo (t_n ?_)
  refine qP true rfl (fun _ => ?_) (fun h => absurd h (by decide))
  refine qh (qp ?_)
  refine sp (.bool false) ?_
  refine qo (t_n (xh (t_r ?_)))
  refine ret1 (.bool false) rfl rfl ⟨_, rfl, ?_, H.base⟩
  rw [xf (fun h => by obtain ⟨h1, h2, h3, h4, h5, h6, h7, h8, h9, h10, h11⟩ := h; first | contradiction | omega | exact h3 ⟨‹_›, ‹_›⟩ | (obtain ⟨q1, q2, q3, q4, q5⟩ := h11 i (by omega); first | contradiction | omega | (have := q5 (by omega); omega)) | (refine absurd ?_ ‹¬ zi _ _›; rcases (show k = 0 ∨ k = 1 ∨ k = 2 ∨ k = 3 ∨ k = 4 by omega) with e | e | e | e | e <;> subst e <;> assumption))]
 replace h8 := qQ h8
 replace h8 := Qx h8
 refine xN [15, 16, 17, 18] ?_
 refine sps [.bool true, .bool true] ?_
 refine xN [21, 22, 23, 24, 25, 26, 27] ?_
 refine sps [.bool true, .bool true] ?_
 refine xN [30, 31, 32, 33] ?_
 refine sp (.bool true) ?_
 refine qo (t_n ?_)
 refine qP true rfl (fun _ => ?_) (fun h => absurd h (by decide))
 refine qh (qp ?_)
 refine sp (.bool false) ?_
 refine qo (t_n (xh (t_r ?_)))
 refine ret1 (.bool false) rfl rfl ⟨_, rfl, ?_, H.base⟩
 rw [xf (fun h => by obtain ⟨h1, h2, h3, h4, h5, h6, h7, h8, h9, h10, h11⟩ := h; first | contradiction | omega | exact h3 ⟨‹_›, ‹_›⟩ | (obtain ⟨q1, q2, q3, q4, q5⟩ := h11 i (by omega); first | contradiction | omega | (have := q5 (by omega); omega)) | (refine absurd ?_ ‹¬ zi _ _›; rcases (show k = 0 ∨ k = 1 ∨ k = 2 ∨ k = 3 ∨ k = 4 by omega) with e | e | e | e | e <;> subst e <;> assumption))]

end Go.Proofs.YtkmlihdacnfhdaaGreat
