/- Walks, printed by program (wip/tools/gv.py): what each function comes to, for all arguments. -/
import Derived.Test.YtkmlihdacnfhdaaGreatG5
namespace Go.Proofs.YtkmlihdacnfhdaaGreat
open Go.Proofs.YtkmlihdacnfhdaaGreat.Tot (tot)
open Go.Proofs.YtkmlihdacnfhdaaGreat.Mark (cnt mrk mkd mkd_mark cnt_mark)
open Go.RowKit
set_option linter.unusedVariables false
set_option linter.unusedSimpArgs false
set_option maxRecDepth 100000
set_option maxHeartbeats 4000000



theorem isShell_ok (w : World) (s : qX) (qw : Option Addr) (qo : Nat) (qO : List Nat) (qF : Option Addr) (qB : Nat) (xw : List Nat) (xx : qV.rep w qO [.slice qw s.qf.length qo] s.qf) (xM : qV.rep w xw [.slice qF s.qg.length qB] s.qg) : Calls Tryz.prog 152 #[.agg #[.int .i64 s.qJ, .slice qw s.qf.length qo, .slice qF s.qg.length qB]] w (Ret (fun v w' => v = .bool (dec (yE s))) w) := by
 refine enter (n := 37) Tryz.func152 rfl Tryz.ntmps152 (Nat.le_of_ble_eq_true rfl) ?_
 have H := ((St.start w).arg xM).arg xx
 have vU := qN xx
 have jW := qN xM
 clear xx xM
 have N := Fresh.nil w.heap.size
 refine qm (qA ?_)
 refine sw (yN H [.int .i64 s.qJ, .slice qw s.qf.length qo, .slice qF s.qg.length qB] fun b1 w2 H => ?_)
 refine sp (.bool false) ?_
 refine qx (t_n (qm (qm (qA ?_))))
 refine sw (qP b1 (0) 0 Tryz.underlying36 rfl rfl Tryz.sizeOf2 rfl ?_)
 refine sw (qE (.int .i64 s.qJ) Tryz.isAgg2 rfl (H.cell 0 rfl rfl) ?_)
 refine sw (qZ #[.int .i64 s.qJ, .int .i64 1, .int .i64 8] rfl rfl Tryz.call94 (Vy w2 s.qJ 1 8) ?_)
 rintro _ w3 rfl x4
 replace H := H.ext x4
 refine sps [.bool (!(inR s.qJ 1 8)), .bool (!(inR s.qJ 1 8))] ?_
 cases h5 : (!(inR s.qJ 1 8))
 ·skip
  replace h5 := qY h5
  replace h5 := Xc.1 h5
  refine qQ 9 rfl rfl ?_
  refine sw (qP b1 (0) 1 Tryz.underlying36 rfl rfl Tryz.sizeOf22 rfl ?_)
  refine qQ 9 rfl rfl ?_
  refine sw (qE (.slice qw s.qf.length qo) Tryz.isAgg22 rfl (H.cell 0 rfl rfl) ?_)
  refine qQ 9 rfl rfl ?_
  refine sw (qZ #[.slice qw s.qf.length qo] rfl rfl Tryz.call95 (sizeI_ok w3 s.qf qw qo qO (H.get 0 rfl).1) ?_)
  rintro _ w6 rfl x7
  replace H := H.ext x7
  refine qQ 9 rfl rfl ?_
  refine sw (qZ #[.int .i64 (s.qf.length : Int), .int .i64 1, .int .i64 6] rfl rfl Tryz.call94 (Vy w6 (s.qf.length : Int) 1 6) ?_)
  rintro _ w8 rfl x9
  replace H := H.ext x9
  refine qQ 9 rfl rfl ?_
  refine sps [.bool (!(inR (s.qf.length : Int) 1 6)), .bool (!(inR (s.qf.length : Int) 1 6)), .bool (!(inR (s.qf.length : Int) 1 6))] ?_
  cases h10 : (!(inR (s.qf.length : Int) 1 6))
  ·skip
   replace h10 := qY h10
   replace h10 := Xc.1 h10
   refine qQ 16 rfl rfl ?_
   refine sw (qP b1 (0) 1 Tryz.underlying36 rfl rfl Tryz.sizeOf22 rfl ?_)
   refine qQ 16 rfl rfl ?_
   refine sw (qE (.slice qw s.qf.length qo) Tryz.isAgg22 rfl (H.cell 0 rfl rfl) ?_)
   refine qQ 16 rfl rfl ?_
   obtain ⟨b11, o12, rfl⟩ := H.addr 0 rfl (by omega)
   refine sw (xK 0 Tryz.underlying22 ti2 rfl rfl (by omega) (by omega) ?_)
   refine qQ 16 rfl rfl ?_
   refine sw (qE (.int .i64 (s.qf[0]!)) Tryz.isAgg2 rfl (H.jq 0 rfl 0 (by omega) (by omega)) ?_)
   refine qQ 16 rfl rfl ?_
   refine sps [.bool ((s.qf[0]! : Int) != (-1)), .bool ((s.qf[0]! : Int) != (-1))] ?_
   refine qx (t_n ?_)
   refine qW ((s.qf[0]! : Int) != (-1)) rfl (fun h14 => ?_) (fun h14 => ?_)
   ·skip
    replace h14 := bne_iff_ne.1 h14
    refine qm (qA ?_)
    refine sp (.bool false) ?_
    refine qx (t_n (xC (t_r ?_)))
    refine ret1 (.bool false) rfl rfl ⟨_, rfl, ?_, H.base⟩
    rw [xy (fun h => by obtain ⟨h1, h2, h3, h4⟩ := h; first | omega | (have := h4 (c + 1) (by omega) (by omega); rw [← dg (by omega)] at this; omega))]
   replace h14 := xR h14
   refine xk (t_n (qm (qm (qA ?_))))
   refine sw (qP b1 (0) 1 Tryz.underlying36 rfl rfl Tryz.sizeOf22 rfl ?_)
   refine sw (qE (.slice (aa b11 o12) s.qf.length qo) Tryz.isAgg22 rfl (H.cell 0 rfl rfl) ?_)
   refine sw (o_tail H 0 rfl 1 Tryz.underlying22 ti2 rfl (by omega) fun a15 G16 hG17 H => ?_)
   have hl18 : (s.qf.drop 1).length = s.qf.length - 1 := List.length_drop
   refine sw (zX Tryz.underlying22 a15 ((s.qf.drop 1).length) (qo - 1) rfl ?_)
   refine sp (.int .i64 0) ?_
   refine qx (t_n (xE ?_))
   refine zU (fun m' ρ w19 => ∃ (junk : Env) (c : Nat), ρ = upd (upd (upd junk 25 (.slice a15 ((s.qf.drop 1).length) (qo - 1))) 26 (.int .i64 ((s.qf.drop 1).length))) 27 (.int .i64 c) ∧ ((c : Int) ≤ ((s.qf.drop 1).length)) ∧ (FrameTo s (c + 1)) ∧ m' = (((s.qf.drop 1).length) - (c : Int)).toNat ∧ Fresh w.heap.size [] ∧ St w w19 [.box b1 [.int .i64 s.qJ, .slice (aa b11 o12) s.qf.length qo, .slice qF s.qg.length qB] 36] [isF false G16 (.slice a15 ((s.qf.drop 1).length) (qo - 1)) (s.qf.drop 1), isF false qO (.slice (aa b11 o12) s.qf.length qo) s.qf, isF false xw (.slice qF s.qg.length qB) s.qg]) ((((s.qf.drop 1).length) - (0 : Int)).toNat) ⟨_, 0, (by exact qj (qj (qj (rfl) rfl) rfl) rfl), (by omega), (by exact FrameTo.one s), rfl, N, H⟩ ?_
   clear H N
   rintro m' ρ w20 ⟨junk, c, rfl, i0, i1, rfl, N, H⟩
   have dg := drop_get (l := s.qf) (k := c)
   refine qm (qA ?_)
   refine sp (.bool (decide ((c : Int) < ((s.qf.drop 1).length)))) ?_
   refine qx (t_n (qm ?_))
   refine qW (decide ((c : Int) < ((s.qf.drop 1).length))) rfl (fun h21 => ?_) (fun h21 => ?_)
   ·skip
    replace h21 := of_decide_eq_true h21
    refine xk (t_n (qm (xE (qm (qA ?_)))))
    refine sp (.int .i64 c) ?_
    obtain ⟨b22, o23, rfl⟩ := H.addr 0 rfl (by omega)
    refine sw (xK c Tryz.underlying22 ti2 rfl rfl (by omega) (by omega) ?_)
    refine sw (qE (.int .i64 ((s.qf.drop 1)[c]!)) Tryz.isAgg2 rfl (H.jq 0 rfl c (by omega) (by omega)) ?_)
    refine sps [.int .i64 c, .int .i64 ((s.qf.drop 1)[c]!)] ?_
    refine qx (t_n (qm (qA ?_)))
    refine sps [.int .i64 ((s.qf.drop 1)[c]!), .int .i64 c] ?_
    refine sw (qZ #[.int .i64 ((s.qf.drop 1)[c]!), .int .i64 0, .int .i64 c] rfl rfl Tryz.call94 (Vy w20 ((s.qf.drop 1)[c]!) 0 c) ?_)
    rintro _ w25 rfl x26
    replace H := H.ext x26
    refine sp (.bool (!(inR ((s.qf.drop 1)[c]!) 0 c))) ?_
    refine qx (t_n ?_)
    refine qW (!(inR ((s.qf.drop 1)[c]!) 0 c)) rfl (fun h27 => ?_) (fun h27 => ?_)
    ·skip
     replace h27 := xg h27
     replace h27 := XJ h27
     refine qm (qA ?_)
     refine sp (.bool false) ?_
     refine qx (t_n (xC (b_r (t_r (t_r (b_r (t_r ?_)))))))
     refine ret1 (.bool false) rfl rfl ⟨_, rfl, ?_, H.base⟩
     rw [xy (fun h => by obtain ⟨h1, h2, h3, h4⟩ := h; first | omega | (have := h4 (c + 1) (by omega) (by omega); rw [← dg (by omega)] at this; omega))]
    replace h27 := qY h27
    replace h27 := Xc.1 h27
    refine xk (b_n (t_n (qA ?_)))
    refine sw (zZ c 1 rfl rfl (by omega) ?_)
    refine sp (.int .i64 (c + 1)) ?_
    refine qx ?_
    refine xH (m' := (((s.qf.drop 1).length) - ((c + 1) : Int)).toNat) (by omega) ⟨_, c + 1, (by exact qj (qj (qj (rfl) rfl) rfl) rfl), ?_, ?_, rfl, N, H⟩
    · omega
    · exact i1.succ (by rw [← dg (by omega)]; omega)
   replace h21 := of_decide_eq_false h21
   refine zK (t_x (t_x (b_x (t_n (qm (qA ?_))))))
   refine sp (.bool true) ?_
   refine qx (t_n (xC ?_))
   refine ret1 (.bool true) rfl rfl ⟨_, rfl, ?_, H.base⟩
   rw [yP ⟨by omega, by omega, by omega, (show s.qf.length = c + 1 by omega) ▸ i1⟩]
  replace h10 := xg h10
  replace h10 := XJ h10
  refine zf [17, 18, 19, 20, 21] ?_
  refine sp (.bool true) ?_
  refine qx (t_n ?_)
  refine qW true rfl (fun _ => ?_) (fun h => absurd h (by decide))
  refine qm (qA ?_)
  refine sp (.bool false) ?_
  refine qx (t_n (xC (t_r ?_)))
  refine ret1 (.bool false) rfl rfl ⟨_, rfl, ?_, H.base⟩
  rw [xy (fun h => by obtain ⟨h1, h2, h3, h4⟩ := h; first | omega | (have := h4 (c + 1) (by omega) (by omega); rw [← dg (by omega)] at this; omega))]
 replace h5 := xg h5
 replace h5 := XJ h5
 refine zf [10, 11, 12, 13, 14] ?_
 refine sps [.bool true, .bool true] ?_
 refine zf [17, 18, 19, 20, 21] ?_
 refine sp (.bool true) ?_
 refine qx (t_n ?_)
 refine qW true rfl (fun _ => ?_) (fun h => absurd h (by decide))
 refine qm (qA ?_)
 refine sp (.bool false) ?_
 refine qx (t_n (xC (t_r ?_)))
 refine ret1 (.bool false) rfl rfl ⟨_, rfl, ?_, H.base⟩
 rw [xy (fun h => by obtain ⟨h1, h2, h3, h4⟩ := h; first | omega | (have := h4 (c + 1) (by omega) (by omega); rw [← dg (by omega)] at this; omega))]

theorem isCell_ok (w : World) (s : qX) (c : Int) (qw : Option Addr) (qo : Nat) (qO : List Nat) (qF : Option Addr) (qB : Nat) (xw : List Nat) (xx : qV.rep w qO [.slice qw s.qf.length qo] s.qf) (xM : qV.rep w xw [.slice qF s.qg.length qB] s.qg) : Calls Tryz.prog 51 #[.agg #[.int .i64 s.qJ, .slice qw s.qf.length qo, .slice qF s.qg.length qB], .int .i64 c] w (Ret (fun v w' => v = .bool (inR c 0 ((s.qf.length : Int) - 1))) w) := by
 refine enter (n := 11) Tryz.func51 rfl Tryz.ntmps51 (Nat.le_of_ble_eq_true rfl) ?_
 have H := ((St.start w).arg xM).arg xx
 have vU := qN xx
 have jW := qN xM
 clear xx xM
 have N := Fresh.nil w.heap.size
 refine qm (qA ?_)
 refine sw (yN H [.int .i64 s.qJ, .slice qw s.qf.length qo, .slice qF s.qg.length qB] fun b1 w2 H => ?_)
 refine sp (.bool false) ?_
 refine qx (t_n (qm (qA ?_)))
 refine sp (.int .i64 c) ?_
 refine sw (qP b1 (0) 1 Tryz.underlying36 rfl rfl Tryz.sizeOf22 rfl ?_)
 refine sw (qE (.slice qw s.qf.length qo) Tryz.isAgg22 rfl (H.cell 0 rfl rfl) ?_)
 refine sw (qZ #[.slice qw s.qf.length qo] rfl rfl Tryz.call95 (sizeI_ok w2 s.qf qw qo qO (H.get 0 rfl).1) ?_)
 rintro _ w3 rfl x4
 replace H := H.ext x4
 refine sw (o_sub (s.qf.length : Int) 1 rfl rfl (by omega) ?_)
 refine sw (qZ #[.int .i64 c, .int .i64 0, .int .i64 ((s.qf.length : Int) - 1)] rfl rfl Tryz.call94 (Vy w3 c 0 ((s.qf.length : Int) - 1)) ?_)
 rintro _ w5 rfl x6
 replace H := H.ext x6
 refine sp (.bool (inR c 0 ((s.qf.length : Int) - 1))) ?_
 refine qx (t_n (xC ?_))
 refine ret1 (.bool (inR c 0 ((s.qf.length : Int) - 1))) rfl rfl ⟨_, rfl, ?_, H.base⟩
 rfl

theorem lies_ok (w : World) (s : qX) (c : Int) (within : Int) (qw : Option Addr) (qo : Nat) (qO : List Nat) (qF : Option Addr) (qB : Nat) (xw : List Nat) (xx : qV.rep w qO [.slice qw s.qf.length qo] s.qf) (xM : qV.rep w xw [.slice qF s.qg.length qB] s.qg) (p0 : yE s) (p1 : CellIn s c) : Calls Tryz.prog 164 #[.agg #[.int .i64 s.qJ, .slice qw s.qf.length qo, .slice qF s.qg.length qB], .int .i64 c, .int .i64 within] w (Ret (fun v w' => v = .bool (dec (Lies s.qf within c))) w) := by
 refine enter (n := 22) Tryz.func164 rfl Tryz.ntmps164 (Nat.le_of_ble_eq_true rfl) ?_
 have H := ((St.start w).arg xM).arg xx
 have vU := qN xx
 have jW := qN xM
 clear xx xM
 have N := Fresh.nil w.heap.size
 have p2 := p0.step p1.1 p1.2
 refine qm (qA ?_)
 refine sw (yN H [.int .i64 s.qJ, .slice qw s.qf.length qo, .slice qF s.qg.length qB] fun b1 w2 H => ?_)
 refine sp (.bool false) ?_
 refine qx (t_n (qm (qm (qA ?_))))
 refine sw (qP b1 (0) 1 Tryz.underlying36 rfl rfl Tryz.sizeOf22 rfl ?_)
 refine sw (qE (.slice qw s.qf.length qo) Tryz.isAgg22 rfl (H.cell 0 rfl rfl) ?_)
 refine sp (.int .i64 c) ?_
 obtain ⟨b3, o4, rfl⟩ := H.addr 0 rfl (by omega)
 refine sw (xK c Tryz.underlying22 ti2 rfl rfl (by omega) (by omega) ?_)
 refine sw (qE (.int .i64 (s.qf[c.toNat]!)) Tryz.isAgg2 rfl (H.jq 0 rfl c (by omega) (by omega)) ?_)
 refine sp (.int .i64 (s.qf[c.toNat]!)) ?_
 refine qx (t_n (xE ?_))
 refine zU (fun m' ρ w6 => ∃ (junk : Env) (c_1 : Int), ρ = upd (upd (upd junk 1 (.int .i64 c_1)) 2 (.int .i64 within)) 3 (pp b1 0) ∧ (-1 ≤ c_1 ∧ c_1 ≤ (s.qf.length : Int) - 1) ∧ (Lies s.qf within c ↔ 0 ≤ c_1 ∧ (c_1 = within ∨ Lies s.qf within c_1)) ∧ m' = (c_1 + 1).toNat ∧ Fresh w.heap.size [] ∧ St w w6 [.box b1 [.int .i64 s.qJ, .slice (aa b3 o4) s.qf.length qo, .slice qF s.qg.length qB] 36] [isF false qO (.slice (aa b3 o4) s.qf.length qo) s.qf, isF false xw (.slice qF s.qg.length qB) s.qg]) (((s.qf[c.toNat]!) + 1).toNat) ⟨_, s.qf[c.toNat]!, (by exact qj (qj (qj (rfl) rfl) rfl) rfl), (by omega), (by exact lies_up p0 p1), rfl, N, H⟩ ?_
 clear H N
 rintro m' ρ w7 ⟨junk, c_1, rfl, i0, i1, rfl, N, H⟩
 have up := fun h => p0.step (c := c_1) h i0.2
 refine qm (qm (qA ?_))
 refine sps [.int .i64 c_1, .bool (decide ((c_1 : Int) ≥ 0))] ?_
 refine qx (t_n ?_)
 refine qW (decide ((c_1 : Int) ≥ 0)) rfl (fun h8 => ?_) (fun h8 => ?_)
 ·skip
  replace h8 := of_decide_eq_true h8
  refine xk (t_n (qm (xE (qm (qA ?_)))))
  refine sps [.int .i64 c_1, .int .i64 within, .bool ((c_1 : Int) == within)] ?_
  refine qx (t_n ?_)
  refine qW ((c_1 : Int) == within) rfl (fun h9 => ?_) (fun h9 => ?_)
  ·skip
   replace h9 := eq_of_beq h9
   refine qm (qA ?_)
   refine sp (.bool true) ?_
   refine qx (t_n (xC (b_r (t_r (t_r (b_r (t_r ?_)))))))
   refine ret1 (.bool true) rfl rfl ⟨_, rfl, ?_, H.base⟩
   rw [yP (i1.2 ⟨by omega, .inl ‹_›⟩)]
  replace h9 := ne_of_beq_false h9
  refine xk (b_n (t_n (qA ?_)))
  refine sw (qP b1 (0) 1 Tryz.underlying36 rfl rfl Tryz.sizeOf22 rfl ?_)
  refine sw (qE (.slice (aa b3 o4) s.qf.length qo) Tryz.isAgg22 rfl (H.cell 0 rfl rfl) ?_)
  refine sp (.int .i64 c_1) ?_
  refine sw (xK c_1 Tryz.underlying22 ti2 rfl rfl (by omega) (by omega) ?_)
  refine sw (qE (.int .i64 (s.qf[c_1.toNat]!)) Tryz.isAgg2 rfl (H.jq 0 rfl c_1 (by omega) (by omega)) ?_)
  refine sp (.int .i64 (s.qf[c_1.toNat]!)) ?_
  refine qx ?_
  have up1 := up (by omega)
  refine xH (m' := ((s.qf[c_1.toNat]!) + 1).toNat) (by omega) ⟨_, s.qf[c_1.toNat]!, (by exact qj (qj (qj (rfl) rfl) rfl) rfl), ?_, ?_, rfl, N, H⟩
  · omega
  · exact i1.trans ⟨fun h => (lies_up p0 ⟨by omega, by omega⟩).1 (h.2.resolve_left ‹_›), fun h => ⟨by omega, .inr ((lies_up p0 ⟨by omega, by omega⟩).2 h)⟩⟩
 replace h8 := of_decide_eq_false h8
 refine zK (t_x (t_x (b_x (t_n (qm (qA ?_))))))
 refine sp (.bool false) ?_
 refine qx (t_n (xC ?_))
 refine ret1 (.bool false) rfl rfl ⟨_, rfl, ?_, H.base⟩
 rw [xy (fun h => by have := (i1.1 h).1; omega)]

theorem isRule_ok (w : World) (s : qX) (r : QG) (qw : Option Addr) (qo : Nat) (qO : List Nat) (qF : Option Addr) (qB : Nat) (xw : List Nat) (vN : Option Addr) (vK : Nat) (QZ : List Nat) (jC : Option Addr) (jB : Nat) (Xz : List Nat) (vZ : Option Addr) (vY : Nat) (Xg : List Nat) (jP : Option Addr) (jO : Nat) (XM : List Nat) (Qy : Option Addr) (Qx : Nat) (FrOut : List Nat) (vw : Option Addr) (zN : Nat) (FrInto : List Nat) (xx : qV.rep w qO [.slice qw s.qf.length qo] s.qf) (xM : qV.rep w xw [.slice qF s.qg.length qB] s.qg) (hrNeed : qV.rep w QZ [.slice vN r.qR.length vK] r.qR) (hrHave : qV.rep w Xz [.slice jC r.xh.length jB] r.xh) (hrLack : qV.rep w Xg [.slice vZ r.xm.length vY] r.xm) (hrHere : qV.rep w XM [.slice jP r.xB.length jO] r.xB) (hrOut : qV.rep w FrOut [.slice Qy r.zk.length Qx] r.zk) (hrInto : qV.rep w FrInto [.slice vw r.qC.length zN] r.qC) (p0 : yE s) : Calls Tryz.prog 153 #[.agg #[.int .i64 s.qJ, .slice qw s.qf.length qo, .slice qF s.qg.length qB], .agg #[.int .i64 r.qy, .int .i64 r.zh, .slice vN r.qR.length vK, .slice jC r.xh.length jB, .slice vZ r.xm.length vY, .slice jP r.xB.length jO, .slice Qy r.zk.length Qx, .slice vw r.qC.length zN, .bool r.xQ]] w (Ret (fun v w' => v = .bool (dec (RuleOk s r))) w) := by
 refine enter (n := 114) Tryz.func153 rfl Tryz.ntmps153 (Nat.le_of_ble_eq_true rfl) ?_
 have H := ((((((((St.start w).arg hrInto).arg hrOut).arg hrHere).arg hrLack).arg hrHave).arg hrNeed).arg xM).arg xx
 have vU := qN xx
 have jW := qN xM
 have nhrNeed := qN hrNeed
 have nhrHave := qN hrHave
 have nhrLack := qN hrLack
 have nhrHere := qN hrHere
 have nhrOut := qN hrOut
 have nhrInto := qN hrInto
 clear xx xM hrNeed hrHave hrLack hrHere hrOut hrInto
 have N := Fresh.nil w.heap.size
 refine qm (qA ?_)
 refine sw (yN H [.int .i64 s.qJ, .slice qw s.qf.length qo, .slice qF s.qg.length qB] fun b1 w2 H => ?_)
 refine sw (yN H [.int .i64 r.qy, .int .i64 r.zh, .slice vN r.qR.length vK, .slice jC r.xh.length jB, .slice vZ r.xm.length vY, .slice jP r.xB.length jO, .slice Qy r.zk.length Qx, .slice vw r.qC.length zN, .bool r.xQ] fun b3 w4 H => ?_)
 refine sp (.bool false) ?_
 refine qx (t_n (qm (qm (qA ?_))))
 refine sw (zg [.int .i64 s.qJ, .slice qw s.qf.length qo, .slice qF s.qg.length qB] Tryz.isAgg36 Tryz.sizeOf36 rfl (qH (H.cells 1 rfl) 0 3) ?_)
 refine sw (qP b3 (0) 0 Tryz.underlying110 rfl rfl Tryz.sizeOf2 rfl ?_)
 refine sw (qE (.int .i64 r.qy) Tryz.isAgg2 rfl (H.cell 0 rfl rfl) ?_)
 refine sw (qZ #[.agg #[.int .i64 s.qJ, .slice qw s.qf.length qo, .slice qF s.qg.length qB], .int .i64 r.qy] rfl rfl Tryz.call51 (isCell_ok w4 s r.qy qw qo qO qF qB xw (H.get 0 rfl).1 (H.get 1 rfl).1) ?_)
 rintro _ w6 rfl x7
 replace H := H.ext x7
 refine sps [.bool (!(inR r.qy 0 ((s.qf.length : Int) - 1))), .bool (!(inR r.qy 0 ((s.qf.length : Int) - 1)))] ?_
 cases h8 : (!(inR r.qy 0 ((s.qf.length : Int) - 1)))
 ·skip
  replace h8 := qY h8
  replace h8 := Xc.1 h8
  refine qQ 14 rfl rfl ?_
  refine sw (qP b3 (0) 1 Tryz.underlying110 rfl rfl Tryz.sizeOf2 rfl ?_)
  refine qQ 14 rfl rfl ?_
  refine sw (qE (.int .i64 r.zh) Tryz.isAgg2 rfl (H.cell 0 rfl rfl) ?_)
  refine qQ 14 rfl rfl ?_
  refine sw (qZ #[.int .i64 r.zh, .int .i64 0, .int .i64 9] rfl rfl Tryz.call94 (Vy w6 r.zh 0 9) ?_)
  rintro _ w9 rfl x10
  replace H := H.ext x10
  refine qQ 14 rfl rfl ?_
  refine sps [.bool (!(inR r.zh 0 9)), .bool (!(inR r.zh 0 9)), .bool (!(inR r.zh 0 9))] ?_
  cases h11 : (!(inR r.zh 0 9))
  ·skip
   replace h11 := qY h11
   replace h11 := Xc.1 h11
   refine qQ 20 rfl rfl ?_
   refine sw (qP b3 (0) 8 Tryz.underlying110 rfl rfl Tryz.sizeOf4 rfl ?_)
   refine qQ 20 rfl rfl ?_
   refine sw (qE (.bool r.xQ) Tryz.isAgg4 rfl (H.cell 0 rfl rfl) ?_)
   refine qQ 20 rfl rfl ?_
   refine sp (.bool r.xQ) ?_
   cases h12 : (r.xQ)
   ·skip
    rw [h12] at H
    refine zf [24, 25, 26] ?_
    refine qQ 20 rfl rfl ?_
    refine sps [.bool false, .bool false, .bool false] ?_
    refine qQ 29 rfl rfl ?_
    refine sw (qP b3 (0) 7 Tryz.underlying110 rfl rfl Tryz.sizeOf108 rfl ?_)
    refine qQ 29 rfl rfl ?_
    refine sw (qE (.slice vw r.qC.length zN) Tryz.isAgg108 rfl (H.cell 0 rfl rfl) ?_)
    refine qQ 29 rfl rfl ?_
    refine sw (zX Tryz.underlying108 vw r.qC.length zN rfl ?_)
    refine qQ 29 rfl rfl ?_
    refine sps [.bool (decide ((r.qC.length : Int) > 3)), .bool (decide ((r.qC.length : Int) > 3))] ?_
    refine qx (t_n ?_)
    refine qW (decide ((r.qC.length : Int) > 3)) rfl (fun h13 => ?_) (fun h13 => ?_)
    ·skip
     replace h13 := of_decide_eq_true h13
     refine qm (qA ?_)
     refine sp (.bool false) ?_
     refine qx (t_n (xC (t_r ?_)))
     refine ret1 (.bool false) rfl rfl ⟨_, rfl, ?_, H.base⟩
     rw [xy (fun h => by obtain ⟨h1, h2, h3, h4, h5, h6, h7, h8, h9, h10, h11⟩ := h; first | contradiction | omega | exact h3 ⟨‹_›, ‹_›⟩ | (obtain ⟨q1, q2, q3, q4, q5⟩ := h11 i (by omega); first | contradiction | omega | (have := q5 (by omega); omega)) | (refine absurd ?_ ‹¬ zW _ _›; rcases (show k = 0 ∨ k = 1 ∨ k = 2 ∨ k = 3 ∨ k = 4 by omega) with e | e | e | e | e <;> subst e <;> assumption))]
    replace h13 := of_decide_eq_false h13
    refine xk (t_n (qm (qm (qA ?_))))
    refine sw (qP b3 (0) 2 Tryz.underlying110 rfl rfl Tryz.sizeOf22 rfl ?_)
    refine sw (qE (.slice vN r.qR.length vK) Tryz.isAgg22 rfl (H.cell 0 rfl rfl) ?_)
    refine sw (qP b3 (0) 3 Tryz.underlying110 rfl rfl Tryz.sizeOf22 rfl ?_)
    refine sw (qE (.slice jC r.xh.length jB) Tryz.isAgg22 rfl (H.cell 0 rfl rfl) ?_)
    refine sw (qP b3 (0) 4 Tryz.underlying110 rfl rfl Tryz.sizeOf22 rfl ?_)
    refine sw (qE (.slice vZ r.xm.length vY) Tryz.isAgg22 rfl (H.cell 0 rfl rfl) ?_)
    refine sw (qP b3 (0) 5 Tryz.underlying110 rfl rfl Tryz.sizeOf22 rfl ?_)
    refine sw (qE (.slice jP r.xB.length jO) Tryz.isAgg22 rfl (H.cell 0 rfl rfl) ?_)
    refine sw (qP b3 (0) 6 Tryz.underlying110 rfl rfl Tryz.sizeOf22 rfl ?_)
    refine sw (qE (.slice Qy r.zk.length Qx) Tryz.isAgg22 rfl (H.cell 0 rfl rfl) ?_)
    refine sw (o_buildF H Tryz.underlying27 ti22 [.slice vN r.qR.length vK, .slice jC r.xh.length jB, .slice vZ r.xm.length vY, .slice jP r.xB.length jO, .slice Qy r.zk.length Qx] rfl (by simp [Value.cells]) rfl (by decide) (by decide) fun b14 w15 H => ?_)
    refine sw (zX Tryz.underlying27 (aa b14 0) 5 5 rfl ?_)
    refine sp (.int .i64 0) ?_
    refine qx (t_n (xE ?_))
    replace H := H.boxRow 0 rfl 1 5 rfl (by decide)
    try dsimp only [List.set] at H
    replace H := H.Qw (α := List Int)
    replace H := H.repsCons false 7 rfl 0 rfl (by simp)
    replace H := H.repsCons false 7 rfl 0 rfl (by simp)
    replace H := H.repsCons false 7 rfl 0 rfl (by simp)
    replace H := H.repsCons false 7 rfl 0 rfl (by simp)
    replace H := H.repsCons false 7 rfl 0 rfl (by simp)
    refine zU (fun m' ρ w16 => ∃ (junk : Env) (k : Nat), ρ = upd (upd (upd (upd (upd junk 2 (pp b1 0)) 3 (pp b3 0)) 45 (.slice (aa b14 0) 5 5)) 46 (.int .i64 5)) 47 (.int .i64 k) ∧ ((k : Int) ≤ 5) ∧ (∀ j, j < k → zW s.qJ ([r.qR, r.xh, r.xm, r.xB, r.zk][j]!)) ∧ m' = (5 - (k : Int)).toNat ∧ Fresh w.heap.size [] ∧ St w w16 [.row (.slice (aa b14 0) 5 5) 22 1 5 [.slice vN r.qR.length vK, .slice jC r.xh.length jB, .slice vZ r.xm.length vY, .slice jP r.xB.length jO, .slice Qy r.zk.length Qx], .box b3 [.int .i64 r.qy, .int .i64 r.zh, .slice vN r.qR.length vK, .slice jC r.xh.length jB, .slice vZ r.xm.length vY, .slice jP r.xB.length jO, .slice Qy r.zk.length Qx, .slice vw r.qC.length zN, .bool false] 110, .box b1 [.int .i64 s.qJ, .slice qw s.qf.length qo, .slice qF s.qg.length qB] 36] [vX false (QZ ++ (Xz ++ (Xg ++ (XM ++ (FrOut ++ []))))) [.slice vN r.qR.length vK, .slice jC r.xh.length jB, .slice vZ r.xm.length vY, .slice jP r.xB.length jO, .slice Qy r.zk.length Qx] [r.qR, r.xh, r.xm, r.xB, r.zk], isF false qO (.slice qw s.qf.length qo) s.qf, isF false xw (.slice qF s.qg.length qB) s.qg, isF false QZ (.slice vN r.qR.length vK) r.qR, isF false Xz (.slice jC r.xh.length jB) r.xh, isF false Xg (.slice vZ r.xm.length vY) r.xm, isF false XM (.slice jP r.xB.length jO) r.xB, isF false FrOut (.slice Qy r.zk.length Qx) r.zk, isF false FrInto (.slice vw r.qC.length zN) r.qC]) ((5 - (0 : Int)).toNat) ⟨_, 0, (by exact qj (qj (qj (qj (qj (rfl) rfl) rfl) rfl) rfl) rfl), (by omega), (by intro j hj; omega), rfl, N, H.pick [0, 1, 2] [0, 6, 7, 8, 9, 10, 11, 12, 13]⟩ ?_
    clear H N
    rintro m' ρ w17 ⟨junk, k, rfl, i0, i1, rfl, N, H⟩
    refine qm (qA ?_)
    refine sp (.bool (decide ((k : Int) < 5))) ?_
    refine qx (t_n (qm ?_))
    refine qW (decide ((k : Int) < 5)) rfl (fun h18 => ?_) (fun h18 => ?_)
    ·skip
     replace h18 := of_decide_eq_true h18
     refine xk (t_n (qm (xE (qm (qA ?_)))))
     refine sw (xK k Tryz.underlying27 ti22 rfl rfl (by omega) (by omega) ?_)
     obtain ⟨a19, c20, G21, s22, h23, H⟩ := H.jg 0 rfl 0 rfl (iv := k) k (by omega) (by omega)
     refine sw (qE (.slice a19 (([r.qR, r.xh, r.xm, r.xB, r.zk][k]!).length) c20) Tryz.isAgg22 rfl (h23) ?_)
     refine sp (.slice a19 (([r.qR, r.xh, r.xm, r.xB, r.zk][k]!).length) c20) ?_
     refine qx (t_n (qm (qA ?_)))
     refine sw (qP b1 (0) 0 Tryz.underlying36 rfl rfl Tryz.sizeOf2 rfl ?_)
     refine sw (qE (.int .i64 s.qJ) Tryz.isAgg2 rfl (H.cell 2 rfl rfl) ?_)
     refine sp (.slice a19 (([r.qR, r.xh, r.xm, r.xB, r.zk][k]!).length) c20) ?_
     refine sw (qZ #[.int .i64 s.qJ, .slice a19 (([r.qR, r.xh, r.xm, r.xB, r.zk][k]!).length) c20] rfl rfl Tryz.call123 (validBag_ok w17 s.qJ ([r.qR, r.xh, r.xm, r.xB, r.zk][k]!) a19 c20 G21 (H.get 0 rfl).1) ?_)
     rintro _ w24 rfl x25
     replace H := H.ext x25
     refine sp (.bool (!(dec (zW s.qJ ([r.qR, r.xh, r.xm, r.xB, r.zk][k]!))))) ?_
     refine qx (t_n ?_)
     refine qW (!(dec (zW s.qJ ([r.qR, r.xh, r.xm, r.xB, r.zk][k]!)))) rfl (fun h26 => ?_) (fun h26 => ?_)
     ·skip
      replace h26 := xg h26
      replace h26 := xX h26
      refine qm (qA ?_)
      refine sp (.bool false) ?_
      refine qx (t_n (xC (b_r (t_r (t_r (b_r (t_r ?_)))))))
      refine ret1 (.bool false) rfl rfl ⟨_, rfl, ?_, H.base⟩
      rw [xy (fun h => by obtain ⟨h1, h2, h3, h4, h5, h6, h7, h8, h9, h10, h11⟩ := h; first | contradiction | omega | exact h3 ⟨‹_›, ‹_›⟩ | (obtain ⟨q1, q2, q3, q4, q5⟩ := h11 i (by omega); first | contradiction | omega | (have := q5 (by omega); omega)) | (refine absurd ?_ ‹¬ zW _ _›; rcases (show k = 0 ∨ k = 1 ∨ k = 2 ∨ k = 3 ∨ k = 4 by omega) with e | e | e | e | e <;> subst e <;> assumption))]
     replace h26 := qY h26
     replace h26 := jG h26
     refine xk (b_n (t_n (qA ?_)))
     refine sw (zZ k 1 rfl rfl (by omega) ?_)
     refine sp (.int .i64 (k + 1)) ?_
     refine qx ?_
     refine xH (m' := (5 - ((k + 1) : Int)).toNat) (by omega) ⟨_, k + 1, (by exact qj (qj (qj (qj (qj (rfl) rfl) rfl) rfl) rfl) rfl), ?_, ?_, rfl, N, H.pick [0, 1, 2] [1, 2, 3, 4, 5, 6, 7, 8, 9]⟩
     · omega
     · intro j hj; by_cases e : j = k; (subst e; assumption); exact i1 j (by omega)
    replace h18 := of_decide_eq_false h18
    refine zK (t_x (t_x (b_x (t_n (qm (qm (qA ?_)))))))
    refine sw (qP b3 (0) 7 Tryz.underlying110 rfl rfl Tryz.sizeOf108 rfl ?_)
    refine sw (qE (.slice vw r.qC.length zN) Tryz.isAgg108 rfl (H.cell 1 rfl rfl) ?_)
    refine sw (zX Tryz.underlying108 vw r.qC.length zN rfl ?_)
    refine sp (.int .i64 0) ?_
    refine qx (t_n (xE ?_))
    have n1 : zW s.qJ r.qR := i1 0 (by omega)
    have n2 : zW s.qJ r.xh := i1 1 (by omega)
    have n3 : zW s.qJ r.xm := i1 2 (by omega)
    have n4 : zW s.qJ r.xB := i1 3 (by omega)
    have n5 : zW s.qJ r.zk := i1 4 (by omega)
    refine zU (fun m' ρ w27 => ∃ (junk : Env) (i : Nat), ρ = upd (upd (upd (upd (upd junk 2 (pp b1 0)) 3 (pp b3 0)) 58 (.slice vw r.qC.length zN)) 59 (.int .i64 r.qC.length)) 60 (.int .i64 i) ∧ ((i : Int) ≤ r.qC.length) ∧ (IntosTo s r i) ∧ m' = (r.qC.length - (i : Int)).toNat ∧ Fresh w.heap.size [] ∧ St w w27 [.row (.slice (aa b14 0) 5 5) 22 1 5 [.slice vN r.qR.length vK, .slice jC r.xh.length jB, .slice vZ r.xm.length vY, .slice jP r.xB.length jO, .slice Qy r.zk.length Qx], .box b3 [.int .i64 r.qy, .int .i64 r.zh, .slice vN r.qR.length vK, .slice jC r.xh.length jB, .slice vZ r.xm.length vY, .slice jP r.xB.length jO, .slice Qy r.zk.length Qx, .slice vw r.qC.length zN, .bool false] 110, .box b1 [.int .i64 s.qJ, .slice qw s.qf.length qo, .slice qF s.qg.length qB] 36] [vX false (QZ ++ (Xz ++ (Xg ++ (XM ++ (FrOut ++ []))))) [.slice vN r.qR.length vK, .slice jC r.xh.length jB, .slice vZ r.xm.length vY, .slice jP r.xB.length jO, .slice Qy r.zk.length Qx] [r.qR, r.xh, r.xm, r.xB, r.zk], isF false qO (.slice qw s.qf.length qo) s.qf, isF false xw (.slice qF s.qg.length qB) s.qg, isF false QZ (.slice vN r.qR.length vK) r.qR, isF false Xz (.slice jC r.xh.length jB) r.xh, isF false Xg (.slice vZ r.xm.length vY) r.xm, isF false XM (.slice jP r.xB.length jO) r.xB, isF false FrOut (.slice Qy r.zk.length Qx) r.zk, isF false FrInto (.slice vw r.qC.length zN) r.qC]) ((r.qC.length - (0 : Int)).toNat) ⟨_, 0, (by exact qj (qj (qj (qj (qj (rfl) rfl) rfl) rfl) rfl) rfl), (by omega), (by exact fun j hj => by omega), rfl, N, H⟩ ?_
    clear H N
    rintro m' ρ w28 ⟨junk, i, rfl, i0, i2, rfl, N, H⟩
    refine qm (qA ?_)
    refine sp (.bool (decide ((i : Int) < r.qC.length))) ?_
    refine qx (t_n (qm ?_))
    refine qW (decide ((i : Int) < r.qC.length)) rfl (fun h29 => ?_) (fun h29 => ?_)
    ·skip
     replace h29 := of_decide_eq_true h29
     refine xk (t_n (qm (xE (qm (qA ?_)))))
     refine sp (.int .i64 i) ?_
     obtain ⟨b30, o31, rfl⟩ := H.addr 8 rfl (by omega)
     obtain ⟨Vt, Vs, Fe33Bag, H⟩ := H.jT 8 rfl i i (by omega) (by omega) (by omega)
     refine sw (xK i Tryz.underlying108 ti115 rfl rfl (by omega) (by omega) ?_)
     refine sw (zg [.int .i64 ((r.qC[i]!).qy), .slice Vt (((r.qC[i]!).vH).length) Vs] Tryz.isAgg115 Tryz.sizeOf115 rfl (qH (H.get 1 rfl) 0 2) ?_)
     refine sw (zn H ti115 [.int .i64 0, .slice none 0 0] fun b34 w35 H => ?_)
     refine sp (.int .i64 i) ?_
     refine sw (xP H 0 [.int .i64 ((r.qC[i]!).qy), .slice Vt (((r.qC[i]!).vH).length) Vs] Tryz.sizeOf115 fun w36 H => ?_)
     try dsimp only [List.set] at H
     refine qx (t_n (qm ?_))
     refine yw rfl H fun H => ?_
     refine rt 0 (.agg #[.int .i64 s.qJ, .slice qw s.qf.length qo, .slice qF s.qg.length qB]) (Qp (cs := [.int .i64 s.qJ, .slice qw s.qf.length qo, .slice qF s.qg.length qB]) Tryz.isAgg36 Tryz.sizeOf36 rfl (fun _ h => qH (h.cells 3 rfl) 0 3)) H ?_
     refine rt 1 (pp b34 (0 + 0)) (xG b34 (0) 0 Tryz.underlying115 rfl rfl Tryz.sizeOf2 rfl) H ?_
     refine rt 2 (.int .i64 ((r.qC[i]!).qy)) (xA Tryz.isAgg2 rfl (fun _ h => h.cell 0 rfl rfl)) H ?_
     refine xq [3] (by kernel_rfl) (by simp) (xZ rfl ?_ xu)
     refine qZ #[.agg #[.int .i64 s.qJ, .slice qw s.qf.length qo, .slice qF s.qg.length qB], .int .i64 ((r.qC[i]!).qy)] rfl rfl Tryz.call51 (isCell_ok w36.drew s ((r.qC[i]!).qy) qw qo qO qF qB xw (H.get 3 rfl).1 (H.get 4 rfl).1) ?_
     rintro _ w39 rfl x40
     replace H := H.ext x40
     refine ⟨H, ?_⟩
     refine rtp 4 (.bool (!(inR ((r.qC[i]!).qy) 0 ((s.qf.length : Int) - 1)))) H ?_
     refine rtp 5 (.bool (!(inR ((r.qC[i]!).qy) 0 ((s.qf.length : Int) - 1)))) H ?_
     cases h41 : (!(inR ((r.qC[i]!).qy) 0 ((s.qf.length : Int) - 1)))
     ·skip
      replace h41 := qY h41
      replace h41 := Xc.1 h41
      refine rg 6 (.agg #[.int .i64 s.qJ, .slice qw s.qf.length qo, .slice qF s.qg.length qB]) 70 (Qp (cs := [.int .i64 s.qJ, .slice qw s.qf.length qo, .slice qF s.qg.length qB]) Tryz.isAgg36 Tryz.sizeOf36 rfl (fun _ h => qH (h.cells 3 rfl) 0 3)) H ?_
      refine rg 7 (pp b34 (0 + 0)) 70 (xG b34 (0) 0 Tryz.underlying115 rfl rfl Tryz.sizeOf2 rfl) H ?_
      refine rg 8 (.int .i64 ((r.qC[i]!).qy)) 70 (xA Tryz.isAgg2 rfl (fun _ h => h.cell 0 rfl rfl)) H ?_
      refine rg 9 (pp b3 (0 + 0)) 70 (xG b3 (0) 0 Tryz.underlying110 rfl rfl Tryz.sizeOf2 rfl) H ?_
      refine rg 10 (.int .i64 r.qy) 70 (xA Tryz.isAgg2 rfl (fun _ h => h.cell 2 rfl rfl)) H ?_
      refine xq [11] (by kernel_rfl) (by simp) (Xp rfl (e := 70) rfl rfl ?_ xu)
      refine qZ #[.agg #[.int .i64 s.qJ, .slice qw s.qf.length qo, .slice qF s.qg.length qB], .int .i64 ((r.qC[i]!).qy), .int .i64 r.qy] rfl rfl Tryz.call164 (lies_ok w39 s ((r.qC[i]!).qy) r.qy qw qo qO qF qB xw (H.get 3 rfl).1 (H.get 4 rfl).1 (by first | assumption | omega) (by first | assumption | omega)) ?_
      rintro _ w43 rfl x44
      replace H := H.ext x44
      refine ⟨H, ?_⟩
      refine rgp 12 (.bool (!(dec (Lies s.qf r.qy ((r.qC[i]!).qy))))) 70 H ?_
      refine rtp 13 (.bool (!(dec (Lies s.qf r.qy ((r.qC[i]!).qy))))) H ?_
      refine rtp 14 (.bool (!(dec (Lies s.qf r.qy ((r.qC[i]!).qy))))) H ?_
      cases h45 : (!(dec (Lies s.qf r.qy ((r.qC[i]!).qy))))
      ·skip
       replace h45 := qY h45
       replace h45 := jG h45
       refine rg 15 (pp b1 (0 + 0)) 79 (xG b1 (0) 0 Tryz.underlying36 rfl rfl Tryz.sizeOf2 rfl) H ?_
       refine rg 16 (.int .i64 s.qJ) 79 (xA Tryz.isAgg2 rfl (fun _ h => h.cell 3 rfl rfl)) H ?_
       refine rg 17 (pp b34 (0 + 1)) 79 (xG b34 (0) 1 Tryz.underlying115 rfl rfl Tryz.sizeOf22 rfl) H ?_
       refine rg 18 (.slice Vt (((r.qC[i]!).vH).length) Vs) 79 (xA Tryz.isAgg22 rfl (fun _ h => h.cell 0 rfl rfl)) H ?_
       refine xq [19] (by kernel_rfl) (by simp) (Xp rfl (e := 79) rfl rfl ?_ xu)
       refine qZ #[.int .i64 s.qJ, .slice Vt (((r.qC[i]!).vH).length) Vs] rfl rfl Tryz.call123 (validBag_ok w43 s.qJ ((r.qC[i]!).vH) Vt Vs Fe33Bag (H.get 0 rfl).1) ?_
       rintro _ w46 rfl x47
       replace H := H.ext x47
       refine ⟨H, ?_⟩
       refine rgp 20 (.bool (!(dec (zW s.qJ ((r.qC[i]!).vH))))) 79 H ?_
       refine rtp 21 (.bool (!(dec (zW s.qJ ((r.qC[i]!).vH))))) H ?_
       refine rtp 22 (.bool (!(dec (zW s.qJ ((r.qC[i]!).vH))))) H ?_
       cases h48 : (!(dec (zW s.qJ ((r.qC[i]!).vH))))
       ·skip
        replace h48 := qY h48
        replace h48 := jG h48
        refine rg 23 (pp b34 (0 + 1)) 87 (xG b34 (0) 1 Tryz.underlying115 rfl rfl Tryz.sizeOf22 rfl) H ?_
        refine rg 24 (.slice Vt (((r.qC[i]!).vH).length) Vs) 87 (xA Tryz.isAgg22 rfl (fun _ h => h.cell 0 rfl rfl)) H ?_
        refine xq [25] (by kernel_rfl) (by simp) (Xp rfl (e := 87) rfl rfl ?_ xu)
        have sm : Small ((r.qC[i]!).vH) := jK (by first | assumption | exact i1 0 (by omega))
        refine qZ #[.slice Vt (((r.qC[i]!).vH).length) Vs] rfl rfl Tryz.call124 (bagSize_ok w46 ((r.qC[i]!).vH) Vt Vs Fe33Bag (H.get 0 rfl).1 (by first | assumption | exact jK (by assumption) | exact Xf (by assumption))) ?_
        rintro _ w49 rfl x50
        replace H := H.ext x50
        refine ⟨H, ?_⟩
        refine rgp 26 (.bool ((sumL ((r.qC[i]!).vH) : Int) == 0)) 87 H ?_
        refine rtp 27 (.bool ((sumL ((r.qC[i]!).vH) : Int) == 0)) H ?_
        refine rtp 28 (.bool ((sumL ((r.qC[i]!).vH) : Int) == 0)) H ?_
        cases h51 : ((sumL ((r.qC[i]!).vH) : Int) == 0)
        ·skip
         replace h51 := ne_of_beq_false h51
         refine rgp 29 (.int .i64 i) 93 H ?_
         refine rgp 30 (.bool (decide ((i : Int) > 0))) 93 H ?_
         refine rgp 31 (.bool (decide ((i : Int) > 0))) 93 H ?_
         cases h52 : (decide ((i : Int) > 0))
         ·skip
          replace h52 := of_decide_eq_false h52
          refine zT [32, 33, 34, 35, 36, 37, 38, 39, 40, 41] 10 (H) ?_
          refine rgp 42 (.bool false) 93 H ?_
          refine rtp 43 (.bool false) H ?_
          refine xN (by kernel_rfl) (t_n ?_)
          refine qW false rfl (fun h => absurd h (by decide)) (fun _ => ?_)
          refine xk (b_n (t_n (qA ?_)))
          refine sw (zZ i 1 rfl rfl (by omega) ?_)
          refine sp (.int .i64 (i + 1)) ?_
          refine qx ?_
          refine xH (m' := (r.qC.length - ((i + 1) : Int)).toNat) (by omega) ⟨_, i + 1, (by exact qj (qj (qj (qj (qj (rfl) rfl) rfl) rfl) rfl) rfl), ?_, ?_, rfl, N, H.pick [1, 2, 3] [2, 3, 4, 5, 6, 7, 8, 9, 10]⟩
          · omega
          · exact i2.succ ⟨‹_›, ‹_›, ‹_›, ‹_›, fun hk => by omega⟩
         replace h52 := of_decide_eq_true h52
         refine rg 32 (pp b34 (0 + 0)) 96 (xG b34 (0) 0 Tryz.underlying115 rfl rfl Tryz.sizeOf2 rfl) H ?_
         refine rg 33 (.int .i64 ((r.qC[i]!).qy)) 96 (xA Tryz.isAgg2 rfl (fun _ h => h.cell 0 rfl rfl)) H ?_
         refine rg 34 (pp b3 (0 + 7)) 96 (xG b3 (0) 7 Tryz.underlying110 rfl rfl Tryz.sizeOf108 rfl) H ?_
         refine rg 35 (.slice (aa b30 o31) r.qC.length zN) 96 (xA Tryz.isAgg108 rfl (fun _ h => h.cell 2 rfl rfl)) H ?_
         refine rgp 36 (.int .i64 i) 96 H ?_
         refine rg 37 (.int .i64 (i - 1)) 96 (y_sub i 1 rfl rfl (by omega)) H ?_
         obtain ⟨ae53Bag, ce53Bag, Fe53Bag, H⟩ := H.jT 10 rfl (i - 1) (i - 1) (by omega) (by omega) (by omega)
         have S := H.yG [0, 1, 2, 3] [2, 3, 4, 5, 6, 7, 8, 9, 10, 11, 12]
         refine rg 38 (pp b30 (o31 + (i - 1 : Int).toNat * 2)) 96 (xO b30 (o31) r.qC.length zN (i - 1) Tryz.underlying108 ti115 rfl rfl (by omega) (by omega)) S ?_
         refine rg 39 (pp b30 (o31 + (i - 1 : Int).toNat * 2 + 0)) 96 (xG b30 (o31 + (i - 1 : Int).toNat * 2) 0 Tryz.underlying115 rfl rfl Tryz.sizeOf2 rfl) S ?_
         refine xq [40] (by kernel_rfl) (by simp) (Xp rfl (e := 96) rfl rfl ?_ xu)
         refine qE (.int .i64 ((r.qC[i - 1]!).qy)) Tryz.isAgg2 rfl (H.xY 1 rfl 0 rfl) ?_
         refine ⟨H.pick [0, 1, 2, 3] [2, 3, 4, 5, 6, 7, 8, 9, 10, 11, 12], ?_⟩
         have S := H.yG [0, 1, 2, 3] [2, 3, 4, 5, 6, 7, 8, 9, 10, 11, 12]
         refine rgp 41 (.bool (decide (((r.qC[i]!).qy : Int) ≤ ((r.qC[i - 1]!).qy)))) 96 S ?_
         refine rgp 42 (.bool (decide (((r.qC[i]!).qy : Int) ≤ ((r.qC[i - 1]!).qy)))) 93 S ?_
         refine rtp 43 (.bool (decide (((r.qC[i]!).qy : Int) ≤ ((r.qC[i - 1]!).qy)))) S ?_
         refine xN (by kernel_rfl) (t_n ?_)
         refine qW (decide (((r.qC[i]!).qy : Int) ≤ ((r.qC[i - 1]!).qy))) rfl (fun h54 => ?_) (fun h54 => ?_)
         ·skip
          replace h54 := of_decide_eq_true h54
          refine qm (qA ?_)
          refine sp (.bool false) ?_
          refine qx (t_n (xC (b_r (t_r (t_r (b_r (t_r ?_)))))))
          refine ret1 (.bool false) rfl rfl ⟨_, rfl, ?_, H.base⟩
          rw [xy (fun h => by obtain ⟨h1, h2, h3, h4, h5, h6, h7, h8, h9, h10, h11⟩ := h; first | contradiction | omega | exact h3 ⟨‹_›, ‹_›⟩ | (obtain ⟨q1, q2, q3, q4, q5⟩ := h11 i (by omega); first | contradiction | omega | (have := q5 (by omega); omega)) | (refine absurd ?_ ‹¬ zW _ _›; rcases (show k = 0 ∨ k = 1 ∨ k = 2 ∨ k = 3 ∨ k = 4 by omega) with e | e | e | e | e <;> subst e <;> assumption))]
         replace h54 := of_decide_eq_false h54
         refine xk (b_n (t_n (qA ?_)))
         refine sw (zZ i 1 rfl rfl (by omega) ?_)
         refine sp (.int .i64 (i + 1)) ?_
         refine qx ?_
         refine xH (m' := (r.qC.length - ((i + 1) : Int)).toNat) (by omega) ⟨_, i + 1, (by exact qj (qj (qj (qj (qj (rfl) rfl) rfl) rfl) rfl) rfl), ?_, ?_, rfl, N, H.pick [1, 2, 3] [4, 5, 6, 7, 8, 9, 10, 11, 12]⟩
         · omega
         · exact i2.succ ⟨‹_›, ‹_›, ‹_›, ‹_›, fun hk => by omega⟩
        replace h51 := eq_of_beq h51
        refine zT [29, 30, 31, 32, 33, 34, 35, 36, 37, 38, 39, 40, 41, 42] 14 (H) ?_
        refine rtp 43 (.bool true) H ?_
        refine xN (by kernel_rfl) (t_n ?_)
        refine qW true rfl (fun _ => ?_) (fun h => absurd h (by decide))
        refine qm (qA ?_)
        refine sp (.bool false) ?_
        refine qx (t_n (xC (b_r (t_r (t_r (b_r (t_r ?_)))))))
        refine ret1 (.bool false) rfl rfl ⟨_, rfl, ?_, H.base⟩
        rw [xy (fun h => by obtain ⟨h1, h2, h3, h4, h5, h6, h7, h8, h9, h10, h11⟩ := h; first | contradiction | omega | exact h3 ⟨‹_›, ‹_›⟩ | (obtain ⟨q1, q2, q3, q4, q5⟩ := h11 i (by omega); first | contradiction | omega | (have := q5 (by omega); omega)) | (refine absurd ?_ ‹¬ zW _ _›; rcases (show k = 0 ∨ k = 1 ∨ k = 2 ∨ k = 3 ∨ k = 4 by omega) with e | e | e | e | e <;> subst e <;> assumption))]
       replace h48 := xg h48
       replace h48 := xX h48
       refine zT [23, 24, 25, 26] 4 (H) ?_
       refine rtp 27 (.bool true) H ?_
       refine rtp 28 (.bool true) H ?_
       refine zT [29, 30, 31, 32, 33, 34, 35, 36, 37, 38, 39, 40, 41, 42] 14 (H) ?_
       refine rtp 43 (.bool true) H ?_
       refine xN (by kernel_rfl) (t_n ?_)
       refine qW true rfl (fun _ => ?_) (fun h => absurd h (by decide))
       refine qm (qA ?_)
       refine sp (.bool false) ?_
       refine qx (t_n (xC (b_r (t_r (t_r (b_r (t_r ?_)))))))
       refine ret1 (.bool false) rfl rfl ⟨_, rfl, ?_, H.base⟩
       rw [xy (fun h => by obtain ⟨h1, h2, h3, h4, h5, h6, h7, h8, h9, h10, h11⟩ := h; first | contradiction | omega | exact h3 ⟨‹_›, ‹_›⟩ | (obtain ⟨q1, q2, q3, q4, q5⟩ := h11 i (by omega); first | contradiction | omega | (have := q5 (by omega); omega)) | (refine absurd ?_ ‹¬ zW _ _›; rcases (show k = 0 ∨ k = 1 ∨ k = 2 ∨ k = 3 ∨ k = 4 by omega) with e | e | e | e | e <;> subst e <;> assumption))]
      replace h45 := xg h45
      replace h45 := xX h45
      refine zT [15, 16, 17, 18, 19, 20] 6 (H) ?_
      refine rtp 21 (.bool true) H ?_
      refine rtp 22 (.bool true) H ?_
      refine zT [23, 24, 25, 26] 4 (H) ?_
      refine rtp 27 (.bool true) H ?_
      refine rtp 28 (.bool true) H ?_
      refine zT [29, 30, 31, 32, 33, 34, 35, 36, 37, 38, 39, 40, 41, 42] 14 (H) ?_
      refine rtp 43 (.bool true) H ?_
      refine xN (by kernel_rfl) (t_n ?_)
      refine qW true rfl (fun _ => ?_) (fun h => absurd h (by decide))
      refine qm (qA ?_)
      refine sp (.bool false) ?_
      refine qx (t_n (xC (b_r (t_r (t_r (b_r (t_r ?_)))))))
      refine ret1 (.bool false) rfl rfl ⟨_, rfl, ?_, H.base⟩
      rw [xy (fun h => by obtain ⟨h1, h2, h3, h4, h5, h6, h7, h8, h9, h10, h11⟩ := h; first | contradiction | omega | exact h3 ⟨‹_›, ‹_›⟩ | (obtain ⟨q1, q2, q3, q4, q5⟩ := h11 i (by omega); first | contradiction | omega | (have := q5 (by omega); omega)) | (refine absurd ?_ ‹¬ zW _ _›; rcases (show k = 0 ∨ k = 1 ∨ k = 2 ∨ k = 3 ∨ k = 4 by omega) with e | e | e | e | e <;> subst e <;> assumption))]
     replace h41 := xg h41
     replace h41 := XJ h41
     refine zT [6, 7, 8, 9, 10, 11, 12] 7 (H) ?_
     refine rtp 13 (.bool true) H ?_
     refine rtp 14 (.bool true) H ?_
     refine zT [15, 16, 17, 18, 19, 20] 6 (H) ?_
     refine rtp 21 (.bool true) H ?_
     refine rtp 22 (.bool true) H ?_
     refine zT [23, 24, 25, 26] 4 (H) ?_
     refine rtp 27 (.bool true) H ?_
     refine rtp 28 (.bool true) H ?_
     refine zT [29, 30, 31, 32, 33, 34, 35, 36, 37, 38, 39, 40, 41, 42] 14 (H) ?_
     refine rtp 43 (.bool true) H ?_
     refine xN (by kernel_rfl) (t_n ?_)
     refine qW true rfl (fun _ => ?_) (fun h => absurd h (by decide))
     refine qm (qA ?_)
     refine sp (.bool false) ?_
     refine qx (t_n (xC (b_r (t_r (t_r (b_r (t_r ?_)))))))
     refine ret1 (.bool false) rfl rfl ⟨_, rfl, ?_, H.base⟩
     rw [xy (fun h => by obtain ⟨h1, h2, h3, h4, h5, h6, h7, h8, h9, h10, h11⟩ := h; first | contradiction | omega | exact h3 ⟨‹_›, ‹_›⟩ | (obtain ⟨q1, q2, q3, q4, q5⟩ := h11 i (by omega); first | contradiction | omega | (have := q5 (by omega); omega)) | (refine absurd ?_ ‹¬ zW _ _›; rcases (show k = 0 ∨ k = 1 ∨ k = 2 ∨ k = 3 ∨ k = 4 by omega) with e | e | e | e | e <;> subst e <;> assumption))]
    replace h29 := of_decide_eq_false h29
    refine zK (t_x (t_x (b_x (t_n (qm (qA ?_))))))
    refine sw (qP b3 (0) 2 Tryz.underlying110 rfl rfl Tryz.sizeOf22 rfl ?_)
    refine sw (qE (.slice vN r.qR.length vK) Tryz.isAgg22 rfl (H.cell 1 rfl rfl) ?_)
    have sm : Small r.qR := jK (by first | assumption | exact i1 0 (by omega))
    refine sw (qZ #[.slice vN r.qR.length vK] rfl rfl Tryz.call124 (bagSize_ok w28 r.qR vN vK QZ (H.get 3 rfl).1 (by first | assumption | exact jK (by assumption) | exact Xf (by assumption))) ?_)
    rintro _ w55 rfl x56
    replace H := H.ext x56
    refine sps [.bool (decide ((sumL r.qR : Int) > 0)), .bool (decide ((sumL r.qR : Int) > 0))] ?_
    refine qx (t_n (xC ?_))
    refine ret1 (.bool (decide ((sumL r.qR : Int) > 0))) rfl rfl ⟨_, rfl, ?_, H.base⟩
    refine congrArg Value.bool (dec_eq ?_)
    rw [decide_eq_true_iff]
    exact ⟨fun h => ⟨by omega, by omega, by simp_all, by omega, n1, n2, n3, n4, n5, by omega, (show i = r.qC.length by omega) ▸ i2⟩, fun h => by have := h.2.2.2.2.2.2.2.2.2.1; have := sum_nonneg n1.1; omega⟩
   rw [h12] at H
   refine qQ 23 rfl rfl ?_
   refine sw (qP b3 (0) 0 Tryz.underlying110 rfl rfl Tryz.sizeOf2 rfl ?_)
   refine qQ 23 rfl rfl ?_
   refine sw (qE (.int .i64 r.qy) Tryz.isAgg2 rfl (H.cell 0 rfl rfl) ?_)
   refine qQ 23 rfl rfl ?_
   refine sp (.bool ((r.qy : Int) == 0)) ?_
   refine qQ 20 rfl rfl ?_
   refine sps [.bool ((r.qy : Int) == 0), .bool ((r.qy : Int) == 0), .bool ((r.qy : Int) == 0)] ?_
   cases h57 : ((r.qy : Int) == 0)
   ·skip
    replace h57 := ne_of_beq_false h57
    refine qQ 29 rfl rfl ?_
    refine sw (qP b3 (0) 7 Tryz.underlying110 rfl rfl Tryz.sizeOf108 rfl ?_)
    refine qQ 29 rfl rfl ?_
    refine sw (qE (.slice vw r.qC.length zN) Tryz.isAgg108 rfl (H.cell 0 rfl rfl) ?_)
    refine qQ 29 rfl rfl ?_
    refine sw (zX Tryz.underlying108 vw r.qC.length zN rfl ?_)
    refine qQ 29 rfl rfl ?_
    refine sps [.bool (decide ((r.qC.length : Int) > 3)), .bool (decide ((r.qC.length : Int) > 3))] ?_
    refine qx (t_n ?_)
    refine qW (decide ((r.qC.length : Int) > 3)) rfl (fun h58 => ?_) (fun h58 => ?_)
    ·skip
     replace h58 := of_decide_eq_true h58
     refine qm (qA ?_)
     refine sp (.bool false) ?_
     refine qx (t_n (xC (t_r ?_)))
     refine ret1 (.bool false) rfl rfl ⟨_, rfl, ?_, H.base⟩
     rw [xy (fun h => by obtain ⟨h1, h2, h3, h4, h5, h6, h7, h8, h9, h10, h11⟩ := h; first | contradiction | omega | exact h3 ⟨‹_›, ‹_›⟩ | (obtain ⟨q1, q2, q3, q4, q5⟩ := h11 i (by omega); first | contradiction | omega | (have := q5 (by omega); omega)) | (refine absurd ?_ ‹¬ zW _ _›; rcases (show k = 0 ∨ k = 1 ∨ k = 2 ∨ k = 3 ∨ k = 4 by omega) with e | e | e | e | e <;> subst e <;> assumption))]
    replace h58 := of_decide_eq_false h58
    refine xk (t_n (qm (qm (qA ?_))))
    refine sw (qP b3 (0) 2 Tryz.underlying110 rfl rfl Tryz.sizeOf22 rfl ?_)
    refine sw (qE (.slice vN r.qR.length vK) Tryz.isAgg22 rfl (H.cell 0 rfl rfl) ?_)
    refine sw (qP b3 (0) 3 Tryz.underlying110 rfl rfl Tryz.sizeOf22 rfl ?_)
    refine sw (qE (.slice jC r.xh.length jB) Tryz.isAgg22 rfl (H.cell 0 rfl rfl) ?_)
    refine sw (qP b3 (0) 4 Tryz.underlying110 rfl rfl Tryz.sizeOf22 rfl ?_)
    refine sw (qE (.slice vZ r.xm.length vY) Tryz.isAgg22 rfl (H.cell 0 rfl rfl) ?_)
    refine sw (qP b3 (0) 5 Tryz.underlying110 rfl rfl Tryz.sizeOf22 rfl ?_)
    refine sw (qE (.slice jP r.xB.length jO) Tryz.isAgg22 rfl (H.cell 0 rfl rfl) ?_)
    refine sw (qP b3 (0) 6 Tryz.underlying110 rfl rfl Tryz.sizeOf22 rfl ?_)
    refine sw (qE (.slice Qy r.zk.length Qx) Tryz.isAgg22 rfl (H.cell 0 rfl rfl) ?_)
    refine sw (o_buildF H Tryz.underlying27 ti22 [.slice vN r.qR.length vK, .slice jC r.xh.length jB, .slice vZ r.xm.length vY, .slice jP r.xB.length jO, .slice Qy r.zk.length Qx] rfl (by simp [Value.cells]) rfl (by decide) (by decide) fun b59 w60 H => ?_)
    refine sw (zX Tryz.underlying27 (aa b59 0) 5 5 rfl ?_)
    refine sp (.int .i64 0) ?_
    refine qx (t_n (xE ?_))
    replace H := H.boxRow 0 rfl 1 5 rfl (by decide)
    try dsimp only [List.set] at H
    replace H := H.Qw (α := List Int)
    replace H := H.repsCons false 7 rfl 0 rfl (by simp)
    replace H := H.repsCons false 7 rfl 0 rfl (by simp)
    replace H := H.repsCons false 7 rfl 0 rfl (by simp)
    replace H := H.repsCons false 7 rfl 0 rfl (by simp)
    replace H := H.repsCons false 7 rfl 0 rfl (by simp)
    refine zU (fun m' ρ w61 => ∃ (junk : Env) (k : Nat), ρ = upd (upd (upd (upd (upd junk 2 (pp b1 0)) 3 (pp b3 0)) 45 (.slice (aa b59 0) 5 5)) 46 (.int .i64 5)) 47 (.int .i64 k) ∧ ((k : Int) ≤ 5) ∧ (∀ j, j < k → zW s.qJ ([r.qR, r.xh, r.xm, r.xB, r.zk][j]!)) ∧ m' = (5 - (k : Int)).toNat ∧ Fresh w.heap.size [] ∧ St w w61 [.row (.slice (aa b59 0) 5 5) 22 1 5 [.slice vN r.qR.length vK, .slice jC r.xh.length jB, .slice vZ r.xm.length vY, .slice jP r.xB.length jO, .slice Qy r.zk.length Qx], .box b3 [.int .i64 r.qy, .int .i64 r.zh, .slice vN r.qR.length vK, .slice jC r.xh.length jB, .slice vZ r.xm.length vY, .slice jP r.xB.length jO, .slice Qy r.zk.length Qx, .slice vw r.qC.length zN, .bool true] 110, .box b1 [.int .i64 s.qJ, .slice qw s.qf.length qo, .slice qF s.qg.length qB] 36] [vX false (QZ ++ (Xz ++ (Xg ++ (XM ++ (FrOut ++ []))))) [.slice vN r.qR.length vK, .slice jC r.xh.length jB, .slice vZ r.xm.length vY, .slice jP r.xB.length jO, .slice Qy r.zk.length Qx] [r.qR, r.xh, r.xm, r.xB, r.zk], isF false qO (.slice qw s.qf.length qo) s.qf, isF false xw (.slice qF s.qg.length qB) s.qg, isF false QZ (.slice vN r.qR.length vK) r.qR, isF false Xz (.slice jC r.xh.length jB) r.xh, isF false Xg (.slice vZ r.xm.length vY) r.xm, isF false XM (.slice jP r.xB.length jO) r.xB, isF false FrOut (.slice Qy r.zk.length Qx) r.zk, isF false FrInto (.slice vw r.qC.length zN) r.qC]) ((5 - (0 : Int)).toNat) ⟨_, 0, (by exact qj (qj (qj (qj (qj (rfl) rfl) rfl) rfl) rfl) rfl), (by omega), (by intro j hj; omega), rfl, N, H.pick [0, 1, 2] [0, 6, 7, 8, 9, 10, 11, 12, 13]⟩ ?_
    clear H N
    rintro m' ρ w62 ⟨junk, k, rfl, i0, i1, rfl, N, H⟩
    refine qm (qA ?_)
    refine sp (.bool (decide ((k : Int) < 5))) ?_
    refine qx (t_n (qm ?_))
    refine qW (decide ((k : Int) < 5)) rfl (fun h63 => ?_) (fun h63 => ?_)
    ·skip
     replace h63 := of_decide_eq_true h63
     refine xk (t_n (qm (xE (qm (qA ?_)))))
     refine sw (xK k Tryz.underlying27 ti22 rfl rfl (by omega) (by omega) ?_)
     obtain ⟨a64, c65, G66, s67, h68, H⟩ := H.jg 0 rfl 0 rfl (iv := k) k (by omega) (by omega)
     refine sw (qE (.slice a64 (([r.qR, r.xh, r.xm, r.xB, r.zk][k]!).length) c65) Tryz.isAgg22 rfl (h68) ?_)
     refine sp (.slice a64 (([r.qR, r.xh, r.xm, r.xB, r.zk][k]!).length) c65) ?_
     refine qx (t_n (qm (qA ?_)))
     refine sw (qP b1 (0) 0 Tryz.underlying36 rfl rfl Tryz.sizeOf2 rfl ?_)
     refine sw (qE (.int .i64 s.qJ) Tryz.isAgg2 rfl (H.cell 2 rfl rfl) ?_)
     refine sp (.slice a64 (([r.qR, r.xh, r.xm, r.xB, r.zk][k]!).length) c65) ?_
     refine sw (qZ #[.int .i64 s.qJ, .slice a64 (([r.qR, r.xh, r.xm, r.xB, r.zk][k]!).length) c65] rfl rfl Tryz.call123 (validBag_ok w62 s.qJ ([r.qR, r.xh, r.xm, r.xB, r.zk][k]!) a64 c65 G66 (H.get 0 rfl).1) ?_)
     rintro _ w69 rfl x70
     replace H := H.ext x70
     refine sp (.bool (!(dec (zW s.qJ ([r.qR, r.xh, r.xm, r.xB, r.zk][k]!))))) ?_
     refine qx (t_n ?_)
     refine qW (!(dec (zW s.qJ ([r.qR, r.xh, r.xm, r.xB, r.zk][k]!)))) rfl (fun h71 => ?_) (fun h71 => ?_)
     ·skip
      replace h71 := xg h71
      replace h71 := xX h71
      refine qm (qA ?_)
      refine sp (.bool false) ?_
      refine qx (t_n (xC (b_r (t_r (t_r (b_r (t_r ?_)))))))
      refine ret1 (.bool false) rfl rfl ⟨_, rfl, ?_, H.base⟩
      rw [xy (fun h => by obtain ⟨h1, h2, h3, h4, h5, h6, h7, h8, h9, h10, h11⟩ := h; first | contradiction | omega | exact h3 ⟨‹_›, ‹_›⟩ | (obtain ⟨q1, q2, q3, q4, q5⟩ := h11 i (by omega); first | contradiction | omega | (have := q5 (by omega); omega)) | (refine absurd ?_ ‹¬ zW _ _›; rcases (show k = 0 ∨ k = 1 ∨ k = 2 ∨ k = 3 ∨ k = 4 by omega) with e | e | e | e | e <;> subst e <;> assumption))]
     replace h71 := qY h71
     replace h71 := jG h71
     refine xk (b_n (t_n (qA ?_)))
     refine sw (zZ k 1 rfl rfl (by omega) ?_)
     refine sp (.int .i64 (k + 1)) ?_
     refine qx ?_
     refine xH (m' := (5 - ((k + 1) : Int)).toNat) (by omega) ⟨_, k + 1, (by exact qj (qj (qj (qj (qj (rfl) rfl) rfl) rfl) rfl) rfl), ?_, ?_, rfl, N, H.pick [0, 1, 2] [1, 2, 3, 4, 5, 6, 7, 8, 9]⟩
     · omega
     · intro j hj; by_cases e : j = k; (subst e; assumption); exact i1 j (by omega)
    replace h63 := of_decide_eq_false h63
    refine zK (t_x (t_x (b_x (t_n (qm (qm (qA ?_)))))))
    refine sw (qP b3 (0) 7 Tryz.underlying110 rfl rfl Tryz.sizeOf108 rfl ?_)
    refine sw (qE (.slice vw r.qC.length zN) Tryz.isAgg108 rfl (H.cell 1 rfl rfl) ?_)
    refine sw (zX Tryz.underlying108 vw r.qC.length zN rfl ?_)
    refine sp (.int .i64 0) ?_
    refine qx (t_n (xE ?_))
    have n1 : zW s.qJ r.qR := i1 0 (by omega)
    have n2 : zW s.qJ r.xh := i1 1 (by omega)
    have n3 : zW s.qJ r.xm := i1 2 (by omega)
    have n4 : zW s.qJ r.xB := i1 3 (by omega)
    have n5 : zW s.qJ r.zk := i1 4 (by omega)
    refine zU (fun m' ρ w72 => ∃ (junk : Env) (i : Nat), ρ = upd (upd (upd (upd (upd junk 2 (pp b1 0)) 3 (pp b3 0)) 58 (.slice vw r.qC.length zN)) 59 (.int .i64 r.qC.length)) 60 (.int .i64 i) ∧ ((i : Int) ≤ r.qC.length) ∧ (IntosTo s r i) ∧ m' = (r.qC.length - (i : Int)).toNat ∧ Fresh w.heap.size [] ∧ St w w72 [.row (.slice (aa b59 0) 5 5) 22 1 5 [.slice vN r.qR.length vK, .slice jC r.xh.length jB, .slice vZ r.xm.length vY, .slice jP r.xB.length jO, .slice Qy r.zk.length Qx], .box b3 [.int .i64 r.qy, .int .i64 r.zh, .slice vN r.qR.length vK, .slice jC r.xh.length jB, .slice vZ r.xm.length vY, .slice jP r.xB.length jO, .slice Qy r.zk.length Qx, .slice vw r.qC.length zN, .bool true] 110, .box b1 [.int .i64 s.qJ, .slice qw s.qf.length qo, .slice qF s.qg.length qB] 36] [vX false (QZ ++ (Xz ++ (Xg ++ (XM ++ (FrOut ++ []))))) [.slice vN r.qR.length vK, .slice jC r.xh.length jB, .slice vZ r.xm.length vY, .slice jP r.xB.length jO, .slice Qy r.zk.length Qx] [r.qR, r.xh, r.xm, r.xB, r.zk], isF false qO (.slice qw s.qf.length qo) s.qf, isF false xw (.slice qF s.qg.length qB) s.qg, isF false QZ (.slice vN r.qR.length vK) r.qR, isF false Xz (.slice jC r.xh.length jB) r.xh, isF false Xg (.slice vZ r.xm.length vY) r.xm, isF false XM (.slice jP r.xB.length jO) r.xB, isF false FrOut (.slice Qy r.zk.length Qx) r.zk, isF false FrInto (.slice vw r.qC.length zN) r.qC]) ((r.qC.length - (0 : Int)).toNat) ⟨_, 0, (by exact qj (qj (qj (qj (qj (rfl) rfl) rfl) rfl) rfl) rfl), (by omega), (by exact fun j hj => by omega), rfl, N, H⟩ ?_
    clear H N
    rintro m' ρ w73 ⟨junk, i, rfl, i0, i2, rfl, N, H⟩
    refine qm (qA ?_)
    refine sp (.bool (decide ((i : Int) < r.qC.length))) ?_
    refine qx (t_n (qm ?_))
    refine qW (decide ((i : Int) < r.qC.length)) rfl (fun h74 => ?_) (fun h74 => ?_)
    ·skip
     replace h74 := of_decide_eq_true h74
     refine xk (t_n (qm (xE (qm (qA ?_)))))
     refine sp (.int .i64 i) ?_
     obtain ⟨b75, o76, rfl⟩ := H.addr 8 rfl (by omega)
     obtain ⟨ae78Bag, ce78Bag, Fe78Bag, H⟩ := H.jT 8 rfl i i (by omega) (by omega) (by omega)
     refine sw (xK i Tryz.underlying108 ti115 rfl rfl (by omega) (by omega) ?_)
     refine sw (zg [.int .i64 ((r.qC[i]!).qy), .slice ae78Bag (((r.qC[i]!).vH).length) ce78Bag] Tryz.isAgg115 Tryz.sizeOf115 rfl (qH (H.get 1 rfl) 0 2) ?_)
     refine sw (zn H ti115 [.int .i64 0, .slice none 0 0] fun b79 w80 H => ?_)
     refine sp (.int .i64 i) ?_
     refine sw (xP H 0 [.int .i64 ((r.qC[i]!).qy), .slice ae78Bag (((r.qC[i]!).vH).length) ce78Bag] Tryz.sizeOf115 fun w81 H => ?_)
     try dsimp only [List.set] at H
     refine qx (t_n (qm ?_))
     refine yw rfl H fun H => ?_
     refine rt 0 (.agg #[.int .i64 s.qJ, .slice qw s.qf.length qo, .slice qF s.qg.length qB]) (Qp (cs := [.int .i64 s.qJ, .slice qw s.qf.length qo, .slice qF s.qg.length qB]) Tryz.isAgg36 Tryz.sizeOf36 rfl (fun _ h => qH (h.cells 3 rfl) 0 3)) H ?_
     refine rt 1 (pp b79 (0 + 0)) (xG b79 (0) 0 Tryz.underlying115 rfl rfl Tryz.sizeOf2 rfl) H ?_
     refine rt 2 (.int .i64 ((r.qC[i]!).qy)) (xA Tryz.isAgg2 rfl (fun _ h => h.cell 0 rfl rfl)) H ?_
     refine xq [3] (by kernel_rfl) (by simp) (xZ rfl ?_ xu)
     refine qZ #[.agg #[.int .i64 s.qJ, .slice qw s.qf.length qo, .slice qF s.qg.length qB], .int .i64 ((r.qC[i]!).qy)] rfl rfl Tryz.call51 (isCell_ok w81.drew s ((r.qC[i]!).qy) qw qo qO qF qB xw (H.get 3 rfl).1 (H.get 4 rfl).1) ?_
     rintro _ w84 rfl x85
     replace H := H.ext x85
     refine ⟨H, ?_⟩
     refine rtp 4 (.bool (!(inR ((r.qC[i]!).qy) 0 ((s.qf.length : Int) - 1)))) H ?_
     refine rtp 5 (.bool (!(inR ((r.qC[i]!).qy) 0 ((s.qf.length : Int) - 1)))) H ?_
     cases h86 : (!(inR ((r.qC[i]!).qy) 0 ((s.qf.length : Int) - 1)))
     ·skip
      replace h86 := qY h86
      replace h86 := Xc.1 h86
      refine rg 6 (.agg #[.int .i64 s.qJ, .slice qw s.qf.length qo, .slice qF s.qg.length qB]) 70 (Qp (cs := [.int .i64 s.qJ, .slice qw s.qf.length qo, .slice qF s.qg.length qB]) Tryz.isAgg36 Tryz.sizeOf36 rfl (fun _ h => qH (h.cells 3 rfl) 0 3)) H ?_
      refine rg 7 (pp b79 (0 + 0)) 70 (xG b79 (0) 0 Tryz.underlying115 rfl rfl Tryz.sizeOf2 rfl) H ?_
      refine rg 8 (.int .i64 ((r.qC[i]!).qy)) 70 (xA Tryz.isAgg2 rfl (fun _ h => h.cell 0 rfl rfl)) H ?_
      refine rg 9 (pp b3 (0 + 0)) 70 (xG b3 (0) 0 Tryz.underlying110 rfl rfl Tryz.sizeOf2 rfl) H ?_
      refine rg 10 (.int .i64 r.qy) 70 (xA Tryz.isAgg2 rfl (fun _ h => h.cell 2 rfl rfl)) H ?_
      refine xq [11] (by kernel_rfl) (by simp) (Xp rfl (e := 70) rfl rfl ?_ xu)
      refine qZ #[.agg #[.int .i64 s.qJ, .slice qw s.qf.length qo, .slice qF s.qg.length qB], .int .i64 ((r.qC[i]!).qy), .int .i64 r.qy] rfl rfl Tryz.call164 (lies_ok w84 s ((r.qC[i]!).qy) r.qy qw qo qO qF qB xw (H.get 3 rfl).1 (H.get 4 rfl).1 (by first | assumption | omega) (by first | assumption | omega)) ?_
      rintro _ w88 rfl x89
      replace H := H.ext x89
      refine ⟨H, ?_⟩
      refine rgp 12 (.bool (!(dec (Lies s.qf r.qy ((r.qC[i]!).qy))))) 70 H ?_
      refine rtp 13 (.bool (!(dec (Lies s.qf r.qy ((r.qC[i]!).qy))))) H ?_
      refine rtp 14 (.bool (!(dec (Lies s.qf r.qy ((r.qC[i]!).qy))))) H ?_
      cases h90 : (!(dec (Lies s.qf r.qy ((r.qC[i]!).qy))))
      ·skip
       replace h90 := qY h90
       replace h90 := jG h90
       refine rg 15 (pp b1 (0 + 0)) 79 (xG b1 (0) 0 Tryz.underlying36 rfl rfl Tryz.sizeOf2 rfl) H ?_
       refine rg 16 (.int .i64 s.qJ) 79 (xA Tryz.isAgg2 rfl (fun _ h => h.cell 3 rfl rfl)) H ?_
       refine rg 17 (pp b79 (0 + 1)) 79 (xG b79 (0) 1 Tryz.underlying115 rfl rfl Tryz.sizeOf22 rfl) H ?_
       refine rg 18 (.slice ae78Bag (((r.qC[i]!).vH).length) ce78Bag) 79 (xA Tryz.isAgg22 rfl (fun _ h => h.cell 0 rfl rfl)) H ?_
       refine xq [19] (by kernel_rfl) (by simp) (Xp rfl (e := 79) rfl rfl ?_ xu)
       refine qZ #[.int .i64 s.qJ, .slice ae78Bag (((r.qC[i]!).vH).length) ce78Bag] rfl rfl Tryz.call123 (validBag_ok w88 s.qJ ((r.qC[i]!).vH) ae78Bag ce78Bag Fe78Bag (H.get 0 rfl).1) ?_
       rintro _ w91 rfl x92
       replace H := H.ext x92
       refine ⟨H, ?_⟩
       refine rgp 20 (.bool (!(dec (zW s.qJ ((r.qC[i]!).vH))))) 79 H ?_
       refine rtp 21 (.bool (!(dec (zW s.qJ ((r.qC[i]!).vH))))) H ?_
       refine rtp 22 (.bool (!(dec (zW s.qJ ((r.qC[i]!).vH))))) H ?_
       cases h93 : (!(dec (zW s.qJ ((r.qC[i]!).vH))))
       ·skip
        replace h93 := qY h93
        replace h93 := jG h93
        refine rg 23 (pp b79 (0 + 1)) 87 (xG b79 (0) 1 Tryz.underlying115 rfl rfl Tryz.sizeOf22 rfl) H ?_
        refine rg 24 (.slice ae78Bag (((r.qC[i]!).vH).length) ce78Bag) 87 (xA Tryz.isAgg22 rfl (fun _ h => h.cell 0 rfl rfl)) H ?_
        refine xq [25] (by kernel_rfl) (by simp) (Xp rfl (e := 87) rfl rfl ?_ xu)
        have sm : Small ((r.qC[i]!).vH) := jK (by first | assumption | exact i1 0 (by omega))
        refine qZ #[.slice ae78Bag (((r.qC[i]!).vH).length) ce78Bag] rfl rfl Tryz.call124 (bagSize_ok w91 ((r.qC[i]!).vH) ae78Bag ce78Bag Fe78Bag (H.get 0 rfl).1 (by first | assumption | exact jK (by assumption) | exact Xf (by assumption))) ?_
        rintro _ w94 rfl x95
        replace H := H.ext x95
        refine ⟨H, ?_⟩
        refine rgp 26 (.bool ((sumL ((r.qC[i]!).vH) : Int) == 0)) 87 H ?_
        refine rtp 27 (.bool ((sumL ((r.qC[i]!).vH) : Int) == 0)) H ?_
        refine rtp 28 (.bool ((sumL ((r.qC[i]!).vH) : Int) == 0)) H ?_
        cases h96 : ((sumL ((r.qC[i]!).vH) : Int) == 0)
        ·skip
         replace h96 := ne_of_beq_false h96
         refine rgp 29 (.int .i64 i) 93 H ?_
         refine rgp 30 (.bool (decide ((i : Int) > 0))) 93 H ?_
         refine rgp 31 (.bool (decide ((i : Int) > 0))) 93 H ?_
         cases h97 : (decide ((i : Int) > 0))
         ·skip
          replace h97 := of_decide_eq_false h97
          refine zT [32, 33, 34, 35, 36, 37, 38, 39, 40, 41] 10 (H) ?_
          refine rgp 42 (.bool false) 93 H ?_
          refine rtp 43 (.bool false) H ?_
          refine xN (by kernel_rfl) (t_n ?_)
          refine qW false rfl (fun h => absurd h (by decide)) (fun _ => ?_)
          refine xk (b_n (t_n (qA ?_)))
          refine sw (zZ i 1 rfl rfl (by omega) ?_)
          refine sp (.int .i64 (i + 1)) ?_
          refine qx ?_
          refine xH (m' := (r.qC.length - ((i + 1) : Int)).toNat) (by omega) ⟨_, i + 1, (by exact qj (qj (qj (qj (qj (rfl) rfl) rfl) rfl) rfl) rfl), ?_, ?_, rfl, N, H.pick [1, 2, 3] [2, 3, 4, 5, 6, 7, 8, 9, 10]⟩
          · omega
          · exact i2.succ ⟨‹_›, ‹_›, ‹_›, ‹_›, fun hk => by omega⟩
         replace h97 := of_decide_eq_true h97
         refine rg 32 (pp b79 (0 + 0)) 96 (xG b79 (0) 0 Tryz.underlying115 rfl rfl Tryz.sizeOf2 rfl) H ?_
         refine rg 33 (.int .i64 ((r.qC[i]!).qy)) 96 (xA Tryz.isAgg2 rfl (fun _ h => h.cell 0 rfl rfl)) H ?_
         refine rg 34 (pp b3 (0 + 7)) 96 (xG b3 (0) 7 Tryz.underlying110 rfl rfl Tryz.sizeOf108 rfl) H ?_
         refine rg 35 (.slice (aa b75 o76) r.qC.length zN) 96 (xA Tryz.isAgg108 rfl (fun _ h => h.cell 2 rfl rfl)) H ?_
         refine rgp 36 (.int .i64 i) 96 H ?_
         refine rg 37 (.int .i64 (i - 1)) 96 (y_sub i 1 rfl rfl (by omega)) H ?_
         obtain ⟨ae98Bag, ce98Bag, Fe98Bag, H⟩ := H.jT 10 rfl (i - 1) (i - 1) (by omega) (by omega) (by omega)
         have S := H.yG [0, 1, 2, 3] [2, 3, 4, 5, 6, 7, 8, 9, 10, 11, 12]
         refine rg 38 (pp b75 (o76 + (i - 1 : Int).toNat * 2)) 96 (xO b75 (o76) r.qC.length zN (i - 1) Tryz.underlying108 ti115 rfl rfl (by omega) (by omega)) S ?_
         refine rg 39 (pp b75 (o76 + (i - 1 : Int).toNat * 2 + 0)) 96 (xG b75 (o76 + (i - 1 : Int).toNat * 2) 0 Tryz.underlying115 rfl rfl Tryz.sizeOf2 rfl) S ?_
         refine xq [40] (by kernel_rfl) (by simp) (Xp rfl (e := 96) rfl rfl ?_ xu)
         refine qE (.int .i64 ((r.qC[i - 1]!).qy)) Tryz.isAgg2 rfl (H.xY 1 rfl 0 rfl) ?_
         refine ⟨H.pick [0, 1, 2, 3] [2, 3, 4, 5, 6, 7, 8, 9, 10, 11, 12], ?_⟩
         have S := H.yG [0, 1, 2, 3] [2, 3, 4, 5, 6, 7, 8, 9, 10, 11, 12]
         refine rgp 41 (.bool (decide (((r.qC[i]!).qy : Int) ≤ ((r.qC[i - 1]!).qy)))) 96 S ?_
         refine rgp 42 (.bool (decide (((r.qC[i]!).qy : Int) ≤ ((r.qC[i - 1]!).qy)))) 93 S ?_
         refine rtp 43 (.bool (decide (((r.qC[i]!).qy : Int) ≤ ((r.qC[i - 1]!).qy)))) S ?_
         refine xN (by kernel_rfl) (t_n ?_)
         refine qW (decide (((r.qC[i]!).qy : Int) ≤ ((r.qC[i - 1]!).qy))) rfl (fun h99 => ?_) (fun h99 => ?_)
         ·skip
          replace h99 := of_decide_eq_true h99
          refine qm (qA ?_)
          refine sp (.bool false) ?_
          refine qx (t_n (xC (b_r (t_r (t_r (b_r (t_r ?_)))))))
          refine ret1 (.bool false) rfl rfl ⟨_, rfl, ?_, H.base⟩
          rw [xy (fun h => by obtain ⟨h1, h2, h3, h4, h5, h6, h7, h8, h9, h10, h11⟩ := h; first | contradiction | omega | exact h3 ⟨‹_›, ‹_›⟩ | (obtain ⟨q1, q2, q3, q4, q5⟩ := h11 i (by omega); first | contradiction | omega | (have := q5 (by omega); omega)) | (refine absurd ?_ ‹¬ zW _ _›; rcases (show k = 0 ∨ k = 1 ∨ k = 2 ∨ k = 3 ∨ k = 4 by omega) with e | e | e | e | e <;> subst e <;> assumption))]
         replace h99 := of_decide_eq_false h99
         refine xk (b_n (t_n (qA ?_)))
         refine sw (zZ i 1 rfl rfl (by omega) ?_)
         refine sp (.int .i64 (i + 1)) ?_
         refine qx ?_
         refine xH (m' := (r.qC.length - ((i + 1) : Int)).toNat) (by omega) ⟨_, i + 1, (by exact qj (qj (qj (qj (qj (rfl) rfl) rfl) rfl) rfl) rfl), ?_, ?_, rfl, N, H.pick [1, 2, 3] [4, 5, 6, 7, 8, 9, 10, 11, 12]⟩
         · omega
         · exact i2.succ ⟨‹_›, ‹_›, ‹_›, ‹_›, fun hk => by omega⟩
        replace h96 := eq_of_beq h96
        refine zT [29, 30, 31, 32, 33, 34, 35, 36, 37, 38, 39, 40, 41, 42] 14 (H) ?_
        refine rtp 43 (.bool true) H ?_
        refine xN (by kernel_rfl) (t_n ?_)
        refine qW true rfl (fun _ => ?_) (fun h => absurd h (by decide))
        refine qm (qA ?_)
        refine sp (.bool false) ?_
        refine qx (t_n (xC (b_r (t_r (t_r (b_r (t_r ?_)))))))
        refine ret1 (.bool false) rfl rfl ⟨_, rfl, ?_, H.base⟩
        rw [xy (fun h => by obtain ⟨h1, h2, h3, h4, h5, h6, h7, h8, h9, h10, h11⟩ := h; first | contradiction | omega | exact h3 ⟨‹_›, ‹_›⟩ | (obtain ⟨q1, q2, q3, q4, q5⟩ := h11 i (by omega); first | contradiction | omega | (have := q5 (by omega); omega)) | (refine absurd ?_ ‹¬ zW _ _›; rcases (show k = 0 ∨ k = 1 ∨ k = 2 ∨ k = 3 ∨ k = 4 by omega) with e | e | e | e | e <;> subst e <;> assumption))]
       replace h93 := xg h93
       replace h93 := xX h93
       refine zT [23, 24, 25, 26] 4 (H) ?_
       refine rtp 27 (.bool true) H ?_
       refine rtp 28 (.bool true) H ?_
       refine zT [29, 30, 31, 32, 33, 34, 35, 36, 37, 38, 39, 40, 41, 42] 14 (H) ?_
       refine rtp 43 (.bool true) H ?_
       refine xN (by kernel_rfl) (t_n ?_)
       refine qW true rfl (fun _ => ?_) (fun h => absurd h (by decide))
       refine qm (qA ?_)
       refine sp (.bool false) ?_
       refine qx (t_n (xC (b_r (t_r (t_r (b_r (t_r ?_)))))))
       refine ret1 (.bool false) rfl rfl ⟨_, rfl, ?_, H.base⟩
       rw [xy (fun h => by obtain ⟨h1, h2, h3, h4, h5, h6, h7, h8, h9, h10, h11⟩ := h; first | contradiction | omega | exact h3 ⟨‹_›, ‹_›⟩ | (obtain ⟨q1, q2, q3, q4, q5⟩ := h11 i (by omega); first | contradiction | omega | (have := q5 (by omega); omega)) | (refine absurd ?_ ‹¬ zW _ _›; rcases (show k = 0 ∨ k = 1 ∨ k = 2 ∨ k = 3 ∨ k = 4 by omega) with e | e | e | e | e <;> subst e <;> assumption))]
      replace h90 := xg h90
      replace h90 := xX h90
      refine zT [15, 16, 17, 18, 19, 20] 6 (H) ?_
      refine rtp 21 (.bool true) H ?_
      refine rtp 22 (.bool true) H ?_
      refine zT [23, 24, 25, 26] 4 (H) ?_
      refine rtp 27 (.bool true) H ?_
      refine rtp 28 (.bool true) H ?_
      refine zT [29, 30, 31, 32, 33, 34, 35, 36, 37, 38, 39, 40, 41, 42] 14 (H) ?_
      refine rtp 43 (.bool true) H ?_
      refine xN (by kernel_rfl) (t_n ?_)
      refine qW true rfl (fun _ => ?_) (fun h => absurd h (by decide))
      refine qm (qA ?_)
      refine sp (.bool false) ?_
      refine qx (t_n (xC (b_r (t_r (t_r (b_r (t_r ?_)))))))
      refine ret1 (.bool false) rfl rfl ⟨_, rfl, ?_, H.base⟩
      rw [xy (fun h => by obtain ⟨h1, h2, h3, h4, h5, h6, h7, h8, h9, h10, h11⟩ := h; first | contradiction | omega | exact h3 ⟨‹_›, ‹_›⟩ | (obtain ⟨q1, q2, q3, q4, q5⟩ := h11 i (by omega); first | contradiction | omega | (have := q5 (by omega); omega)) | (refine absurd ?_ ‹¬ zW _ _›; rcases (show k = 0 ∨ k = 1 ∨ k = 2 ∨ k = 3 ∨ k = 4 by omega) with e | e | e | e | e <;> subst e <;> assumption))]
     replace h86 := xg h86
     replace h86 := XJ h86
     refine zT [6, 7, 8, 9, 10, 11, 12] 7 (H) ?_
     refine rtp 13 (.bool true) H ?_
     refine rtp 14 (.bool true) H ?_
     refine zT [15, 16, 17, 18, 19, 20] 6 (H) ?_
     refine rtp 21 (.bool true) H ?_
     refine rtp 22 (.bool true) H ?_
     refine zT [23, 24, 25, 26] 4 (H) ?_
     refine rtp 27 (.bool true) H ?_
     refine rtp 28 (.bool true) H ?_
     refine zT [29, 30, 31, 32, 33, 34, 35, 36, 37, 38, 39, 40, 41, 42] 14 (H) ?_
     refine rtp 43 (.bool true) H ?_
     refine xN (by kernel_rfl) (t_n ?_)
     refine qW true rfl (fun _ => ?_) (fun h => absurd h (by decide))
     refine qm (qA ?_)
     refine sp (.bool false) ?_
     refine qx (t_n (xC (b_r (t_r (t_r (b_r (t_r ?_)))))))
     refine ret1 (.bool false) rfl rfl ⟨_, rfl, ?_, H.base⟩
     rw [xy (fun h => by obtain ⟨h1, h2, h3, h4, h5, h6, h7, h8, h9, h10, h11⟩ := h; first | contradiction | omega | exact h3 ⟨‹_›, ‹_›⟩ | (obtain ⟨q1, q2, q3, q4, q5⟩ := h11 i (by omega); first | contradiction | omega | (have := q5 (by omega); omega)) | (refine absurd ?_ ‹¬ zW _ _›; rcases (show k = 0 ∨ k = 1 ∨ k = 2 ∨ k = 3 ∨ k = 4 by omega) with e | e | e | e | e <;> subst e <;> assumption))]
    replace h74 := of_decide_eq_false h74
    refine zK (t_x (t_x (b_x (t_n (qm (qA ?_))))))
    refine sw (qP b3 (0) 2 Tryz.underlying110 rfl rfl Tryz.sizeOf22 rfl ?_)
    refine sw (qE (.slice vN r.qR.length vK) Tryz.isAgg22 rfl (H.cell 1 rfl rfl) ?_)
    have sm : Small r.qR := jK (by first | assumption | exact i1 0 (by omega))
    refine sw (qZ #[.slice vN r.qR.length vK] rfl rfl Tryz.call124 (bagSize_ok w73 r.qR vN vK QZ (H.get 3 rfl).1 (by first | assumption | exact jK (by assumption) | exact Xf (by assumption))) ?_)
    rintro _ w100 rfl x101
    replace H := H.ext x101
    refine sps [.bool (decide ((sumL r.qR : Int) > 0)), .bool (decide ((sumL r.qR : Int) > 0))] ?_
    refine qx (t_n (xC ?_))
    refine ret1 (.bool (decide ((sumL r.qR : Int) > 0))) rfl rfl ⟨_, rfl, ?_, H.base⟩
    refine congrArg Value.bool (dec_eq ?_)
    rw [decide_eq_true_iff]
    exact ⟨fun h => ⟨by omega, by omega, by simp_all, by omega, n1, n2, n3, n4, n5, by omega, (show i = r.qC.length by omega) ▸ i2⟩, fun h => by have := h.2.2.2.2.2.2.2.2.2.1; have := sum_nonneg n1.1; omega⟩
   replace h57 := eq_of_beq h57
   refine zf [30, 31, 32, 33] ?_
   refine sp (.bool true) ?_
   refine qx (t_n ?_)
   refine qW true rfl (fun _ => ?_) (fun h => absurd h (by decide))
   refine qm (qA ?_)
   refine sp (.bool false) ?_
   refine qx (t_n (xC (t_r ?_)))
   refine ret1 (.bool false) rfl rfl ⟨_, rfl, ?_, H.base⟩
   rw [xy (fun h => by obtain ⟨h1, h2, h3, h4, h5, h6, h7, h8, h9, h10, h11⟩ := h; first | contradiction | omega | exact h3 ⟨‹_›, ‹_›⟩ | (obtain ⟨q1, q2, q3, q4, q5⟩ := h11 i (by omega); first | contradiction | omega | (have := q5 (by omega); omega)) | (refine absurd ?_ ‹¬ zW _ _›; rcases (show k = 0 ∨ k = 1 ∨ k = 2 ∨ k = 3 ∨ k = 4 by omega) with e | e | e | e | e <;> subst e <;> assumption))]
  replace h11 := xg h11
  replace h11 := XJ h11
  refine zf [21, 22, 23, 24, 25, 26, 27] ?_
  refine sps [.bool true, .bool true] ?_
  refine zf [30, 31, 32, 33] ?_
  refine sp (.bool true) ?_
  refine qx (t_n ?_)
  refine qW true rfl (fun _ => ?_) (fun h => absurd h (by decide))
  refine qm (qA ?_)
  refine sp (.bool false) ?_
  refine qx (t_n (xC (t_r ?_)))
  refine ret1 (.bool false) rfl rfl ⟨_, rfl, ?_, H.base⟩
  rw [xy (fun h => by obtain ⟨h1, h2, h3, h4, h5, h6, h7, h8, h9, h10, h11⟩ := h; first | contradiction | omega | exact h3 ⟨‹_›, ‹_›⟩ | (obtain ⟨q1, q2, q3, q4, q5⟩ := h11 i (by omega); first | contradiction | omega | (have := q5 (by omega); omega)) | (refine absurd ?_ ‹¬ zW _ _›; rcases (show k = 0 ∨ k = 1 ∨ k = 2 ∨ k = 3 ∨ k = 4 by omega) with e | e | e | e | e <;> subst e <;> assumption))]
 replace h8 := xg h8
 replace h8 := XJ h8
 refine zf [15, 16, 17, 18] ?_
 refine sps [.bool true, .bool true] ?_
 refine zf [21, 22, 23, 24, 25, 26, 27] ?_
 refine sps [.bool true, .bool true] ?_
 refine zf [30, 31, 32, 33] ?_
 refine sp (.bool true) ?_
 refine qx (t_n ?_)
 refine qW true rfl (fun _ => ?_) (fun h => absurd h (by decide))
 refine qm (qA ?_)
 refine sp (.bool false) ?_
 refine qx (t_n (xC (t_r ?_)))
 refine ret1 (.bool false) rfl rfl ⟨_, rfl, ?_, H.base⟩
 rw [xy (fun h => by obtain ⟨h1, h2, h3, h4, h5, h6, h7, h8, h9, h10, h11⟩ := h; first | contradiction | omega | exact h3 ⟨‹_›, ‹_›⟩ | (obtain ⟨q1, q2, q3, q4, q5⟩ := h11 i (by omega); first | contradiction | omega | (have := q5 (by omega); omega)) | (refine absurd ?_ ‹¬ zW _ _›; rcases (show k = 0 ∨ k = 1 ∨ k = 2 ∨ k = 3 ∨ k = 4 by omega) with e | e | e | e | e <;> subst e <;> assumption))]

end Go.Proofs.YtkmlihdacnfhdaaGreat
