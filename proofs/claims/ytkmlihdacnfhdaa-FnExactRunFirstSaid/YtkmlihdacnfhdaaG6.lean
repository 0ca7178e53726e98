/- Walks, printed by program (wip/tools/gv.py): what each function comes to, for all arguments. -/
import Derived.Test.YtkmlihdacnfhdaaG5
namespace Go.Proofs.Ytkmlihdacnfhdaa
open Go.Proofs.Ytkmlihdacnfhdaa.Tot (tot)
open Go.Proofs.Ytkmlihdacnfhdaa.Mark (cnt mrk mkd mkd_mark cnt_mark)
open Go.RowKit
set_option linter.unusedVariables false
set_option linter.unusedSimpArgs false
set_option maxRecDepth 100000
set_option maxHeartbeats 4000000



theorem isShell_ok (w : World) (s : qV) (qw : Option Addr) (qm : Nat) (qM : List Nat) (qG : Option Addr) (qC : Nat) (xu : List Nat) (xx : qW.rep w qM [.slice qw s.qf.length qm] s.qf) (xN : qW.rep w xu [.slice qG s.qg.length qC] s.qg) : Calls Try.prog 70 #[.agg #[.int .i64 s.qI, .slice qw s.qf.length qm, .slice qG s.qg.length qC]] w (Ret (fun v w' => v = .bool (dec (yA s))) w) := by
 refine enter (n := 37) Try.func70 rfl Try.ntmps70 (Nat.le_of_ble_eq_true rfl) ?_
 have H := ((St.start w).arg xN).arg xx
 have vW := qN xx
 have yh := qN xN
 clear xx xN
 have N := Fresh.nil w.heap.size
 refine qo (qB ?_)
 refine sw (y9 H [.int .i64 s.qI, .slice qw s.qf.length qm, .slice qG s.qg.length qC] fun b1 w2 H => ?_)
 refine sp (.bool false) ?_
 refine qA (t_n (qo (qo (qB ?_))))
 refine sw (qO b1 (0) 0 Try.underlying30 rfl rfl Try.sizeOf2 rfl ?_)
 refine sw (qF (.int .i64 s.qI) Try.isAgg2 rfl (H.cell 0 rfl rfl) ?_)
 refine sw (xf #[.int .i64 s.qI, .int .i64 1, .int .i64 8] rfl rfl Try.call60 (Vx w2 s.qI 1 8) ?_)
 rintro _ w3 rfl x4
 replace H := H.ext x4
 refine sps [.bool (!(inR s.qI 1 8)), .bool (!(inR s.qI 1 8))] ?_
 cases h5 : (!(inR s.qI 1 8))
 ·skip
  replace h5 := qY h5
  replace h5 := Q9.1 h5
  refine qU 9 rfl rfl ?_
  refine sw (qO b1 (0) 1 Try.underlying30 rfl rfl Try.sizeOf22 rfl ?_)
  refine qU 9 rfl rfl ?_
  refine sw (qF (.slice qw s.qf.length qm) Try.isAgg22 rfl (H.cell 0 rfl rfl) ?_)
  refine qU 9 rfl rfl ?_
  refine sw (xf #[.slice qw s.qf.length qm] rfl rfl Try.call101 (sizeI_ok w3 s.qf qw qm qM (H.get 0 rfl).1) ?_)
  rintro _ w6 rfl x7
  replace H := H.ext x7
  refine qU 9 rfl rfl ?_
  refine sw (xf #[.int .i64 (s.qf.length : Int), .int .i64 1, .int .i64 6] rfl rfl Try.call60 (Vx w6 (s.qf.length : Int) 1 6) ?_)
  rintro _ w8 rfl x9
  replace H := H.ext x9
  refine qU 9 rfl rfl ?_
  refine sps [.bool (!(inR (s.qf.length : Int) 1 6)), .bool (!(inR (s.qf.length : Int) 1 6)), .bool (!(inR (s.qf.length : Int) 1 6))] ?_
  cases h10 : (!(inR (s.qf.length : Int) 1 6))
  ·skip
   replace h10 := qY h10
   replace h10 := Q9.1 h10
   refine qU 16 rfl rfl ?_
   refine sw (qO b1 (0) 1 Try.underlying30 rfl rfl Try.sizeOf22 rfl ?_)
   refine qU 16 rfl rfl ?_
   refine sw (qF (.slice qw s.qf.length qm) Try.isAgg22 rfl (H.cell 0 rfl rfl) ?_)
   refine qU 16 rfl rfl ?_
   obtain ⟨b11, o12, rfl⟩ := H.addr 0 rfl (by omega)
   refine sw (xO 0 Try.underlying22 ti2 rfl rfl (by omega) (by omega) ?_)
   refine qU 16 rfl rfl ?_
   refine sw (qF (.int .i64 (s.qf[0]!)) Try.isAgg2 rfl (H.vX 0 rfl 0 (by omega) (by omega)) ?_)
   refine qU 16 rfl rfl ?_
   refine sps [.bool ((s.qf[0]! : Int) != (-1)), .bool ((s.qf[0]! : Int) != (-1))] ?_
   refine qA (t_n ?_)
   refine qX ((s.qf[0]! : Int) != (-1)) rfl (fun h14 => ?_) (fun h14 => ?_)
   ·skip
    replace h14 := bne_iff_ne.1 h14
    refine qo (qB ?_)
    refine sp (.bool false) ?_
    refine qA (t_n (xE (t_r ?_)))
    refine ret1 (.bool false) rfl rfl ⟨_, rfl, ?_, H.base⟩
    rw [xB (fun h => by obtain ⟨h1, h2, h3, h4⟩ := h; first | omega | (have := h4 (c + 1) (by omega) (by omega); rw [← dg (by omega)] at this; omega))]
   replace h14 := xP h14
   refine xy (t_n (qo (qo (qB ?_))))
   refine sw (qO b1 (0) 1 Try.underlying30 rfl rfl Try.sizeOf22 rfl ?_)
   refine sw (qF (.slice (aa b11 o12) s.qf.length qm) Try.isAgg22 rfl (H.cell 0 rfl rfl) ?_)
   refine sw (o_tail H 0 rfl 1 Try.underlying22 ti2 rfl (by omega) fun a15 G16 hG17 H => ?_)
   have hl18 : (s.qf.drop 1).length = s.qf.length - 1 := List.length_drop
   refine sw (vI Try.underlying22 a15 ((s.qf.drop 1).length) (qm - 1) rfl ?_)
   refine sp (.int .i64 0) ?_
   refine qA (t_n (xC ?_))
   refine vw (fun m' ρ w19 => ∃ (junk : Env) (c : Nat), ρ = upd (upd (upd junk 25 (.slice a15 ((s.qf.drop 1).length) (qm - 1))) 26 (.int .i64 ((s.qf.drop 1).length))) 27 (.int .i64 c) ∧ ((c : Int) ≤ ((s.qf.drop 1).length)) ∧ (FrameTo s (c + 1)) ∧ m' = (((s.qf.drop 1).length) - (c : Int)).toNat ∧ Fresh w.heap.size [] ∧ St w w19 [.box b1 [.int .i64 s.qI, .slice (aa b11 o12) s.qf.length qm, .slice qG s.qg.length qC] 30] [isF false G16 (.slice a15 ((s.qf.drop 1).length) (qm - 1)) (s.qf.drop 1), isF false qM (.slice (aa b11 o12) s.qf.length qm) s.qf, isF false xu (.slice qG s.qg.length qC) s.qg]) ((((s.qf.drop 1).length) - (0 : Int)).toNat) ⟨_, 0, (by exact qj (qj (qj (rfl) rfl) rfl) rfl), (by omega), (by exact FrameTo.one s), rfl, N, H⟩ ?_
   clear H N
   rintro m' ρ w20 ⟨junk, c, rfl, i0, i1, rfl, N, H⟩
   have dg := drop_get (l := s.qf) (k := c)
   refine qo (qB ?_)
   refine sp (.bool (decide ((c : Int) < ((s.qf.drop 1).length)))) ?_
   refine qA (t_n (qo ?_))
   refine qX (decide ((c : Int) < ((s.qf.drop 1).length))) rfl (fun h21 => ?_) (fun h21 => ?_)
   ·skip
    replace h21 := of_decide_eq_true h21
    refine xy (t_n (qo (xC (qo (qB ?_)))))
    refine sp (.int .i64 c) ?_
    obtain ⟨b22, o23, rfl⟩ := H.addr 0 rfl (by omega)
    refine sw (xO c Try.underlying22 ti2 rfl rfl (by omega) (by omega) ?_)
    refine sw (qF (.int .i64 ((s.qf.drop 1)[c]!)) Try.isAgg2 rfl (H.vX 0 rfl c (by omega) (by omega)) ?_)
    refine sps [.int .i64 c, .int .i64 ((s.qf.drop 1)[c]!)] ?_
    refine qA (t_n (qo (qB ?_)))
    refine sps [.int .i64 ((s.qf.drop 1)[c]!), .int .i64 c] ?_
    refine sw (xf #[.int .i64 ((s.qf.drop 1)[c]!), .int .i64 0, .int .i64 c] rfl rfl Try.call60 (Vx w20 ((s.qf.drop 1)[c]!) 0 c) ?_)
    rintro _ w25 rfl x26
    replace H := H.ext x26
    refine sp (.bool (!(inR ((s.qf.drop 1)[c]!) 0 c))) ?_
    refine qA (t_n ?_)
    refine qX (!(inR ((s.qf.drop 1)[c]!) 0 c)) rfl (fun h27 => ?_) (fun h27 => ?_)
    ·skip
     replace h27 := xh h27
     replace h27 := XB h27
     refine qo (qB ?_)
     refine sp (.bool false) ?_
     refine qA (t_n (xE (b_r (t_r (t_r (b_r (t_r ?_)))))))
     refine ret1 (.bool false) rfl rfl ⟨_, rfl, ?_, H.base⟩
     rw [xB (fun h => by obtain ⟨h1, h2, h3, h4⟩ := h; first | omega | (have := h4 (c + 1) (by omega) (by omega); rw [← dg (by omega)] at this; omega))]
    replace h27 := qY h27
    replace h27 := Q9.1 h27
    refine xy (b_n (t_n (qB ?_)))
    refine sw (vz c 1 rfl rfl (by omega) ?_)
    refine sp (.int .i64 (c + 1)) ?_
    refine qA ?_
    refine xH (m' := (((s.qf.drop 1).length) - ((c + 1) : Int)).toNat) (by omega) ⟨_, c + 1, (by exact qj (qj (qj (rfl) rfl) rfl) rfl), ?_, ?_, rfl, N, H⟩
    · omega
    · exact i1.succ (by rw [← dg (by omega)]; omega)
   replace h21 := of_decide_eq_false h21
   refine ve (t_x (t_x (b_x (t_n (qo (qB ?_))))))
   refine sp (.bool true) ?_
   refine qA (t_n (xE ?_))
   refine ret1 (.bool true) rfl rfl ⟨_, rfl, ?_, H.base⟩
   rw [yZ ⟨by omega, by omega, by omega, (show s.qf.length = c + 1 by omega) ▸ i1⟩]
  replace h10 := xh h10
  replace h10 := XB h10
  refine zi [17, 18, 19, 20, 21] ?_
  refine sp (.bool true) ?_
  refine qA (t_n ?_)
  refine qX true rfl (fun _ => ?_) (fun h => absurd h (by decide))
  refine qo (qB ?_)
  refine sp (.bool false) ?_
  refine qA (t_n (xE (t_r ?_)))
  refine ret1 (.bool false) rfl rfl ⟨_, rfl, ?_, H.base⟩
  rw [xB (fun h => by obtain ⟨h1, h2, h3, h4⟩ := h; first | omega | (have := h4 (c + 1) (by omega) (by omega); rw [← dg (by omega)] at this; omega))]
 replace h5 := xh h5
 replace h5 := XB h5
 refine zi [10, 11, 12, 13, 14] ?_
 refine sps [.bool true, .bool true] ?_
 refine zi [17, 18, 19, 20, 21] ?_
 refine sp (.bool true) ?_
 refine qA (t_n ?_)
 refine qX true rfl (fun _ => ?_) (fun h => absurd h (by decide))
 refine qo (qB ?_)
 refine sp (.bool false) ?_
 refine qA (t_n (xE (t_r ?_)))
 refine ret1 (.bool false) rfl rfl ⟨_, rfl, ?_, H.base⟩
 rw [xB (fun h => by obtain ⟨h1, h2, h3, h4⟩ := h; first | omega | (have := h4 (c + 1) (by omega) (by omega); rw [← dg (by omega)] at this; omega))]

theorem isCell_ok (w : World) (s : qV) (c : Int) (qw : Option Addr) (qm : Nat) (qM : List Nat) (qG : Option Addr) (qC : Nat) (xu : List Nat) (xx : qW.rep w qM [.slice qw s.qf.length qm] s.qf) (xN : qW.rep w xu [.slice qG s.qg.length qC] s.qg) : Calls Try.prog 80 #[.agg #[.int .i64 s.qI, .slice qw s.qf.length qm, .slice qG s.qg.length qC], .int .i64 c] w (Ret (fun v w' => v = .bool (inR c 0 ((s.qf.length : Int) - 1))) w) := by
 refine enter (n := 11) Try.func80 rfl Try.ntmps80 (Nat.le_of_ble_eq_true rfl) ?_
 have H := ((St.start w).arg xN).arg xx
 have vW := qN xx
 have yh := qN xN
 clear xx xN
 have N := Fresh.nil w.heap.size
 refine qo (qB ?_)
 refine sw (y9 H [.int .i64 s.qI, .slice qw s.qf.length qm, .slice qG s.qg.length qC] fun b1 w2 H => ?_)
 refine sp (.bool false) ?_
 refine qA (t_n (qo (qB ?_)))
 refine sp (.int .i64 c) ?_
 refine sw (qO b1 (0) 1 Try.underlying30 rfl rfl Try.sizeOf22 rfl ?_)
 refine sw (qF (.slice qw s.qf.length qm) Try.isAgg22 rfl (H.cell 0 rfl rfl) ?_)
 refine sw (xf #[.slice qw s.qf.length qm] rfl rfl Try.call101 (sizeI_ok w2 s.qf qw qm qM (H.get 0 rfl).1) ?_)
 rintro _ w3 rfl x4
 replace H := H.ext x4
 refine sw (o_sub (s.qf.length : Int) 1 rfl rfl (by omega) ?_)
 refine sw (xf #[.int .i64 c, .int .i64 0, .int .i64 ((s.qf.length : Int) - 1)] rfl rfl Try.call60 (Vx w3 c 0 ((s.qf.length : Int) - 1)) ?_)
 rintro _ w5 rfl x6
 replace H := H.ext x6
 refine sp (.bool (inR c 0 ((s.qf.length : Int) - 1))) ?_
 refine qA (t_n (xE ?_))
 refine ret1 (.bool (inR c 0 ((s.qf.length : Int) - 1))) rfl rfl ⟨_, rfl, ?_, H.base⟩
 rfl

theorem lies_ok (w : World) (s : qV) (c : Int) (within : Int) (qw : Option Addr) (qm : Nat) (qM : List Nat) (qG : Option Addr) (qC : Nat) (xu : List Nat) (xx : qW.rep w qM [.slice qw s.qf.length qm] s.qf) (xN : qW.rep w xu [.slice qG s.qg.length qC] s.qg) (p0 : yA s) (p1 : CellIn s c) : Calls Try.prog 102 #[.agg #[.int .i64 s.qI, .slice qw s.qf.length qm, .slice qG s.qg.length qC], .int .i64 c, .int .i64 within] w (Ret (fun v w' => v = .bool (dec (Lies s.qf within c))) w) := by
 refine enter (n := 22) Try.func102 rfl Try.ntmps102 (Nat.le_of_ble_eq_true rfl) ?_
 have H := ((St.start w).arg xN).arg xx
 have vW := qN xx
 have yh := qN xN
 clear xx xN
 have N := Fresh.nil w.heap.size
 have p2 := p0.step p1.1 p1.2
 refine qo (qB ?_)
 refine sw (y9 H [.int .i64 s.qI, .slice qw s.qf.length qm, .slice qG s.qg.length qC] fun b1 w2 H => ?_)
 refine sp (.bool false) ?_
 refine qA (t_n (qo (qo (qB ?_))))
 refine sw (qO b1 (0) 1 Try.underlying30 rfl rfl Try.sizeOf22 rfl ?_)
 refine sw (qF (.slice qw s.qf.length qm) Try.isAgg22 rfl (H.cell 0 rfl rfl) ?_)
 refine sp (.int .i64 c) ?_
 obtain ⟨b3, o4, rfl⟩ := H.addr 0 rfl (by omega)
 refine sw (xO c Try.underlying22 ti2 rfl rfl (by omega) (by omega) ?_)
 refine sw (qF (.int .i64 (s.qf[c.toNat]!)) Try.isAgg2 rfl (H.vX 0 rfl c (by omega) (by omega)) ?_)
 refine sp (.int .i64 (s.qf[c.toNat]!)) ?_
 refine qA (t_n (xC ?_))
 refine vw (fun m' ρ w6 => ∃ (junk : Env) (c_1 : Int), ρ = upd (upd (upd junk 1 (.int .i64 c_1)) 2 (.int .i64 within)) 3 (pp b1 0) ∧ (-1 ≤ c_1 ∧ c_1 ≤ (s.qf.length : Int) - 1) ∧ (Lies s.qf within c ↔ 0 ≤ c_1 ∧ (c_1 = within ∨ Lies s.qf within c_1)) ∧ m' = (c_1 + 1).toNat ∧ Fresh w.heap.size [] ∧ St w w6 [.box b1 [.int .i64 s.qI, .slice (aa b3 o4) s.qf.length qm, .slice qG s.qg.length qC] 30] [isF false qM (.slice (aa b3 o4) s.qf.length qm) s.qf, isF false xu (.slice qG s.qg.length qC) s.qg]) (((s.qf[c.toNat]!) + 1).toNat) ⟨_, s.qf[c.toNat]!, (by exact qj (qj (qj (rfl) rfl) rfl) rfl), (by omega), (by exact lies_up p0 p1), rfl, N, H⟩ ?_
 clear H N
 rintro m' ρ w7 ⟨junk, c_1, rfl, i0, i1, rfl, N, H⟩
 have up := fun h => p0.step (c := c_1) h i0.2
 refine qo (qo (qB ?_))
 refine sps [.int .i64 c_1, .bool (decide ((c_1 : Int) ≥ 0))] ?_
 refine qA (t_n ?_)
 refine qX (decide ((c_1 : Int) ≥ 0)) rfl (fun h8 => ?_) (fun h8 => ?_)
 ·skip
  replace h8 := of_decide_eq_true h8
  refine xy (t_n (qo (xC (qo (qB ?_)))))
  refine sps [.int .i64 c_1, .int .i64 within, .bool ((c_1 : Int) == within)] ?_
  refine qA (t_n ?_)
  refine qX ((c_1 : Int) == within) rfl (fun h9 => ?_) (fun h9 => ?_)
  ·skip
   replace h9 := eq_of_beq h9
   refine qo (qB ?_)
   refine sp (.bool true) ?_
   refine qA (t_n (xE (b_r (t_r (t_r (b_r (t_r ?_)))))))
   refine ret1 (.bool true) rfl rfl ⟨_, rfl, ?_, H.base⟩
   rw [yZ (i1.2 ⟨by omega, .inl ‹_›⟩)]
  replace h9 := ne_of_beq_false h9
  refine xy (b_n (t_n (qB ?_)))
  refine sw (qO b1 (0) 1 Try.underlying30 rfl rfl Try.sizeOf22 rfl ?_)
  refine sw (qF (.slice (aa b3 o4) s.qf.length qm) Try.isAgg22 rfl (H.cell 0 rfl rfl) ?_)
  refine sp (.int .i64 c_1) ?_
  refine sw (xO c_1 Try.underlying22 ti2 rfl rfl (by omega) (by omega) ?_)
  refine sw (qF (.int .i64 (s.qf[c_1.toNat]!)) Try.isAgg2 rfl (H.vX 0 rfl c_1 (by omega) (by omega)) ?_)
  refine sp (.int .i64 (s.qf[c_1.toNat]!)) ?_
  refine qA ?_
  have up1 := up (by omega)
  refine xH (m' := ((s.qf[c_1.toNat]!) + 1).toNat) (by omega) ⟨_, s.qf[c_1.toNat]!, (by exact qj (qj (qj (rfl) rfl) rfl) rfl), ?_, ?_, rfl, N, H⟩
  · omega
  · exact i1.trans ⟨fun h => (lies_up p0 ⟨by omega, by omega⟩).1 (h.2.resolve_left ‹_›), fun h => ⟨by omega, .inr ((lies_up p0 ⟨by omega, by omega⟩).2 h)⟩⟩
 replace h8 := of_decide_eq_false h8
 refine ve (t_x (t_x (b_x (t_n (qo (qB ?_))))))
 refine sp (.bool false) ?_
 refine qA (t_n (xE ?_))
 refine ret1 (.bool false) rfl rfl ⟨_, rfl, ?_, H.base⟩
 rw [xB (fun h => by have := (i1.1 h).1; omega)]

theorem isRule_ok (w : World) (s : qV) (r : QK) (qw : Option Addr) (qm : Nat) (qM : List Nat) (qG : Option Addr) (qC : Nat) (xu : List Nat) (vP : Option Addr) (vO : Nat) (Q5 : List Nat) (jv : Option Addr) (jr : Nat) (Xw : List Nat) (jb : Option Addr) (ja : Nat) (Xn : List Nat) (jL : Option Addr) (jK : Nat) (XM : List Nat) (Qy : Option Addr) (Qx : Nat) (FrOut : List Nat) (vF : Option Addr) (zU : Nat) (FrInto : List Nat) (xx : qW.rep w qM [.slice qw s.qf.length qm] s.qf) (xN : qW.rep w xu [.slice qG s.qg.length qC] s.qg) (hrNeed : qW.rep w Q5 [.slice vP r.qR.length vO] r.qR) (hrHave : qW.rep w Xw [.slice jv r.xg.length jr] r.xg) (hrLack : qW.rep w Xn [.slice jb r.xk.length ja] r.xk) (hrHere : qW.rep w XM [.slice jL r.xw.length jK] r.xw) (hrOut : qW.rep w FrOut [.slice Qy r.zo.length Qx] r.zo) (hrInto : qW.rep w FrInto [.slice vF r.qE.length zU] r.qE) (p0 : yA s) : Calls Try.prog 71 #[.agg #[.int .i64 s.qI, .slice qw s.qf.length qm, .slice qG s.qg.length qC], .agg #[.int .i64 r.qy, .int .i64 r.zk, .slice vP r.qR.length vO, .slice jv r.xg.length jr, .slice jb r.xk.length ja, .slice jL r.xw.length jK, .slice Qy r.zo.length Qx, .slice vF r.qE.length zU, .bool r.xQ]] w (Ret (fun v w' => v = .bool (dec (RuleOk s r))) w) := by
 refine enter (n := 114) Try.func71 rfl Try.ntmps71 (Nat.le_of_ble_eq_true rfl) ?_
 have H := ((((((((St.start w).arg hrInto).arg hrOut).arg hrHere).arg hrLack).arg hrHave).arg hrNeed).arg xN).arg xx
 have vW := qN xx
 have yh := qN xN
 have nhrNeed := qN hrNeed
 have nhrHave := qN hrHave
 have nhrLack := qN hrLack
 have nhrHere := qN hrHere
 have nhrOut := qN hrOut
 have nhrInto := qN hrInto
 clear xx xN hrNeed hrHave hrLack hrHere hrOut hrInto
 have N := Fresh.nil w.heap.size
 refine qo (qB ?_)
 refine sw (y9 H [.int .i64 s.qI, .slice qw s.qf.length qm, .slice qG s.qg.length qC] fun b1 w2 H => ?_)
 refine sw (y9 H [.int .i64 r.qy, .int .i64 r.zk, .slice vP r.qR.length vO, .slice jv r.xg.length jr, .slice jb r.xk.length ja, .slice jL r.xw.length jK, .slice Qy r.zo.length Qx, .slice vF r.qE.length zU, .bool r.xQ] fun b3 w4 H => ?_)
 refine sp (.bool false) ?_
 refine qA (t_n (qo (qo (qB ?_))))
 refine sw (zu [.int .i64 s.qI, .slice qw s.qf.length qm, .slice qG s.qg.length qC] Try.isAgg30 Try.sizeOf30 rfl (qH (H.cells 1 rfl) 0 3) ?_)
 refine sw (qO b3 (0) 0 Try.underlying92 rfl rfl Try.sizeOf2 rfl ?_)
 refine sw (qF (.int .i64 r.qy) Try.isAgg2 rfl (H.cell 0 rfl rfl) ?_)
 refine sw (xf #[.agg #[.int .i64 s.qI, .slice qw s.qf.length qm, .slice qG s.qg.length qC], .int .i64 r.qy] rfl rfl Try.call80 (isCell_ok w4 s r.qy qw qm qM qG qC xu (H.get 0 rfl).1 (H.get 1 rfl).1) ?_)
 rintro _ w6 rfl x7
 replace H := H.ext x7
 refine sps [.bool (!(inR r.qy 0 ((s.qf.length : Int) - 1))), .bool (!(inR r.qy 0 ((s.qf.length : Int) - 1)))] ?_
 cases h8 : (!(inR r.qy 0 ((s.qf.length : Int) - 1)))
 ·skip
  replace h8 := qY h8
  replace h8 := Q9.1 h8
  refine qU 14 rfl rfl ?_
  refine sw (qO b3 (0) 1 Try.underlying92 rfl rfl Try.sizeOf2 rfl ?_)
  refine qU 14 rfl rfl ?_
  refine sw (qF (.int .i64 r.zk) Try.isAgg2 rfl (H.cell 0 rfl rfl) ?_)
  refine qU 14 rfl rfl ?_
  refine sw (xf #[.int .i64 r.zk, .int .i64 0, .int .i64 9] rfl rfl Try.call60 (Vx w6 r.zk 0 9) ?_)
  rintro _ w9 rfl x10
  replace H := H.ext x10
  refine qU 14 rfl rfl ?_
  refine sps [.bool (!(inR r.zk 0 9)), .bool (!(inR r.zk 0 9)), .bool (!(inR r.zk 0 9))] ?_
  cases h11 : (!(inR r.zk 0 9))
  ·skip
   replace h11 := qY h11
   replace h11 := Q9.1 h11
   refine qU 20 rfl rfl ?_
   refine sw (qO b3 (0) 8 Try.underlying92 rfl rfl Try.sizeOf4 rfl ?_)
   refine qU 20 rfl rfl ?_
   refine sw (qF (.bool r.xQ) Try.isAgg4 rfl (H.cell 0 rfl rfl) ?_)
   refine qU 20 rfl rfl ?_
   refine sp (.bool r.xQ) ?_
   cases h12 : (r.xQ)
   ·skip
    rw [h12] at H
    refine zi [24, 25, 26] ?_
    refine qU 20 rfl rfl ?_
    refine sps [.bool false, .bool false, .bool false] ?_
    refine qU 29 rfl rfl ?_
    refine sw (qO b3 (0) 7 Try.underlying92 rfl rfl Try.sizeOf90 rfl ?_)
    refine qU 29 rfl rfl ?_
    refine sw (qF (.slice vF r.qE.length zU) Try.isAgg90 rfl (H.cell 0 rfl rfl) ?_)
    refine qU 29 rfl rfl ?_
    refine sw (vI Try.underlying90 vF r.qE.length zU rfl ?_)
    refine qU 29 rfl rfl ?_
    refine sps [.bool (decide ((r.qE.length : Int) > 3)), .bool (decide ((r.qE.length : Int) > 3))] ?_
    refine qA (t_n ?_)
    refine qX (decide ((r.qE.length : Int) > 3)) rfl (fun h13 => ?_) (fun h13 => ?_)
    ·skip
     replace h13 := of_decide_eq_true h13
     refine qo (qB ?_)
     refine sp (.bool false) ?_
     refine qA (t_n (xE (t_r ?_)))
     refine ret1 (.bool false) rfl rfl ⟨_, rfl, ?_, H.base⟩
     rw [xB (fun h => by obtain ⟨h1, h2, h3, h4, h5, h6, h7, h8, h9, h10, h11⟩ := h; first | contradiction | omega | exact h3 ⟨‹_›, ‹_›⟩ | (obtain ⟨q1, q2, q3, q4, q5⟩ := h11 i (by omega); first | contradiction | omega | (have := q5 (by omega); omega)) | (refine absurd ?_ ‹¬ zZ _ _›; rcases (show k = 0 ∨ k = 1 ∨ k = 2 ∨ k = 3 ∨ k = 4 by omega) with e | e | e | e | e <;> subst e <;> assumption))]
    replace h13 := of_decide_eq_false h13
    refine xy (t_n (qo (qo (qB ?_))))
    refine sw (qO b3 (0) 2 Try.underlying92 rfl rfl Try.sizeOf22 rfl ?_)
    refine sw (qF (.slice vP r.qR.length vO) Try.isAgg22 rfl (H.cell 0 rfl rfl) ?_)
    refine sw (qO b3 (0) 3 Try.underlying92 rfl rfl Try.sizeOf22 rfl ?_)
    refine sw (qF (.slice jv r.xg.length jr) Try.isAgg22 rfl (H.cell 0 rfl rfl) ?_)
    refine sw (qO b3 (0) 4 Try.underlying92 rfl rfl Try.sizeOf22 rfl ?_)
    refine sw (qF (.slice jb r.xk.length ja) Try.isAgg22 rfl (H.cell 0 rfl rfl) ?_)
    refine sw (qO b3 (0) 5 Try.underlying92 rfl rfl Try.sizeOf22 rfl ?_)
    refine sw (qF (.slice jL r.xw.length jK) Try.isAgg22 rfl (H.cell 0 rfl rfl) ?_)
    refine sw (qO b3 (0) 6 Try.underlying92 rfl rfl Try.sizeOf22 rfl ?_)
    refine sw (qF (.slice Qy r.zo.length Qx) Try.isAgg22 rfl (H.cell 0 rfl rfl) ?_)
    refine sw (o_buildF H Try.underlying37 ti22 [.slice vP r.qR.length vO, .slice jv r.xg.length jr, .slice jb r.xk.length ja, .slice jL r.xw.length jK, .slice Qy r.zo.length Qx] rfl (by simp [Value.cells]) rfl (by decide) (by decide) fun b14 w15 H => ?_)
    refine sw (vI Try.underlying37 (aa b14 0) 5 5 rfl ?_)
    refine sp (.int .i64 0) ?_
    refine qA (t_n (xC ?_))
    replace H := H.boxRow 0 rfl 1 5 rfl (by decide)
    try dsimp only [List.set] at H
    replace H := H.Xh (α := List Int)
    replace H := H.repsCons false 7 rfl 0 rfl (by simp)
    replace H := H.repsCons false 7 rfl 0 rfl (by simp)
    replace H := H.repsCons false 7 rfl 0 rfl (by simp)
    replace H := H.repsCons false 7 rfl 0 rfl (by simp)
    replace H := H.repsCons false 7 rfl 0 rfl (by simp)
    refine vw (fun m' ρ w16 => ∃ (junk : Env) (k : Nat), ρ = upd (upd (upd (upd (upd junk 2 (pp b1 0)) 3 (pp b3 0)) 45 (.slice (aa b14 0) 5 5)) 46 (.int .i64 5)) 47 (.int .i64 k) ∧ ((k : Int) ≤ 5) ∧ (∀ j, j < k → zZ s.qI ([r.qR, r.xg, r.xk, r.xw, r.zo][j]!)) ∧ m' = (5 - (k : Int)).toNat ∧ Fresh w.heap.size [] ∧ St w w16 [.row (.slice (aa b14 0) 5 5) 22 1 5 [.slice vP r.qR.length vO, .slice jv r.xg.length jr, .slice jb r.xk.length ja, .slice jL r.xw.length jK, .slice Qy r.zo.length Qx], .box b3 [.int .i64 r.qy, .int .i64 r.zk, .slice vP r.qR.length vO, .slice jv r.xg.length jr, .slice jb r.xk.length ja, .slice jL r.xw.length jK, .slice Qy r.zo.length Qx, .slice vF r.qE.length zU, .bool false] 92, .box b1 [.int .i64 s.qI, .slice qw s.qf.length qm, .slice qG s.qg.length qC] 30] [jl false (Q5 ++ (Xw ++ (Xn ++ (XM ++ (FrOut ++ []))))) [.slice vP r.qR.length vO, .slice jv r.xg.length jr, .slice jb r.xk.length ja, .slice jL r.xw.length jK, .slice Qy r.zo.length Qx] [r.qR, r.xg, r.xk, r.xw, r.zo], isF false qM (.slice qw s.qf.length qm) s.qf, isF false xu (.slice qG s.qg.length qC) s.qg, isF false Q5 (.slice vP r.qR.length vO) r.qR, isF false Xw (.slice jv r.xg.length jr) r.xg, isF false Xn (.slice jb r.xk.length ja) r.xk, isF false XM (.slice jL r.xw.length jK) r.xw, isF false FrOut (.slice Qy r.zo.length Qx) r.zo, isF false FrInto (.slice vF r.qE.length zU) r.qE]) ((5 - (0 : Int)).toNat) ⟨_, 0, (by exact qj (qj (qj (qj (qj (rfl) rfl) rfl) rfl) rfl) rfl), (by omega), (by intro j hj; omega), rfl, N, H.pick [0, 1, 2] [0, 6, 7, 8, 9, 10, 11, 12, 13]⟩ ?_
    clear H N
    rintro m' ρ w17 ⟨junk, k, rfl, i0, i1, rfl, N, H⟩
    refine qo (qB ?_)
    refine sp (.bool (decide ((k : Int) < 5))) ?_
    refine qA (t_n (qo ?_))
    refine qX (decide ((k : Int) < 5)) rfl (fun h18 => ?_) (fun h18 => ?_)
    ·skip
     replace h18 := of_decide_eq_true h18
     refine xy (t_n (qo (xC (qo (qB ?_)))))
     refine sw (xO k Try.underlying37 ti22 rfl rfl (by omega) (by omega) ?_)
     obtain ⟨a19, c20, G21, s22, h23, H⟩ := H.jD 0 rfl 0 rfl (iv := k) k (by omega) (by omega)
     refine sw (qF (.slice a19 (([r.qR, r.xg, r.xk, r.xw, r.zo][k]!).length) c20) Try.isAgg22 rfl (h23) ?_)
     refine sp (.slice a19 (([r.qR, r.xg, r.xk, r.xw, r.zo][k]!).length) c20) ?_
     refine qA (t_n (qo (qB ?_)))
     refine sw (qO b1 (0) 0 Try.underlying30 rfl rfl Try.sizeOf2 rfl ?_)
     refine sw (qF (.int .i64 s.qI) Try.isAgg2 rfl (H.cell 2 rfl rfl) ?_)
     refine sp (.slice a19 (([r.qR, r.xg, r.xk, r.xw, r.zo][k]!).length) c20) ?_
     refine sw (xf #[.int .i64 s.qI, .slice a19 (([r.qR, r.xg, r.xk, r.xw, r.zo][k]!).length) c20] rfl rfl Try.call89 (validBag_ok w17 s.qI ([r.qR, r.xg, r.xk, r.xw, r.zo][k]!) a19 c20 G21 (H.get 0 rfl).1) ?_)
     rintro _ w24 rfl x25
     replace H := H.ext x25
     refine sp (.bool (!(dec (zZ s.qI ([r.qR, r.xg, r.xk, r.xw, r.zo][k]!))))) ?_
     refine qA (t_n ?_)
     refine qX (!(dec (zZ s.qI ([r.qR, r.xg, r.xk, r.xw, r.zo][k]!)))) rfl (fun h26 => ?_) (fun h26 => ?_)
     ·skip
      replace h26 := xh h26
      replace h26 := zt h26
      refine qo (qB ?_)
      refine sp (.bool false) ?_
      refine qA (t_n (xE (b_r (t_r (t_r (b_r (t_r ?_)))))))
      refine ret1 (.bool false) rfl rfl ⟨_, rfl, ?_, H.base⟩
      rw [xB (fun h => by obtain ⟨h1, h2, h3, h4, h5, h6, h7, h8, h9, h10, h11⟩ := h; first | contradiction | omega | exact h3 ⟨‹_›, ‹_›⟩ | (obtain ⟨q1, q2, q3, q4, q5⟩ := h11 i (by omega); first | contradiction | omega | (have := q5 (by omega); omega)) | (refine absurd ?_ ‹¬ zZ _ _›; rcases (show k = 0 ∨ k = 1 ∨ k = 2 ∨ k = 3 ∨ k = 4 by omega) with e | e | e | e | e <;> subst e <;> assumption))]
     replace h26 := qY h26
     replace h26 := jZ h26
     refine xy (b_n (t_n (qB ?_)))
     refine sw (vz k 1 rfl rfl (by omega) ?_)
     refine sp (.int .i64 (k + 1)) ?_
     refine qA ?_
     refine xH (m' := (5 - ((k + 1) : Int)).toNat) (by omega) ⟨_, k + 1, (by exact qj (qj (qj (qj (qj (rfl) rfl) rfl) rfl) rfl) rfl), ?_, ?_, rfl, N, H.pick [0, 1, 2] [1, 2, 3, 4, 5, 6, 7, 8, 9]⟩
     · omega
     · intro j hj; by_cases e : j = k; (subst e; assumption); exact i1 j (by omega)
    replace h18 := of_decide_eq_false h18
    refine ve (t_x (t_x (b_x (t_n (qo (qo (qB ?_)))))))
    refine sw (qO b3 (0) 7 Try.underlying92 rfl rfl Try.sizeOf90 rfl ?_)
    refine sw (qF (.slice vF r.qE.length zU) Try.isAgg90 rfl (H.cell 1 rfl rfl) ?_)
    refine sw (vI Try.underlying90 vF r.qE.length zU rfl ?_)
    refine sp (.int .i64 0) ?_
    refine qA (t_n (xC ?_))
    have n1 : zZ s.qI r.qR := i1 0 (by omega)
    have n2 : zZ s.qI r.xg := i1 1 (by omega)
    have n3 : zZ s.qI r.xk := i1 2 (by omega)
    have n4 : zZ s.qI r.xw := i1 3 (by omega)
    have n5 : zZ s.qI r.zo := i1 4 (by omega)
    refine vw (fun m' ρ w27 => ∃ (junk : Env) (i : Nat), ρ = upd (upd (upd (upd (upd junk 2 (pp b1 0)) 3 (pp b3 0)) 58 (.slice vF r.qE.length zU)) 59 (.int .i64 r.qE.length)) 60 (.int .i64 i) ∧ ((i : Int) ≤ r.qE.length) ∧ (IntosTo s r i) ∧ m' = (r.qE.length - (i : Int)).toNat ∧ Fresh w.heap.size [] ∧ St w w27 [.row (.slice (aa b14 0) 5 5) 22 1 5 [.slice vP r.qR.length vO, .slice jv r.xg.length jr, .slice jb r.xk.length ja, .slice jL r.xw.length jK, .slice Qy r.zo.length Qx], .box b3 [.int .i64 r.qy, .int .i64 r.zk, .slice vP r.qR.length vO, .slice jv r.xg.length jr, .slice jb r.xk.length ja, .slice jL r.xw.length jK, .slice Qy r.zo.length Qx, .slice vF r.qE.length zU, .bool false] 92, .box b1 [.int .i64 s.qI, .slice qw s.qf.length qm, .slice qG s.qg.length qC] 30] [jl false (Q5 ++ (Xw ++ (Xn ++ (XM ++ (FrOut ++ []))))) [.slice vP r.qR.length vO, .slice jv r.xg.length jr, .slice jb r.xk.length ja, .slice jL r.xw.length jK, .slice Qy r.zo.length Qx] [r.qR, r.xg, r.xk, r.xw, r.zo], isF false qM (.slice qw s.qf.length qm) s.qf, isF false xu (.slice qG s.qg.length qC) s.qg, isF false Q5 (.slice vP r.qR.length vO) r.qR, isF false Xw (.slice jv r.xg.length jr) r.xg, isF false Xn (.slice jb r.xk.length ja) r.xk, isF false XM (.slice jL r.xw.length jK) r.xw, isF false FrOut (.slice Qy r.zo.length Qx) r.zo, isF false FrInto (.slice vF r.qE.length zU) r.qE]) ((r.qE.length - (0 : Int)).toNat) ⟨_, 0, (by exact qj (qj (qj (qj (qj (rfl) rfl) rfl) rfl) rfl) rfl), (by omega), (by exact fun j hj => by omega), rfl, N, H⟩ ?_
    clear H N
    rintro m' ρ w28 ⟨junk, i, rfl, i0, i2, rfl, N, H⟩
    refine qo (qB ?_)
    refine sp (.bool (decide ((i : Int) < r.qE.length))) ?_
    refine qA (t_n (qo ?_))
    refine qX (decide ((i : Int) < r.qE.length)) rfl (fun h29 => ?_) (fun h29 => ?_)
    ·skip
     replace h29 := of_decide_eq_true h29
     refine xy (t_n (qo (xC (qo (qB ?_)))))
     refine sp (.int .i64 i) ?_
     obtain ⟨b30, o31, rfl⟩ := H.addr 8 rfl (by omega)
     obtain ⟨Vs, Vr, Fe33Bag, H⟩ := H.jQ 8 rfl i i (by omega) (by omega) (by omega)
     refine sw (xO i Try.underlying90 ti108 rfl rfl (by omega) (by omega) ?_)
     refine sw (zu [.int .i64 ((r.qE[i]!).qy), .slice Vs (((r.qE[i]!).vK).length) Vr] Try.isAgg108 Try.sizeOf108 rfl (qH (H.get 1 rfl) 0 2) ?_)
     refine sw (zy H ti108 [.int .i64 0, .slice none 0 0] fun b34 w35 H => ?_)
     refine sp (.int .i64 i) ?_
     refine sw (xR H 0 [.int .i64 ((r.qE[i]!).qy), .slice Vs (((r.qE[i]!).vK).length) Vr] Try.sizeOf108 fun w36 H => ?_)
     try dsimp only [List.set] at H
     refine qA (t_n (qo ?_))
     refine yg rfl H fun H => ?_
     refine rt 0 (.agg #[.int .i64 s.qI, .slice qw s.qf.length qm, .slice qG s.qg.length qC]) (yV (cs := [.int .i64 s.qI, .slice qw s.qf.length qm, .slice qG s.qg.length qC]) Try.isAgg30 Try.sizeOf30 rfl (fun _ h => qH (h.cells 3 rfl) 0 3)) H ?_
     refine rt 1 (pp b34 (0 + 0)) (xF b34 (0) 0 Try.underlying108 rfl rfl Try.sizeOf2 rfl) H ?_
     refine rt 2 (.int .i64 ((r.qE[i]!).qy)) (xm Try.isAgg2 rfl (fun _ h => h.cell 0 rfl rfl)) H ?_
     refine xn [3] (by kernel_rfl) (by simp) (zg rfl ?_ xq)
     refine xf #[.agg #[.int .i64 s.qI, .slice qw s.qf.length qm, .slice qG s.qg.length qC], .int .i64 ((r.qE[i]!).qy)] rfl rfl Try.call80 (isCell_ok w36.drew s ((r.qE[i]!).qy) qw qm qM qG qC xu (H.get 3 rfl).1 (H.get 4 rfl).1) ?_
     rintro _ w39 rfl x40
     replace H := H.ext x40
     refine ⟨H, ?_⟩
     refine rtp 4 (.bool (!(inR ((r.qE[i]!).qy) 0 ((s.qf.length : Int) - 1)))) H ?_
     refine rtp 5 (.bool (!(inR ((r.qE[i]!).qy) 0 ((s.qf.length : Int) - 1)))) H ?_
     cases h41 : (!(inR ((r.qE[i]!).qy) 0 ((s.qf.length : Int) - 1)))
     ·skip
      replace h41 := qY h41
      replace h41 := Q9.1 h41
      refine rg 6 (.agg #[.int .i64 s.qI, .slice qw s.qf.length qm, .slice qG s.qg.length qC]) 70 (yV (cs := [.int .i64 s.qI, .slice qw s.qf.length qm, .slice qG s.qg.length qC]) Try.isAgg30 Try.sizeOf30 rfl (fun _ h => qH (h.cells 3 rfl) 0 3)) H ?_
      refine rg 7 (pp b34 (0 + 0)) 70 (xF b34 (0) 0 Try.underlying108 rfl rfl Try.sizeOf2 rfl) H ?_
      refine rg 8 (.int .i64 ((r.qE[i]!).qy)) 70 (xm Try.isAgg2 rfl (fun _ h => h.cell 0 rfl rfl)) H ?_
      refine rg 9 (pp b3 (0 + 0)) 70 (xF b3 (0) 0 Try.underlying92 rfl rfl Try.sizeOf2 rfl) H ?_
      refine rg 10 (.int .i64 r.qy) 70 (xm Try.isAgg2 rfl (fun _ h => h.cell 2 rfl rfl)) H ?_
      refine xn [11] (by kernel_rfl) (by simp) (r_opG rfl (e := 70) rfl rfl ?_ xq)
      refine xf #[.agg #[.int .i64 s.qI, .slice qw s.qf.length qm, .slice qG s.qg.length qC], .int .i64 ((r.qE[i]!).qy), .int .i64 r.qy] rfl rfl Try.call102 (lies_ok w39 s ((r.qE[i]!).qy) r.qy qw qm qM qG qC xu (H.get 3 rfl).1 (H.get 4 rfl).1 (by first | assumption | omega) (by first | assumption | omega)) ?_
      rintro _ w43 rfl x44
      replace H := H.ext x44
      refine ⟨H, ?_⟩
      refine rgp 12 (.bool (!(dec (Lies s.qf r.qy ((r.qE[i]!).qy))))) 70 H ?_
      refine rtp 13 (.bool (!(dec (Lies s.qf r.qy ((r.qE[i]!).qy))))) H ?_
      refine rtp 14 (.bool (!(dec (Lies s.qf r.qy ((r.qE[i]!).qy))))) H ?_
      cases h45 : (!(dec (Lies s.qf r.qy ((r.qE[i]!).qy))))
      ·skip
       replace h45 := qY h45
       replace h45 := jZ h45
       refine rg 15 (pp b1 (0 + 0)) 79 (xF b1 (0) 0 Try.underlying30 rfl rfl Try.sizeOf2 rfl) H ?_
       refine rg 16 (.int .i64 s.qI) 79 (xm Try.isAgg2 rfl (fun _ h => h.cell 3 rfl rfl)) H ?_
       refine rg 17 (pp b34 (0 + 1)) 79 (xF b34 (0) 1 Try.underlying108 rfl rfl Try.sizeOf22 rfl) H ?_
       refine rg 18 (.slice Vs (((r.qE[i]!).vK).length) Vr) 79 (xm Try.isAgg22 rfl (fun _ h => h.cell 0 rfl rfl)) H ?_
       refine xn [19] (by kernel_rfl) (by simp) (r_opG rfl (e := 79) rfl rfl ?_ xq)
       refine xf #[.int .i64 s.qI, .slice Vs (((r.qE[i]!).vK).length) Vr] rfl rfl Try.call89 (validBag_ok w43 s.qI ((r.qE[i]!).vK) Vs Vr Fe33Bag (H.get 0 rfl).1) ?_
       rintro _ w46 rfl x47
       replace H := H.ext x47
       refine ⟨H, ?_⟩
       refine rgp 20 (.bool (!(dec (zZ s.qI ((r.qE[i]!).vK))))) 79 H ?_
       refine rtp 21 (.bool (!(dec (zZ s.qI ((r.qE[i]!).vK))))) H ?_
       refine rtp 22 (.bool (!(dec (zZ s.qI ((r.qE[i]!).vK))))) H ?_
       cases h48 : (!(dec (zZ s.qI ((r.qE[i]!).vK))))
       ·skip
        replace h48 := qY h48
        replace h48 := jZ h48
        refine rg 23 (pp b34 (0 + 1)) 87 (xF b34 (0) 1 Try.underlying108 rfl rfl Try.sizeOf22 rfl) H ?_
        refine rg 24 (.slice Vs (((r.qE[i]!).vK).length) Vr) 87 (xm Try.isAgg22 rfl (fun _ h => h.cell 0 rfl rfl)) H ?_
        refine xn [25] (by kernel_rfl) (by simp) (r_opG rfl (e := 87) rfl rfl ?_ xq)
        have sm : Small ((r.qE[i]!).vK) := jF (by first | assumption | exact i1 0 (by omega))
        refine xf #[.slice Vs (((r.qE[i]!).vK).length) Vr] rfl rfl Try.call90 (bagSize_ok w46 ((r.qE[i]!).vK) Vs Vr Fe33Bag (H.get 0 rfl).1 (by first | assumption | exact jF (by assumption) | exact Xm (by assumption))) ?_
        rintro _ w49 rfl x50
        replace H := H.ext x50
        refine ⟨H, ?_⟩
        refine rgp 26 (.bool ((sumL ((r.qE[i]!).vK) : Int) == 0)) 87 H ?_
        refine rtp 27 (.bool ((sumL ((r.qE[i]!).vK) : Int) == 0)) H ?_
        refine rtp 28 (.bool ((sumL ((r.qE[i]!).vK) : Int) == 0)) H ?_
        cases h51 : ((sumL ((r.qE[i]!).vK) : Int) == 0)
        ·skip
         replace h51 := ne_of_beq_false h51
         refine rgp 29 (.int .i64 i) 93 H ?_
         refine rgp 30 (.bool (decide ((i : Int) > 0))) 93 H ?_
         refine rgp 31 (.bool (decide ((i : Int) > 0))) 93 H ?_
         cases h52 : (decide ((i : Int) > 0))
         ·skip
          replace h52 := of_decide_eq_false h52
          refine zS [32, 33, 34, 35, 36, 37, 38, 39, 40, 41] 10 (H) ?_
          refine rgp 42 (.bool false) 93 H ?_
          refine rtp 43 (.bool false) H ?_
          refine xM (by kernel_rfl) (t_n ?_)
          refine qX false rfl (fun h => absurd h (by decide)) (fun _ => ?_)
          refine xy (b_n (t_n (qB ?_)))
          refine sw (vz i 1 rfl rfl (by omega) ?_)
          refine sp (.int .i64 (i + 1)) ?_
          refine qA ?_
          refine xH (m' := (r.qE.length - ((i + 1) : Int)).toNat) (by omega) ⟨_, i + 1, (by exact qj (qj (qj (qj (qj (rfl) rfl) rfl) rfl) rfl) rfl), ?_, ?_, rfl, N, H.pick [1, 2, 3] [2, 3, 4, 5, 6, 7, 8, 9, 10]⟩
          · omega
          · exact i2.succ ⟨‹_›, ‹_›, ‹_›, ‹_›, fun hk => by omega⟩
         replace h52 := of_decide_eq_true h52
         refine rg 32 (pp b34 (0 + 0)) 96 (xF b34 (0) 0 Try.underlying108 rfl rfl Try.sizeOf2 rfl) H ?_
         refine rg 33 (.int .i64 ((r.qE[i]!).qy)) 96 (xm Try.isAgg2 rfl (fun _ h => h.cell 0 rfl rfl)) H ?_
         refine rg 34 (pp b3 (0 + 7)) 96 (xF b3 (0) 7 Try.underlying92 rfl rfl Try.sizeOf90 rfl) H ?_
         refine rg 35 (.slice (aa b30 o31) r.qE.length zU) 96 (xm Try.isAgg90 rfl (fun _ h => h.cell 2 rfl rfl)) H ?_
         refine rgp 36 (.int .i64 i) 96 H ?_
         refine rg 37 (.int .i64 (i - 1)) 96 (y_sub i 1 rfl rfl (by omega)) H ?_
         obtain ⟨ae53Bag, ce53Bag, Fe53Bag, H⟩ := H.jQ 10 rfl (i - 1) (i - 1) (by omega) (by omega) (by omega)
         have S := H.jP [0, 1, 2, 3] [2, 3, 4, 5, 6, 7, 8, 9, 10, 11, 12]
         refine rg 38 (pp b30 (o31 + (i - 1 : Int).toNat * 2)) 96 (xK b30 (o31) r.qE.length zU (i - 1) Try.underlying90 ti108 rfl rfl (by omega) (by omega)) S ?_
         refine rg 39 (pp b30 (o31 + (i - 1 : Int).toNat * 2 + 0)) 96 (xF b30 (o31 + (i - 1 : Int).toNat * 2) 0 Try.underlying108 rfl rfl Try.sizeOf2 rfl) S ?_
         refine xn [40] (by kernel_rfl) (by simp) (r_opG rfl (e := 96) rfl rfl ?_ xq)
         refine qF (.int .i64 ((r.qE[i - 1]!).qy)) Try.isAgg2 rfl (H.zh 1 rfl 0 rfl) ?_
         refine ⟨H.pick [0, 1, 2, 3] [2, 3, 4, 5, 6, 7, 8, 9, 10, 11, 12], ?_⟩
         have S := H.jP [0, 1, 2, 3] [2, 3, 4, 5, 6, 7, 8, 9, 10, 11, 12]
         refine rgp 41 (.bool (decide (((r.qE[i]!).qy : Int) ≤ ((r.qE[i - 1]!).qy)))) 96 S ?_
         refine rgp 42 (.bool (decide (((r.qE[i]!).qy : Int) ≤ ((r.qE[i - 1]!).qy)))) 93 S ?_
         refine rtp 43 (.bool (decide (((r.qE[i]!).qy : Int) ≤ ((r.qE[i - 1]!).qy)))) S ?_
         refine xM (by kernel_rfl) (t_n ?_)
         refine qX (decide (((r.qE[i]!).qy : Int) ≤ ((r.qE[i - 1]!).qy))) rfl (fun h54 => ?_) (fun h54 => ?_)
         ·skip
          replace h54 := of_decide_eq_true h54
          refine qo (qB ?_)
          refine sp (.bool false) ?_
          refine qA (t_n (xE (b_r (t_r (t_r (b_r (t_r ?_)))))))
          refine ret1 (.bool false) rfl rfl ⟨_, rfl, ?_, H.base⟩
          rw [xB (fun h => by obtain ⟨h1, h2, h3, h4, h5, h6, h7, h8, h9, h10, h11⟩ := h; first | contradiction | omega | exact h3 ⟨‹_›, ‹_›⟩ | (obtain ⟨q1, q2, q3, q4, q5⟩ := h11 i (by omega); first | contradiction | omega | (have := q5 (by omega); omega)) | (refine absurd ?_ ‹¬ zZ _ _›; rcases (show k = 0 ∨ k = 1 ∨ k = 2 ∨ k = 3 ∨ k = 4 by omega) with e | e | e | e | e <;> subst e <;> assumption))]
         replace h54 := of_decide_eq_false h54
         refine xy (b_n (t_n (qB ?_)))
         refine sw (vz i 1 rfl rfl (by omega) ?_)
         refine sp (.int .i64 (i + 1)) ?_
         refine qA ?_
         refine xH (m' := (r.qE.length - ((i + 1) : Int)).toNat) (by omega) ⟨_, i + 1, (by exact qj (qj (qj (qj (qj (rfl) rfl) rfl) rfl) rfl) rfl), ?_, ?_, rfl, N, H.pick [1, 2, 3] [4, 5, 6, 7, 8, 9, 10, 11, 12]⟩
         · omega
         · exact i2.succ ⟨‹_›, ‹_›, ‹_›, ‹_›, fun hk => by omega⟩
        replace h51 := eq_of_beq h51
        refine zS [29, 30, 31, 32, 33, 34, 35, 36, 37, 38, 39, 40, 41, 42] 14 (H) ?_
        refine rtp 43 (.bool true) H ?_
        refine xM (by kernel_rfl) (t_n ?_)
        refine qX true rfl (fun _ => ?_) (fun h => absurd h (by decide))
        refine qo (qB ?_)
        refine sp (.bool false) ?_
        refine qA (t_n (xE (b_r (t_r (t_r (b_r (t_r ?_)))))))
        refine ret1 (.bool false) rfl rfl ⟨_, rfl, ?_, H.base⟩
        rw [xB (fun h => by obtain ⟨h1, h2, h3, h4, h5, h6, h7, h8, h9, h10, h11⟩ := h; first | contradiction | omega | exact h3 ⟨‹_›, ‹_›⟩ | (obtain ⟨q1, q2, q3, q4, q5⟩ := h11 i (by omega); first | contradiction | omega | (have := q5 (by omega); omega)) | (refine absurd ?_ ‹¬ zZ _ _›; rcases (show k = 0 ∨ k = 1 ∨ k = 2 ∨ k = 3 ∨ k = 4 by omega) with e | e | e | e | e <;> subst e <;> assumption))]
       replace h48 := xh h48
       replace h48 := zt h48
       refine zS [23, 24, 25, 26] 4 (H) ?_
       refine rtp 27 (.bool true) H ?_
       refine rtp 28 (.bool true) H ?_
       refine zS [29, 30, 31, 32, 33, 34, 35, 36, 37, 38, 39, 40, 41, 42] 14 (H) ?_
       refine rtp 43 (.bool true) H ?_
       refine xM (by kernel_rfl) (t_n ?_)
       refine qX true rfl (fun _ => ?_) (fun h => absurd h (by decide))
       refine qo (qB ?_)
       refine sp (.bool false) ?_
       refine qA (t_n (xE (b_r (t_r (t_r (b_r (t_r ?_)))))))
       refine ret1 (.bool false) rfl rfl ⟨_, rfl, ?_, H.base⟩
       rw [xB (fun h => by obtain ⟨h1, h2, h3, h4, h5, h6, h7, h8, h9, h10, h11⟩ := h; first | contradiction | omega | exact h3 ⟨‹_›, ‹_›⟩ | (obtain ⟨q1, q2, q3, q4, q5⟩ := h11 i (by omega); first | contradiction | omega | (have := q5 (by omega); omega)) | (refine absurd ?_ ‹¬ zZ _ _›; rcases (show k = 0 ∨ k = 1 ∨ k = 2 ∨ k = 3 ∨ k = 4 by omega) with e | e | e | e | e <;> subst e <;> assumption))]
      replace h45 := xh h45
      replace h45 := zt h45
      refine zS [15, 16, 17, 18, 19, 20] 6 (H) ?_
      refine rtp 21 (.bool true) H ?_
      refine rtp 22 (.bool true) H ?_
      refine zS [23, 24, 25, 26] 4 (H) ?_
      refine rtp 27 (.bool true) H ?_
      refine rtp 28 (.bool true) H ?_
      refine zS [29, 30, 31, 32, 33, 34, 35, 36, 37, 38, 39, 40, 41, 42] 14 (H) ?_
      refine rtp 43 (.bool true) H ?_
      refine xM (by kernel_rfl) (t_n ?_)
      refine qX true rfl (fun _ => ?_) (fun h => absurd h (by decide))
      refine qo (qB ?_)
      refine sp (.bool false) ?_
      refine qA (t_n (xE (b_r (t_r (t_r (b_r (t_r ?_)))))))
      refine ret1 (.bool false) rfl rfl ⟨_, rfl, ?_, H.base⟩
      rw [xB (fun h => by obtain ⟨h1, h2, h3, h4, h5, h6, h7, h8, h9, h10, h11⟩ := h; first | contradiction | omega | exact h3 ⟨‹_›, ‹_›⟩ | (obtain ⟨q1, q2, q3, q4, q5⟩ := h11 i (by omega); first | contradiction | omega | (have := q5 (by omega); omega)) | (refine absurd ?_ ‹¬ zZ _ _›; rcases (show k = 0 ∨ k = 1 ∨ k = 2 ∨ k = 3 ∨ k = 4 by omega) with e | e | e | e | e <;> subst e <;> assumption))]
     replace h41 := xh h41
     replace h41 := XB h41
     refine zS [6, 7, 8, 9, 10, 11, 12] 7 (H) ?_
     refine rtp 13 (.bool true) H ?_
     refine rtp 14 (.bool true) H ?_
     refine zS [15, 16, 17, 18, 19, 20] 6 (H) ?_
     refine rtp 21 (.bool true) H ?_
     refine rtp 22 (.bool true) H ?_
     refine zS [23, 24, 25, 26] 4 (H) ?_
     refine rtp 27 (.bool true) H ?_
     refine rtp 28 (.bool true) H ?_
     refine zS [29, 30, 31, 32, 33, 34, 35, 36, 37, 38, 39, 40, 41, 42] 14 (H) ?_
     refine rtp 43 (.bool true) H ?_
     refine xM (by kernel_rfl) (t_n ?_)
     refine qX true rfl (fun _ => ?_) (fun h => absurd h (by decide))
     refine qo (qB ?_)
     refine sp (.bool false) ?_
     refine qA (t_n (xE (b_r (t_r (t_r (b_r (t_r ?_)))))))
     refine ret1 (.bool false) rfl rfl ⟨_, rfl, ?_, H.base⟩
     rw [xB (fun h => by obtain ⟨h1, h2, h3, h4, h5, h6, h7, h8, h9, h10, h11⟩ := h; first | contradiction | omega | exact h3 ⟨‹_›, ‹_›⟩ | (obtain ⟨q1, q2, q3, q4, q5⟩ := h11 i (by omega); first | contradiction | omega | (have := q5 (by omega); omega)) | (refine absurd ?_ ‹¬ zZ _ _›; rcases (show k = 0 ∨ k = 1 ∨ k = 2 ∨ k = 3 ∨ k = 4 by omega) with e | e | e | e | e <;> subst e <;> assumption))]
    replace h29 := of_decide_eq_false h29
    refine ve (t_x (t_x (b_x (t_n (qo (qB ?_))))))
    refine sw (qO b3 (0) 2 Try.underlying92 rfl rfl Try.sizeOf22 rfl ?_)
    refine sw (qF (.slice vP r.qR.length vO) Try.isAgg22 rfl (H.cell 1 rfl rfl) ?_)
    have sm : Small r.qR := jF (by first | assumption | exact i1 0 (by omega))
    refine sw (xf #[.slice vP r.qR.length vO] rfl rfl Try.call90 (bagSize_ok w28 r.qR vP vO Q5 (H.get 3 rfl).1 (by first | assumption | exact jF (by assumption) | exact Xm (by assumption))) ?_)
    rintro _ w55 rfl x56
    replace H := H.ext x56
    refine sps [.bool (decide ((sumL r.qR : Int) > 0)), .bool (decide ((sumL r.qR : Int) > 0))] ?_
    refine qA (t_n (xE ?_))
    refine ret1 (.bool (decide ((sumL r.qR : Int) > 0))) rfl rfl ⟨_, rfl, ?_, H.base⟩
    refine congrArg Value.bool (dec_eq ?_)
    rw [decide_eq_true_iff]
    exact ⟨fun h => ⟨by omega, by omega, by simp_all, by omega, n1, n2, n3, n4, n5, by omega, (show i = r.qE.length by omega) ▸ i2⟩, fun h => by have := h.2.2.2.2.2.2.2.2.2.1; have := sum_nonneg n1.1; omega⟩
   rw [h12] at H
   refine qU 23 rfl rfl ?_
   refine sw (qO b3 (0) 0 Try.underlying92 rfl rfl Try.sizeOf2 rfl ?_)
   refine qU 23 rfl rfl ?_
   refine sw (qF (.int .i64 r.qy) Try.isAgg2 rfl (H.cell 0 rfl rfl) ?_)
   refine qU 23 rfl rfl ?_
   refine sp (.bool ((r.qy : Int) == 0)) ?_
   refine qU 20 rfl rfl ?_
   refine sps [.bool ((r.qy : Int) == 0), .bool ((r.qy : Int) == 0), .bool ((r.qy : Int) == 0)] ?_
   cases h57 : ((r.qy : Int) == 0)
   ·skip
    replace h57 := ne_of_beq_false h57
    refine qU 29 rfl rfl ?_
    refine sw (qO b3 (0) 7 Try.underlying92 rfl rfl Try.sizeOf90 rfl ?_)
    refine qU 29 rfl rfl ?_
    refine sw (qF (.slice vF r.qE.length zU) Try.isAgg90 rfl (H.cell 0 rfl rfl) ?_)
    refine qU 29 rfl rfl ?_
    refine sw (vI Try.underlying90 vF r.qE.length zU rfl ?_)
    refine qU 29 rfl rfl ?_
    refine sps [.bool (decide ((r.qE.length : Int) > 3)), .bool (decide ((r.qE.length : Int) > 3))] ?_
    refine qA (t_n ?_)
    refine qX (decide ((r.qE.length : Int) > 3)) rfl (fun h58 => ?_) (fun h58 => ?_)
    ·skip
     replace h58 := of_decide_eq_true h58
     refine qo (qB ?_)
     refine sp (.bool false) ?_
     refine qA (t_n (xE (t_r ?_)))
     refine ret1 (.bool false) rfl rfl ⟨_, rfl, ?_, H.base⟩
     rw [xB (fun h => by obtain ⟨h1, h2, h3, h4, h5, h6, h7, h8, h9, h10, h11⟩ := h; first | contradiction | omega | exact h3 ⟨‹_›, ‹_›⟩ | (obtain ⟨q1, q2, q3, q4, q5⟩ := h11 i (by omega); first | contradiction | omega | (have := q5 (by omega); omega)) | (refine absurd ?_ ‹¬ zZ _ _›; rcases (show k = 0 ∨ k = 1 ∨ k = 2 ∨ k = 3 ∨ k = 4 by omega) with e | e | e | e | e <;> subst e <;> assumption))]
    replace h58 := of_decide_eq_false h58
    refine xy (t_n (qo (qo (qB ?_))))
    refine sw (qO b3 (0) 2 Try.underlying92 rfl rfl Try.sizeOf22 rfl ?_)
    refine sw (qF (.slice vP r.qR.length vO) Try.isAgg22 rfl (H.cell 0 rfl rfl) ?_)
    refine sw (qO b3 (0) 3 Try.underlying92 rfl rfl Try.sizeOf22 rfl ?_)
    refine sw (qF (.slice jv r.xg.length jr) Try.isAgg22 rfl (H.cell 0 rfl rfl) ?_)
    refine sw (qO b3 (0) 4 Try.underlying92 rfl rfl Try.sizeOf22 rfl ?_)
    refine sw (qF (.slice jb r.xk.length ja) Try.isAgg22 rfl (H.cell 0 rfl rfl) ?_)
    refine sw (qO b3 (0) 5 Try.underlying92 rfl rfl Try.sizeOf22 rfl ?_)
    refine sw (qF (.slice jL r.xw.length jK) Try.isAgg22 rfl (H.cell 0 rfl rfl) ?_)
    refine sw (qO b3 (0) 6 Try.underlying92 rfl rfl Try.sizeOf22 rfl ?_)
    refine sw (qF (.slice Qy r.zo.length Qx) Try.isAgg22 rfl (H.cell 0 rfl rfl) ?_)
    refine sw (o_buildF H Try.underlying37 ti22 [.slice vP r.qR.length vO, .slice jv r.xg.length jr, .slice jb r.xk.length ja, .slice jL r.xw.length jK, .slice Qy r.zo.length Qx] rfl (by simp [Value.cells]) rfl (by decide) (by decide) fun b59 w60 H => ?_)
    refine sw (vI Try.underlying37 (aa b59 0) 5 5 rfl ?_)
    refine sp (.int .i64 0) ?_
    refine qA (t_n (xC ?_))
    replace H := H.boxRow 0 rfl 1 5 rfl (by decide)
    try dsimp only [List.set] at H
    replace H := H.Xh (α := List Int)
    replace H := H.repsCons false 7 rfl 0 rfl (by simp)
    replace H := H.repsCons false 7 rfl 0 rfl (by simp)
    replace H := H.repsCons false 7 rfl 0 rfl (by simp)
    replace H := H.repsCons false 7 rfl 0 rfl (by simp)
    replace H := H.repsCons false 7 rfl 0 rfl (by simp)
    refine vw (fun m' ρ w61 => ∃ (junk : Env) (k : Nat), ρ = upd (upd (upd (upd (upd junk 2 (pp b1 0)) 3 (pp b3 0)) 45 (.slice (aa b59 0) 5 5)) 46 (.int .i64 5)) 47 (.int .i64 k) ∧ ((k : Int) ≤ 5) ∧ (∀ j, j < k → zZ s.qI ([r.qR, r.xg, r.xk, r.xw, r.zo][j]!)) ∧ m' = (5 - (k : Int)).toNat ∧ Fresh w.heap.size [] ∧ St w w61 [.row (.slice (aa b59 0) 5 5) 22 1 5 [.slice vP r.qR.length vO, .slice jv r.xg.length jr, .slice jb r.xk.length ja, .slice jL r.xw.length jK, .slice Qy r.zo.length Qx], .box b3 [.int .i64 r.qy, .int .i64 r.zk, .slice vP r.qR.length vO, .slice jv r.xg.length jr, .slice jb r.xk.length ja, .slice jL r.xw.length jK, .slice Qy r.zo.length Qx, .slice vF r.qE.length zU, .bool true] 92, .box b1 [.int .i64 s.qI, .slice qw s.qf.length qm, .slice qG s.qg.length qC] 30] [jl false (Q5 ++ (Xw ++ (Xn ++ (XM ++ (FrOut ++ []))))) [.slice vP r.qR.length vO, .slice jv r.xg.length jr, .slice jb r.xk.length ja, .slice jL r.xw.length jK, .slice Qy r.zo.length Qx] [r.qR, r.xg, r.xk, r.xw, r.zo], isF false qM (.slice qw s.qf.length qm) s.qf, isF false xu (.slice qG s.qg.length qC) s.qg, isF false Q5 (.slice vP r.qR.length vO) r.qR, isF false Xw (.slice jv r.xg.length jr) r.xg, isF false Xn (.slice jb r.xk.length ja) r.xk, isF false XM (.slice jL r.xw.length jK) r.xw, isF false FrOut (.slice Qy r.zo.length Qx) r.zo, isF false FrInto (.slice vF r.qE.length zU) r.qE]) ((5 - (0 : Int)).toNat) ⟨_, 0, (by exact qj (qj (qj (qj (qj (rfl) rfl) rfl) rfl) rfl) rfl), (by omega), (by intro j hj; omega), rfl, N, H.pick [0, 1, 2] [0, 6, 7, 8, 9, 10, 11, 12, 13]⟩ ?_
    clear H N
    rintro m' ρ w62 ⟨junk, k, rfl, i0, i1, rfl, N, H⟩
    refine qo (qB ?_)
    refine sp (.bool (decide ((k : Int) < 5))) ?_
    refine qA (t_n (qo ?_))
    refine qX (decide ((k : Int) < 5)) rfl (fun h63 => ?_) (fun h63 => ?_)
    ·skip
     replace h63 := of_decide_eq_true h63
     refine xy (t_n (qo (xC (qo (qB ?_)))))
     refine sw (xO k Try.underlying37 ti22 rfl rfl (by omega) (by omega) ?_)
     obtain ⟨a64, c65, G66, s67, h68, H⟩ := H.jD 0 rfl 0 rfl (iv := k) k (by omega) (by omega)
     refine sw (qF (.slice a64 (([r.qR, r.xg, r.xk, r.xw, r.zo][k]!).length) c65) Try.isAgg22 rfl (h68) ?_)
     refine sp (.slice a64 (([r.qR, r.xg, r.xk, r.xw, r.zo][k]!).length) c65) ?_
     refine qA (t_n (qo (qB ?_)))
     refine sw (qO b1 (0) 0 Try.underlying30 rfl rfl Try.sizeOf2 rfl ?_)
     refine sw (qF (.int .i64 s.qI) Try.isAgg2 rfl (H.cell 2 rfl rfl) ?_)
     refine sp (.slice a64 (([r.qR, r.xg, r.xk, r.xw, r.zo][k]!).length) c65) ?_
     refine sw (xf #[.int .i64 s.qI, .slice a64 (([r.qR, r.xg, r.xk, r.xw, r.zo][k]!).length) c65] rfl rfl Try.call89 (validBag_ok w62 s.qI ([r.qR, r.xg, r.xk, r.xw, r.zo][k]!) a64 c65 G66 (H.get 0 rfl).1) ?_)
     rintro _ w69 rfl x70
     replace H := H.ext x70
     refine sp (.bool (!(dec (zZ s.qI ([r.qR, r.xg, r.xk, r.xw, r.zo][k]!))))) ?_
     refine qA (t_n ?_)
     refine qX (!(dec (zZ s.qI ([r.qR, r.xg, r.xk, r.xw, r.zo][k]!)))) rfl (fun h71 => ?_) (fun h71 => ?_)
     ·skip
      replace h71 := xh h71
      replace h71 := zt h71
      refine qo (qB ?_)
      refine sp (.bool false) ?_
      refine qA (t_n (xE (b_r (t_r (t_r (b_r (t_r ?_)))))))
      refine ret1 (.bool false) rfl rfl ⟨_, rfl, ?_, H.base⟩
      rw [xB (fun h => by obtain ⟨h1, h2, h3, h4, h5, h6, h7, h8, h9, h10, h11⟩ := h; first | contradiction | omega | exact h3 ⟨‹_›, ‹_›⟩ | (obtain ⟨q1, q2, q3, q4, q5⟩ := h11 i (by omega); first | contradiction | omega | (have := q5 (by omega); omega)) | (refine absurd ?_ ‹¬ zZ _ _›; rcases (show k = 0 ∨ k = 1 ∨ k = 2 ∨ k = 3 ∨ k = 4 by omega) with e | e | e | e | e <;> subst e <;> assumption))]
     replace h71 := qY h71
     replace h71 := jZ h71
     refine xy (b_n (t_n (qB ?_)))
     refine sw (vz k 1 rfl rfl (by omega) ?_)
     refine sp (.int .i64 (k + 1)) ?_
     refine qA ?_
     refine xH (m' := (5 - ((k + 1) : Int)).toNat) (by omega) ⟨_, k + 1, (by exact qj (qj (qj (qj (qj (rfl) rfl) rfl) rfl) rfl) rfl), ?_, ?_, rfl, N, H.pick [0, 1, 2] [1, 2, 3, 4, 5, 6, 7, 8, 9]⟩
     · omega
     · intro j hj; by_cases e : j = k; (subst e; assumption); exact i1 j (by omega)
    replace h63 := of_decide_eq_false h63
    refine ve (t_x (t_x (b_x (t_n (qo (qo (qB ?_)))))))
    refine sw (qO b3 (0) 7 Try.underlying92 rfl rfl Try.sizeOf90 rfl ?_)
    refine sw (qF (.slice vF r.qE.length zU) Try.isAgg90 rfl (H.cell 1 rfl rfl) ?_)
    refine sw (vI Try.underlying90 vF r.qE.length zU rfl ?_)
    refine sp (.int .i64 0) ?_
    refine qA (t_n (xC ?_))
    have n1 : zZ s.qI r.qR := i1 0 (by omega)
    have n2 : zZ s.qI r.xg := i1 1 (by omega)
    have n3 : zZ s.qI r.xk := i1 2 (by omega)
    have n4 : zZ s.qI r.xw := i1 3 (by omega)
    have n5 : zZ s.qI r.zo := i1 4 (by omega)
    refine vw (fun m' ρ w72 => ∃ (junk : Env) (i : Nat), ρ = upd (upd (upd (upd (upd junk 2 (pp b1 0)) 3 (pp b3 0)) 58 (.slice vF r.qE.length zU)) 59 (.int .i64 r.qE.length)) 60 (.int .i64 i) ∧ ((i : Int) ≤ r.qE.length) ∧ (IntosTo s r i) ∧ m' = (r.qE.length - (i : Int)).toNat ∧ Fresh w.heap.size [] ∧ St w w72 [.row (.slice (aa b59 0) 5 5) 22 1 5 [.slice vP r.qR.length vO, .slice jv r.xg.length jr, .slice jb r.xk.length ja, .slice jL r.xw.length jK, .slice Qy r.zo.length Qx], .box b3 [.int .i64 r.qy, .int .i64 r.zk, .slice vP r.qR.length vO, .slice jv r.xg.length jr, .slice jb r.xk.length ja, .slice jL r.xw.length jK, .slice Qy r.zo.length Qx, .slice vF r.qE.length zU, .bool true] 92, .box b1 [.int .i64 s.qI, .slice qw s.qf.length qm, .slice qG s.qg.length qC] 30] [jl false (Q5 ++ (Xw ++ (Xn ++ (XM ++ (FrOut ++ []))))) [.slice vP r.qR.length vO, .slice jv r.xg.length jr, .slice jb r.xk.length ja, .slice jL r.xw.length jK, .slice Qy r.zo.length Qx] [r.qR, r.xg, r.xk, r.xw, r.zo], isF false qM (.slice qw s.qf.length qm) s.qf, isF false xu (.slice qG s.qg.length qC) s.qg, isF false Q5 (.slice vP r.qR.length vO) r.qR, isF false Xw (.slice jv r.xg.length jr) r.xg, isF false Xn (.slice jb r.xk.length ja) r.xk, isF false XM (.slice jL r.xw.length jK) r.xw, isF false FrOut (.slice Qy r.zo.length Qx) r.zo, isF false FrInto (.slice vF r.qE.length zU) r.qE]) ((r.qE.length - (0 : Int)).toNat) ⟨_, 0, (by exact qj (qj (qj (qj (qj (rfl) rfl) rfl) rfl) rfl) rfl), (by omega), (by exact fun j hj => by omega), rfl, N, H⟩ ?_
    clear H N
    rintro m' ρ w73 ⟨junk, i, rfl, i0, i2, rfl, N, H⟩
    refine qo (qB ?_)
    refine sp (.bool (decide ((i : Int) < r.qE.length))) ?_
    refine qA (t_n (qo ?_))
    refine qX (decide ((i : Int) < r.qE.length)) rfl (fun h74 => ?_) (fun h74 => ?_)
    ·skip
     replace h74 := of_decide_eq_true h74
     refine xy (t_n (qo (xC (qo (qB ?_)))))
     refine sp (.int .i64 i) ?_
     obtain ⟨b75, o76, rfl⟩ := H.addr 8 rfl (by omega)
     obtain ⟨ae78Bag, ce78Bag, Fe78Bag, H⟩ := H.jQ 8 rfl i i (by omega) (by omega) (by omega)
     refine sw (xO i Try.underlying90 ti108 rfl rfl (by omega) (by omega) ?_)
     refine sw (zu [.int .i64 ((r.qE[i]!).qy), .slice ae78Bag (((r.qE[i]!).vK).length) ce78Bag] Try.isAgg108 Try.sizeOf108 rfl (qH (H.get 1 rfl) 0 2) ?_)
     refine sw (zy H ti108 [.int .i64 0, .slice none 0 0] fun b79 w80 H => ?_)
     refine sp (.int .i64 i) ?_
     refine sw (xR H 0 [.int .i64 ((r.qE[i]!).qy), .slice ae78Bag (((r.qE[i]!).vK).length) ce78Bag] Try.sizeOf108 fun w81 H => ?_)
     try dsimp only [List.set] at H
     refine qA (t_n (qo ?_))
     refine yg rfl H fun H => ?_
     refine rt 0 (.agg #[.int .i64 s.qI, .slice qw s.qf.length qm, .slice qG s.qg.length qC]) (yV (cs := [.int .i64 s.qI, .slice qw s.qf.length qm, .slice qG s.qg.length qC]) Try.isAgg30 Try.sizeOf30 rfl (fun _ h => qH (h.cells 3 rfl) 0 3)) H ?_
     refine rt 1 (pp b79 (0 + 0)) (xF b79 (0) 0 Try.underlying108 rfl rfl Try.sizeOf2 rfl) H ?_
     refine rt 2 (.int .i64 ((r.qE[i]!).qy)) (xm Try.isAgg2 rfl (fun _ h => h.cell 0 rfl rfl)) H ?_
     refine xn [3] (by kernel_rfl) (by simp) (zg rfl ?_ xq)
     refine xf #[.agg #[.int .i64 s.qI, .slice qw s.qf.length qm, .slice qG s.qg.length qC], .int .i64 ((r.qE[i]!).qy)] rfl rfl Try.call80 (isCell_ok w81.drew s ((r.qE[i]!).qy) qw qm qM qG qC xu (H.get 3 rfl).1 (H.get 4 rfl).1) ?_
     rintro _ w84 rfl x85
     replace H := H.ext x85
     refine ⟨H, ?_⟩
     refine rtp 4 (.bool (!(inR ((r.qE[i]!).qy) 0 ((s.qf.length : Int) - 1)))) H ?_
     refine rtp 5 (.bool (!(inR ((r.qE[i]!).qy) 0 ((s.qf.length : Int) - 1)))) H ?_
     cases h86 : (!(inR ((r.qE[i]!).qy) 0 ((s.qf.length : Int) - 1)))
     ·skip
      replace h86 := qY h86
      replace h86 := Q9.1 h86
      refine rg 6 (.agg #[.int .i64 s.qI, .slice qw s.qf.length qm, .slice qG s.qg.length qC]) 70 (yV (cs := [.int .i64 s.qI, .slice qw s.qf.length qm, .slice qG s.qg.length qC]) Try.isAgg30 Try.sizeOf30 rfl (fun _ h => qH (h.cells 3 rfl) 0 3)) H ?_
      refine rg 7 (pp b79 (0 + 0)) 70 (xF b79 (0) 0 Try.underlying108 rfl rfl Try.sizeOf2 rfl) H ?_
      refine rg 8 (.int .i64 ((r.qE[i]!).qy)) 70 (xm Try.isAgg2 rfl (fun _ h => h.cell 0 rfl rfl)) H ?_
      refine rg 9 (pp b3 (0 + 0)) 70 (xF b3 (0) 0 Try.underlying92 rfl rfl Try.sizeOf2 rfl) H ?_
      refine rg 10 (.int .i64 r.qy) 70 (xm Try.isAgg2 rfl (fun _ h => h.cell 2 rfl rfl)) H ?_
      refine xn [11] (by kernel_rfl) (by simp) (r_opG rfl (e := 70) rfl rfl ?_ xq)
      refine xf #[.agg #[.int .i64 s.qI, .slice qw s.qf.length qm, .slice qG s.qg.length qC], .int .i64 ((r.qE[i]!).qy), .int .i64 r.qy] rfl rfl Try.call102 (lies_ok w84 s ((r.qE[i]!).qy) r.qy qw qm qM qG qC xu (H.get 3 rfl).1 (H.get 4 rfl).1 (by first | assumption | omega) (by first | assumption | omega)) ?_
      rintro _ w88 rfl x89
      replace H := H.ext x89
      refine ⟨H, ?_⟩
      refine rgp 12 (.bool (!(dec (Lies s.qf r.qy ((r.qE[i]!).qy))))) 70 H ?_
      refine rtp 13 (.bool (!(dec (Lies s.qf r.qy ((r.qE[i]!).qy))))) H ?_
      refine rtp 14 (.bool (!(dec (Lies s.qf r.qy ((r.qE[i]!).qy))))) H ?_
      cases h90 : (!(dec (Lies s.qf r.qy ((r.qE[i]!).qy))))
      ·skip
       replace h90 := qY h90
       replace h90 := jZ h90
       refine rg 15 (pp b1 (0 + 0)) 79 (xF b1 (0) 0 Try.underlying30 rfl rfl Try.sizeOf2 rfl) H ?_
       refine rg 16 (.int .i64 s.qI) 79 (xm Try.isAgg2 rfl (fun _ h => h.cell 3 rfl rfl)) H ?_
       refine rg 17 (pp b79 (0 + 1)) 79 (xF b79 (0) 1 Try.underlying108 rfl rfl Try.sizeOf22 rfl) H ?_
       refine rg 18 (.slice ae78Bag (((r.qE[i]!).vK).length) ce78Bag) 79 (xm Try.isAgg22 rfl (fun _ h => h.cell 0 rfl rfl)) H ?_
       refine xn [19] (by kernel_rfl) (by simp) (r_opG rfl (e := 79) rfl rfl ?_ xq)
       refine xf #[.int .i64 s.qI, .slice ae78Bag (((r.qE[i]!).vK).length) ce78Bag] rfl rfl Try.call89 (validBag_ok w88 s.qI ((r.qE[i]!).vK) ae78Bag ce78Bag Fe78Bag (H.get 0 rfl).1) ?_
       rintro _ w91 rfl x92
       replace H := H.ext x92
       refine ⟨H, ?_⟩
       refine rgp 20 (.bool (!(dec (zZ s.qI ((r.qE[i]!).vK))))) 79 H ?_
       refine rtp 21 (.bool (!(dec (zZ s.qI ((r.qE[i]!).vK))))) H ?_
       refine rtp 22 (.bool (!(dec (zZ s.qI ((r.qE[i]!).vK))))) H ?_
       cases h93 : (!(dec (zZ s.qI ((r.qE[i]!).vK))))
       ·skip
        replace h93 := qY h93
        replace h93 := jZ h93
        refine rg 23 (pp b79 (0 + 1)) 87 (xF b79 (0) 1 Try.underlying108 rfl rfl Try.sizeOf22 rfl) H ?_
        refine rg 24 (.slice ae78Bag (((r.qE[i]!).vK).length) ce78Bag) 87 (xm Try.isAgg22 rfl (fun _ h => h.cell 0 rfl rfl)) H ?_
        refine xn [25] (by kernel_rfl) (by simp) (r_opG rfl (e := 87) rfl rfl ?_ xq)
        have sm : Small ((r.qE[i]!).vK) := jF (by first | assumption | exact i1 0 (by omega))
        refine xf #[.slice ae78Bag (((r.qE[i]!).vK).length) ce78Bag] rfl rfl Try.call90 (bagSize_ok w91 ((r.qE[i]!).vK) ae78Bag ce78Bag Fe78Bag (H.get 0 rfl).1 (by first | assumption | exact jF (by assumption) | exact Xm (by assumption))) ?_
        rintro _ w94 rfl x95
        replace H := H.ext x95
        refine ⟨H, ?_⟩
        refine rgp 26 (.bool ((sumL ((r.qE[i]!).vK) : Int) == 0)) 87 H ?_
        refine rtp 27 (.bool ((sumL ((r.qE[i]!).vK) : Int) == 0)) H ?_
        refine rtp 28 (.bool ((sumL ((r.qE[i]!).vK) : Int) == 0)) H ?_
        cases h96 : ((sumL ((r.qE[i]!).vK) : Int) == 0)
        ·skip
         replace h96 := ne_of_beq_false h96
         refine rgp 29 (.int .i64 i) 93 H ?_
         refine rgp 30 (.bool (decide ((i : Int) > 0))) 93 H ?_
         refine rgp 31 (.bool (decide ((i : Int) > 0))) 93 H ?_
         cases h97 : (decide ((i : Int) > 0))
         ·skip
          replace h97 := of_decide_eq_false h97
          refine zS [32, 33, 34, 35, 36, 37, 38, 39, 40, 41] 10 (H) ?_
          refine rgp 42 (.bool false) 93 H ?_
          refine rtp 43 (.bool false) H ?_
          refine xM (by kernel_rfl) (t_n ?_)
          refine qX false rfl (fun h => absurd h (by decide)) (fun _ => ?_)
          refine xy (b_n (t_n (qB ?_)))
          refine sw (vz i 1 rfl rfl (by omega) ?_)
          refine sp (.int .i64 (i + 1)) ?_
          refine qA ?_
          refine xH (m' := (r.qE.length - ((i + 1) : Int)).toNat) (by omega) ⟨_, i + 1, (by exact qj (qj (qj (qj (qj (rfl) rfl) rfl) rfl) rfl) rfl), ?_, ?_, rfl, N, H.pick [1, 2, 3] [2, 3, 4, 5, 6, 7, 8, 9, 10]⟩
          · omega
          · exact i2.succ ⟨‹_›, ‹_›, ‹_›, ‹_›, fun hk => by omega⟩
         replace h97 := of_decide_eq_true h97
         refine rg 32 (pp b79 (0 + 0)) 96 (xF b79 (0) 0 Try.underlying108 rfl rfl Try.sizeOf2 rfl) H ?_
         refine rg 33 (.int .i64 ((r.qE[i]!).qy)) 96 (xm Try.isAgg2 rfl (fun _ h => h.cell 0 rfl rfl)) H ?_
         refine rg 34 (pp b3 (0 + 7)) 96 (xF b3 (0) 7 Try.underlying92 rfl rfl Try.sizeOf90 rfl) H ?_
         refine rg 35 (.slice (aa b75 o76) r.qE.length zU) 96 (xm Try.isAgg90 rfl (fun _ h => h.cell 2 rfl rfl)) H ?_
         refine rgp 36 (.int .i64 i) 96 H ?_
         refine rg 37 (.int .i64 (i - 1)) 96 (y_sub i 1 rfl rfl (by omega)) H ?_
         obtain ⟨ae98Bag, ce98Bag, Fe98Bag, H⟩ := H.jQ 10 rfl (i - 1) (i - 1) (by omega) (by omega) (by omega)
         have S := H.jP [0, 1, 2, 3] [2, 3, 4, 5, 6, 7, 8, 9, 10, 11, 12]
         refine rg 38 (pp b75 (o76 + (i - 1 : Int).toNat * 2)) 96 (xK b75 (o76) r.qE.length zU (i - 1) Try.underlying90 ti108 rfl rfl (by omega) (by omega)) S ?_
         refine rg 39 (pp b75 (o76 + (i - 1 : Int).toNat * 2 + 0)) 96 (xF b75 (o76 + (i - 1 : Int).toNat * 2) 0 Try.underlying108 rfl rfl Try.sizeOf2 rfl) S ?_
         refine xn [40] (by kernel_rfl) (by simp) (r_opG rfl (e := 96) rfl rfl ?_ xq)
         refine qF (.int .i64 ((r.qE[i - 1]!).qy)) Try.isAgg2 rfl (H.zh 1 rfl 0 rfl) ?_
         refine ⟨H.pick [0, 1, 2, 3] [2, 3, 4, 5, 6, 7, 8, 9, 10, 11, 12], ?_⟩
         have S := H.jP [0, 1, 2, 3] [2, 3, 4, 5, 6, 7, 8, 9, 10, 11, 12]
         refine rgp 41 (.bool (decide (((r.qE[i]!).qy : Int) ≤ ((r.qE[i - 1]!).qy)))) 96 S ?_
         refine rgp 42 (.bool (decide (((r.qE[i]!).qy : Int) ≤ ((r.qE[i - 1]!).qy)))) 93 S ?_
         refine rtp 43 (.bool (decide (((r.qE[i]!).qy : Int) ≤ ((r.qE[i - 1]!).qy)))) S ?_
         refine xM (by kernel_rfl) (t_n ?_)
         refine qX (decide (((r.qE[i]!).qy : Int) ≤ ((r.qE[i - 1]!).qy))) rfl (fun h99 => ?_) (fun h99 => ?_)
         ·skip
          replace h99 := of_decide_eq_true h99
          refine qo (qB ?_)
          refine sp (.bool false) ?_
          refine qA (t_n (xE (b_r (t_r (t_r (b_r (t_r ?_)))))))
          refine ret1 (.bool false) rfl rfl ⟨_, rfl, ?_, H.base⟩
          rw [xB (fun h => by obtain ⟨h1, h2, h3, h4, h5, h6, h7, h8, h9, h10, h11⟩ := h; first | contradiction | omega | exact h3 ⟨‹_›, ‹_›⟩ | (obtain ⟨q1, q2, q3, q4, q5⟩ := h11 i (by omega); first | contradiction | omega | (have := q5 (by omega); omega)) | (refine absurd ?_ ‹¬ zZ _ _›; rcases (show k = 0 ∨ k = 1 ∨ k = 2 ∨ k = 3 ∨ k = 4 by omega) with e | e | e | e | e <;> subst e <;> assumption))]
         replace h99 := of_decide_eq_false h99
         refine xy (b_n (t_n (qB ?_)))
         refine sw (vz i 1 rfl rfl (by omega) ?_)
         refine sp (.int .i64 (i + 1)) ?_
         refine qA ?_
         refine xH (m' := (r.qE.length - ((i + 1) : Int)).toNat) (by omega) ⟨_, i + 1, (by exact qj (qj (qj (qj (qj (rfl) rfl) rfl) rfl) rfl) rfl), ?_, ?_, rfl, N, H.pick [1, 2, 3] [4, 5, 6, 7, 8, 9, 10, 11, 12]⟩
         · omega
         · exact i2.succ ⟨‹_›, ‹_›, ‹_›, ‹_›, fun hk => by omega⟩
        replace h96 := eq_of_beq h96
        refine zS [29, 30, 31, 32, 33, 34, 35, 36, 37, 38, 39, 40, 41, 42] 14 (H) ?_
        refine rtp 43 (.bool true) H ?_
        refine xM (by kernel_rfl) (t_n ?_)
        refine qX true rfl (fun _ => ?_) (fun h => absurd h (by decide))
        refine qo (qB ?_)
        refine sp (.bool false) ?_
        refine qA (t_n (xE (b_r (t_r (t_r (b_r (t_r ?_)))))))
        refine ret1 (.bool false) rfl rfl ⟨_, rfl, ?_, H.base⟩
        rw [xB (fun h => by obtain ⟨h1, h2, h3, h4, h5, h6, h7, h8, h9, h10, h11⟩ := h; first | contradiction | omega | exact h3 ⟨‹_›, ‹_›⟩ | (obtain ⟨q1, q2, q3, q4, q5⟩ := h11 i (by omega); first | contradiction | omega | (have := q5 (by omega); omega)) | (refine absurd ?_ ‹¬ zZ _ _›; rcases (show k = 0 ∨ k = 1 ∨ k = 2 ∨ k = 3 ∨ k = 4 by omega) with e | e | e | e | e <;> subst e <;> assumption))]
       replace h93 := xh h93
       replace h93 := zt h93
       refine zS [23, 24, 25, 26] 4 (H) ?_
       refine rtp 27 (.bool true) H ?_
       refine rtp 28 (.bool true) H ?_
       refine zS [29, 30, 31, 32, 33, 34, 35, 36, 37, 38, 39, 40, 41, 42] 14 (H) ?_
       refine rtp 43 (.bool true) H ?_
       refine xM (by kernel_rfl) (t_n ?_)
       refine qX true rfl (fun _ => ?_) (fun h => absurd h (by decide))
       refine qo (qB ?_)
       refine sp (.bool false) ?_
       refine qA (t_n (xE (b_r (t_r (t_r (b_r (t_r ?_)))))))
       refine ret1 (.bool false) rfl rfl ⟨_, rfl, ?_, H.base⟩
       rw [xB (fun h => by obtain ⟨h1, h2, h3, h4, h5, h6, h7, h8, h9, h10, h11⟩ := h; first | contradiction | omega | exact h3 ⟨‹_›, ‹_›⟩ | (obtain ⟨q1, q2, q3, q4, q5⟩ := h11 i (by omega); first | contradiction | omega | (have := q5 (by omega); omega)) | (refine absurd ?_ ‹¬ zZ _ _›; rcases (show k = 0 ∨ k = 1 ∨ k = 2 ∨ k = 3 ∨ k = 4 by omega) with e | e | e | e | e <;> subst e <;> assumption))]
      replace h90 := xh h90
      replace h90 := zt h90
      refine zS [15, 16, 17, 18, 19, 20] 6 (H) ?_
      refine rtp 21 (.bool true) H ?_
      refine rtp 22 (.bool true) H ?_
      refine zS [23, 24, 25, 26] 4 (H) ?_
      refine rtp 27 (.bool true) H ?_
      refine rtp 28 (.bool true) H ?_
      refine zS [29, 30, 31, 32, 33, 34, 35, 36, 37, 38, 39, 40, 41, 42] 14 (H) ?_
      refine rtp 43 (.bool true) H ?_
      refine xM (by kernel_rfl) (t_n ?_)
      refine qX true rfl (fun _ => ?_) (fun h => absurd h (by decide))
      refine qo (qB ?_)
      refine sp (.bool false) ?_
      refine qA (t_n (xE (b_r (t_r (t_r (b_r (t_r ?_)))))))
      refine ret1 (.bool false) rfl rfl ⟨_, rfl, ?_, H.base⟩
      rw [xB (fun h => by obtain ⟨h1, h2, h3, h4, h5, h6, h7, h8, h9, h10, h11⟩ := h; first | contradiction | omega | exact h3 ⟨‹_›, ‹_›⟩ | (obtain ⟨q1, q2, q3, q4, q5⟩ := h11 i (by omega); first | contradiction | omega | (have := q5 (by omega); omega)) | (refine absurd ?_ ‹¬ zZ _ _›; rcases (show k = 0 ∨ k = 1 ∨ k = 2 ∨ k = 3 ∨ k = 4 by omega) with e | e | e | e | e <;> subst e <;> assumption))]
     replace h86 := xh h86
     replace h86 := XB h86
     refine zS [6, 7, 8, 9, 10, 11, 12] 7 (H) ?_
     refine rtp 13 (.bool true) H ?_
     refine rtp 14 (.bool true) H ?_
     refine zS [15, 16, 17, 18, 19, 20] 6 (H) ?_
     refine rtp 21 (.bool true) H ?_
     refine rtp 22 (.bool true) H ?_
     refine zS [23, 24, 25, 26] 4 (H) ?_
     refine rtp 27 (.bool true) H ?_
     refine rtp 28 (.bool true) H ?_
     refine zS [29, 30, 31, 32, 33, 34, 35, 36, 37, 38, 39, 40, 41, 42] 14 (H) ?_
     refine rtp 43 (.bool true) H ?_
     refine xM (by kernel_rfl) (t_n ?_)
     refine qX true rfl (fun _ => ?_) (fun h => absurd h (by decide))
     refine qo (qB ?_)
     refine sp (.bool false) ?_
     refine qA (t_n (xE (b_r (t_r (t_r (b_r (t_r ?_)))))))
     refine ret1 (.bool false) rfl rfl ⟨_, rfl, ?_, H.base⟩
     rw [xB (fun h => by obtain ⟨h1, h2, h3, h4, h5, h6, h7, h8, h9, h10, h11⟩ := h; first | contradiction | omega | exact h3 ⟨‹_›, ‹_›⟩ | (obtain ⟨q1, q2, q3, q4, q5⟩ := h11 i (by omega); first | contradiction | omega | (have := q5 (by omega); omega)) | (refine absurd ?_ ‹¬ zZ _ _›; rcases (show k = 0 ∨ k = 1 ∨ k = 2 ∨ k = 3 ∨ k = 4 by omega) with e | e | e | e | e <;> subst e <;> assumption))]
    replace h74 := of_decide_eq_false h74
    refine ve (t_x (t_x (b_x (t_n (qo (qB ?_))))))
    refine sw (qO b3 (0) 2 Try.underlying92 rfl rfl Try.sizeOf22 rfl ?_)
    refine sw (qF (.slice vP r.qR.length vO) Try.isAgg22 rfl (H.cell 1 rfl rfl) ?_)
    have sm : Small r.qR := jF (by first | assumption | exact i1 0 (by omega))
    refine sw (xf #[.slice vP r.qR.length vO] rfl rfl Try.call90 (bagSize_ok w73 r.qR vP vO Q5 (H.get 3 rfl).1 (by first | assumption | exact jF (by assumption) | exact Xm (by assumption))) ?_)
    rintro _ w100 rfl x101
    replace H := H.ext x101
    refine sps [.bool (decide ((sumL r.qR : Int) > 0)), .bool (decide ((sumL r.qR : Int) > 0))] ?_
    refine qA (t_n (xE ?_))
    refine ret1 (.bool (decide ((sumL r.qR : Int) > 0))) rfl rfl ⟨_, rfl, ?_, H.base⟩
    refine congrArg Value.bool (dec_eq ?_)
    rw [decide_eq_true_iff]
    exact ⟨fun h => ⟨by omega, by omega, by simp_all, by omega, n1, n2, n3, n4, n5, by omega, (show i = r.qE.length by omega) ▸ i2⟩, fun h => by have := h.2.2.2.2.2.2.2.2.2.1; have := sum_nonneg n1.1; omega⟩
   replace h57 := eq_of_beq h57
   refine zi [30, 31, 32, 33] ?_
   refine sp (.bool true) ?_
   refine qA (t_n ?_)
   refine qX true rfl (fun _ => ?_) (fun h => absurd h (by decide))
   refine qo (qB ?_)
   refine sp (.bool false) ?_
   refine qA (t_n (xE (t_r ?_)))
   refine ret1 (.bool false) rfl rfl ⟨_, rfl, ?_, H.base⟩
   rw [xB (fun h => by obtain ⟨h1, h2, h3, h4, h5, h6, h7, h8, h9, h10, h11⟩ := h; first | contradiction | omega | exact h3 ⟨‹_›, ‹_›⟩ | (obtain ⟨q1, q2, q3, q4, q5⟩ := h11 i (by omega); first | contradiction | omega | (have := q5 (by omega); omega)) | (refine absurd ?_ ‹¬ zZ _ _›; rcases (show k = 0 ∨ k = 1 ∨ k = 2 ∨ k = 3 ∨ k = 4 by omega) with e | e | e | e | e <;> subst e <;> assumption))]
  replace h11 := xh h11
  replace h11 := XB h11
  refine zi [21, 22, 23, 24, 25, 26, 27] ?_
  refine sps [.bool true, .bool true] ?_
  refine zi [30, 31, 32, 33] ?_
  refine sp (.bool true) ?_
  refine qA (t_n ?_)
  refine qX true rfl (fun _ => ?_) (fun h => absurd h (by decide))
  refine qo (qB ?_)
  refine sp (.bool false) ?_
  refine qA (t_n (xE (t_r ?_)))
  refine ret1 (.bool false) rfl rfl ⟨_, rfl, ?_, H.base⟩
  rw [xB (fun h => by obtain ⟨h1, h2, h3, h4, h5, h6, h7, h8, h9, h10, h11⟩ := h; first | contradiction | omega | exact h3 ⟨‹_›, ‹_›⟩ | (obtain ⟨q1, q2, q3, q4, q5⟩ := h11 i (by omega); first | contradiction | omega | (have := q5 (by omega); omega)) | (refine absurd ?_ ‹¬ zZ _ _›; rcases (show k = 0 ∨ k = 1 ∨ k = 2 ∨ k = 3 ∨ k = 4 by omega) with e | e | e | e | e <;> subst e <;> assumption))]
 replace h8 := xh h8
 replace h8 := XB h8
 refine zi [15, 16, 17, 18] ?_
 refine sps [.bool true, .bool true] ?_
 refine zi [21, 22, 23, 24, 25, 26, 27] ?_
 refine sps [.bool true, .bool true] ?_
 refine zi [30, 31, 32, 33] ?_
 refine sp (.bool true) ?_
 refine qA (t_n ?_)
 refine qX true rfl (fun _ => ?_) (fun h => absurd h (by decide))
 refine qo (qB ?_)
 refine sp (.bool false) ?_
 refine qA (t_n (xE (t_r ?_)))
 refine ret1 (.bool false) rfl rfl ⟨_, rfl, ?_, H.base⟩
 rw [xB (fun h => by obtain ⟨h1, h2, h3, h4, h5, h6, h7, h8, h9, h10, h11⟩ := h; first | contradiction | omega | exact h3 ⟨‹_›, ‹_›⟩ | (obtain ⟨q1, q2, q3, q4, q5⟩ := h11 i (by omega); first | contradiction | omega | (have := q5 (by omega); omega)) | (refine absurd ?_ ‹¬ zZ _ _›; rcases (show k = 0 ∨ k = 1 ∨ k = 2 ∨ k = 3 ∨ k = 4 by omega) with e | e | e | e | e <;> subst e <;> assumption))]

end Go.Proofs.Ytkmlihdacnfhdaa
