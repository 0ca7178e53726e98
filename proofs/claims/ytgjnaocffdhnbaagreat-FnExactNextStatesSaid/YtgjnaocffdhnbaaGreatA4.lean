/- Walks and laws, printed by program and by hand: what each function comes to, for all arguments, part 4. -/
import Derived.Test.YtgjnaocffdhnbaaGreatA3
namespace Go.Proofs.YtgjnaocffdhnbaaGreat
set_option linter.unusedVariables false
set_option linter.unusedSimpArgs false
open Go.Proofs.YtgjnaocffdhnbaaGreat.Tot (tot)
open Go.Proofs.YtgjnaocffdhnbaaGreat.Mark (cnt mrk mkd mkd_mark cnt_mark)
section
open Go.RowKit
set_option linter.unusedVariables false
set_option linter.unusedSimpArgs false
set_option maxRecDepth 100000
set_option maxHeartbeats 4000000
variable {qo qC jO jR jP jQ QR jv qN xh qG al am acounts : Option Addr} {qm qA jI jL jJ jK QQ jr qL qZ qF cl cm bs os bt ot ccounts : Nat} {qP xu VD VG VE VF FrOut FrInto xE zf xw Fl Fm Fcounts : List Nat}
theorem isShell_ok (w : World) (s : qy) (qU : qB.rep w qP [.slice qo s.qf.length qm] s.qf) (xx : qB.rep w xu [.slice qC s.qg.length qA] s.qg) : Calls Tryz.prog 138 #[.agg #[.int .i64 s.qJ, .slice qo s.qf.length qm, .slice qC s.qg.length qA]] w (Ret (fun v w' => v = .bool (dec (jg s))) w) := by
 refine en Tryz.func138 Tryz.ntmps138 ?_
 have H := ((St.start w).arg xx).arg qU
 have zJ := qx qU
 have vW := qx xx
 clear qU xx
 have N := Fresh.nil w.heap.size
 refine zcr (sw (zY H [.int .i64 s.qJ, .slice qo s.qf.length qm, .slice qC s.qg.length qA] fun b1 w2 H => sp (.bool false) (zjcc (oF rfl (oL rfl (H.cell 0 rfl rfl) (sw (oq (V4 w2 s.qJ 1 8) H fun w3 H => sps [.bool (!(inR s.qJ 1 8)), .bool (!(inR s.qJ 1 8))] ?_)))))))
 cases h5 : (!(inR s.qJ 1 8))
 ·skip
  replace h5 := qQ h5
  replace h5 := QZ.1 h5
  refine qH 9 rfl rfl (oF rfl (qH 9 rfl rfl (oL rfl (H.cell 0 rfl rfl) (qH 9 rfl rfl (sw (oq (sizeI_ok _ s.qf (H.get 0 rfl).1) H fun w6 H => qH 9 rfl rfl (sw (oq (V4 w6 (s.qf.length : Int) 1 6) H fun w8 H => qH 9 rfl rfl (sps [.bool (!(inR (s.qf.length : Int) 1 6)), .bool (!(inR (s.qf.length : Int) 1 6)), .bool (!(inR (s.qf.length : Int) 1 6))] ?_)))))))))
  cases h10 : (!(inR (s.qf.length : Int) 1 6))
  ·skip
   replace h10 := qQ h10
   replace h10 := QZ.1 h10
   refine qH 16 rfl rfl (oF rfl (qH 16 rfl rfl (oL rfl (H.cell 0 rfl rfl) (qH 16 rfl rfl ?_))))
   obtain ⟨b11, o12, rfl⟩ := H.addr 0 rfl (by omega)
   refine oI rfl rfl (qH 16 rfl rfl (oL rfl (H.jd 0 rfl 0 (by omega) (by omega)) (qH 16 rfl rfl (sps [.bool ((s.qf[0]! : Int) != (-1)), .bool ((s.qf[0]! : Int) != (-1))] (zjn (xn ((s.qf[0]! : Int) != (-1)) rfl (fun h14 => ?_) (fun h14 => ?_)))))))
   ·skip
    replace h14 := bne_iff_ne.1 h14
    refine zcr (sp (.bool false) (zjr (t_r (ret1 (.bool false) rfl rfl ⟨_, rfl, ?_, H.base⟩))))
    rw [qY (fun h => by obtain ⟨h1, h2, h3, h4⟩ := h; first | omega | (have := h4 (c + 1) (by omega) (by omega); rw [← dg (by omega)] at this; omega))]
   replace h14 := xf h14
   refine qK (t_n (zcc (oF rfl (oL rfl (H.cell 0 rfl rfl) (sw (o_tail H 0 rfl 1 Tryz.underlying22 ti2 rfl (by omega) fun a15 G16 hG17 H => ?_))))))
   have hl18 : (s.qf.drop 1).length = s.qf.length - 1 := List.length_drop
   refine oN rfl (sp (.int .i64 0) (zjn (qM ?_)))
   refine xQ (fun m' ρ w19 => ∃ (junk : Env) (c : Nat), ρ = upd (upd (upd junk 25 (.slice a15 ((s.qf.drop 1).length) (qm - 1))) 26 (.int .i64 ((s.qf.drop 1).length))) 27 (.int .i64 c) ∧ ((c : Int) ≤ ((s.qf.drop 1).length)) ∧ (FrameTo s (c + 1)) ∧ m' = (((s.qf.drop 1).length) - (c : Int)).toNat ∧ Fresh w.heap.size [] ∧ St w w19 [.box b1 [.int .i64 s.qJ, .slice (aa b11 o12) s.qf.length qm, .slice qC s.qg.length qA] 36] [sF false G16 a15 (qm - 1) (s.qf.drop 1), sF false qP (aa b11 o12) qm s.qf, sF false xu qC qA s.qg]) ((((s.qf.drop 1).length) - (0 : Int)).toNat) ⟨_, 0, uE3, (by omega), (by exact FrameTo.one s), rfl, N, H⟩ ?_
   clear H N
   rintro m' ρ w20 ⟨junk, c, rfl, i0, i1, rfl, N, H⟩
   have dg := drop_get (l := s.qf) (k := c)
   refine zcr (sp (.bool (decide ((c : Int) < ((s.qf.drop 1).length)))) (zjn (xC (cD rfl (fun h21 => ?_) (fun h21 => ?_)))))
   ·skip
    refine qK (t_n (xC (qM (zcr (sp (.int .i64 c) ?_)))))
    obtain ⟨b22, o23, rfl⟩ := H.addr 0 rfl (by omega)
    refine oI rfl rfl (oL rfl (H.jd 0 rfl c (by omega) (by omega)) (sps [.int .i64 c, .int .i64 ((s.qf.drop 1)[c]!)] (zjc (sps [.int .i64 ((s.qf.drop 1)[c]!), .int .i64 c] (sw (oq (V4 w20 ((s.qf.drop 1)[c]!) 0 c) H fun w25 H => sp (.bool (!(inR ((s.qf.drop 1)[c]!) 0 c))) (zjn (xn (!(inR ((s.qf.drop 1)[c]!) 0 c)) rfl (fun h27 => ?_) (fun h27 => ?_)))))))))
    ·skip
     replace h27 := qW h27
     replace h27 := XI h27
     refine zcr (sp (.bool false) (zjr (zr5 (ret1 (.bool false) rfl rfl ⟨_, rfl, ?_, H.base⟩))))
     rw [qY (fun h => by obtain ⟨h1, h2, h3, h4⟩ := h; first | omega | (have := h4 (c + 1) (by omega) (by omega); rw [← dg (by omega)] at this; omega))]
    replace h27 := qQ h27
    replace h27 := QZ.1 h27
    refine qK (b_n (t_n (xH (sw (xX c 1 rfl rfl (by omega) (sp (.int .i64 (c + 1)) (xG (qR (m' := (((s.qf.drop 1).length) - ((c + 1) : Int)).toNat) (by omega) ⟨_, c + 1, uE3, ?_, ?_, rfl, N, H⟩))))))))
    · omega
    · exact i1.succ (by rw [← dg (by omega)]; omega)
   refine zx4 (zcr (sp (.bool true) (zjr (ret1 (.bool true) rfl rfl ⟨_, rfl, ?_, H.base⟩))))
   rw [jF ⟨by omega, by omega, by omega, (show s.qf.length = c + 1 by omega) ▸ i1⟩]
  replace h10 := qW h10
  replace h10 := XI h10
  refine xJ [17, 18, 19, 20, 21] (sp (.bool true) (zjn (xn true rfl (fun _ => zcr (sp (.bool false) (zjr (t_r (ret1 (.bool false) rfl rfl ⟨_, rfl, ?_, H.base⟩))))) (fun h => absurd h (by decide)))))
  rw [qY (fun h => by obtain ⟨h1, h2, h3, h4⟩ := h; first | omega | (have := h4 (c + 1) (by omega) (by omega); rw [← dg (by omega)] at this; omega))]
 replace h5 := qW h5
 replace h5 := XI h5
 refine xJ [10, 11, 12, 13, 14] (sps [.bool true, .bool true] (xJ [17, 18, 19, 20, 21] (sp (.bool true) (zjn (xn true rfl (fun _ => zcr (sp (.bool false) (zjr (t_r (ret1 (.bool false) rfl rfl ⟨_, rfl, ?_, H.base⟩))))) (fun h => absurd h (by decide)))))))
 rw [qY (fun h => by obtain ⟨h1, h2, h3, h4⟩ := h; first | omega | (have := h4 (c + 1) (by omega) (by omega); rw [← dg (by omega)] at this; omega))]

theorem isCell_ok (w : World) (s : qy) (c : Int) (qU : qB.rep w qP [.slice qo s.qf.length qm] s.qf) (xx : qB.rep w xu [.slice qC s.qg.length qA] s.qg) : Calls Tryz.prog 173 #[.agg #[.int .i64 s.qJ, .slice qo s.qf.length qm, .slice qC s.qg.length qA], .int .i64 c] w (Ret (fun v w' => v = .bool (inR c 0 ((s.qf.length : Int) - 1))) w) := by
 refine en Tryz.func173 Tryz.ntmps173 ?_
 have H := ((St.start w).arg xx).arg qU
 have zJ := qx qU
 have vW := qx xx
 clear qU xx
 have N := Fresh.nil w.heap.size
 refine zcr (sw (zY H [.int .i64 s.qJ, .slice qo s.qf.length qm, .slice qC s.qg.length qA] fun b1 w2 H => sp (.bool false) (zjc (sp (.int .i64 c) (oF rfl (oL rfl (H.cell 0 rfl rfl) (sw (oq (sizeI_ok _ s.qf (H.get 0 rfl).1) H fun w3 H => sw (o_sub (s.qf.length : Int) 1 rfl rfl (by omega) (sw (oq (V4 w3 c 0 ((s.qf.length : Int) - 1)) H fun w5 H => sp (.bool (inR c 0 ((s.qf.length : Int) - 1))) (zjr (ret1 (.bool (inR c 0 ((s.qf.length : Int) - 1))) rfl rfl ⟨_, rfl, ?_, H.base⟩)))))))))))))
 rfl

theorem lies_ok (w : World) (s : qy) (c : Int) (within : Int) (qU : qB.rep w qP [.slice qo s.qf.length qm] s.qf) (xx : qB.rep w xu [.slice qC s.qg.length qA] s.qg) (p0 : jg s) (p1 : CellIn s c) : Calls Tryz.prog 174 #[.agg #[.int .i64 s.qJ, .slice qo s.qf.length qm, .slice qC s.qg.length qA], .int .i64 c, .int .i64 within] w (Ret (fun v w' => v = .bool (dec (Lies s.qf within c))) w) := by
 refine en Tryz.func174 Tryz.ntmps174 ?_
 have H := ((St.start w).arg xx).arg qU
 have zJ := qx qU
 have vW := qx xx
 clear qU xx
 have N := Fresh.nil w.heap.size
 have p2 := p0.step p1.1 p1.2
 refine zcr (sw (zY H [.int .i64 s.qJ, .slice qo s.qf.length qm, .slice qC s.qg.length qA] fun b1 w2 H => sp (.bool false) (zjcc (oF rfl (oL rfl (H.cell 0 rfl rfl) (sp (.int .i64 c) ?_))))))
 obtain ⟨b3, o4, rfl⟩ := H.addr 0 rfl (by omega)
 refine oI rfl rfl (oL rfl (H.jd 0 rfl c (by omega) (by omega)) (sp (.int .i64 (s.qf[c.toNat]!)) (zjn (qM ?_))))
 refine xQ (fun m' ρ w6 => ∃ (junk : Env) (c_1 : Int), ρ = upd (upd (upd junk 1 (.int .i64 c_1)) 2 (.int .i64 within)) 3 (pp b1 0) ∧ (-1 ≤ c_1 ∧ c_1 ≤ (s.qf.length : Int) - 1) ∧ (Lies s.qf within c ↔ 0 ≤ c_1 ∧ (c_1 = within ∨ Lies s.qf within c_1)) ∧ m' = (c_1 + 1).toNat ∧ Fresh w.heap.size [] ∧ St w w6 [.box b1 [.int .i64 s.qJ, .slice (aa b3 o4) s.qf.length qm, .slice qC s.qg.length qA] 36] [sF false qP (aa b3 o4) qm s.qf, sF false xu qC qA s.qg]) (((s.qf[c.toNat]!) + 1).toNat) ⟨_, s.qf[c.toNat]!, uE3, (by omega), (by exact lies_up p0 p1), rfl, N, H⟩ ?_
 clear H N
 rintro m' ρ w7 ⟨junk, c_1, rfl, i0, i1, rfl, N, H⟩
 have up := fun h => p0.step (c := c_1) h i0.2
 refine zcc (sps [.int .i64 c_1, .bool (decide ((c_1 : Int) ≥ 0))] (zjn (cD rfl (fun h8 => ?_) (fun h8 => ?_))))
 ·skip
  refine qK (t_n (xC (qM (zcr (sps [.int .i64 c_1, .int .i64 within, .bool ((c_1 : Int) == within)] (zjn (cE rfl (fun h9 => ?_) (fun h9 => ?_))))))))
  ·skip
   refine zcr (sp (.bool true) (zjr (zr5 (ret1 (.bool true) rfl rfl ⟨_, rfl, ?_, H.base⟩))))
   rw [jF (i1.2 ⟨by omega, .inl ‹_›⟩)]
  refine qK (b_n (t_n (xH (oF rfl (oL rfl (H.cell 0 rfl rfl) (sp (.int .i64 c_1) (oI rfl rfl (oL rfl (H.jd 0 rfl c_1 (by omega) (by omega)) (sp (.int .i64 (s.qf[c_1.toNat]!)) (xG ?_))))))))))
  have up1 := up (by omega)
  refine qR (m' := ((s.qf[c_1.toNat]!) + 1).toNat) (by omega) ⟨_, s.qf[c_1.toNat]!, uE3, ?_, ?_, rfl, N, H⟩
  · omega
  · exact i1.trans ⟨fun h => (lies_up p0 ⟨by omega, by omega⟩).1 (h.2.resolve_left ‹_›), fun h => ⟨by omega, .inr ((lies_up p0 ⟨by omega, by omega⟩).2 h)⟩⟩
 refine zx4 (zcr (sp (.bool false) (zjr (ret1 (.bool false) rfl rfl ⟨_, rfl, ?_, H.base⟩))))
 rw [qY (fun h => by have := (i1.1 h).1; omega)]

theorem isRule_ok (w : World) (s : qy) (r : Qr) (qU : qB.rep w qP [.slice qo s.qf.length qm] s.qf) (xx : qB.rep w xu [.slice qC s.qg.length qA] s.qg) (hrNeed : qB.rep w VD [.slice jO r.qV.length jI] r.qV) (hrHave : qB.rep w VG [.slice jR r.xg.length jL] r.xg) (hrLack : qB.rep w VE [.slice jP r.xm.length jJ] r.xm) (hrHere : qB.rep w VF [.slice jQ r.xq.length jK] r.xq) (hrOut : qB.rep w FrOut [.slice QR r.zq.length QQ] r.zq) (hrInto : qB.rep w FrInto [.slice jv r.qI.length jr] r.qI) (p0 : jg s) : Calls Tryz.prog 139 #[.agg #[.int .i64 s.qJ, .slice qo s.qf.length qm, .slice qC s.qg.length qA], .agg #[.int .i64 r.qp, .int .i64 r.zg, .slice jO r.qV.length jI, .slice jR r.xg.length jL, .slice jP r.xm.length jJ, .slice jQ r.xq.length jK, .slice QR r.zq.length QQ, .slice jv r.qI.length jr, .bool r.xO]] w (Ret (fun v w' => v = .bool (dec (RuleOk s r))) w) := by
 refine en Tryz.func139 Tryz.ntmps139 ?_
 have H := ((((((((St.start w).arg hrInto).arg hrOut).arg hrHere).arg hrLack).arg hrHave).arg hrNeed).arg xx).arg qU
 have zJ := qx qU
 have vW := qx xx
 have nhrNeed := qx hrNeed
 have nhrHave := qx hrHave
 have nhrLack := qx hrLack
 have nhrHere := qx hrHere
 have nhrOut := qx hrOut
 have nhrInto := qx hrInto
 clear qU xx hrNeed hrHave hrLack hrHere hrOut hrInto
 have N := Fresh.nil w.heap.size
 refine zcr (sw (zY H [.int .i64 s.qJ, .slice qo s.qf.length qm, .slice qC s.qg.length qA] fun b1 w2 H => sw (zY H [.int .i64 r.qp, .int .i64 r.zg, .slice jO r.qV.length jI, .slice jR r.xg.length jL, .slice jP r.xm.length jJ, .slice jQ r.xq.length jK, .slice QR r.zq.length QQ, .slice jv r.qI.length jr, .bool r.xO] fun b3 w4 H => sp (.bool false) (zjcc ?_))))
 refine sw (xU [.int .i64 s.qJ, .slice qo s.qf.length qm, .slice qC s.qg.length qA] Tryz.isAgg36 Tryz.sizeOf36 rfl (qw (H.cells 1 rfl) 0 3) (oF rfl (oL rfl (H.cell 0 rfl rfl) (sw (oq (isCell_ok _ s r.qp (H.get 0 rfl).1 (H.get 1 rfl).1) H fun w6 H => sps [.bool (!(inR r.qp 0 ((s.qf.length : Int) - 1))), .bool (!(inR r.qp 0 ((s.qf.length : Int) - 1)))] ?_)))))
 cases h8 : (!(inR r.qp 0 ((s.qf.length : Int) - 1)))
 ·skip
  replace h8 := qQ h8
  replace h8 := QZ.1 h8
  refine qH 14 rfl rfl (oF rfl (qH 14 rfl rfl (oL rfl (H.cell 0 rfl rfl) (qH 14 rfl rfl (sw (oq (V4 w6 r.zg 0 9) H fun w9 H => qH 14 rfl rfl (sps [.bool (!(inR r.zg 0 9)), .bool (!(inR r.zg 0 9)), .bool (!(inR r.zg 0 9))] ?_)))))))
  cases h11 : (!(inR r.zg 0 9))
  ·skip
   replace h11 := qQ h11
   replace h11 := QZ.1 h11
   refine qH 20 rfl rfl (oF rfl (qH 20 rfl rfl (oL rfl (H.cell 0 rfl rfl) (qH 20 rfl rfl (sp (.bool r.xO) ?_)))))
   cases h12 : (r.xO)
   ·skip
    rw [h12] at H
    refine xJ [24, 25, 26] (qH 20 rfl rfl (sps [.bool false, .bool false, .bool false] (qH 29 rfl rfl (oF rfl (qH 29 rfl rfl (oL rfl (H.cell 0 rfl rfl) (qH 29 rfl rfl (oN rfl (qH 29 rfl rfl (sps [.bool (decide ((r.qI.length : Int) > 3)), .bool (decide ((r.qI.length : Int) > 3))] (zjn (cD rfl (fun h13 => ?_) (fun h13 => ?_)))))))))))))
    ·skip
     refine zcr (sp (.bool false) (zjr (t_r (ret1 (.bool false) rfl rfl ⟨_, rfl, ?_, H.base⟩))))
     rw [qY (fun h => by obtain ⟨h1, h2, h3, h4, h5, h6, h7, h8, h9, h10, h11⟩ := h; first | contradiction | omega | exact h3 ⟨‹_›, ‹_›⟩ | (obtain ⟨q1, q2, q3, q4, q5⟩ := h11 i (by omega); first | contradiction | omega | (have := q5 (by omega); omega)) | (refine absurd ?_ ‹¬ zB _ _›; rcases (show k = 0 ∨ k = 1 ∨ k = 2 ∨ k = 3 ∨ k = 4 by omega) with e | e | e | e | e <;> subst e <;> assumption))]
    refine qK (t_n (zcc (oF rfl (oL rfl (H.cell 0 rfl rfl) (oF rfl (oL rfl (H.cell 0 rfl rfl) (oF rfl (oL rfl (H.cell 0 rfl rfl) (oF rfl (oL rfl (H.cell 0 rfl rfl) (oF rfl (oL rfl (H.cell 0 rfl rfl) (sw (o_buildF H Tryz.underlying27 ti22 [.slice jO r.qV.length jI, .slice jR r.xg.length jL, .slice jP r.xm.length jJ, .slice jQ r.xq.length jK, .slice QR r.zq.length QQ] rfl (by simp [Value.cells]) rfl (by decide) (by decide) fun b14 w15 H => oN rfl (sp (.int .i64 0) (zjn (qM ?_)))))))))))))))))
    replace H := H.boxRow 0 rfl 1 5 rfl (by decide)
    replace H := H.vw (α := List Int)
    replace H := H.VK false 7 rfl 0 rfl (by simp)
    replace H := H.VK false 7 rfl 0 rfl (by simp)
    replace H := H.VK false 7 rfl 0 rfl (by simp)
    replace H := H.VK false 7 rfl 0 rfl (by simp)
    replace H := H.VK false 7 rfl 0 rfl (by simp)
    refine xQ (fun m' ρ w16 => ∃ (junk : Env) (k : Nat), ρ = upd (upd (upd (upd (upd junk 2 (pp b1 0)) 3 (pp b3 0)) 45 (.slice (aa b14 0) 5 5)) 46 (.int .i64 5)) 47 (.int .i64 k) ∧ ((k : Int) ≤ 5) ∧ (∀ j, j < k → zB s.qJ ([r.qV, r.xg, r.xm, r.xq, r.zq][j]!)) ∧ m' = (5 - (k : Int)).toNat ∧ Fresh w.heap.size [] ∧ St w w16 [rr (aa b14 0) 5 5 22 1 [.slice jO r.qV.length jI, .slice jR r.xg.length jL, .slice jP r.xm.length jJ, .slice jQ r.xq.length jK, .slice QR r.zq.length QQ], .box b3 [.int .i64 r.qp, .int .i64 r.zg, .slice jO r.qV.length jI, .slice jR r.xg.length jL, .slice jP r.xm.length jJ, .slice jQ r.xq.length jK, .slice QR r.zq.length QQ, .slice jv r.qI.length jr, .bool false] 121, .box b1 [.int .i64 s.qJ, .slice qo s.qf.length qm, .slice qC s.qg.length qA] 36] [xN false (VD ++ (VG ++ (VE ++ (VF ++ (FrOut ++ []))))) [.slice jO r.qV.length jI, .slice jR r.xg.length jL, .slice jP r.xm.length jJ, .slice jQ r.xq.length jK, .slice QR r.zq.length QQ] [r.qV, r.xg, r.xm, r.xq, r.zq], sF false qP qo qm s.qf, sF false xu qC qA s.qg, sF false VD jO jI r.qV, sF false VG jR jL r.xg, sF false VE jP jJ r.xm, sF false VF jQ jK r.xq, sF false FrOut QR QQ r.zq, sF false FrInto jv jr r.qI]) ((5 - (0 : Int)).toNat) ⟨_, 0, uE5, (by omega), (by intro j hj; omega), rfl, N, H.pick [0, 1, 2] [0, 6, 7, 8, 9, 10, 11, 12, 13]⟩ ?_
    clear H N
    rintro m' ρ w17 ⟨junk, k, rfl, i0, i1, rfl, N, H⟩
    refine zcr (sp (.bool (decide ((k : Int) < 5))) (zjn (xC (cD rfl (fun h18 => ?_) (fun h18 => ?_)))))
    ·skip
     refine qK (t_n (xC (qM (zcr (oI rfl rfl ?_)))))
     obtain ⟨a19, c20, G21, s22, h23, H⟩ := H.jo 0 rfl 0 rfl (iv := k) k (by omega) (by omega)
     refine oL rfl (h23) (sp (.slice a19 (([r.qV, r.xg, r.xm, r.xq, r.zq][k]!).length) c20) (zjc (oF rfl (oL rfl (H.cell 2 rfl rfl) (sp (.slice a19 (([r.qV, r.xg, r.xm, r.xq, r.zq][k]!).length) c20) (sw (oq (VP _ s.qJ ([r.qV, r.xg, r.xm, r.xq, r.zq][k]!) (H.get 0 rfl).1) H fun w24 H => sp (.bool (!(dec (zB s.qJ ([r.qV, r.xg, r.xm, r.xq, r.zq][k]!))))) (zjn (cQ rfl (fun h26 => ?_) (fun h26 => ?_))))))))))
     ·skip
      refine zcr (sp (.bool false) (zjr (zr5 (ret1 (.bool false) rfl rfl ⟨_, rfl, ?_, H.base⟩))))
      rw [qY (fun h => by obtain ⟨h1, h2, h3, h4, h5, h6, h7, h8, h9, h10, h11⟩ := h; first | contradiction | omega | exact h3 ⟨‹_›, ‹_›⟩ | (obtain ⟨q1, q2, q3, q4, q5⟩ := h11 i (by omega); first | contradiction | omega | (have := q5 (by omega); omega)) | (refine absurd ?_ ‹¬ zB _ _›; rcases (show k = 0 ∨ k = 1 ∨ k = 2 ∨ k = 3 ∨ k = 4 by omega) with e | e | e | e | e <;> subst e <;> assumption))]
     refine qK (b_n (t_n (xH (sw (xX k 1 rfl rfl (by omega) (sp (.int .i64 (k + 1)) (xG (qR (m' := (5 - ((k + 1) : Int)).toNat) (by omega) ⟨_, k + 1, uE5, ?_, ?_, rfl, N, H.pick [0, 1, 2] [1, 2, 3, 4, 5, 6, 7, 8, 9]⟩))))))))
     · omega
     · intro j hj; by_cases e : j = k; (subst e; assumption); exact i1 j (by omega)
    refine zx4 (zcc (oF rfl (oL rfl (H.cell 1 rfl rfl) (oN rfl (sp (.int .i64 0) (zjn (qM ?_)))))))
    have n1 : zB s.qJ r.qV := i1 0 (by omega)
    have n2 : zB s.qJ r.xg := i1 1 (by omega)
    have n3 : zB s.qJ r.xm := i1 2 (by omega)
    have n4 : zB s.qJ r.xq := i1 3 (by omega)
    have n5 : zB s.qJ r.zq := i1 4 (by omega)
    refine xQ (fun m' ρ w27 => ∃ (junk : Env) (i : Nat), ρ = upd (upd (upd (upd (upd junk 2 (pp b1 0)) 3 (pp b3 0)) 58 (.slice jv r.qI.length jr)) 59 (.int .i64 r.qI.length)) 60 (.int .i64 i) ∧ ((i : Int) ≤ r.qI.length) ∧ (IntosTo s r i) ∧ m' = (r.qI.length - (i : Int)).toNat ∧ Fresh w.heap.size [] ∧ St w w27 [rr (aa b14 0) 5 5 22 1 [.slice jO r.qV.length jI, .slice jR r.xg.length jL, .slice jP r.xm.length jJ, .slice jQ r.xq.length jK, .slice QR r.zq.length QQ], .box b3 [.int .i64 r.qp, .int .i64 r.zg, .slice jO r.qV.length jI, .slice jR r.xg.length jL, .slice jP r.xm.length jJ, .slice jQ r.xq.length jK, .slice QR r.zq.length QQ, .slice jv r.qI.length jr, .bool false] 121, .box b1 [.int .i64 s.qJ, .slice qo s.qf.length qm, .slice qC s.qg.length qA] 36] [xN false (VD ++ (VG ++ (VE ++ (VF ++ (FrOut ++ []))))) [.slice jO r.qV.length jI, .slice jR r.xg.length jL, .slice jP r.xm.length jJ, .slice jQ r.xq.length jK, .slice QR r.zq.length QQ] [r.qV, r.xg, r.xm, r.xq, r.zq], sF false qP qo qm s.qf, sF false xu qC qA s.qg, sF false VD jO jI r.qV, sF false VG jR jL r.xg, sF false VE jP jJ r.xm, sF false VF jQ jK r.xq, sF false FrOut QR QQ r.zq, sF false FrInto jv jr r.qI]) ((r.qI.length - (0 : Int)).toNat) ⟨_, 0, uE5, (by omega), (by exact fun j hj => by omega), rfl, N, H⟩ ?_
    clear H N
    rintro m' ρ w28 ⟨junk, i, rfl, i0, i2, rfl, N, H⟩
    refine zcr (sp (.bool (decide ((i : Int) < r.qI.length))) (zjn (xC (cD rfl (fun h29 => ?_) (fun h29 => ?_)))))
    ·skip
     refine qK (t_n (xC (qM (zcr (sp (.int .i64 i) ?_)))))
     obtain ⟨b30, o31, rfl⟩ := H.addr 8 rfl (by omega)
     obtain ⟨ae33Bag, ce33Bag, Fe33Bag, H⟩ := H.jh 8 rfl i i (by omega) (by omega) (by omega)
     refine oI rfl rfl (sw (xU [.int .i64 ((r.qI[i]!).qp), .slice ae33Bag (((r.qI[i]!).vS).length) ce33Bag] Tryz.isAgg164 Tryz.sizeOf164 rfl (qw (H.get 1 rfl) 0 2) (sw (xM H ti164 [.int .i64 0, .slice none 0 0] fun b34 w35 H => sp (.int .i64 i) (sw (zF H 0 [.int .i64 ((r.qI[i]!).qp), .slice ae33Bag (((r.qI[i]!).vS).length) ce33Bag] Tryz.sizeOf164 fun w36 H => zjn (xC ?_)))))))
     refine vH rfl H fun H => rt 0 (.agg #[.int .i64 s.qJ, .slice qo s.qf.length qm, .slice qC s.qg.length qA]) (Qm (cs := [.int .i64 s.qJ, .slice qo s.qf.length qm, .slice qC s.qg.length qA]) Tryz.isAgg36 Tryz.sizeOf36 rfl (fun _ h => qw (h.cells 3 rfl) 0 3)) H ?_
     refine tF 1 rfl rfl H ?_
     refine tL 2 rfl rfl (fun _ h => h.cell 0 rfl rfl) H ?_
     refine ro 3 rfl (oq (isCell_ok _ s ((r.qI[i]!).qp) (H.get 3 rfl).1 (H.get 4 rfl).1) H fun w39 H => ⟨H, (rtp 4 (.bool (!(inR ((r.qI[i]!).qp) 0 ((s.qf.length : Int) - 1)))) H ?_)⟩)
     refine rtp 5 (.bool (!(inR ((r.qI[i]!).qp) 0 ((s.qf.length : Int) - 1)))) H ?_
     cases h41 : (!(inR ((r.qI[i]!).qp) 0 ((s.qf.length : Int) - 1)))
     ·skip
      replace h41 := qQ h41
      replace h41 := QZ.1 h41
      refine rg 6 (.agg #[.int .i64 s.qJ, .slice qo s.qf.length qm, .slice qC s.qg.length qA]) 70 (Qm (cs := [.int .i64 s.qJ, .slice qo s.qf.length qm, .slice qC s.qg.length qA]) Tryz.isAgg36 Tryz.sizeOf36 rfl (fun _ h => qw (h.cells 3 rfl) 0 3)) H ?_
      refine gF 7 rfl rfl H ?_
      refine gL 8 rfl rfl (fun _ h => h.cell 0 rfl rfl) H ?_
      refine gF 9 rfl rfl H ?_
      refine gL 10 rfl rfl (fun _ h => h.cell 2 rfl rfl) H ?_
      refine vT [11] (by kernel_rfl) (by simp) (r_opG rfl (e := 70) rfl rfl (oq (lies_ok _ s ((r.qI[i]!).qp) r.qp (H.get 3 rfl).1 (H.get 4 rfl).1 (by first | assumption | omega) (by first | assumption | omega)) H fun w43 H => ⟨H, (rgp 12 (.bool (!(dec (Lies s.qf r.qp ((r.qI[i]!).qp))))) 70 H ?_)⟩) vU)
      refine rtp 13 (.bool (!(dec (Lies s.qf r.qp ((r.qI[i]!).qp))))) H ?_
      refine rtp 14 (.bool (!(dec (Lies s.qf r.qp ((r.qI[i]!).qp))))) H ?_
      cases h45 : (!(dec (Lies s.qf r.qp ((r.qI[i]!).qp))))
      ·skip
       replace h45 := qQ h45
       replace h45 := yU h45
       refine gF 15 rfl rfl H ?_
       refine gL 16 rfl rfl (fun _ h => h.cell 3 rfl rfl) H ?_
       refine gF 17 rfl rfl H ?_
       refine gL 18 rfl rfl (fun _ h => h.cell 0 rfl rfl) H ?_
       refine vT [19] (by kernel_rfl) (by simp) (r_opG rfl (e := 79) rfl rfl (oq (VP _ s.qJ ((r.qI[i]!).vS) (H.get 0 rfl).1) H fun w46 H => ⟨H, (rgp 20 (.bool (!(dec (zB s.qJ ((r.qI[i]!).vS))))) 79 H ?_)⟩) vU)
       refine rtp 21 (.bool (!(dec (zB s.qJ ((r.qI[i]!).vS))))) H ?_
       refine rtp 22 (.bool (!(dec (zB s.qJ ((r.qI[i]!).vS))))) H ?_
       cases h48 : (!(dec (zB s.qJ ((r.qI[i]!).vS))))
       ·skip
        replace h48 := qQ h48
        replace h48 := yU h48
        refine gF 23 rfl rfl H ?_
        refine gL 24 rfl rfl (fun _ h => h.cell 0 rfl rfl) H ?_
        refine vT [25] (by kernel_rfl) (by simp) (r_opG rfl (e := 87) rfl rfl ?_ vU)
        have sm : Small ((r.qI[i]!).vS) := zL (by first | assumption | exact i1 0 (by omega))
        refine oq (XW _ ((r.qI[i]!).vS) (H.get 0 rfl).1 (by first | assumption | exact zL (by assumption) | exact yD (by assumption))) H fun w49 H => ⟨H, (rgp 26 (.bool ((X4 ((r.qI[i]!).vS) : Int) == 0)) 87 H ?_)⟩
        refine rtp 27 (.bool ((X4 ((r.qI[i]!).vS) : Int) == 0)) H ?_
        refine rtp 28 (.bool ((X4 ((r.qI[i]!).vS) : Int) == 0)) H ?_
        cases h51 : ((X4 ((r.qI[i]!).vS) : Int) == 0)
        ·skip
         replace h51 := ne_of_beq_false h51
         refine rgp 29 (.int .i64 i) 93 H ?_
         refine rgp 30 (.bool (decide ((i : Int) > 0))) 93 H ?_
         refine rgp 31 (.bool (decide ((i : Int) > 0))) 93 H ?_
         cases h52 : (decide ((i : Int) > 0))
         ·skip
          replace h52 := of_decide_eq_false h52
          refine zo [32, 33, 34, 35, 36, 37, 38, 39, 40, 41] 10 (H) (rgp 42 (.bool false) 93 H ?_)
          refine rtp 43 (.bool false) H ?_
          refine xy (by kernel_rfl) (t_n (xn false rfl (fun h => absurd h (by decide)) (fun _ => qK (b_n (t_n (xH (sw (xX i 1 rfl rfl (by omega) (sp (.int .i64 (i + 1)) (xG (qR (m' := (r.qI.length - ((i + 1) : Int)).toNat) (by omega) ⟨_, i + 1, uE5, ?_, ?_, rfl, N, H.pick [1, 2, 3] [2, 3, 4, 5, 6, 7, 8, 9, 10]⟩)))))))))))
          · omega
          · exact i2.succ ⟨‹_›, ‹_›, ‹_›, ‹_›, fun hk => by omega⟩
         replace h52 := of_decide_eq_true h52
         refine gF 32 rfl rfl H ?_
         refine gL 33 rfl rfl (fun _ h => h.cell 0 rfl rfl) H ?_
         refine gF 34 rfl rfl H ?_
         refine gL 35 rfl rfl (fun _ h => h.cell 2 rfl rfl) H ?_
         refine rgp 36 (.int .i64 i) 96 H ?_
         refine rg 37 (.int .i64 (i - 1)) 96 (y_sub i 1 rfl rfl (by omega)) H ?_
         obtain ⟨ae53Bag, ce53Bag, Fe53Bag, H⟩ := H.jh 10 rfl (i - 1) (i - 1) (by omega) (by omega) (by omega)
         have S := H.jZ [0, 1, 2, 3] [2, 3, 4, 5, 6, 7, 8, 9, 10, 11, 12]
         refine gI 38 rfl rfl rfl S ?_
         refine gF 39 rfl rfl S ?_
         refine vT [40] (by kernel_rfl) (by simp) (r_opG rfl (e := 96) rfl rfl (zl (.int .i64 ((r.qI[i - 1]!).qp)) Tryz.isAgg2 rfl (H.xB 1 rfl 0 rfl) (⟨H.pick [0, 1, 2, 3] [2, 3, 4, 5, 6, 7, 8, 9, 10, 11, 12], ?_⟩)) vU)
         have S := H.jZ [0, 1, 2, 3] [2, 3, 4, 5, 6, 7, 8, 9, 10, 11, 12]
         refine rgp 41 (.bool (decide (((r.qI[i]!).qp : Int) ≤ ((r.qI[i - 1]!).qp)))) 96 S ?_
         refine rgp 42 (.bool (decide (((r.qI[i]!).qp : Int) ≤ ((r.qI[i - 1]!).qp)))) 93 S ?_
         refine rtp 43 (.bool (decide (((r.qI[i]!).qp : Int) ≤ ((r.qI[i - 1]!).qp)))) S ?_
         refine xy (by kernel_rfl) (t_n (cD rfl (fun h54 => ?_) (fun h54 => ?_)))
         ·skip
          refine zcr (sp (.bool false) (zjr (zr5 (ret1 (.bool false) rfl rfl ⟨_, rfl, ?_, H.base⟩))))
          rw [qY (fun h => by obtain ⟨h1, h2, h3, h4, h5, h6, h7, h8, h9, h10, h11⟩ := h; first | contradiction | omega | exact h3 ⟨‹_›, ‹_›⟩ | (obtain ⟨q1, q2, q3, q4, q5⟩ := h11 i (by omega); first | contradiction | omega | (have := q5 (by omega); omega)) | (refine absurd ?_ ‹¬ zB _ _›; rcases (show k = 0 ∨ k = 1 ∨ k = 2 ∨ k = 3 ∨ k = 4 by omega) with e | e | e | e | e <;> subst e <;> assumption))]
         refine qK (b_n (t_n (xH (sw (xX i 1 rfl rfl (by omega) (sp (.int .i64 (i + 1)) (xG (qR (m' := (r.qI.length - ((i + 1) : Int)).toNat) (by omega) ⟨_, i + 1, uE5, ?_, ?_, rfl, N, H.pick [1, 2, 3] [4, 5, 6, 7, 8, 9, 10, 11, 12]⟩))))))))
         · omega
         · exact i2.succ ⟨‹_›, ‹_›, ‹_›, ‹_›, fun hk => by omega⟩
        replace h51 := eq_of_beq h51
        refine zo [29, 30, 31, 32, 33, 34, 35, 36, 37, 38, 39, 40, 41, 42] 14 (H) (rtp 43 (.bool true) H ?_)
        refine xy (by kernel_rfl) (t_n (xn true rfl (fun _ => zcr (sp (.bool false) (zjr (zr5 (ret1 (.bool false) rfl rfl ⟨_, rfl, ?_, H.base⟩))))) (fun h => absurd h (by decide))))
        rw [qY (fun h => by obtain ⟨h1, h2, h3, h4, h5, h6, h7, h8, h9, h10, h11⟩ := h; first | contradiction | omega | exact h3 ⟨‹_›, ‹_›⟩ | (obtain ⟨q1, q2, q3, q4, q5⟩ := h11 i (by omega); first | contradiction | omega | (have := q5 (by omega); omega)) | (refine absurd ?_ ‹¬ zB _ _›; rcases (show k = 0 ∨ k = 1 ∨ k = 2 ∨ k = 3 ∨ k = 4 by omega) with e | e | e | e | e <;> subst e <;> assumption))]
       replace h48 := qW h48
       replace h48 := zA h48
       refine zo [23, 24, 25, 26] 4 (H) (rtp 27 (.bool true) H ?_)
       refine rtp 28 (.bool true) H ?_
       refine zo [29, 30, 31, 32, 33, 34, 35, 36, 37, 38, 39, 40, 41, 42] 14 (H) (rtp 43 (.bool true) H ?_)
       refine xy (by kernel_rfl) (t_n (xn true rfl (fun _ => zcr (sp (.bool false) (zjr (zr5 (ret1 (.bool false) rfl rfl ⟨_, rfl, ?_, H.base⟩))))) (fun h => absurd h (by decide))))
       rw [qY (fun h => by obtain ⟨h1, h2, h3, h4, h5, h6, h7, h8, h9, h10, h11⟩ := h; first | contradiction | omega | exact h3 ⟨‹_›, ‹_›⟩ | (obtain ⟨q1, q2, q3, q4, q5⟩ := h11 i (by omega); first | contradiction | omega | (have := q5 (by omega); omega)) | (refine absurd ?_ ‹¬ zB _ _›; rcases (show k = 0 ∨ k = 1 ∨ k = 2 ∨ k = 3 ∨ k = 4 by omega) with e | e | e | e | e <;> subst e <;> assumption))]
      replace h45 := qW h45
      replace h45 := zA h45
      refine zo [15, 16, 17, 18, 19, 20] 6 (H) (rtp 21 (.bool true) H ?_)
      refine rtp 22 (.bool true) H ?_
      refine zo [23, 24, 25, 26] 4 (H) (rtp 27 (.bool true) H ?_)
      refine rtp 28 (.bool true) H ?_
      refine zo [29, 30, 31, 32, 33, 34, 35, 36, 37, 38, 39, 40, 41, 42] 14 (H) (rtp 43 (.bool true) H ?_)
      refine xy (by kernel_rfl) (t_n (xn true rfl (fun _ => zcr (sp (.bool false) (zjr (zr5 (ret1 (.bool false) rfl rfl ⟨_, rfl, ?_, H.base⟩))))) (fun h => absurd h (by decide))))
      rw [qY (fun h => by obtain ⟨h1, h2, h3, h4, h5, h6, h7, h8, h9, h10, h11⟩ := h; first | contradiction | omega | exact h3 ⟨‹_›, ‹_›⟩ | (obtain ⟨q1, q2, q3, q4, q5⟩ := h11 i (by omega); first | contradiction | omega | (have := q5 (by omega); omega)) | (refine absurd ?_ ‹¬ zB _ _›; rcases (show k = 0 ∨ k = 1 ∨ k = 2 ∨ k = 3 ∨ k = 4 by omega) with e | e | e | e | e <;> subst e <;> assumption))]
     replace h41 := qW h41
     replace h41 := XI h41
     refine zo [6, 7, 8, 9, 10, 11, 12] 7 (H) (rtp 13 (.bool true) H ?_)
     refine rtp 14 (.bool true) H ?_
     refine zo [15, 16, 17, 18, 19, 20] 6 (H) (rtp 21 (.bool true) H ?_)
     refine rtp 22 (.bool true) H ?_
     refine zo [23, 24, 25, 26] 4 (H) (rtp 27 (.bool true) H ?_)
     refine rtp 28 (.bool true) H ?_
     refine zo [29, 30, 31, 32, 33, 34, 35, 36, 37, 38, 39, 40, 41, 42] 14 (H) (rtp 43 (.bool true) H ?_)
     refine xy (by kernel_rfl) (t_n (xn true rfl (fun _ => zcr (sp (.bool false) (zjr (zr5 (ret1 (.bool false) rfl rfl ⟨_, rfl, ?_, H.base⟩))))) (fun h => absurd h (by decide))))
     rw [qY (fun h => by obtain ⟨h1, h2, h3, h4, h5, h6, h7, h8, h9, h10, h11⟩ := h; first | contradiction | omega | exact h3 ⟨‹_›, ‹_›⟩ | (obtain ⟨q1, q2, q3, q4, q5⟩ := h11 i (by omega); first | contradiction | omega | (have := q5 (by omega); omega)) | (refine absurd ?_ ‹¬ zB _ _›; rcases (show k = 0 ∨ k = 1 ∨ k = 2 ∨ k = 3 ∨ k = 4 by omega) with e | e | e | e | e <;> subst e <;> assumption))]
    refine zx4 (zcr (oF rfl (oL rfl (H.cell 1 rfl rfl) ?_)))
    have sm : Small r.qV := zL (by first | assumption | exact i1 0 (by omega))
    refine sw (oq (XW _ r.qV (H.get 3 rfl).1 (by first | assumption | exact zL (by assumption) | exact yD (by assumption))) H fun w55 H => sps [.bool (decide ((X4 r.qV : Int) > 0)), .bool (decide ((X4 r.qV : Int) > 0))] (zjr (ret1 (.bool (decide ((X4 r.qV : Int) > 0))) rfl rfl ⟨_, rfl, (congrArg Value.bool (dec_eq ?_)), H.base⟩)))
    rw [decide_eq_true_iff]
    exact ⟨fun h => ⟨by omega, by omega, by simp_all, by omega, n1, n2, n3, n4, n5, by omega, (show i = r.qI.length by omega) ▸ i2⟩, fun h => by have := h.2.2.2.2.2.2.2.2.2.1; have := sum_nonneg n1.1; omega⟩
   rw [h12] at H
   refine qH 23 rfl rfl (oF rfl (qH 23 rfl rfl (oL rfl (H.cell 0 rfl rfl) (qH 23 rfl rfl (sp (.bool ((r.qp : Int) == 0)) (qH 20 rfl rfl (sps [.bool ((r.qp : Int) == 0), .bool ((r.qp : Int) == 0), .bool ((r.qp : Int) == 0)] ?_)))))))
   cases h57 : ((r.qp : Int) == 0)
   ·skip
    replace h57 := ne_of_beq_false h57
    refine qH 29 rfl rfl (oF rfl (qH 29 rfl rfl (oL rfl (H.cell 0 rfl rfl) (qH 29 rfl rfl (oN rfl (qH 29 rfl rfl (sps [.bool (decide ((r.qI.length : Int) > 3)), .bool (decide ((r.qI.length : Int) > 3))] (zjn (cD rfl (fun h58 => ?_) (fun h58 => ?_))))))))))
    ·skip
     refine zcr (sp (.bool false) (zjr (t_r (ret1 (.bool false) rfl rfl ⟨_, rfl, ?_, H.base⟩))))
     rw [qY (fun h => by obtain ⟨h1, h2, h3, h4, h5, h6, h7, h8, h9, h10, h11⟩ := h; first | contradiction | omega | exact h3 ⟨‹_›, ‹_›⟩ | (obtain ⟨q1, q2, q3, q4, q5⟩ := h11 i (by omega); first | contradiction | omega | (have := q5 (by omega); omega)) | (refine absurd ?_ ‹¬ zB _ _›; rcases (show k = 0 ∨ k = 1 ∨ k = 2 ∨ k = 3 ∨ k = 4 by omega) with e | e | e | e | e <;> subst e <;> assumption))]
    refine qK (t_n (zcc (oF rfl (oL rfl (H.cell 0 rfl rfl) (oF rfl (oL rfl (H.cell 0 rfl rfl) (oF rfl (oL rfl (H.cell 0 rfl rfl) (oF rfl (oL rfl (H.cell 0 rfl rfl) (oF rfl (oL rfl (H.cell 0 rfl rfl) (sw (o_buildF H Tryz.underlying27 ti22 [.slice jO r.qV.length jI, .slice jR r.xg.length jL, .slice jP r.xm.length jJ, .slice jQ r.xq.length jK, .slice QR r.zq.length QQ] rfl (by simp [Value.cells]) rfl (by decide) (by decide) fun b59 w60 H => oN rfl (sp (.int .i64 0) (zjn (qM ?_)))))))))))))))))
    replace H := H.boxRow 0 rfl 1 5 rfl (by decide)
    replace H := H.vw (α := List Int)
    replace H := H.VK false 7 rfl 0 rfl (by simp)
    replace H := H.VK false 7 rfl 0 rfl (by simp)
    replace H := H.VK false 7 rfl 0 rfl (by simp)
    replace H := H.VK false 7 rfl 0 rfl (by simp)
    replace H := H.VK false 7 rfl 0 rfl (by simp)
    refine xQ (fun m' ρ w61 => ∃ (junk : Env) (k : Nat), ρ = upd (upd (upd (upd (upd junk 2 (pp b1 0)) 3 (pp b3 0)) 45 (.slice (aa b59 0) 5 5)) 46 (.int .i64 5)) 47 (.int .i64 k) ∧ ((k : Int) ≤ 5) ∧ (∀ j, j < k → zB s.qJ ([r.qV, r.xg, r.xm, r.xq, r.zq][j]!)) ∧ m' = (5 - (k : Int)).toNat ∧ Fresh w.heap.size [] ∧ St w w61 [rr (aa b59 0) 5 5 22 1 [.slice jO r.qV.length jI, .slice jR r.xg.length jL, .slice jP r.xm.length jJ, .slice jQ r.xq.length jK, .slice QR r.zq.length QQ], .box b3 [.int .i64 r.qp, .int .i64 r.zg, .slice jO r.qV.length jI, .slice jR r.xg.length jL, .slice jP r.xm.length jJ, .slice jQ r.xq.length jK, .slice QR r.zq.length QQ, .slice jv r.qI.length jr, .bool true] 121, .box b1 [.int .i64 s.qJ, .slice qo s.qf.length qm, .slice qC s.qg.length qA] 36] [xN false (VD ++ (VG ++ (VE ++ (VF ++ (FrOut ++ []))))) [.slice jO r.qV.length jI, .slice jR r.xg.length jL, .slice jP r.xm.length jJ, .slice jQ r.xq.length jK, .slice QR r.zq.length QQ] [r.qV, r.xg, r.xm, r.xq, r.zq], sF false qP qo qm s.qf, sF false xu qC qA s.qg, sF false VD jO jI r.qV, sF false VG jR jL r.xg, sF false VE jP jJ r.xm, sF false VF jQ jK r.xq, sF false FrOut QR QQ r.zq, sF false FrInto jv jr r.qI]) ((5 - (0 : Int)).toNat) ⟨_, 0, uE5, (by omega), (by intro j hj; omega), rfl, N, H.pick [0, 1, 2] [0, 6, 7, 8, 9, 10, 11, 12, 13]⟩ ?_
    clear H N
    rintro m' ρ w62 ⟨junk, k, rfl, i0, i1, rfl, N, H⟩
    refine zcr (sp (.bool (decide ((k : Int) < 5))) (zjn (xC (cD rfl (fun h63 => ?_) (fun h63 => ?_)))))
    ·skip
     refine qK (t_n (xC (qM (zcr (oI rfl rfl ?_)))))
     obtain ⟨a64, c65, G66, s67, h68, H⟩ := H.jo 0 rfl 0 rfl (iv := k) k (by omega) (by omega)
     refine oL rfl (h68) (sp (.slice a64 (([r.qV, r.xg, r.xm, r.xq, r.zq][k]!).length) c65) (zjc (oF rfl (oL rfl (H.cell 2 rfl rfl) (sp (.slice a64 (([r.qV, r.xg, r.xm, r.xq, r.zq][k]!).length) c65) (sw (oq (VP _ s.qJ ([r.qV, r.xg, r.xm, r.xq, r.zq][k]!) (H.get 0 rfl).1) H fun w69 H => sp (.bool (!(dec (zB s.qJ ([r.qV, r.xg, r.xm, r.xq, r.zq][k]!))))) (zjn (cQ rfl (fun h71 => ?_) (fun h71 => ?_))))))))))
     ·skip
      refine zcr (sp (.bool false) (zjr (zr5 (ret1 (.bool false) rfl rfl ⟨_, rfl, ?_, H.base⟩))))
      rw [qY (fun h => by obtain ⟨h1, h2, h3, h4, h5, h6, h7, h8, h9, h10, h11⟩ := h; first | contradiction | omega | exact h3 ⟨‹_›, ‹_›⟩ | (obtain ⟨q1, q2, q3, q4, q5⟩ := h11 i (by omega); first | contradiction | omega | (have := q5 (by omega); omega)) | (refine absurd ?_ ‹¬ zB _ _›; rcases (show k = 0 ∨ k = 1 ∨ k = 2 ∨ k = 3 ∨ k = 4 by omega) with e | e | e | e | e <;> subst e <;> assumption))]
     refine qK (b_n (t_n (xH (sw (xX k 1 rfl rfl (by omega) (sp (.int .i64 (k + 1)) (xG (qR (m' := (5 - ((k + 1) : Int)).toNat) (by omega) ⟨_, k + 1, uE5, ?_, ?_, rfl, N, H.pick [0, 1, 2] [1, 2, 3, 4, 5, 6, 7, 8, 9]⟩))))))))
     · omega
     · intro j hj; by_cases e : j = k; (subst e; assumption); exact i1 j (by omega)
    refine zx4 (zcc (oF rfl (oL rfl (H.cell 1 rfl rfl) (oN rfl (sp (.int .i64 0) (zjn (qM ?_)))))))
    have n1 : zB s.qJ r.qV := i1 0 (by omega)
    have n2 : zB s.qJ r.xg := i1 1 (by omega)
    have n3 : zB s.qJ r.xm := i1 2 (by omega)
    have n4 : zB s.qJ r.xq := i1 3 (by omega)
    have n5 : zB s.qJ r.zq := i1 4 (by omega)
    refine xQ (fun m' ρ w72 => ∃ (junk : Env) (i : Nat), ρ = upd (upd (upd (upd (upd junk 2 (pp b1 0)) 3 (pp b3 0)) 58 (.slice jv r.qI.length jr)) 59 (.int .i64 r.qI.length)) 60 (.int .i64 i) ∧ ((i : Int) ≤ r.qI.length) ∧ (IntosTo s r i) ∧ m' = (r.qI.length - (i : Int)).toNat ∧ Fresh w.heap.size [] ∧ St w w72 [rr (aa b59 0) 5 5 22 1 [.slice jO r.qV.length jI, .slice jR r.xg.length jL, .slice jP r.xm.length jJ, .slice jQ r.xq.length jK, .slice QR r.zq.length QQ], .box b3 [.int .i64 r.qp, .int .i64 r.zg, .slice jO r.qV.length jI, .slice jR r.xg.length jL, .slice jP r.xm.length jJ, .slice jQ r.xq.length jK, .slice QR r.zq.length QQ, .slice jv r.qI.length jr, .bool true] 121, .box b1 [.int .i64 s.qJ, .slice qo s.qf.length qm, .slice qC s.qg.length qA] 36] [xN false (VD ++ (VG ++ (VE ++ (VF ++ (FrOut ++ []))))) [.slice jO r.qV.length jI, .slice jR r.xg.length jL, .slice jP r.xm.length jJ, .slice jQ r.xq.length jK, .slice QR r.zq.length QQ] [r.qV, r.xg, r.xm, r.xq, r.zq], sF false qP qo qm s.qf, sF false xu qC qA s.qg, sF false VD jO jI r.qV, sF false VG jR jL r.xg, sF false VE jP jJ r.xm, sF false VF jQ jK r.xq, sF false FrOut QR QQ r.zq, sF false FrInto jv jr r.qI]) ((r.qI.length - (0 : Int)).toNat) ⟨_, 0, uE5, (by omega), (by exact fun j hj => by omega), rfl, N, H⟩ ?_
    clear H N
    rintro m' ρ w73 ⟨junk, i, rfl, i0, i2, rfl, N, H⟩
    refine zcr (sp (.bool (decide ((i : Int) < r.qI.length))) (zjn (xC (cD rfl (fun h74 => ?_) (fun h74 => ?_)))))
    ·skip
     refine qK (t_n (xC (qM (zcr (sp (.int .i64 i) ?_)))))
     obtain ⟨b75, o76, rfl⟩ := H.addr 8 rfl (by omega)
     obtain ⟨ae78Bag, ce78Bag, Fe78Bag, H⟩ := H.jh 8 rfl i i (by omega) (by omega) (by omega)
     refine oI rfl rfl (sw (xU [.int .i64 ((r.qI[i]!).qp), .slice ae78Bag (((r.qI[i]!).vS).length) ce78Bag] Tryz.isAgg164 Tryz.sizeOf164 rfl (qw (H.get 1 rfl) 0 2) (sw (xM H ti164 [.int .i64 0, .slice none 0 0] fun b79 w80 H => sp (.int .i64 i) (sw (zF H 0 [.int .i64 ((r.qI[i]!).qp), .slice ae78Bag (((r.qI[i]!).vS).length) ce78Bag] Tryz.sizeOf164 fun w81 H => zjn (xC ?_)))))))
     refine vH rfl H fun H => rt 0 (.agg #[.int .i64 s.qJ, .slice qo s.qf.length qm, .slice qC s.qg.length qA]) (Qm (cs := [.int .i64 s.qJ, .slice qo s.qf.length qm, .slice qC s.qg.length qA]) Tryz.isAgg36 Tryz.sizeOf36 rfl (fun _ h => qw (h.cells 3 rfl) 0 3)) H ?_
     refine tF 1 rfl rfl H ?_
     refine tL 2 rfl rfl (fun _ h => h.cell 0 rfl rfl) H ?_
     refine ro 3 rfl (oq (isCell_ok _ s ((r.qI[i]!).qp) (H.get 3 rfl).1 (H.get 4 rfl).1) H fun w84 H => ⟨H, (rtp 4 (.bool (!(inR ((r.qI[i]!).qp) 0 ((s.qf.length : Int) - 1)))) H ?_)⟩)
     refine rtp 5 (.bool (!(inR ((r.qI[i]!).qp) 0 ((s.qf.length : Int) - 1)))) H ?_
     cases h86 : (!(inR ((r.qI[i]!).qp) 0 ((s.qf.length : Int) - 1)))
     ·skip
      replace h86 := qQ h86
      replace h86 := QZ.1 h86
      refine rg 6 (.agg #[.int .i64 s.qJ, .slice qo s.qf.length qm, .slice qC s.qg.length qA]) 70 (Qm (cs := [.int .i64 s.qJ, .slice qo s.qf.length qm, .slice qC s.qg.length qA]) Tryz.isAgg36 Tryz.sizeOf36 rfl (fun _ h => qw (h.cells 3 rfl) 0 3)) H ?_
      refine gF 7 rfl rfl H ?_
      refine gL 8 rfl rfl (fun _ h => h.cell 0 rfl rfl) H ?_
      refine gF 9 rfl rfl H ?_
      refine gL 10 rfl rfl (fun _ h => h.cell 2 rfl rfl) H ?_
      refine vT [11] (by kernel_rfl) (by simp) (r_opG rfl (e := 70) rfl rfl (oq (lies_ok _ s ((r.qI[i]!).qp) r.qp (H.get 3 rfl).1 (H.get 4 rfl).1 (by first | assumption | omega) (by first | assumption | omega)) H fun w88 H => ⟨H, (rgp 12 (.bool (!(dec (Lies s.qf r.qp ((r.qI[i]!).qp))))) 70 H ?_)⟩) vU)
      refine rtp 13 (.bool (!(dec (Lies s.qf r.qp ((r.qI[i]!).qp))))) H ?_
      refine rtp 14 (.bool (!(dec (Lies s.qf r.qp ((r.qI[i]!).qp))))) H ?_
      cases h90 : (!(dec (Lies s.qf r.qp ((r.qI[i]!).qp))))
      ·skip
       replace h90 := qQ h90
       replace h90 := yU h90
       refine gF 15 rfl rfl H ?_
       refine gL 16 rfl rfl (fun _ h => h.cell 3 rfl rfl) H ?_
       refine gF 17 rfl rfl H ?_
       refine gL 18 rfl rfl (fun _ h => h.cell 0 rfl rfl) H ?_
       refine vT [19] (by kernel_rfl) (by simp) (r_opG rfl (e := 79) rfl rfl (oq (VP _ s.qJ ((r.qI[i]!).vS) (H.get 0 rfl).1) H fun w91 H => ⟨H, (rgp 20 (.bool (!(dec (zB s.qJ ((r.qI[i]!).vS))))) 79 H ?_)⟩) vU)
       refine rtp 21 (.bool (!(dec (zB s.qJ ((r.qI[i]!).vS))))) H ?_
       refine rtp 22 (.bool (!(dec (zB s.qJ ((r.qI[i]!).vS))))) H ?_
       cases h93 : (!(dec (zB s.qJ ((r.qI[i]!).vS))))
       ·skip
        replace h93 := qQ h93
        replace h93 := yU h93
        refine gF 23 rfl rfl H ?_
        refine gL 24 rfl rfl (fun _ h => h.cell 0 rfl rfl) H ?_
        refine vT [25] (by kernel_rfl) (by simp) (r_opG rfl (e := 87) rfl rfl ?_ vU)
        have sm : Small ((r.qI[i]!).vS) := zL (by first | assumption | exact i1 0 (by omega))
        refine oq (XW _ ((r.qI[i]!).vS) (H.get 0 rfl).1 (by first | assumption | exact zL (by assumption) | exact yD (by assumption))) H fun w94 H => ⟨H, (rgp 26 (.bool ((X4 ((r.qI[i]!).vS) : Int) == 0)) 87 H ?_)⟩
        refine rtp 27 (.bool ((X4 ((r.qI[i]!).vS) : Int) == 0)) H ?_
        refine rtp 28 (.bool ((X4 ((r.qI[i]!).vS) : Int) == 0)) H ?_
        cases h96 : ((X4 ((r.qI[i]!).vS) : Int) == 0)
        ·skip
         replace h96 := ne_of_beq_false h96
         refine rgp 29 (.int .i64 i) 93 H ?_
         refine rgp 30 (.bool (decide ((i : Int) > 0))) 93 H ?_
         refine rgp 31 (.bool (decide ((i : Int) > 0))) 93 H ?_
         cases h97 : (decide ((i : Int) > 0))
         ·skip
          replace h97 := of_decide_eq_false h97
          refine zo [32, 33, 34, 35, 36, 37, 38, 39, 40, 41] 10 (H) (rgp 42 (.bool false) 93 H ?_)
          refine rtp 43 (.bool false) H ?_
          refine xy (by kernel_rfl) (t_n (xn false rfl (fun h => absurd h (by decide)) (fun _ => qK (b_n (t_n (xH (sw (xX i 1 rfl rfl (by omega) (sp (.int .i64 (i + 1)) (xG (qR (m' := (r.qI.length - ((i + 1) : Int)).toNat) (by omega) ⟨_, i + 1, uE5, ?_, ?_, rfl, N, H.pick [1, 2, 3] [2, 3, 4, 5, 6, 7, 8, 9, 10]⟩)))))))))))
          · omega
          · exact i2.succ ⟨‹_›, ‹_›, ‹_›, ‹_›, fun hk => by omega⟩
         replace h97 := of_decide_eq_true h97
         refine gF 32 rfl rfl H ?_
         refine gL 33 rfl rfl (fun _ h => h.cell 0 rfl rfl) H ?_
         refine gF 34 rfl rfl H ?_
         refine gL 35 rfl rfl (fun _ h => h.cell 2 rfl rfl) H ?_
         refine rgp 36 (.int .i64 i) 96 H ?_
         refine rg 37 (.int .i64 (i - 1)) 96 (y_sub i 1 rfl rfl (by omega)) H ?_
         obtain ⟨ae98Bag, ce98Bag, Fe98Bag, H⟩ := H.jh 10 rfl (i - 1) (i - 1) (by omega) (by omega) (by omega)
         have S := H.jZ [0, 1, 2, 3] [2, 3, 4, 5, 6, 7, 8, 9, 10, 11, 12]
         refine gI 38 rfl rfl rfl S ?_
         refine gF 39 rfl rfl S ?_
         refine vT [40] (by kernel_rfl) (by simp) (r_opG rfl (e := 96) rfl rfl (zl (.int .i64 ((r.qI[i - 1]!).qp)) Tryz.isAgg2 rfl (H.xB 1 rfl 0 rfl) (⟨H.pick [0, 1, 2, 3] [2, 3, 4, 5, 6, 7, 8, 9, 10, 11, 12], ?_⟩)) vU)
         have S := H.jZ [0, 1, 2, 3] [2, 3, 4, 5, 6, 7, 8, 9, 10, 11, 12]
         refine rgp 41 (.bool (decide (((r.qI[i]!).qp : Int) ≤ ((r.qI[i - 1]!).qp)))) 96 S ?_
         refine rgp 42 (.bool (decide (((r.qI[i]!).qp : Int) ≤ ((r.qI[i - 1]!).qp)))) 93 S ?_
         refine rtp 43 (.bool (decide (((r.qI[i]!).qp : Int) ≤ ((r.qI[i - 1]!).qp)))) S ?_
         refine xy (by kernel_rfl) (t_n (cD rfl (fun h99 => ?_) (fun h99 => ?_)))
         ·skip
          refine zcr (sp (.bool false) (zjr (zr5 (ret1 (.bool false) rfl rfl ⟨_, rfl, ?_, H.base⟩))))
          rw [qY (fun h => by obtain ⟨h1, h2, h3, h4, h5, h6, h7, h8, h9, h10, h11⟩ := h; first | contradiction | omega | exact h3 ⟨‹_›, ‹_›⟩ | (obtain ⟨q1, q2, q3, q4, q5⟩ := h11 i (by omega); first | contradiction | omega | (have := q5 (by omega); omega)) | (refine absurd ?_ ‹¬ zB _ _›; rcases (show k = 0 ∨ k = 1 ∨ k = 2 ∨ k = 3 ∨ k = 4 by omega) with e | e | e | e | e <;> subst e <;> assumption))]
         refine qK (b_n (t_n (xH (sw (xX i 1 rfl rfl (by omega) (sp (.int .i64 (i + 1)) (xG (qR (m' := (r.qI.length - ((i + 1) : Int)).toNat) (by omega) ⟨_, i + 1, uE5, ?_, ?_, rfl, N, H.pick [1, 2, 3] [4, 5, 6, 7, 8, 9, 10, 11, 12]⟩))))))))
         · omega
         · exact i2.succ ⟨‹_›, ‹_›, ‹_›, ‹_›, fun hk => by omega⟩
        replace h96 := eq_of_beq h96
        refine zo [29, 30, 31, 32, 33, 34, 35, 36, 37, 38, 39, 40, 41, 42] 14 (H) (rtp 43 (.bool true) H ?_)
        refine xy (by kernel_rfl) (t_n (xn true rfl (fun _ => zcr (sp (.bool false) (zjr (zr5 (ret1 (.bool false) rfl rfl ⟨_, rfl, ?_, H.base⟩))))) (fun h => absurd h (by decide))))
        rw [qY (fun h => by obtain ⟨h1, h2, h3, h4, h5, h6, h7, h8, h9, h10, h11⟩ := h; first | contradiction | omega | exact h3 ⟨‹_›, ‹_›⟩ | (obtain ⟨q1, q2, q3, q4, q5⟩ := h11 i (by omega); first | contradiction | omega | (have := q5 (by omega); omega)) | (refine absurd ?_ ‹¬ zB _ _›; rcases (show k = 0 ∨ k = 1 ∨ k = 2 ∨ k = 3 ∨ k = 4 by omega) with e | e | e | e | e <;> subst e <;> assumption))]
       replace h93 := qW h93
       replace h93 := zA h93
       refine zo [23, 24, 25, 26] 4 (H) (rtp 27 (.bool true) H ?_)
       refine rtp 28 (.bool true) H ?_
       refine zo [29, 30, 31, 32, 33, 34, 35, 36, 37, 38, 39, 40, 41, 42] 14 (H) (rtp 43 (.bool true) H ?_)
       refine xy (by kernel_rfl) (t_n (xn true rfl (fun _ => zcr (sp (.bool false) (zjr (zr5 (ret1 (.bool false) rfl rfl ⟨_, rfl, ?_, H.base⟩))))) (fun h => absurd h (by decide))))
       rw [qY (fun h => by obtain ⟨h1, h2, h3, h4, h5, h6, h7, h8, h9, h10, h11⟩ := h; first | contradiction | omega | exact h3 ⟨‹_›, ‹_›⟩ | (obtain ⟨q1, q2, q3, q4, q5⟩ := h11 i (by omega); first | contradiction | omega | (have := q5 (by omega); omega)) | (refine absurd ?_ ‹¬ zB _ _›; rcases (show k = 0 ∨ k = 1 ∨ k = 2 ∨ k = 3 ∨ k = 4 by omega) with e | e | e | e | e <;> subst e <;> assumption))]
      replace h90 := qW h90
      replace h90 := zA h90
      refine zo [15, 16, 17, 18, 19, 20] 6 (H) (rtp 21 (.bool true) H ?_)
      refine rtp 22 (.bool true) H ?_
      refine zo [23, 24, 25, 26] 4 (H) (rtp 27 (.bool true) H ?_)
      refine rtp 28 (.bool true) H ?_
      refine zo [29, 30, 31, 32, 33, 34, 35, 36, 37, 38, 39, 40, 41, 42] 14 (H) (rtp 43 (.bool true) H ?_)
      refine xy (by kernel_rfl) (t_n (xn true rfl (fun _ => zcr (sp (.bool false) (zjr (zr5 (ret1 (.bool false) rfl rfl ⟨_, rfl, ?_, H.base⟩))))) (fun h => absurd h (by decide))))
      rw [qY (fun h => by obtain ⟨h1, h2, h3, h4, h5, h6, h7, h8, h9, h10, h11⟩ := h; first | contradiction | omega | exact h3 ⟨‹_›, ‹_›⟩ | (obtain ⟨q1, q2, q3, q4, q5⟩ := h11 i (by omega); first | contradiction | omega | (have := q5 (by omega); omega)) | (refine absurd ?_ ‹¬ zB _ _›; rcases (show k = 0 ∨ k = 1 ∨ k = 2 ∨ k = 3 ∨ k = 4 by omega) with e | e | e | e | e <;> subst e <;> assumption))]
     replace h86 := qW h86
     replace h86 := XI h86
     refine zo [6, 7, 8, 9, 10, 11, 12] 7 (H) (rtp 13 (.bool true) H ?_)
     refine rtp 14 (.bool true) H ?_
     refine zo [15, 16, 17, 18, 19, 20] 6 (H) (rtp 21 (.bool true) H ?_)
     refine rtp 22 (.bool true) H ?_
     refine zo [23, 24, 25, 26] 4 (H) (rtp 27 (.bool true) H ?_)
     refine rtp 28 (.bool true) H ?_
     refine zo [29, 30, 31, 32, 33, 34, 35, 36, 37, 38, 39, 40, 41, 42] 14 (H) (rtp 43 (.bool true) H ?_)
     refine xy (by kernel_rfl) (t_n (xn true rfl (fun _ => zcr (sp (.bool false) (zjr (zr5 (ret1 (.bool false) rfl rfl ⟨_, rfl, ?_, H.base⟩))))) (fun h => absurd h (by decide))))
     rw [qY (fun h => by obtain ⟨h1, h2, h3, h4, h5, h6, h7, h8, h9, h10, h11⟩ := h; first | contradiction | omega | exact h3 ⟨‹_›, ‹_›⟩ | (obtain ⟨q1, q2, q3, q4, q5⟩ := h11 i (by omega); first | contradiction | omega | (have := q5 (by omega); omega)) | (refine absurd ?_ ‹¬ zB _ _›; rcases (show k = 0 ∨ k = 1 ∨ k = 2 ∨ k = 3 ∨ k = 4 by omega) with e | e | e | e | e <;> subst e <;> assumption))]
    refine zx4 (zcr (oF rfl (oL rfl (H.cell 1 rfl rfl) ?_)))
    have sm : Small r.qV := zL (by first | assumption | exact i1 0 (by omega))
    refine sw (oq (XW _ r.qV (H.get 3 rfl).1 (by first | assumption | exact zL (by assumption) | exact yD (by assumption))) H fun w100 H => sps [.bool (decide ((X4 r.qV : Int) > 0)), .bool (decide ((X4 r.qV : Int) > 0))] (zjr (ret1 (.bool (decide ((X4 r.qV : Int) > 0))) rfl rfl ⟨_, rfl, (congrArg Value.bool (dec_eq ?_)), H.base⟩)))
    rw [decide_eq_true_iff]
    exact ⟨fun h => ⟨by omega, by omega, by simp_all, by omega, n1, n2, n3, n4, n5, by omega, (show i = r.qI.length by omega) ▸ i2⟩, fun h => by have := h.2.2.2.2.2.2.2.2.2.1; have := sum_nonneg n1.1; omega⟩
   replace h57 := eq_of_beq h57
   refine xJ [30, 31, 32, 33] (sp (.bool true) (zjn (xn true rfl (fun _ => zcr (sp (.bool false) (zjr (t_r (ret1 (.bool false) rfl rfl ⟨_, rfl, ?_, H.base⟩))))) (fun h => absurd h (by decide)))))
   rw [qY (fun h => by obtain ⟨h1, h2, h3, h4, h5, h6, h7, h8, h9, h10, h11⟩ := h; first | contradiction | omega | exact h3 ⟨‹_›, ‹_›⟩ | (obtain ⟨q1, q2, q3, q4, q5⟩ := h11 i (by omega); first | contradiction | omega | (have := q5 (by omega); omega)) | (refine absurd ?_ ‹¬ zB _ _›; rcases (show k = 0 ∨ k = 1 ∨ k = 2 ∨ k = 3 ∨ k = 4 by omega) with e | e | e | e | e <;> subst e <;> assumption))]
  replace h11 := qW h11
  replace h11 := XI h11
  refine xJ [21, 22, 23, 24, 25, 26, 27] (sps [.bool true, .bool true] (xJ [30, 31, 32, 33] (sp (.bool true) (zjn (xn true rfl (fun _ => zcr (sp (.bool false) (zjr (t_r (ret1 (.bool false) rfl rfl ⟨_, rfl, ?_, H.base⟩))))) (fun h => absurd h (by decide)))))))
  rw [qY (fun h => by obtain ⟨h1, h2, h3, h4, h5, h6, h7, h8, h9, h10, h11⟩ := h; first | contradiction | omega | exact h3 ⟨‹_›, ‹_›⟩ | (obtain ⟨q1, q2, q3, q4, q5⟩ := h11 i (by omega); first | contradiction | omega | (have := q5 (by omega); omega)) | (refine absurd ?_ ‹¬ zB _ _›; rcases (show k = 0 ∨ k = 1 ∨ k = 2 ∨ k = 3 ∨ k = 4 by omega) with e | e | e | e | e <;> subst e <;> assumption))]
 replace h8 := qW h8
 replace h8 := XI h8
 refine xJ [15, 16, 17, 18] (sps [.bool true, .bool true] (xJ [21, 22, 23, 24, 25, 26, 27] (sps [.bool true, .bool true] (xJ [30, 31, 32, 33] (sp (.bool true) (zjn (xn true rfl (fun _ => zcr (sp (.bool false) (zjr (t_r (ret1 (.bool false) rfl rfl ⟨_, rfl, ?_, H.base⟩))))) (fun h => absurd h (by decide)))))))))
 rw [qY (fun h => by obtain ⟨h1, h2, h3, h4, h5, h6, h7, h8, h9, h10, h11⟩ := h; first | contradiction | omega | exact h3 ⟨‹_›, ‹_›⟩ | (obtain ⟨q1, q2, q3, q4, q5⟩ := h11 i (by omega); first | contradiction | omega | (have := q5 (by omega); omega)) | (refine absurd ?_ ‹¬ zB _ _›; rcases (show k = 0 ∨ k = 1 ∨ k = 2 ∨ k = 3 ∨ k = 4 by omega) with e | e | e | e | e <;> subst e <;> assumption))]
theorem validSystem_ok (w : World) (s : qy) (qU : qB.rep w qP [.slice qo s.qf.length qm] s.qf) (xx : qB.rep w xu [.slice qC s.qg.length qA] s.qg) : Calls Tryz.prog 104 #[.agg #[.int .i64 s.qJ, .slice qo s.qf.length qm, .slice qC s.qg.length qA]] w (Ret (fun v w' => v = .bool (dec (jG s))) w) := by
 refine en Tryz.func104 Tryz.ntmps104 ?_
 have H := ((St.start w).arg xx).arg qU
 have zJ := qx qU
 have vW := qx xx
 clear qU xx
 have N := Fresh.nil w.heap.size
 have p1 := fun h : jg s => h.2.1
 refine zcr (sw (zY H [.int .i64 s.qJ, .slice qo s.qf.length qm, .slice qC s.qg.length qA] fun b1 w2 H => sp (.bool false) (zjcc (sw (xU [.int .i64 s.qJ, .slice qo s.qf.length qm, .slice qC s.qg.length qA] Tryz.isAgg36 Tryz.sizeOf36 rfl (qw (H.cells 0 rfl) 0 3) (sw (oq (isShell_ok _ s (H.get 0 rfl).1 (H.get 1 rfl).1) H fun w4 H => sps [.bool (!(dec (jg s))), .bool (!(dec (jg s)))] ?_)))))))
 cases h6 : (!(dec (jg s)))
 ·skip
  replace h6 := qQ h6
  replace h6 := yU h6
  refine qH 9 rfl rfl (oF rfl (qH 9 rfl rfl (oL rfl (H.cell 0 rfl rfl) (qH 9 rfl rfl (oN rfl (qH 9 rfl rfl (sps [.bool (decide ((s.qg.length : Int) > 16)), .bool (decide ((s.qg.length : Int) > 16))] (zjn (cD rfl (fun h7 => ?_) (fun h7 => ?_))))))))))
  ·skip
   refine zcr (sp (.bool false) (zjr (t_r (ret1 (.bool false) rfl rfl ⟨_, rfl, ?_, H.base⟩))))
   rw [qY (fun h => by obtain ⟨h1, h2, h3⟩ := h; first | contradiction | omega | (obtain ⟨r1, r2⟩ := h3 k (by omega); first | contradiction | (have := VV (s := s) (k := k + 1) q1 q2; omega)))]
  refine qK (t_n (zcr (sw (jD [.int .i64 0, .int .i64 0, .int .i64 0, .int .i64 0, .int .i64 0, .int .i64 0] [] (sw (xM H ti159 [.int .i64 0, .int .i64 0, .int .i64 0, .int .i64 0, .int .i64 0, .int .i64 0] fun b8 w9 H => sw (zF H 0 [.int .i64 0, .int .i64 0, .int .i64 0, .int .i64 0, .int .i64 0, .int .i64 0] Tryz.sizeOf159 fun w10 H => zjcc (oF rfl (oL rfl (H.cell 1 rfl rfl) (oN rfl (sp (.int .i64 0) (zjn (qM ?_)))))))))))))
  have p2 := p1 ‹_›
  refine xQ (fun m' ρ w11 => ∃ (junk : Env) (k : Nat) (many : List Int), ρ = upd (upd (upd (upd (upd junk 1 (pp b1 0)) 3 (pp b8 0)) 17 (.slice qC s.qg.length qA)) 18 (.int .i64 s.qg.length)) 19 (.int .i64 k) ∧ many = counts6 s k ∧ ((k : Int) ≤ s.qg.length) ∧ (RulesTo s k) ∧ m' = (s.qg.length - (k : Int)).toNat ∧ Fresh w.heap.size [] ∧ St w w11 [.box b8 (many.map (Value.int .i64)) 159, .box b1 [.int .i64 s.qJ, .slice qo s.qf.length qm, .slice qC s.qg.length qA] 36] [sF false qP qo qm s.qf, sF false xu qC qA s.qg]) ((s.qg.length - (0 : Int)).toNat) ⟨_, 0, [0, 0, 0, 0, 0, 0], uE5, (by exact counts6_zero s), (by omega), (by exact fun j hj => by omega), rfl, N, H⟩ ?_
  clear H N
  rintro m' ρ w12 ⟨junk, k, many, rfl, rfl, i0, i1, rfl, N, H⟩
  refine zcr (sp (.bool (decide ((k : Int) < s.qg.length))) (zjn (xC (cD rfl (fun h13 => ?_) (fun h13 => ?_)))))
  ·skip
   refine qK (t_n (xC (qM (zcr ?_))))
   obtain ⟨b14, o15, rfl⟩ := H.addr 1 rfl (by omega)
   obtain ⟨ae17Need, ce17Need, Fe17Need, ae17Have, ce17Have, Fe17Have, ae17Lack, ce17Lack, Fe17Lack, ae17Here, ce17Here, Fe17Here, ae17Out, ce17Out, Fe17Out, ae17Into, ce17Into, Fe17Into, H⟩ := H.jy 1 rfl k k (by omega) (by omega) (by omega)
   refine oI rfl rfl (sw (xU [.int .i64 ((s.qg[k]!).qp), .int .i64 ((s.qg[k]!).zg), .slice ae17Need (((s.qg[k]!).qV).length) ce17Need, .slice ae17Have (((s.qg[k]!).xg).length) ce17Have, .slice ae17Lack (((s.qg[k]!).xm).length) ce17Lack, .slice ae17Here (((s.qg[k]!).xq).length) ce17Here, .slice ae17Out (((s.qg[k]!).zq).length) ce17Out, .slice ae17Into (((s.qg[k]!).qI).length) ce17Into, .bool ((s.qg[k]!).xO)] Tryz.isAgg121 Tryz.sizeOf121 rfl (qw (H.get 6 rfl) 0 9) ?_))
   refine sw (xM H ti121 [.int .i64 0, .int .i64 0, .slice none 0 0, .slice none 0 0, .slice none 0 0, .slice none 0 0, .slice none 0 0, .slice none 0 0, .bool false] fun b18 w19 H => sw (zF H 0 [.int .i64 ((s.qg[k]!).qp), .int .i64 ((s.qg[k]!).zg), .slice ae17Need (((s.qg[k]!).qV).length) ce17Need, .slice ae17Have (((s.qg[k]!).xg).length) ce17Have, .slice ae17Lack (((s.qg[k]!).xm).length) ce17Lack, .slice ae17Here (((s.qg[k]!).xq).length) ce17Here, .slice ae17Out (((s.qg[k]!).zq).length) ce17Out, .slice ae17Into (((s.qg[k]!).qI).length) ce17Into, .bool ((s.qg[k]!).xO)] Tryz.sizeOf121 fun w20 H => ?_))
   refine zjcc (sw (xU [.int .i64 s.qJ, .slice qo s.qf.length qm, .slice (aa b14 o15) s.qg.length qA] Tryz.isAgg36 Tryz.sizeOf36 rfl (qw (H.cells 2 rfl) 0 3) ?_))
   refine sw (xU [.int .i64 ((s.qg[k]!).qp), .int .i64 ((s.qg[k]!).zg), .slice ae17Need (((s.qg[k]!).qV).length) ce17Need, .slice ae17Have (((s.qg[k]!).xg).length) ce17Have, .slice ae17Lack (((s.qg[k]!).xm).length) ce17Lack, .slice ae17Here (((s.qg[k]!).xq).length) ce17Here, .slice ae17Out (((s.qg[k]!).zq).length) ce17Out, .slice ae17Into (((s.qg[k]!).qI).length) ce17Into, .bool ((s.qg[k]!).xO)] Tryz.isAgg121 Tryz.sizeOf121 rfl (qw (H.cells 0 rfl) 0 9) ?_)
   refine sw (oq (isRule_ok _ s (s.qg[k]!) (H.get 7 rfl).1 (H.get 8 rfl).1 (H.get 0 rfl).1 (H.get 1 rfl).1 (H.get 2 rfl).1 (H.get 3 rfl).1 (H.get 4 rfl).1 (H.get 5 rfl).1 (by first | assumption | omega)) H fun w22 H => ?_)
   have q := fun h : RuleOk s (s.qg[k]!) => (show 0 ≤ (s.qg[k]!).qp ∧ (s.qg[k]!).qp ≤ 5 from ⟨h.1.1, by have := h.1.2; omega⟩)
   refine sp (.bool (!(dec (RuleOk s (s.qg[k]!))))) (zjn (cQ rfl (fun h24 => ?_) (fun h24 => ?_)))
   ·skip
    refine zcr (sp (.bool false) (zjr (t_r (zr5 (ret1 (.bool false) rfl rfl ⟨_, rfl, ?_, H.base⟩)))))
    rw [qY (fun h => by obtain ⟨h1, h2, h3⟩ := h; first | contradiction | omega | (obtain ⟨r1, r2⟩ := h3 k (by omega); first | contradiction | (have := VV (s := s) (k := k + 1) q1 q2; omega)))]
   obtain ⟨q1, q2⟩ := q ‹_›
   have q3 := VV (s := s) (k := k) q1 q2
   have q4 := ofCell_bd s.qg (s.qg[k]!).qp k
   refine qK (t_n (zcr (oF rfl (oL rfl (H.cell 0 rfl rfl) (sw (o_idxArr ((s.qg[k]!).qp) Tryz.underlying159 ti3 rfl rfl (by omega) (by omega) (oL rfl (H.cell 1 rfl (ints_at (iv := (s.qg[k]!).qp) (i := (((s.qg[k]!).qp).toNat)) (by omega) (by simp only [List.length_set, List.length_cons, List.length_nil, counts6_len]; omega))) (sw (xX ((counts6 s k)[((s.qg[k]!).qp).toNat]!) 1 rfl rfl (by omega) (sw (o_idxArr ((s.qg[k]!).qp) Tryz.underlying159 ti3 rfl rfl (by omega) (by omega) ?_)))))))))))
   refine sw (o_storeArr H 1 rfl (((counts6 s k)[((s.qg[k]!).qp).toNat]!) + 1) Tryz.sizeOf3 rfl rfl (i := (((s.qg[k]!).qp).toNat)) (by omega) (by simp only [List.length_set, List.length_cons, List.length_nil, counts6_len]; omega) fun w25 H => ?_)
   rw [counts6_succ q1 q2] at H
   refine zjc (oF rfl (oL rfl (H.cell 0 rfl rfl) (sw (o_idxArr ((s.qg[k]!).qp) Tryz.underlying159 ti3 rfl rfl (by omega) (by omega) (oL rfl (H.cell 1 rfl (ints_at (iv := (s.qg[k]!).qp) (i := (((s.qg[k]!).qp).toNat)) (by omega) (by simp only [List.length_set, List.length_cons, List.length_nil, counts6_len]; omega))) (sp (.bool (decide (((counts6 s (k + 1))[((s.qg[k]!).qp).toNat]! : Int) > 8))) (zjn (cD rfl (fun h26 => ?_) (fun h26 => ?_)))))))))
   ·skip
    refine zcr (sp (.bool false) (zjr (zr5 (ret1 (.bool false) rfl rfl ⟨_, rfl, ?_, H.base⟩))))
    rw [qY (fun h => by obtain ⟨h1, h2, h3⟩ := h; first | contradiction | omega | (obtain ⟨r1, r2⟩ := h3 k (by omega); first | contradiction | (have := VV (s := s) (k := k + 1) q1 q2; omega)))]
   refine qK (b_n (t_n (xH (sw (xX k 1 rfl rfl (by omega) (sp (.int .i64 (k + 1)) (xG (qR (m' := (s.qg.length - ((k + 1) : Int)).toNat) (by omega) ⟨_, k + 1, counts6 s (k + 1), uE5, ?_, ?_, ?_, rfl, N, H.pick [1, 2] [7, 8]⟩))))))))
   · rfl
   · omega
   · exact i1.succ ‹_› (by have := VV (s := s) (k := k + 1) q1 q2; omega)
  refine zx4 (zcr (sp (.bool true) (zjr (ret1 (.bool true) rfl rfl ⟨_, rfl, ?_, H.base⟩))))
  rw [jF ⟨by assumption, by omega, (show s.qg.length = k by omega) ▸ i1⟩]
 replace h6 := qW h6
 replace h6 := zA h6
 refine xJ [10, 11, 12, 13] (sp (.bool true) (zjn (xn true rfl (fun _ => zcr (sp (.bool false) (zjr (t_r (ret1 (.bool false) rfl rfl ⟨_, rfl, ?_, H.base⟩))))) (fun h => absurd h (by decide)))))
 rw [qY (fun h => by obtain ⟨h1, h2, h3⟩ := h; first | contradiction | omega | (obtain ⟨r1, r2⟩ := h3 k (by omega); first | contradiction | (have := VV (s := s) (k := k + 1) q1 q2; omega)))]

theorem validState_ok (w : World) (s : qy) (t : qE) (qU : qB.rep w qP [.slice qo s.qf.length qm] s.qf) (xx : qB.rep w xu [.slice qC s.qg.length qA] s.qg) (xK : qB.rep w xE [.slice qN t.qh.length qL] t.qh) (zn : qB.rep w zf [.slice xh t.ql.length qZ] t.ql) (xA : qB.rep w xw [.slice qG t.qj.length qF] t.qj) : Calls Tryz.prog 63 #[.agg #[.int .i64 s.qJ, .slice qo s.qf.length qm, .slice qC s.qg.length qA], .agg #[.slice qN t.qh.length qL, .slice xh t.ql.length qZ, .slice qG t.qj.length qF]] w (Ret (fun v w' => v = .bool (dec (jG s ∧ zt s t))) w) := by
 refine en Tryz.func63 Tryz.ntmps63 ?_
 have H := (((((St.start w).arg xA).arg zn).arg xK).arg xx).arg qU
 have zJ := qx qU
 have vW := qx xx
 have yJ := qx xK
 have QD := qx zn
 have jB := qx xA
 clear qU xx xK zn xA
 have N := Fresh.nil w.heap.size
 refine zcr (sw (zY H [.int .i64 s.qJ, .slice qo s.qf.length qm, .slice qC s.qg.length qA] fun b1 w2 H => sw (zY H [.slice qN t.qh.length qL, .slice xh t.ql.length qZ, .slice qG t.qj.length qF] fun b3 w4 H => sp (.bool false) (zjcc (sw (xU [.int .i64 s.qJ, .slice qo s.qf.length qm, .slice qC s.qg.length qA] Tryz.isAgg36 Tryz.sizeOf36 rfl (qw (H.cells 1 rfl) 0 3) (sw (oq (validSystem_ok _ s (H.get 0 rfl).1 (H.get 1 rfl).1) H fun w6 H => sps [.bool (!(dec (jG s))), .bool (!(dec (jG s)))] ?_))))))))
 cases h8 : (!(dec (jG s)))
 ·skip
  replace h8 := qQ h8
  replace h8 := yU h8
  have z1 := (‹jG s› : jG s).1.2.1
  refine qH 10 rfl rfl (oF rfl (qH 10 rfl rfl (oL rfl (H.cell 0 rfl rfl) (qH 10 rfl rfl (oN rfl (qH 10 rfl rfl (oF rfl (qH 10 rfl rfl (oL rfl (H.cell 1 rfl rfl) (qH 10 rfl rfl (oN rfl (qH 10 rfl rfl (sps [.bool ((t.qh.length : Int) != s.qf.length), .bool ((t.qh.length : Int) != s.qf.length), .bool ((t.qh.length : Int) != s.qf.length)] ?_)))))))))))))
  cases h9 : ((t.qh.length : Int) != s.qf.length)
  ·skip
   replace h9 := xf h9
   refine qH 19 rfl rfl (oF rfl (qH 19 rfl rfl (oL rfl (H.cell 0 rfl rfl) (qH 19 rfl rfl (oN rfl (qH 19 rfl rfl (oF rfl (qH 19 rfl rfl (oL rfl (H.cell 1 rfl rfl) (qH 19 rfl rfl (oN rfl (qH 19 rfl rfl (sps [.bool ((t.ql.length : Int) != s.qf.length), .bool ((t.ql.length : Int) != s.qf.length), .bool ((t.ql.length : Int) != s.qf.length)] ?_)))))))))))))
   cases h10 : ((t.ql.length : Int) != s.qf.length)
   ·skip
    replace h10 := xf h10
    refine qH 28 rfl rfl (oF rfl (qH 28 rfl rfl (oL rfl (H.cell 0 rfl rfl) (qH 28 rfl rfl ?_))))
    obtain ⟨b11, o12, rfl⟩ := H.addr 2 rfl (by omega)
    refine oI rfl rfl (qH 28 rfl rfl (oL rfl (H.Xc 2 rfl 0 (by omega) (by omega)) (qH 28 rfl rfl (sps [.bool (!(t.qh[0]!)), .bool (!(t.qh[0]!)), .bool (!(t.qh[0]!))] ?_))))
    cases h14 : (!(t.qh[0]!))
    ·skip
     replace h14 := qQ h14
     refine qH 35 rfl rfl (oF rfl (qH 35 rfl rfl (oL rfl (H.cell 1 rfl rfl) (qH 35 rfl rfl (oF rfl (qH 35 rfl rfl (oL rfl (H.cell 0 rfl rfl) (qH 35 rfl rfl (sw (oq (VP _ s.qJ t.qj (H.get 4 rfl).1) H fun w15 H => qH 35 rfl rfl (sps [.bool (!(dec (zB s.qJ t.qj))), .bool (!(dec (zB s.qJ t.qj)))] (zjn (cQ rfl (fun h17 => ?_) (fun h17 => ?_))))))))))))))
     ·skip
      refine zcr (sp (.bool false) (zjr (t_r (ret1 (.bool false) rfl rfl ⟨_, rfl, ?_, H.base⟩))))
      rw [qY (fun h => by obtain ⟨h0, h1, h2, h3, h4, h5⟩ := h; first | contradiction | omega | (simp_all; done) | (obtain ⟨q1, q2⟩ := h5 c (by omega); first | contradiction | (have := q2 (by assumption); omega)))]
     refine qK (t_n (zcc (oF rfl (oL rfl (H.cell 0 rfl rfl) (oN rfl (sp (.int .i64 0) (zjn (qM ?_))))))))
     refine xQ (fun m' ρ w18 => ∃ (junk : Env) (c : Nat), ρ = upd (upd (upd (upd (upd junk 2 (pp b1 0)) 3 (pp b3 0)) 44 (.slice xh t.ql.length qZ)) 45 (.int .i64 t.ql.length)) 46 (.int .i64 c) ∧ ((c : Int) ≤ t.ql.length) ∧ (BagsTo s t c) ∧ m' = (t.ql.length - (c : Int)).toNat ∧ Fresh w.heap.size [] ∧ St w w18 [.box b3 [.slice (aa b11 o12) t.qh.length qL, .slice xh t.ql.length qZ, .slice qG t.qj.length qF] 38, .box b1 [.int .i64 s.qJ, .slice qo s.qf.length qm, .slice qC s.qg.length qA] 36] [sF false qP qo qm s.qf, sF false xu qC qA s.qg, sF false xE (aa b11 o12) qL t.qh, sF false zf xh qZ t.ql, sF false xw qG qF t.qj]) ((t.ql.length - (0 : Int)).toNat) ⟨_, 0, uE5, (by omega), (by exact fun j hj => by omega), rfl, N, H⟩ ?_
     clear H N
     rintro m' ρ w19 ⟨junk, c, rfl, i0, i1, rfl, N, H⟩
     refine zcr (sp (.bool (decide ((c : Int) < t.ql.length))) (zjn (xC (cD rfl (fun h20 => ?_) (fun h20 => ?_)))))
     ·skip
      refine qK (t_n (xC (qM (zcr (sp (.int .i64 c) ?_)))))
      obtain ⟨b21, o22, rfl⟩ := H.addr 3 rfl (by omega)
      obtain ⟨ae24, ce24, Fe24, H⟩ := H.zU 3 rfl c c (by omega) (by omega) (by omega)
      refine oI rfl rfl (oL rfl (H.xB 1 rfl 0 rfl) (sps [.int .i64 c, .slice ae24 ((t.ql[c]!).length) ce24] (zjc (oF rfl (oL rfl (H.cell 1 rfl rfl) (sp (.slice ae24 ((t.ql[c]!).length) ce24) (sw (oq (VP _ s.qJ (t.ql[c]!) (H.get 0 rfl).1) H fun w25 H => sps [.bool (!(dec (zB s.qJ (t.ql[c]!)))), .bool (!(dec (zB s.qJ (t.ql[c]!))))] ?_))))))))
      cases h27 : (!(dec (zB s.qJ (t.ql[c]!))))
      ·skip
       replace h27 := qQ h27
       replace h27 := yU h27
       refine qH 56 rfl rfl (oF rfl (qH 56 rfl rfl (oL rfl (H.cell 0 rfl rfl) (qH 56 rfl rfl (sp (.int .i64 c) (qH 56 rfl rfl (oI rfl rfl (qH 56 rfl rfl (oL rfl (H.Xc 4 rfl c (by omega) (by omega)) (qH 56 rfl rfl (sp (.bool (!(t.qh[c]!))) (qH 56 rfl rfl (sp (.bool (!(t.qh[c]!))) ?_)))))))))))))
       cases h28 : (!(t.qh[c]!))
       ·skip
        replace h28 := qQ h28
        refine xJ [64, 65, 66] (qH 56 rfl rfl (sps [.bool false, .bool false] (zjn (xn false rfl (fun h => absurd h (by decide)) (fun _ => qK (b_n (t_n (xH (sw (xX c 1 rfl rfl (by omega) (sp (.int .i64 (c + 1)) (xG (qR (m' := (t.ql.length - ((c + 1) : Int)).toNat) (by omega) ⟨_, c + 1, uE5, ?_, ?_, rfl, N, H.pick [0, 1] [2, 3, 4, 5, 6]⟩)))))))))))))
        · omega
        · exact i1.succ ‹_› (fun hk => by first | omega | simp_all)
       replace h28 := qW h28
       refine qH 63 rfl rfl (sp (.slice ae24 ((t.ql[c]!).length) ce24) (qH 63 rfl rfl (sw (oq (XW _ (t.ql[c]!) (H.get 0 rfl).1 (by first | assumption | exact zL (by assumption) | exact yD (by assumption))) H fun w29 H => qH 63 rfl rfl (sp (.bool (decide ((X4 (t.ql[c]!) : Int) > 0))) (qH 56 rfl rfl (sps [.bool (decide ((X4 (t.ql[c]!) : Int) > 0)), .bool (decide ((X4 (t.ql[c]!) : Int) > 0))] (zjn (cD rfl (fun h31 => ?_) (fun h31 => ?_))))))))))
       ·skip
        refine zcr (sp (.bool false) (zjr (zr5 (ret1 (.bool false) rfl rfl ⟨_, rfl, ?_, H.base⟩))))
        rw [qY (fun h => by obtain ⟨h0, h1, h2, h3, h4, h5⟩ := h; first | contradiction | omega | (simp_all; done) | (obtain ⟨q1, q2⟩ := h5 c (by omega); first | contradiction | (have := q2 (by assumption); omega)))]
       refine qK (b_n (t_n (xH (sw (xX c 1 rfl rfl (by omega) (sp (.int .i64 (c + 1)) (xG (qR (m' := (t.ql.length - ((c + 1) : Int)).toNat) (by omega) ⟨_, c + 1, uE5, ?_, ?_, rfl, N, H.pick [0, 1] [2, 3, 4, 5, 6]⟩))))))))
       · omega
       · exact i1.succ ‹_› (fun hk => by first | omega | simp_all)
      replace h27 := qW h27
      replace h27 := zA h27
      refine xJ [57, 58, 59, 60, 61, 62, 63, 64, 65, 66, 67] (sp (.bool true) (zjn (xn true rfl (fun _ => zcr (sp (.bool false) (zjr (zr5 (ret1 (.bool false) rfl rfl ⟨_, rfl, ?_, H.base⟩))))) (fun h => absurd h (by decide)))))
      rw [qY (fun h => by obtain ⟨h0, h1, h2, h3, h4, h5⟩ := h; first | contradiction | omega | (simp_all; done) | (obtain ⟨q1, q2⟩ := h5 c (by omega); first | contradiction | (have := q2 (by assumption); omega)))]
     refine zx4 (zcr (sp (.bool true) (zjr (ret1 (.bool true) rfl rfl ⟨_, rfl, ?_, H.base⟩))))
     rw [jF ⟨by assumption, by omega, by omega, by first | assumption | simp_all, by assumption, (show t.ql.length = c by omega) ▸ i1⟩]
    replace h14 := qW h14
    refine xJ [36, 37, 38, 39, 40, 41] (sp (.bool true) (zjn (xn true rfl (fun _ => zcr (sp (.bool false) (zjr (t_r (ret1 (.bool false) rfl rfl ⟨_, rfl, ?_, H.base⟩))))) (fun h => absurd h (by decide)))))
    rw [qY (fun h => by obtain ⟨h0, h1, h2, h3, h4, h5⟩ := h; first | contradiction | omega | (simp_all; done) | (obtain ⟨q1, q2⟩ := h5 c (by omega); first | contradiction | (have := q2 (by assumption); omega)))]
   replace h10 := bne_iff_ne.1 h10
   refine xJ [29, 30, 31, 32, 33] (sps [.bool true, .bool true] (xJ [36, 37, 38, 39, 40, 41] (sp (.bool true) (zjn (xn true rfl (fun _ => zcr (sp (.bool false) (zjr (t_r (ret1 (.bool false) rfl rfl ⟨_, rfl, ?_, H.base⟩))))) (fun h => absurd h (by decide)))))))
   rw [qY (fun h => by obtain ⟨h0, h1, h2, h3, h4, h5⟩ := h; first | contradiction | omega | (simp_all; done) | (obtain ⟨q1, q2⟩ := h5 c (by omega); first | contradiction | (have := q2 (by assumption); omega)))]
  replace h9 := bne_iff_ne.1 h9
  refine xJ [20, 21, 22, 23, 24, 25, 26] (sps [.bool true, .bool true] (xJ [29, 30, 31, 32, 33] (sps [.bool true, .bool true] (xJ [36, 37, 38, 39, 40, 41] (sp (.bool true) (zjn (xn true rfl (fun _ => zcr (sp (.bool false) (zjr (t_r (ret1 (.bool false) rfl rfl ⟨_, rfl, ?_, H.base⟩))))) (fun h => absurd h (by decide)))))))))
  rw [qY (fun h => by obtain ⟨h0, h1, h2, h3, h4, h5⟩ := h; first | contradiction | omega | (simp_all; done) | (obtain ⟨q1, q2⟩ := h5 c (by omega); first | contradiction | (have := q2 (by assumption); omega)))]
 replace h8 := qW h8
 replace h8 := zA h8
 refine xJ [11, 12, 13, 14, 15, 16, 17] (sps [.bool true, .bool true] (xJ [20, 21, 22, 23, 24, 25, 26] (sps [.bool true, .bool true] (xJ [29, 30, 31, 32, 33] (sps [.bool true, .bool true] (xJ [36, 37, 38, 39, 40, 41] (sp (.bool true) (zjn (xn true rfl (fun _ => zcr (sp (.bool false) (zjr (t_r (ret1 (.bool false) rfl rfl ⟨_, rfl, ?_, H.base⟩))))) (fun h => absurd h (by decide)))))))))))
 rw [qY (fun h => by obtain ⟨h0, h1, h2, h3, h4, h5⟩ := h; first | contradiction | omega | (simp_all; done) | (obtain ⟨q1, q2⟩ := h5 c (by omega); first | contradiction | (have := q2 (by assumption); omega)))]

theorem parentNow_ok (w : World) (s : qy) (t : qE) (c : Int) (qU : qB.rep w qP [.slice qo s.qf.length qm] s.qf) (xx : qB.rep w xu [.slice qC s.qg.length qA] s.qg) (xK : qB.rep w xE [.slice qN t.qh.length qL] t.qh) (zn : qB.rep w zf [.slice xh t.ql.length qZ] t.ql) (xA : qB.rep w xw [.slice qG t.qj.length qF] t.qj) (p0 : jg s) (p1 : CellIn s c) (p2 : t.qh.length = s.qf.length) : Calls Tryz.prog 188 #[.agg #[.int .i64 s.qJ, .slice qo s.qf.length qm, .slice qC s.qg.length qA], .agg #[.slice qN t.qh.length qL, .slice xh t.ql.length qZ, .slice qG t.qj.length qF], .int .i64 c] w (Ret (fun v w' => v = .int .i64 (xe s t c)) w) := by
 refine en Tryz.func188 Tryz.ntmps188 ?_
 have H := (((((St.start w).arg xA).arg zn).arg xK).arg xx).arg qU
 have zJ := qx qU
 have vW := qx xx
 have yJ := qx xK
 have QD := qx zn
 have jB := qx xA
 clear qU xx xK zn xA
 have N := Fresh.nil w.heap.size
 have p3 := p0.step p1.1 p1.2
 refine zcr (sw (zY H [.int .i64 s.qJ, .slice qo s.qf.length qm, .slice qC s.qg.length qA] fun b1 w2 H => sw (zY H [.slice qN t.qh.length qL, .slice xh t.ql.length qZ, .slice qG t.qj.length qF] fun b3 w4 H => sp (.int .i64 0) (zjc (oF rfl (oL rfl (H.cell 1 rfl rfl) (sp (.int .i64 c) ?_)))))))
 obtain ⟨b5, o6, rfl⟩ := H.addr 0 rfl (by omega)
 refine oI rfl rfl (oL rfl (H.jd 0 rfl c (by omega) (by omega)) (sp (.int .i64 (s.qf[c.toNat]!)) (zjn (xC (qM ?_)))))
 refine xQ (fun m' ρ w8 => ∃ (junk : Env) (p : Int) (n : Nat), ρ = upd (upd (upd junk 3 (pp b1 0)) 4 (pp b3 0)) 7 (.int .i64 p) ∧ (-1 ≤ p ∧ p ≤ (s.qf.length : Int) - 1) ∧ (p < n) ∧ (xe s t c = climb s.qf t.qh n p) ∧ m' = (p + 1).toNat ∧ Fresh w.heap.size [] ∧ St w w8 [.box b3 [.slice qN t.qh.length qL, .slice xh t.ql.length qZ, .slice qG t.qj.length qF] 38, .box b1 [.int .i64 s.qJ, .slice (aa b5 o6) s.qf.length qm, .slice qC s.qg.length qA] 36] [sF false qP (aa b5 o6) qm s.qf, sF false xu qC qA s.qg, sF false xE qN qL t.qh, sF false zf xh qZ t.ql, sF false xw qG qF t.qj]) (((s.qf[c.toNat]!) + 1).toNat) ⟨_, s.qf[c.toNat]!, s.qf.length, uE3, (by omega), (by omega), (by rfl), rfl, N, H⟩ ?_
 clear H N
 rintro m' ρ w9 ⟨junk, p, n, rfl, i0, i1, i2, rfl, N, H⟩
 have up := fun h => p0.step (c := p) h i0.2
 refine zcc (sps [.int .i64 p, .bool (decide ((p : Int) ≥ 0)), .bool (decide ((p : Int) ≥ 0))] ?_)
 cases h10 : (decide ((p : Int) ≥ 0))
 ·skip
  replace h10 := of_decide_eq_false h10
  refine xJ [16, 17, 18, 19, 20, 21] (sp (.bool false) (zjn (xn false rfl (fun h => absurd h (by decide)) (fun _ => zx4 (zcr (sps [.int .i64 p, .int .i64 p] (zjr (ret1 (.int .i64 p) rfl rfl ⟨_, rfl, ?_, H.base⟩))))))))
  rw [i2, climb_end (by first | omega | simp_all)]
 replace h10 := of_decide_eq_true h10
 refine qH 15 rfl rfl (oF rfl (qH 15 rfl rfl (oL rfl (H.cell 0 rfl rfl) (qH 15 rfl rfl (sp (.int .i64 p) (qH 15 rfl rfl ?_))))))
 obtain ⟨b11, o12, rfl⟩ := H.addr 2 rfl (by omega)
 refine oI rfl rfl (qH 15 rfl rfl (oL rfl (H.Xc 2 rfl p (by omega) (by omega)) (qH 15 rfl rfl (sps [.bool (!(t.qh[p.toNat]!)), .bool (!(t.qh[p.toNat]!))] (zjn (xn (!(t.qh[p.toNat]!)) rfl (fun h14 => ?_) (fun h14 => ?_)))))))
 ·skip
  replace h14 := qW h14
  refine qK (t_n (qM (xH (oF rfl (oL rfl (H.cell 1 rfl rfl) (sp (.int .i64 p) (oI rfl rfl (oL rfl (H.jd 0 rfl p (by omega) (by omega)) (sp (.int .i64 (s.qf[p.toNat]!)) (xG (b_n ?_)))))))))))
  have up1 := up (by omega)
  refine qR (m' := ((s.qf[p.toNat]!) + 1).toNat) (by omega) ⟨_, s.qf[p.toNat]!, n - 1, uE3, ?_, ?_, ?_, rfl, N, H⟩
  · omega
  · omega
  · exact i2.trans (climb_go (by omega) (by omega) ‹_›)
 replace h14 := qQ h14
 refine zx4 (zcr (sps [.int .i64 p, .int .i64 p] (zjr (ret1 (.int .i64 p) rfl rfl ⟨_, rfl, ?_, H.base⟩))))
 rw [i2, climb_end (by first | omega | simp_all)]

theorem copied_ok (w : World) (t : qE) (xK : qB.rep w xE [.slice qN t.qh.length qL] t.qh) (zn : qB.rep w zf [.slice xh t.ql.length qZ] t.ql) (xA : qB.rep w xw [.slice qG t.qj.length qF] t.qj) (p0 : t.qh.length ≤ 1000000) (p1 : t.qj.length ≤ 1000000) (p2 : t.ql.length ≤ 1000000) (p3 : ∀ j, j < t.ql.length → (t.ql[j]!).length ≤ 1000000) : Calls Tryz.prog 79 #[.agg #[.slice qN t.qh.length qL, .slice xh t.ql.length qZ, .slice qG t.qj.length qF]] w (Ret (fun v w' => ∃ (raAlive : Option Addr) (rnAlive : Nat) (rcAlive : Nat) (raBags : Option Addr) (rnBags : Nat) (rcBags : Nat) (rxBags : List Value) (rFBags : List Nat) (raAround : Option Addr) (rnAround : Nat) (rcAround : Nat), v = .agg #[.slice raAlive rnAlive rcAlive, .slice raBags rnBags rcBags, .slice raAround rnAround rcAround] ∧ Fresh w.heap.size [rFBags] ∧ St w w' [rr raAlive rnAlive rcAlive 4 1 (t.qh.map (Value.bool)), rr raBags rnBags rcBags 22 1 rxBags, rr raAround rnAround rcAround 2 1 (t.qj.map (Value.int .i64))] [xN true rFBags rxBags t.ql]) w) := by
 refine en Tryz.func79 Tryz.ntmps79 ?_
 have H := (((St.start w).arg xA).arg zn).arg xK
 have yJ := qx xK
 have QD := qx zn
 have jB := qx xA
 clear xK zn xA
 have N := Fresh.nil w.heap.size
 refine zcr (sw (zY H [.slice qN t.qh.length qL, .slice xh t.ql.length qZ, .slice qG t.qj.length qF] fun b1 w2 H => sw (xM H ti38 [.slice none 0 0, .slice none 0 0, .slice none 0 0] fun b3 w4 H => zjn (xC ?_))))
 refine c_cut (fun ρ w10 => ∃ (junk : Env) (b5 : Nat) (ra6 : Option Addr) (rc7 : Nat) (a8 : Option Addr) (c9 : Nat), ρ = upd (upd (upd junk 1 (pp b1 0)) 2 (pp b3 0)) 3 (pp b5 0) ∧ Fresh w.heap.size [] ∧ St w w10 [.box b5 [.slice ra6 t.qh.length rc7, .slice none 0 0, .slice a8 t.qj.length c9] 38, rr a8 t.qj.length c9 2 1 (t.qj.map (Value.int .i64)), rr ra6 t.qh.length rc7 4 1 (t.qh.map (Value.bool)), .box b3 [.slice none 0 0, .slice none 0 0, .slice none 0 0] 38, .box b1 [.slice qN t.qh.length qL, .slice xh t.ql.length qZ, .slice qG t.qj.length qF] 38] [sF false xE qN qL t.qh, sF false zf xh qZ t.ql, sF false xw qG qF t.qj]) ?_ ?_
 ·skip
  refine vH rfl H fun H => tF 0 rfl rfl H ?_
  refine tL 1 rfl rfl (fun _ h => h.cell 1 rfl rfl) H ?_
  refine tF 3 rfl rfl H ?_
  refine tL 4 rfl rfl (fun _ h => h.cell 1 rfl rfl) H ?_
  refine vT [2, 7] (by kernel_rfl) (by simp) (yx rfl ?_ (yx rfl ?_ vU))
  ·skip
   have sz15 := H.base.size
   refine oc (cloneB_ok _ t.qh (H.get 0 rfl).1 (by first | assumption | omega)) ?_
   rintro _ w13 ⟨ra12, rn12, rc12, rfl, M, K⟩ _
   replace H := H.merge K M
   obtain rfl := H.rowNB 0 rfl
   refine ⟨H.pick [1, 2] [0, 1, 2], (vT [5, 7] (by kernel_rfl) (by simp) (yx rfl ?_ (yx rfl ?_ vU)))⟩
   ·skip
    have sz18 := H.base.size
    refine oc (cloneI_ok _ t.qj (H.get 2 rfl).1 (by first | assumption | omega)) ?_
    rintro v23 w21 r23 x22
    replace H := H.xW x22 r23
    obtain ⟨a24, c25, rfl, hc26, hm27⟩ := H.vN 0 rfl
    refine ⟨H.pick [2, 3] [0, 1, 2], (vT [6, 7] (by kernel_rfl) (by simp) (yx rfl ?_ (yx rfl ?_ vU)))⟩
    ·skip
     refine jD [.slice ra12 t.qh.length rc12, .slice none 0 0, .slice a24 t.qj.length c25] [(0, .slice ra12 t.qh.length rc12), (2, .slice a24 t.qj.length c25)] (⟨H.pick [2, 3] [0, 1, 2], (ro 7 rfl (xM H ti38 [.slice none 0 0, .slice none 0 0, .slice none 0 0] fun b28 w29 H => ⟨H.pick [3, 4] [0, 1, 2], (ro 8 rfl (zF H 0 [.slice ra12 t.qh.length rc12, .slice none 0 0, .slice a24 t.qj.length c25] Tryz.sizeOf38 fun w30 H => ⟨H.pick [3, 4] [0, 1, 2], (xy (by kernel_rfl) ((meet ⟨_, b28, ra12, rc12, a24, c25, uE3, N, H⟩)))⟩))⟩))⟩)
    refine xM H ti38 [.slice none 0 0, .slice none 0 0, .slice none 0 0] fun b31 w32 H => ⟨H.pick [3, 4] [0, 1, 2], (ro 6 rfl (jD [.slice ra12 t.qh.length rc12, .slice none 0 0, .slice a24 t.qj.length c25] [(0, .slice ra12 t.qh.length rc12), (2, .slice a24 t.qj.length c25)] (⟨H.pick [3, 4] [0, 1, 2], (ro 8 rfl (zF H 0 [.slice ra12 t.qh.length rc12, .slice none 0 0, .slice a24 t.qj.length c25] Tryz.sizeOf38 fun w33 H => ⟨H.pick [3, 4] [0, 1, 2], (xy (by kernel_rfl) ((meet ⟨_, b31, ra12, rc12, a24, c25, uE3, N, H⟩)))⟩))⟩)))⟩
   refine xM H ti38 [.slice none 0 0, .slice none 0 0, .slice none 0 0] fun b34 w35 H => ⟨H.pick [2, 3] [0, 1, 2], (ro 5 rfl ?_)⟩
   have sz36 := H.base.size
   refine oc (cloneI_ok _ t.qj (H.get 2 rfl).1 (by first | assumption | omega)) ?_
   rintro v41 w39 r41 x40
   replace H := H.xW x40 r41
   obtain ⟨a42, c43, rfl, hc44, hm45⟩ := H.vN 0 rfl
   refine ⟨H.pick [3, 4] [0, 1, 2], (ro 6 rfl (jD [.slice ra12 t.qh.length rc12, .slice none 0 0, .slice a42 t.qj.length c43] [(0, .slice ra12 t.qh.length rc12), (2, .slice a42 t.qj.length c43)] (⟨H.pick [3, 4] [0, 1, 2], (ro 8 rfl (zF H 1 [.slice ra12 t.qh.length rc12, .slice none 0 0, .slice a42 t.qj.length c43] Tryz.sizeOf38 fun w46 H => ⟨H.pick [3, 4] [0, 1, 2], (xy (by kernel_rfl) ((meet ⟨_, b34, ra12, rc12, a42, c43, uE3, N, H.pick [1, 0, 2, 3, 4] [0, 1, 2]⟩)))⟩))⟩)))⟩
  refine xM H ti38 [.slice none 0 0, .slice none 0 0, .slice none 0 0] fun b47 w48 H => ⟨H.pick [1, 2] [0, 1, 2], (ro 2 rfl ?_)⟩
  have sz52 := H.base.size
  refine oc (cloneB_ok _ t.qh (H.get 0 rfl).1 (by first | assumption | omega)) ?_
  rintro _ w50 ⟨ra49, rn49, rc49, rfl, M, K⟩ _
  replace H := H.merge K M
  obtain rfl := H.rowNB 0 rfl
  refine ⟨H.pick [2, 3] [0, 1, 2], (ro 5 rfl ?_)⟩
  have sz55 := H.base.size
  refine oc (cloneI_ok _ t.qj (H.get 2 rfl).1 (by first | assumption | omega)) ?_
  rintro v60 w58 r60 x59
  replace H := H.xW x59 r60
  obtain ⟨a61, c62, rfl, hc63, hm64⟩ := H.vN 0 rfl
  refine ⟨H.pick [3, 4] [0, 1, 2], (ro 6 rfl (jD [.slice ra49 t.qh.length rc49, .slice none 0 0, .slice a61 t.qj.length c62] [(0, .slice ra49 t.qh.length rc49), (2, .slice a61 t.qj.length c62)] (⟨H.pick [3, 4] [0, 1, 2], (ro 8 rfl (zF H 2 [.slice ra49 t.qh.length rc49, .slice none 0 0, .slice a61 t.qj.length c62] Tryz.sizeOf38 fun w65 H => ⟨H.pick [3, 4] [0, 1, 2], (xy (by kernel_rfl) ((meet ⟨_, b47, ra49, rc49, a61, c62, uE3, N, H.pick [2, 0, 1, 3, 4] [0, 1, 2]⟩)))⟩))⟩)))⟩
 clear H N
 rintro ρ w66 ⟨junk, b5, ra6, rc7, a8, c9, rfl, N, H⟩
 refine t_n (zcc (oF rfl (oL rfl (H.cell 4 rfl rfl) (oN rfl (sp (.int .i64 0) (zjn (qM ?_)))))))
 replace H := H.nilRow 22 1
 replace H := H.vw (α := List Int)
 refine xQ (fun m' ρ w67 => ∃ (junk : Env) (k : Nat) (jk : Option Addr) (zD : Nat) (ji : Nat) (out_Bags : List (List Int)) (zi : List Value) (xF : List Nat), ρ = upd (upd (upd (upd (upd junk 2 (pp b3 0)) 3 (pp b5 0)) 14 (.slice xh t.ql.length qZ)) 15 (.int .i64 t.ql.length)) 16 (.int .i64 k) ∧ out_Bags = t.ql.take k ∧ ((k : Int) ≤ t.ql.length) ∧ m' = (t.ql.length - (k : Int)).toNat ∧ Fresh w.heap.size [xF] ∧ St w w67 [rr jk zD ji 22 1 zi, .box b5 [.slice ra6 t.qh.length rc7, .slice jk zD ji, .slice a8 t.qj.length c9] 38, rr a8 t.qj.length c9 2 1 (t.qj.map (Value.int .i64)), rr ra6 t.qh.length rc7 4 1 (t.qh.map (Value.bool)), .box b3 [.slice none 0 0, .slice none 0 0, .slice none 0 0] 38, .box b1 [.slice qN t.qh.length qL, .slice xh t.ql.length qZ, .slice qG t.qj.length qF] 38] [xN true xF zi out_Bags, sF false xE qN qL t.qh, sF false zf xh qZ t.ql, sF false xw qG qF t.qj]) ((t.ql.length - (0 : Int)).toNat) ⟨_, 0, none, 0, 0, ([] : List (List Int)), [], [], uE5, (by rfl), (by omega), rfl, N.emp, H⟩ ?_
 clear H N
 rintro m' ρ w68 ⟨junk, k, jk, zD, ji, out_Bags, zi, xF, rfl, rfl, i0, rfl, N, H⟩
 have VT := H.xP (α := List Int) 0 rfl 0 rfl (by decide)
 have p4 := p3 k
 rw [List.length_take_of_le (by omega)] at VT
 refine zcr (sp (.bool (decide ((k : Int) < t.ql.length))) (zjn (xC (cD rfl (fun h69 => ?_) (fun h69 => ?_)))))
 ·skip
  refine qK (t_n (xC (qM (zcr ?_))))
  obtain ⟨b70, o71, rfl⟩ := H.addr 2 rfl (by omega)
  obtain ⟨ae73, ce73, Fe73, H⟩ := H.zU 2 rfl k k (by omega) (by omega) (by omega)
  refine oI rfl rfl (oL rfl (H.xB 1 rfl 0 rfl) (sp (.slice ae73 ((t.ql[k]!).length) ce73) (zjn ?_)))
  refine c_cut (fun ρ w79 => ∃ (junk : Env) (a74 : Option Addr) (c75 : Nat) (a76 : Option Addr) (c77 : Nat) (G78 : List Nat), ρ = upd (upd (upd (upd (upd junk 2 (pp b3 0)) 3 (pp b5 0)) 14 (.slice (aa b70 o71) t.ql.length qZ)) 15 (.int .i64 t.ql.length)) 16 (.int .i64 k) ∧ Fresh w.heap.size [(xF ++ G78)] ∧ St w w79 [rr a74 (zD + 1) c75 22 1 (zi ++ [.slice a76 ((t.ql[k]!).length) c77]), .box b5 [.slice ra6 t.qh.length rc7, .slice a74 (zD + 1) c75, .slice a8 t.qj.length c9] 38, rr a8 t.qj.length c9 2 1 (t.qj.map (Value.int .i64)), rr ra6 t.qh.length rc7 4 1 (t.qh.map (Value.bool)), .box b3 [.slice none 0 0, .slice none 0 0, .slice none 0 0] 38, .box b1 [.slice qN t.qh.length qL, .slice (aa b70 o71) t.ql.length qZ, .slice qG t.qj.length qF] 38] [xN true (xF ++ G78) (zi ++ [.slice a76 ((t.ql[k]!).length) c77]) ((t.ql.take k) ++ [(t.ql[k]!)]), sF true G78 a76 c77 (t.ql[k]!), sF false Fe73 ae73 ce73 (t.ql[k]!), atF b70 (o71 + (k : Int).toNat * 1) [.slice ae73 ((t.ql[k]!).length) ce73], sF false xE qN qL t.qh, sF false zf (aa b70 o71) qZ t.ql, sF false xw qG qF t.qj]) ?_ ?_
  ·skip
   refine yO rfl H [2, 3, 4, 5] fun H => ?_
   have S := H.jZ [2, 3, 4, 5] [0, 1, 2, 3, 4, 5]
   refine tF 0 rfl rfl S ?_
   refine rtp 2 (.slice ae73 ((t.ql[k]!).length) ce73) S ?_
   refine vT [1, 3] (by kernel_rfl) (by simp) (yx rfl ?_ (yx rfl ?_ vU))
   ·skip
    refine zl (.slice jk zD ji) Tryz.isAgg27 rfl (H.cell 1 rfl rfl) (⟨H.pick [2, 3, 4, 5] [0, 1, 2, 3, 4, 5], (ro 3 rfl ?_)⟩)
    have sz81 := H.base.size
    have lt82 := H.ltN (L := [xF]) [2]
    refine oc (cloneI_ok _ (t.ql[k]!) (H.get 0 rfl).1 (by first | assumption | omega)) ?_
    rintro v86 w84 r86 x85
    replace H := H.xW x85 r86
    obtain ⟨a87, c88, rfl, hc89, hm90⟩ := H.vN 0 rfl
    refine ⟨H.pick [3, 4, 5, 6] [0, 1, 2, 3, 4, 5], (ro 4 rfl (zM H Tryz.underlying27 ti22 [.slice a87 ((t.ql[k]!).length) c88] fun b91 w92 H => ⟨H.pick [4, 5, 6, 7] [0, 1, 2, 3, 4, 5], (ro 5 rfl ?_)⟩))⟩
    obtain ⟨G96, N, hn97, H⟩ := H.vG 1 rfl N (H.yT [2])
    refine zV H 2 rfl 0 rfl Tryz.underlying27 ti22 rfl (by decide) rfl rfl rfl (by simp [Value.oneCell', Value.cells]) (by unfold maxLen; omega) (by omega) fun a93 c94 w95 H => ?_
    replace H := H.yl 3 rfl 0 rfl
    replace N : Fresh w.heap.size [(xF ++ G96)] := (N.pick [1, 0]).join
    refine ⟨H.pick [4, 5, 6, 7] [2, 3, 4, 5, 6, 7], (tF 6 rfl rfl (H.pick [4, 5, 6, 7] [2, 3, 4, 5, 6, 7]) ?_)⟩
    refine ro 7 rfl (zk H 3 [.slice ra6 t.qh.length rc7, .slice a93 (zD + 1) c94, .slice a8 t.qj.length c9] Tryz.sizeOf27 fun w98 H => ⟨H.pick [4, 5, 6, 7] [2, 3, 4, 5, 6, 7], (xy (by kernel_rfl) ((meet ⟨_, a93, c94, a87, c88, G96, uE5, N, H.pick [2, 3, 4, 5, 6, 7] [0, 1, 2, 3, 5, 6, 7]⟩)))⟩)
   have sz99 := H.base.size
   have lt100 := H.ltN (L := [xF]) [2]
   refine oc (cloneI_ok _ (t.ql[k]!) (H.get 0 rfl).1 (by first | assumption | omega)) ?_
   rintro v104 w102 r104 x103
   replace H := H.xW x103 r104
   obtain ⟨a105, c106, rfl, hc107, hm108⟩ := H.vN 0 rfl
   refine ⟨H.pick [3, 4, 5, 6] [0, 1, 2, 3, 4, 5], (vT [1, 4] (by kernel_rfl) (by simp) (yx rfl ?_ (yx rfl ?_ vU)))⟩
   ·skip
    refine zl (.slice jk zD ji) Tryz.isAgg27 rfl (H.cell 2 rfl rfl) (⟨H.pick [3, 4, 5, 6] [0, 1, 2, 3, 4, 5], (ro 4 rfl (zM H Tryz.underlying27 ti22 [.slice a105 ((t.ql[k]!).length) c106] fun b109 w110 H => ⟨H.pick [4, 5, 6, 7] [0, 1, 2, 3, 4, 5], (ro 5 rfl ?_)⟩))⟩)
    obtain ⟨G114, N, hn115, H⟩ := H.vG 1 rfl N (H.yT [2])
    refine zV H 2 rfl 0 rfl Tryz.underlying27 ti22 rfl (by decide) rfl rfl rfl (by simp [Value.oneCell', Value.cells]) (by unfold maxLen; omega) (by omega) fun a111 c112 w113 H => ?_
    replace H := H.yl 3 rfl 0 rfl
    replace N : Fresh w.heap.size [(xF ++ G114)] := (N.pick [1, 0]).join
    refine ⟨H.pick [4, 5, 6, 7] [2, 3, 4, 5, 6, 7], (tF 6 rfl rfl (H.pick [4, 5, 6, 7] [2, 3, 4, 5, 6, 7]) ?_)⟩
    refine ro 7 rfl (zk H 3 [.slice ra6 t.qh.length rc7, .slice a111 (zD + 1) c112, .slice a8 t.qj.length c9] Tryz.sizeOf27 fun w116 H => ⟨H.pick [4, 5, 6, 7] [2, 3, 4, 5, 6, 7], (xy (by kernel_rfl) ((meet ⟨_, a111, c112, a105, c106, G114, uE5, N, H.pick [2, 3, 4, 5, 6, 7] [0, 1, 2, 3, 5, 6, 7]⟩)))⟩)
   refine zM H Tryz.underlying27 ti22 [.slice a105 ((t.ql[k]!).length) c106] fun b117 w118 H => ⟨H.pick [4, 5, 6, 7] [0, 1, 2, 3, 4, 5], (ro 1 rfl (zl (.slice jk zD ji) Tryz.isAgg27 rfl (H.cell 3 rfl rfl) (⟨H.pick [4, 5, 6, 7] [0, 1, 2, 3, 4, 5], (ro 5 rfl ?_)⟩)))⟩
   obtain ⟨G122, N, hn123, H⟩ := H.vG 1 rfl N (H.yT [2])
   refine zV H 2 rfl 0 rfl Tryz.underlying27 ti22 rfl (by decide) rfl rfl rfl (by simp [Value.oneCell', Value.cells]) (by unfold maxLen; omega) (by omega) fun a119 c120 w121 H => ?_
   replace H := H.yl 3 rfl 0 rfl
   replace N : Fresh w.heap.size [(xF ++ G122)] := (N.pick [1, 0]).join
   refine ⟨H.pick [4, 5, 6, 7] [2, 3, 4, 5, 6, 7], (tF 6 rfl rfl (H.pick [4, 5, 6, 7] [2, 3, 4, 5, 6, 7]) ?_)⟩
   refine ro 7 rfl (zk H 3 [.slice ra6 t.qh.length rc7, .slice a119 (zD + 1) c120, .slice a8 t.qj.length c9] Tryz.sizeOf27 fun w124 H => ⟨H.pick [4, 5, 6, 7] [2, 3, 4, 5, 6, 7], (xy (by kernel_rfl) ((meet ⟨_, a119, c120, a105, c106, G122, uE5, N, H.pick [2, 3, 4, 5, 6, 7] [0, 1, 2, 3, 5, 6, 7]⟩)))⟩)
  clear H N
  rintro ρ w125 ⟨junk, a74, c75, a76, c77, G78, rfl, N, H⟩
  refine b_n (t_n (xH (sw (xX k 1 rfl rfl (by omega) (sp (.int .i64 (k + 1)) (xG (qR (m' := (t.ql.length - ((k + 1) : Int)).toNat) (by omega) ⟨_, k + 1, a74, zD + 1, c75, ((t.ql.take k) ++ [(t.ql[k]!)]), zi ++ [.slice a76 ((t.ql[k]!).length) c77], (xF ++ G78), uE5, ?_, ?_, rfl, N, H.pick [0, 1, 2, 3, 4, 5] [0, 4, 5, 6]⟩)))))))
  · exact take_snoc (by omega)
  · omega
 refine zx4 (zcr (sw (xU [.slice ra6 t.qh.length rc7, .slice jk zD ji, .slice a8 t.qj.length c9] Tryz.isAgg38 Tryz.sizeOf38 rfl (qw (H.cells 1 rfl) 0 3) (sw (zF H 4 [.slice ra6 t.qh.length rc7, .slice jk zD ji, .slice a8 t.qj.length c9] Tryz.sizeOf38 fun w126 H => zjr (retC H 4 rfl rfl Tryz.isAgg38 Tryz.sizeOf38 rfl ⟨_, rfl, ?_, H.base⟩))))))
 obtain rfl : k = t.ql.length := by omega
 rw [List.take_length] at H
 exact ⟨ra6, t.qh.length, rc7, jk, zD, ji, zi, xF, a8, t.qj.length, c9, rfl, N, H.pick [3, 0, 2] [0]⟩
theorem l00Max_ok (w : World) (a : Int) (b : Int) : Calls Tryz.prog 119 #[.int .i64 a, .int .i64 b] w (Ret (fun v w' => v = .int .i64 (max a b)) w) := by
 refine en Tryz.func119 Tryz.ntmps119 ?_
 have H := St.start w
 have N := Fresh.nil w.heap.size
 refine zcr (sp (.int .i64 0) (zjcc (sps [.int .i64 a, .int .i64 b, .bool (decide ((a : Int) > b))] (zjn (cD rfl (fun h1 => ?_) (fun h1 => ?_))))))
 ·skip
  refine zcr (sps [.int .i64 a, .int .i64 a] (zjr (t_r (ret1 (.int .i64 a) rfl rfl ⟨_, rfl, (congrArg (Value.int .i64) ?_), H.base⟩))))
  omega
 refine qK (t_n (zcr (sps [.int .i64 b, .int .i64 b] (zjr (ret1 (.int .i64 b) rfl rfl ⟨_, rfl, (congrArg (Value.int .i64) ?_), H.base⟩)))))
 omega

theorem l01Within_ok (w : World) (l : List Int) (m : List Int) (hl : qB.rep w Fl [.slice al l.length cl] l) (hm : qB.rep w Fm [.slice am m.length cm] m) (p0 : l.length ≤ m.length) : Calls Tryz.prog 192 #[.slice al l.length cl, .slice am m.length cm] w (Ret (fun v w' => v = .bool (within l m)) w) := by
 refine en Tryz.func192 Tryz.ntmps192 ?_
 have H := ((St.start w).arg hm).arg hl
 have nhl := qx hl
 have nhm := qx hm
 clear hl hm
 have N := Fresh.nil w.heap.size
 refine zcr (sp (.bool false) (zjcc (sp (.int .i64 0) (zjn (qM ?_)))))
 refine xQ (fun m' ρ w1 => ∃ (junk : Env) (i : Nat), ρ = upd (upd (upd junk 0 (.slice al l.length cl)) 1 (.slice am m.length cm)) 5 (.int .i64 i) ∧ ((i : Int) ≤ l.length) ∧ (withinTo l m i) ∧ m' = (l.length - (i : Int)).toNat ∧ Fresh w.heap.size [] ∧ St w w1 [] [sF false Fl al cl l, sF false Fm am cm m]) ((l.length - (0 : Int)).toNat) ⟨_, 0, uE3, (by omega), (by exact withinTo_zero l m), rfl, N, H⟩ ?_
 clear H N
 rintro m' ρ w2 ⟨junk, i, rfl, i0, i1, rfl, N, H⟩
 refine zcc (sps [.int .i64 i, .slice al l.length cl] (oN rfl (sp (.bool (decide ((i : Int) < l.length))) (zjn (cD rfl (fun h3 => ?_) (fun h3 => ?_))))))
 ·skip
  refine qK (t_n (xC (qM (xC ?_))))
  refine vH rfl H fun H => rtp 0 (.slice al l.length cl) H ?_
  refine rtp 1 (.int .i64 i) H ?_
  obtain ⟨b5, o6, rfl⟩ := H.addr 0 rfl (by omega)
  refine tI 2 rfl rfl rfl H ?_
  refine tL 3 rfl rfl (fun _ h => h.jA 0 rfl i (by omega)) H ?_
  refine rtp 4 (.slice am m.length cm) H ?_
  refine rtp 5 (.int .i64 i) H ?_
  obtain ⟨b8, o9, rfl⟩ := H.addr 1 rfl (by omega)
  refine tI 6 rfl rfl rfl H ?_
  refine tL 7 rfl rfl (fun _ h => h.jA 1 rfl i (by omega)) H ?_
  refine rtp 8 (.bool (decide ((l[i]! : Int) > (m[i]!)))) H ?_
  refine xy (by kernel_rfl) (t_n (cD rfl (fun h11 => ?_) (fun h11 => ?_)))
  ·skip
   refine zcr (sp (.bool false) (zjr (zr5 (ret1 (.bool false) rfl rfl ⟨_, rfl, ?_, H.base⟩))))
   rw [within_no (k := i) ‹_› (by omega)]
  refine qK (b_n (t_n (xH (sp (.int .i64 i) (sw (xX i 1 rfl rfl (by omega) (sp (.int .i64 (i + 1)) (xG (qR (m' := (l.length - ((i + 1) : Int)).toNat) (by omega) ⟨_, i + 1, uE3, ?_, ?_, rfl, N, H⟩)))))))))
  · omega
  · exact withinTo_succ ‹_› (by omega)
 refine zx4 (zcr (sp (.bool true) (zjr (ret1 (.bool true) rfl rfl ⟨_, rfl, ?_, H.base⟩))))
 rw [within_yes ‹_› (by omega)]

theorem l01Times_ok (w : World) (l : List Int) (m : List Int) (hl : qB.rep w Fl [.slice al l.length cl] l) (hm : qB.rep w Fm [.slice am m.length cm] m) (p0 : l.length ≤ m.length) (p2 : ∀ k, k < l.length → 0 ≤ m[k]! ∧ m[k]! ≤ 1000) (p3 : ∃ j, j < l.length ∧ 0 < l[j]!) : Calls Tryz.prog 199 #[.slice al l.length cl, .slice am m.length cm] w (Ret (fun v w' => v = .int .i64 (vM l m)) w) := by
 refine en Tryz.func199 Tryz.ntmps199 ?_
 have H := ((St.start w).arg hm).arg hl
 have nhl := qx hl
 have nhm := qx hm
 clear hl hm
 have N := Fresh.nil w.heap.size
 refine zcr (sp (.int .i64 0) (zjc (sp (.int .i64 (-1)) (zjcc (sp (.int .i64 0) (zjn (qM ?_)))))))
 refine xQ (fun m' ρ w1 => ∃ (junk : Env) (best : Int) (i : Nat), ρ = upd (upd (upd (upd junk 0 (.slice al l.length cl)) 1 (.slice am m.length cm)) 5 (.int .i64 best)) 6 (.int .i64 i) ∧ ((i : Int) ≤ l.length) ∧ (QW l m i best) ∧ m' = (l.length - (i : Int)).toNat ∧ Fresh w.heap.size [] ∧ St w w1 [] [sF false Fl al cl l, sF false Fm am cm m]) ((l.length - (0 : Int)).toNat) ⟨_, (-1), 0, uE4, (by omega), (by exact QW.zero l m), rfl, N, H⟩ ?_
 clear H N
 rintro m' ρ w2 ⟨junk, best, i, rfl, i0, i1, rfl, N, H⟩
 refine zcc (sps [.int .i64 i, .slice al l.length cl] (oN rfl (sp (.bool (decide ((i : Int) < l.length))) (zjn (cD rfl (fun h3 => ?_) (fun h3 => ?_))))))
 ·skip
  refine qK (t_n (xC (qM (xC ?_))))
  refine vH rfl H fun H => rtp 0 (.slice al l.length cl) H ?_
  refine rtp 1 (.int .i64 i) H ?_
  obtain ⟨b5, o6, rfl⟩ := H.addr 0 rfl (by omega)
  refine tI 2 rfl rfl rfl H ?_
  refine tL 3 rfl rfl (fun _ h => h.jA 0 rfl i (by omega)) H ?_
  refine rtp 4 (.bool (decide ((l[i]! : Int) > 0))) H ?_
  refine rtp 5 (.bool (decide ((l[i]! : Int) > 0))) H ?_
  cases h8 : (decide ((l[i]! : Int) > 0))
  ·skip
   replace h8 := of_decide_eq_false h8
   refine zo [6, 7, 8, 9, 10, 11, 12, 13, 14, 15, 16, 17, 18, 19, 20] 15 (H) (rtp 21 (.bool false) H ?_)
   refine xy (by kernel_rfl) (t_n (xn false rfl (fun h => absurd h (by decide)) (fun _ => qK (b_n (t_n (xH (sp (.int .i64 i) (sw (xX i 1 rfl rfl (by (have := p2 i (by omega); omega)) (sp (.int .i64 (i + 1)) (xG (qR (m' := (l.length - ((i + 1) : Int)).toNat) (by omega) ⟨_, best, i + 1, uE4, ?_, ?_, rfl, N, H⟩))))))))))))
   · omega
   · first | exact i1.take (p2 i (by omega)) (by omega) (by omega) (timesTo_bd (fun k hk => (p2 k hk).1) i (by omega)).1 | exact i1.keep (by omega) | exact i1.keep2 (by omega) (by omega) (by omega)
  replace h8 := of_decide_eq_true h8
  refine rgp 6 (.int .i64 best) 18 H ?_
  refine rgp 7 (.bool (decide ((best : Int) < 0))) 18 H ?_
  refine rgp 8 (.bool (decide ((best : Int) < 0))) 18 H ?_
  cases h9 : (decide ((best : Int) < 0))
  ·skip
   replace h9 := of_decide_eq_false h9
   refine rgp 9 (.slice am m.length cm) 21 H ?_
   refine rgp 10 (.int .i64 i) 21 H ?_
   obtain ⟨b10, o11, rfl⟩ := H.addr 1 rfl (by omega)
   refine gI 11 rfl rfl rfl H ?_
   refine gL 12 rfl rfl (fun _ h => h.jd 1 rfl i (by omega) (by omega)) H ?_
   refine rgp 13 (.slice (aa b5 o6) l.length cl) 21 H ?_
   refine rgp 14 (.int .i64 i) 21 H ?_
   refine gI 15 rfl rfl rfl H ?_
   refine gL 16 rfl rfl (fun _ h => h.jd 0 rfl i (by omega) (by omega)) H ?_
   refine rg 17 (.int .i64 ((m[i]!) / (l[i]!))) 21 (y_quo (m[i]!) (l[i]!) rfl rfl (by (have := p2 i (by omega); omega)) (by (have := p2 i (by omega); omega))) H ?_
   refine rgp 18 (.int .i64 best) 21 H ?_
   refine rgp 19 (.bool (decide (((m[i]!) / (l[i]!) : Int) < best))) 21 H ?_
   refine rgp 20 (.bool (decide (((m[i]!) / (l[i]!) : Int) < best))) 18 H ?_
   refine rtp 21 (.bool (decide (((m[i]!) / (l[i]!) : Int) < best))) H ?_
   refine xy (by kernel_rfl) (t_n (cD rfl (fun h13 => ?_) (fun h13 => ?_)))
   ·skip
    refine vH rfl H fun H => rtp 0 (.slice (aa b10 o11) m.length cm) H ?_
    refine rtp 1 (.int .i64 i) H ?_
    refine tI 2 rfl rfl rfl H ?_
    refine tL 3 rfl rfl (fun _ h => h.jA 1 rfl i (by omega)) H ?_
    refine rtp 4 (.slice (aa b5 o6) l.length cl) H ?_
    refine rtp 5 (.int .i64 i) H ?_
    refine tI 6 rfl rfl rfl H ?_
    refine tL 7 rfl rfl (fun _ h => h.jA 0 rfl i (by omega)) H ?_
    refine rt 8 (.int .i64 ((m[i]!) / (l[i]!))) (y_quo (m[i]!) (l[i]!) rfl rfl (by (have := p2 i (by omega); omega)) (by (have := p2 i (by omega); omega))) H ?_
    refine rtp 9 (.int .i64 ((m[i]!) / (l[i]!))) H ?_
    refine xy (by kernel_rfl) (b_n (t_n (xH (sp (.int .i64 i) (sw (xX i 1 rfl rfl (by (have := p2 i (by omega); omega)) (sp (.int .i64 (i + 1)) (xG (qR (m' := (l.length - ((i + 1) : Int)).toNat) (by omega) ⟨_, (m[i]!) / (l[i]!), i + 1, uE4, ?_, ?_, rfl, N, H⟩)))))))))
    · omega
    · first | exact i1.take (p2 i (by omega)) (by omega) (by omega) (timesTo_bd (fun k hk => (p2 k hk).1) i (by omega)).1 | exact i1.keep (by omega) | exact i1.keep2 (by omega) (by omega) (by omega)
   refine qK (b_n (t_n (xH (sp (.int .i64 i) (sw (xX i 1 rfl rfl (by (have := p2 i (by omega); omega)) (sp (.int .i64 (i + 1)) (xG (qR (m' := (l.length - ((i + 1) : Int)).toNat) (by omega) ⟨_, best, i + 1, uE4, ?_, ?_, rfl, N, H⟩)))))))))
   · omega
   · first | exact i1.take (p2 i (by omega)) (by omega) (by omega) (timesTo_bd (fun k hk => (p2 k hk).1) i (by omega)).1 | exact i1.keep (by omega) | exact i1.keep2 (by omega) (by omega) (by omega)
  replace h9 := of_decide_eq_true h9
  refine zo [9, 10, 11, 12, 13, 14, 15, 16, 17, 18, 19] 11 (H) (rgp 20 (.bool true) 18 H ?_)
  refine rtp 21 (.bool true) H ?_
  refine xy (by kernel_rfl) (t_n (xn true rfl (fun _ => ?_) (fun h => absurd h (by decide))))
  refine vH rfl H fun H => rtp 0 (.slice am m.length cm) H ?_
  refine rtp 1 (.int .i64 i) H ?_
  obtain ⟨b16, o17, rfl⟩ := H.addr 1 rfl (by omega)
  refine tI 2 rfl rfl rfl H ?_
  refine tL 3 rfl rfl (fun _ h => h.jA 1 rfl i (by omega)) H ?_
  refine rtp 4 (.slice (aa b5 o6) l.length cl) H ?_
  refine rtp 5 (.int .i64 i) H ?_
  refine tI 6 rfl rfl rfl H ?_
  refine tL 7 rfl rfl (fun _ h => h.jA 0 rfl i (by omega)) H ?_
  refine rt 8 (.int .i64 ((m[i]!) / (l[i]!))) (y_quo (m[i]!) (l[i]!) rfl rfl (by (have := p2 i (by omega); omega)) (by (have := p2 i (by omega); omega))) H ?_
  refine rtp 9 (.int .i64 ((m[i]!) / (l[i]!))) H ?_
  refine xy (by kernel_rfl) (b_n (t_n (xH (sp (.int .i64 i) (sw (xX i 1 rfl rfl (by (have := p2 i (by omega); omega)) (sp (.int .i64 (i + 1)) (xG (qR (m' := (l.length - ((i + 1) : Int)).toNat) (by omega) ⟨_, (m[i]!) / (l[i]!), i + 1, uE4, ?_, ?_, rfl, N, H⟩)))))))))
  · omega
  · first | exact i1.take (p2 i (by omega)) (by omega) (by omega) (timesTo_bd (fun k hk => (p2 k hk).1) i (by omega)).1 | exact i1.keep (by omega) | exact i1.keep2 (by omega) (by omega) (by omega)
 refine zx4 (zcr (sps [.int .i64 best, .int .i64 best] (zjr (ret1 (.int .i64 best) rfl rfl ⟨_, rfl, ?_, H.base⟩))))
 obtain rfl : i = l.length := by omega
 rw [i1.done p3]; rfl

theorem l03Both_ok (w : World) (s : qy) (t : qE) (hs : zK w bs os [.int .i64 s.qJ, .slice qo s.qf.length qm, .slice qC s.qg.length qA]) (qU : qB.rep w qP [.slice qo s.qf.length qm] s.qf) (xx : qB.rep w xu [.slice qC s.qg.length qA] s.qg) (ht : zK w bt ot [.slice qN t.qh.length qL, .slice xh t.ql.length qZ, .slice qG t.qj.length qF]) (xK : qB.rep w xE [.slice qN t.qh.length qL] t.qh) (zn : qB.rep w zf [.slice xh t.ql.length qZ] t.ql) (xA : qB.rep w xw [.slice qG t.qj.length qF] t.qj) : Calls Tryz.prog 57 #[pp bs os, pp bt ot] w (Ret (fun v w' => v = .bool (dec (jG s ∧ zt s t))) w) := by
 refine en Tryz.func57 Tryz.ntmps57 ?_
 have H := (((((((St.start w).arg xA).arg zn).arg xK).XX ht).arg xx).arg qU).XX hs
 have zJ := qx qU
 have vW := qx xx
 have yJ := qx xK
 have QD := qx zn
 have jB := qx xA
 clear hs qU xx ht xK zn xA
 have N := Fresh.nil w.heap.size
 refine zcr (sp (.bool false) (zjc (sp (pp bs os) (sw (oq (l02Ok_ok _ s (qw (H.get 0 rfl) 0 3) (H.get 1 rfl).1 (H.get 2 rfl).1) H fun w1 H => sp (.bool (dec (jG s))) ?_)))))
 cases h3 : (dec (jG s))
 ·skip
  replace h3 := zA h3
  refine xJ [8, 9, 10] (sps [.bool false, .bool false] (zjr (ret1 (.bool false) rfl rfl ⟨_, rfl, ?_, H.base⟩)))
  rw [qY (fun h => ‹¬ jG s› h.1)]
 replace h3 := yU h3
 refine qH 7 rfl rfl (sp (pp bs os) (qH 7 rfl rfl (sp (pp bt ot) (qH 7 rfl rfl (sw (oq (l02State_ok _ s t (qw (H.get 0 rfl) 0 3) (H.get 1 rfl).1 (H.get 2 rfl).1 (qw (H.get 3 rfl) 0 3) (H.get 4 rfl).1 (H.get 5 rfl).1 (H.get 6 rfl).1 (by first | assumption | exact (And.left (by assumption : jG _)))) H fun w4 H => sps [.bool (dec (zt s t)), .bool (dec (zt s t))] (zjr (ret1 (.bool (dec (zt s t))) rfl rfl ⟨_, rfl, (congrArg Value.bool (dec_eq ?_)), H.base⟩))))))))
 first | exact ⟨fun h => ⟨‹_›, yU h⟩, fun h => jF h.2⟩ | (simp_all; done)

theorem l03Enabled_ok (w : World) (s : qy) (t : qE) (r : Qr) {br or : Nat} (hs : zK w bs os [.int .i64 s.qJ, .slice qo s.qf.length qm, .slice qC s.qg.length qA]) (qU : qB.rep w qP [.slice qo s.qf.length qm] s.qf) (xx : qB.rep w xu [.slice qC s.qg.length qA] s.qg) (ht : zK w bt ot [.slice qN t.qh.length qL, .slice xh t.ql.length qZ, .slice qG t.qj.length qF]) (xK : qB.rep w xE [.slice qN t.qh.length qL] t.qh) (zn : qB.rep w zf [.slice xh t.ql.length qZ] t.ql) (xA : qB.rep w xw [.slice qG t.qj.length qF] t.qj) (hr : zK w br or [.int .i64 r.qp, .int .i64 r.zg, .slice jO r.qV.length jI, .slice jR r.xg.length jL, .slice jP r.xm.length jJ, .slice jQ r.xq.length jK, .slice QR r.zq.length QQ, .slice jv r.qI.length jr, .bool r.xO]) (hrNeed : qB.rep w VD [.slice jO r.qV.length jI] r.qV) (hrHave : qB.rep w VG [.slice jR r.xg.length jL] r.xg) (hrLack : qB.rep w VE [.slice jP r.xm.length jJ] r.xm) (hrHere : qB.rep w VF [.slice jQ r.xq.length jK] r.xq) (hrOut : qB.rep w FrOut [.slice QR r.zq.length QQ] r.zq) (hrInto : qB.rep w FrInto [.slice jv r.qI.length jr] r.qI) (p0 : jG s) (p1 : zt s t) (p2 : RuleOk s r) : Calls Tryz.prog 157 #[pp bs os, pp bt ot, pp br or] w (Ret (fun v w' => v = .bool (dec (EnOk s t r))) w) := by
 refine en Tryz.func157 Tryz.ntmps157 ?_
 have H := ((((((((((((((St.start w).arg hrInto).arg hrOut).arg hrHere).arg hrLack).arg hrHave).arg hrNeed).XX hr).arg xA).arg zn).arg xK).XX ht).arg xx).arg qU).XX hs
 have zJ := qx qU
 have vW := qx xx
 have yJ := qx xK
 have QD := qx zn
 have jB := qx xA
 have nhrNeed := qx hrNeed
 have nhrHave := qx hrHave
 have nhrLack := qx hrLack
 have nhrHere := qx hrHere
 have nhrOut := qx hrOut
 have nhrInto := qx hrInto
 clear hs qU xx ht xK zn xA hr hrNeed hrHave hrLack hrHere hrOut hrInto
 have N := Fresh.nil w.heap.size
 have p3 := p2.1
 have p4 := p1.1
 have p5 := p1.2.1
 have p6 := (p1.bagLen (k := r.qp.toNat) (by omega)).len
 have p7 := p2.2.2.2.2.1.len
 have p8 := p2.2.2.2.2.2.1.len
 have p9 := p2.2.2.2.2.2.2.1.len
 have p10 := zL p2.2.2.2.2.2.2.1
 have p11 := p0.1
 have p12 := p2.2.2.2.2.2.2.2.2.2.2
 refine zcr (sp (.bool false) (zjn (xC (xC ?_))))
 refine vH rfl H fun H => rtp 0 (pp bt ot) H ?_
 refine rtp 1 (pp bt ot) H ?_
 refine tF 2 rfl rfl H ?_
 refine tL 3 rfl rfl (fun _ h => h.xB 3 rfl 0 rfl) H ?_
 refine rtp 4 (pp br or) H ?_
 refine rtp 5 (pp br or) H ?_
 refine tF 6 rfl rfl H ?_
 refine tL 7 rfl rfl (fun _ h => h.xB 7 rfl 0 rfl) H ?_
 obtain ⟨b2, o3, rfl⟩ := H.addr 4 rfl (by omega)
 refine tI 8 rfl rfl rfl H ?_
 refine tL 9 rfl rfl (fun _ h => h.Xc 4 rfl r.qp (by omega) (by omega)) H ?_
 refine rtp 10 (.bool (!(t.qh[r.qp.toNat]!))) H ?_
 refine xy (by kernel_rfl) (t_n (xn (!(t.qh[r.qp.toNat]!)) rfl (fun h5 => ?_) (fun h5 => ?_)))
 ·skip
  replace h5 := qW h5
  refine zcr (sp (.bool false) (zjr (t_r (ret1 (.bool false) rfl rfl ⟨_, rfl, ?_, H.base⟩))))
  rw [qY (fun h => by obtain ⟨h1, h2, h3, h4, h5⟩ := h; first | exact ft h1 ‹_› | exact ft h2 ‹_› | exact ft h3 ‹_› | exact h4 ⟨‹_›, ‹_›⟩ | (obtain ⟨q1, q2⟩ := h5 i (by omega); first | exact ft q1 ‹_› | exact absurd q2 ‹_›))]
 replace h5 := qQ h5
 refine qK (t_n (xC ?_))
 refine vH rfl H fun H => rtp 0 (pp bt ot) H ?_
 refine rtp 1 (pp bt ot) H ?_
 refine tF 2 rfl rfl H ?_
 refine tL 3 rfl rfl (fun _ h => h.xB 3 rfl 1 rfl) H ?_
 refine rtp 4 (pp br or) H ?_
 refine rtp 5 (pp br or) H ?_
 refine tF 6 rfl rfl H ?_
 refine tL 7 rfl rfl (fun _ h => h.xB 7 rfl 0 rfl) H ?_
 obtain ⟨b7, o8, rfl⟩ := H.addr 5 rfl (by omega)
 obtain ⟨ae10, ce10, Fe10, H⟩ := H.zU 5 rfl r.qp r.qp.toNat (by omega) (by omega) (by omega)
 refine tI 8 rfl rfl rfl (H.pick [] [2, 3, 4, 5, 6, 7, 8, 9, 10, 11, 12, 13, 14, 15]) ?_
 refine ro 9 rfl (zl (.slice ae10 ((t.ql[r.qp.toNat]!).length) ce10) Tryz.isAgg22 rfl (H.xB 1 rfl 0 rfl) (⟨H.pick [] [2, 3, 4, 5, 6, 7, 8, 9, 10, 11, 12, 13, 14, 15], (rtp 10 (.slice ae10 ((t.ql[r.qp.toNat]!).length) ce10) (H.pick [] [2, 3, 4, 5, 6, 7, 8, 9, 10, 11, 12, 13, 14, 15]) ?_)⟩))
 refine xy (by kernel_rfl) (t_n (zcc (sps [pp br or, pp br or] (oF rfl (oL rfl (H.xB 9 rfl 2 rfl) (sp (.slice ae10 ((t.ql[r.qp.toNat]!).length) ce10) (sw (oq (l01Within_ok _ r.qV (t.ql[r.qp.toNat]!) (H.get 10 rfl).1 (H.get 0 rfl).1 (by first | assumption | omega)) H fun w12 H => sps [.bool (!(within r.qV (t.ql[r.qp.toNat]!))), .bool (!(within r.qV (t.ql[r.qp.toNat]!)))] ?_))))))))
 cases h14 : (!(within r.qV (t.ql[r.qp.toNat]!)))
 ·skip
  replace h14 := qQ h14
  refine qH 38 rfl rfl (sp (pp br or) (qH 38 rfl rfl (sp (pp br or) (qH 38 rfl rfl (oF rfl (qH 38 rfl rfl (oL rfl (H.xB 9 rfl 3 rfl) (qH 38 rfl rfl (sp (.slice ae10 ((t.ql[r.qp.toNat]!).length) ce10) (qH 38 rfl rfl (sw (oq (l01Within_ok _ r.xg (t.ql[r.qp.toNat]!) (H.get 11 rfl).1 (H.get 0 rfl).1 (by first | assumption | omega)) H fun w16 H => qH 38 rfl rfl (sps [.bool (!(within r.xg (t.ql[r.qp.toNat]!))), .bool (!(within r.xg (t.ql[r.qp.toNat]!))), .bool (!(within r.xg (t.ql[r.qp.toNat]!)))] ?_)))))))))))))
  cases h18 : (!(within r.xg (t.ql[r.qp.toNat]!)))
  ·skip
   replace h18 := qQ h18
   refine qH 47 rfl rfl (sp (pp br or) (qH 47 rfl rfl (sp (pp br or) (qH 47 rfl rfl (oF rfl (qH 47 rfl rfl (oL rfl (H.xB 9 rfl 4 rfl) (qH 47 rfl rfl (sw (oq (V3 _ r.xm (H.get 12 rfl).1 (by first | assumption | exact zL (by assumption) | exact yD (by assumption))) H fun w19 H => qH 47 rfl rfl (sp (.bool (decide ((X4 r.xm : Int) > 0))) (qH 47 rfl rfl (sp (.bool (decide ((X4 r.xm : Int) > 0))) ?_)))))))))))))
   cases h21 : (decide ((X4 r.xm : Int) > 0))
   ·skip
    replace h21 := of_decide_eq_false h21
    refine xJ [55, 56, 57, 58, 59, 60] (qH 47 rfl rfl (sps [.bool false, .bool false] (zjn (xn false rfl (fun h => absurd h (by decide)) (fun _ => qK (t_n (zcc (sp (.int .i64 0) (zjn (qM ?_))))))))))
    refine xQ (fun m' ρ w22 => ∃ (junk : Env) (i : Nat), ρ = upd (upd (upd (upd junk 0 (pp bs os)) 1 (pp bt ot)) 2 (pp br or)) 8 (.int .i64 i) ∧ ((i : Int) ≤ r.qI.length) ∧ (IntoUp s t r i) ∧ m' = (r.qI.length - (i : Int)).toNat ∧ Fresh w.heap.size [] ∧ St w w22 [] [sF false Fe10 ae10 ce10 (t.ql[r.qp.toNat]!), atF b7 (o8 + (r.qp : Int).toNat * 1) [.slice ae10 ((t.ql[r.qp.toNat]!).length) ce10], atF bs os [.int .i64 s.qJ, .slice qo s.qf.length qm, .slice qC s.qg.length qA], sF false qP qo qm s.qf, sF false xu qC qA s.qg, atF bt ot [.slice (aa b2 o3) t.qh.length qL, .slice (aa b7 o8) t.ql.length qZ, .slice qG t.qj.length qF], sF false xE (aa b2 o3) qL t.qh, sF false zf (aa b7 o8) qZ t.ql, sF false xw qG qF t.qj, atF br or [.int .i64 r.qp, .int .i64 r.zg, .slice jO r.qV.length jI, .slice jR r.xg.length jL, .slice jP r.xm.length jJ, .slice jQ r.xq.length jK, .slice QR r.zq.length QQ, .slice jv r.qI.length jr, .bool r.xO], sF false VD jO jI r.qV, sF false VG jR jL r.xg, sF false VE jP jJ r.xm, sF false VF jQ jK r.xq, sF false FrOut QR QQ r.zq, sF false FrInto jv jr r.qI]) ((r.qI.length - (0 : Int)).toNat) ⟨_, 0, uE4, (by omega), (by exact fun j hj => by omega), rfl, N, H⟩ ?_
    clear H N
    rintro m' ρ w23 ⟨junk, i, rfl, i0, i1, rfl, N, H⟩
    refine zcc (sps [.int .i64 i, pp br or, pp br or] (oF rfl (oL rfl (H.xB 9 rfl 7 rfl) (oN rfl (sp (.bool (decide ((i : Int) < r.qI.length))) (zjn (cD rfl (fun h24 => ?_) (fun h24 => ?_))))))))
    ·skip
     have q := (p12 i (by omega)).1
     have q1 := q.1
     have q2 := q.2
     refine qK (t_n (xC (qM (zcr (sps [pp br or, pp br or] (oF rfl (oL rfl (H.xB 9 rfl 7 rfl) (sp (.int .i64 i) ?_))))))))
     obtain ⟨b25, o26, rfl⟩ := H.addr 15 rfl (by omega)
     obtain ⟨ae28Bag, ce28Bag, Fe28Bag, H⟩ := H.jh 15 rfl i i (by omega) (by omega) (by omega)
     refine oI rfl rfl (oF rfl (oL rfl (H.xB 1 rfl 0 rfl) (sp (.int .i64 ((r.qI[i]!).qp)) (zjn (xC ?_)))))
     refine vH rfl H fun H => rtp 0 (pp bt ot) H ?_
     refine rtp 1 (pp bt ot) H ?_
     refine tF 2 rfl rfl H ?_
     refine tL 3 rfl rfl (fun _ h => h.xB 7 rfl 0 rfl) H ?_
     refine rtp 4 (.int .i64 ((r.qI[i]!).qp)) H ?_
     refine tI 5 rfl rfl rfl H ?_
     refine tL 6 rfl rfl (fun _ h => h.Xc 8 rfl ((r.qI[i]!).qp) (by omega) (by omega)) H ?_
     refine rtp 7 (.bool (!(t.qh[((r.qI[i]!).qp).toNat]!))) H ?_
     refine rtp 8 (.bool (!(t.qh[((r.qI[i]!).qp).toNat]!))) H ?_
     cases h30 : (!(t.qh[((r.qI[i]!).qp).toNat]!))
     ·skip
      replace h30 := qQ h30
      refine rgp 9 (pp bs os) 88 H ?_
      refine rgp 10 (pp bt ot) 88 H ?_
      refine rgp 11 (.int .i64 ((r.qI[i]!).qp)) 88 H ?_
      refine rgp 13 (pp br or) 88 H ?_
      refine rgp 14 (pp br or) 88 H ?_
      refine gF 15 rfl rfl H ?_
      refine gL 16 rfl rfl (fun _ h => h.xB 11 rfl 0 rfl) H ?_
      refine vT [12] (by kernel_rfl) (by simp) (r_opG rfl (e := 88) rfl rfl (oq (l02Parent_ok _ s t ((r.qI[i]!).qp) (qw (H.get 4 rfl) 0 3) (H.get 5 rfl).1 (H.get 6 rfl).1 (qw (H.get 7 rfl) 0 3) (H.get 8 rfl).1 (H.get 9 rfl).1 (H.get 10 rfl).1 (by assumption) (by assumption) (by assumption)) H fun w31 H => ⟨H, (rgp 17 (.bool ((xe s t ((r.qI[i]!).qp) : Int) != r.qp)) 88 H ?_)⟩) vU)
      refine rtp 18 (.bool ((xe s t ((r.qI[i]!).qp) : Int) != r.qp)) H ?_
      refine xy (by kernel_rfl) (t_n (xn ((xe s t ((r.qI[i]!).qp) : Int) != r.qp) rfl (fun h33 => ?_) (fun h33 => ?_)))
      ·skip
       replace h33 := bne_iff_ne.1 h33
       refine zcr (sp (.bool false) (zjr (zr5 (ret1 (.bool false) rfl rfl ⟨_, rfl, ?_, H.base⟩))))
       rw [qY (fun h => by obtain ⟨h1, h2, h3, h4, h5⟩ := h; first | exact ft h1 ‹_› | exact ft h2 ‹_› | exact ft h3 ‹_› | exact h4 ⟨‹_›, ‹_›⟩ | (obtain ⟨q1, q2⟩ := h5 i (by omega); first | exact ft q1 ‹_› | exact absurd q2 ‹_›))]
      replace h33 := xf h33
      refine qK (b_n (t_n (xH (sp (.int .i64 i) (sw (xX i 1 rfl rfl (by omega) (sp (.int .i64 (i + 1)) (xG (qR (m' := (r.qI.length - ((i + 1) : Int)).toNat) (by omega) ⟨_, i + 1, uE4, ?_, ?_, rfl, N, H.pick [] [2, 3, 4, 5, 6, 7, 8, 9, 10, 11, 12, 13, 14, 15, 16, 17]⟩)))))))))
      · omega
      · exact i1.succ ‹_› ‹_›
     replace h30 := qW h30
     refine zo [9, 10, 11, 12, 13, 14, 15, 16, 17] 9 (H) (rtp 18 (.bool true) H ?_)
     refine xy (by kernel_rfl) (t_n (xn true rfl (fun _ => zcr (sp (.bool false) (zjr (zr5 (ret1 (.bool false) rfl rfl ⟨_, rfl, ?_, H.base⟩))))) (fun h => absurd h (by decide))))
     rw [qY (fun h => by obtain ⟨h1, h2, h3, h4, h5⟩ := h; first | exact ft h1 ‹_› | exact ft h2 ‹_› | exact ft h3 ‹_› | exact h4 ⟨‹_›, ‹_›⟩ | (obtain ⟨q1, q2⟩ := h5 i (by omega); first | exact ft q1 ‹_› | exact absurd q2 ‹_›))]
    refine zx4 (zcr (sp (.bool true) (zjr (ret1 (.bool true) rfl rfl ⟨_, rfl, ?_, H.base⟩))))
    rw [jF ⟨by assumption, by assumption, by assumption, fun ⟨u, v⟩ => by first | omega | exact ft v ‹_›, (show i = r.qI.length by omega) ▸ i1⟩]
   replace h21 := of_decide_eq_true h21
   refine qH 54 rfl rfl (sp (pp br or) (qH 54 rfl rfl (sp (pp br or) (qH 54 rfl rfl (oF rfl (qH 54 rfl rfl (oL rfl (H.xB 9 rfl 4 rfl) (qH 54 rfl rfl (sp (.slice ae10 ((t.ql[r.qp.toNat]!).length) ce10) (qH 54 rfl rfl (sw (oq (l01Within_ok _ r.xm (t.ql[r.qp.toNat]!) (H.get 12 rfl).1 (H.get 0 rfl).1 (by first | assumption | omega)) H fun w35 H => qH 47 rfl rfl (sps [.bool (within r.xm (t.ql[r.qp.toNat]!)), .bool (within r.xm (t.ql[r.qp.toNat]!))] (zjn (xn (within r.xm (t.ql[r.qp.toNat]!)) rfl (fun h37 => ?_) (fun h37 => ?_))))))))))))))))
   ·skip
    refine zcr (sp (.bool false) (zjr (t_r (ret1 (.bool false) rfl rfl ⟨_, rfl, ?_, H.base⟩))))
    rw [qY (fun h => by obtain ⟨h1, h2, h3, h4, h5⟩ := h; first | exact ft h1 ‹_› | exact ft h2 ‹_› | exact ft h3 ‹_› | exact h4 ⟨‹_›, ‹_›⟩ | (obtain ⟨q1, q2⟩ := h5 i (by omega); first | exact ft q1 ‹_› | exact absurd q2 ‹_›))]
   refine qK (t_n (zcc (sp (.int .i64 0) (zjn (qM ?_)))))
   refine xQ (fun m' ρ w38 => ∃ (junk : Env) (i : Nat), ρ = upd (upd (upd (upd junk 0 (pp bs os)) 1 (pp bt ot)) 2 (pp br or)) 8 (.int .i64 i) ∧ ((i : Int) ≤ r.qI.length) ∧ (IntoUp s t r i) ∧ m' = (r.qI.length - (i : Int)).toNat ∧ Fresh w.heap.size [] ∧ St w w38 [] [sF false Fe10 ae10 ce10 (t.ql[r.qp.toNat]!), atF b7 (o8 + (r.qp : Int).toNat * 1) [.slice ae10 ((t.ql[r.qp.toNat]!).length) ce10], atF bs os [.int .i64 s.qJ, .slice qo s.qf.length qm, .slice qC s.qg.length qA], sF false qP qo qm s.qf, sF false xu qC qA s.qg, atF bt ot [.slice (aa b2 o3) t.qh.length qL, .slice (aa b7 o8) t.ql.length qZ, .slice qG t.qj.length qF], sF false xE (aa b2 o3) qL t.qh, sF false zf (aa b7 o8) qZ t.ql, sF false xw qG qF t.qj, atF br or [.int .i64 r.qp, .int .i64 r.zg, .slice jO r.qV.length jI, .slice jR r.xg.length jL, .slice jP r.xm.length jJ, .slice jQ r.xq.length jK, .slice QR r.zq.length QQ, .slice jv r.qI.length jr, .bool r.xO], sF false VD jO jI r.qV, sF false VG jR jL r.xg, sF false VE jP jJ r.xm, sF false VF jQ jK r.xq, sF false FrOut QR QQ r.zq, sF false FrInto jv jr r.qI]) ((r.qI.length - (0 : Int)).toNat) ⟨_, 0, uE4, (by omega), (by exact fun j hj => by omega), rfl, N, H⟩ ?_
   clear H N
   rintro m' ρ w39 ⟨junk, i, rfl, i0, i1, rfl, N, H⟩
   refine zcc (sps [.int .i64 i, pp br or, pp br or] (oF rfl (oL rfl (H.xB 9 rfl 7 rfl) (oN rfl (sp (.bool (decide ((i : Int) < r.qI.length))) (zjn (cD rfl (fun h40 => ?_) (fun h40 => ?_))))))))
   ·skip
    have q := (p12 i (by omega)).1
    have q1 := q.1
    have q2 := q.2
    refine qK (t_n (xC (qM (zcr (sps [pp br or, pp br or] (oF rfl (oL rfl (H.xB 9 rfl 7 rfl) (sp (.int .i64 i) ?_))))))))
    obtain ⟨b41, o42, rfl⟩ := H.addr 15 rfl (by omega)
    obtain ⟨ae44Bag, ce44Bag, Fe44Bag, H⟩ := H.jh 15 rfl i i (by omega) (by omega) (by omega)
    refine oI rfl rfl (oF rfl (oL rfl (H.xB 1 rfl 0 rfl) (sp (.int .i64 ((r.qI[i]!).qp)) (zjn (xC ?_)))))
    refine vH rfl H fun H => rtp 0 (pp bt ot) H ?_
    refine rtp 1 (pp bt ot) H ?_
    refine tF 2 rfl rfl H ?_
    refine tL 3 rfl rfl (fun _ h => h.xB 7 rfl 0 rfl) H ?_
    refine rtp 4 (.int .i64 ((r.qI[i]!).qp)) H ?_
    refine tI 5 rfl rfl rfl H ?_
    refine tL 6 rfl rfl (fun _ h => h.Xc 8 rfl ((r.qI[i]!).qp) (by omega) (by omega)) H ?_
    refine rtp 7 (.bool (!(t.qh[((r.qI[i]!).qp).toNat]!))) H ?_
    refine rtp 8 (.bool (!(t.qh[((r.qI[i]!).qp).toNat]!))) H ?_
    cases h46 : (!(t.qh[((r.qI[i]!).qp).toNat]!))
    ·skip
     replace h46 := qQ h46
     refine rgp 9 (pp bs os) 88 H ?_
     refine rgp 10 (pp bt ot) 88 H ?_
     refine rgp 11 (.int .i64 ((r.qI[i]!).qp)) 88 H ?_
     refine rgp 13 (pp br or) 88 H ?_
     refine rgp 14 (pp br or) 88 H ?_
     refine gF 15 rfl rfl H ?_
     refine gL 16 rfl rfl (fun _ h => h.xB 11 rfl 0 rfl) H ?_
     refine vT [12] (by kernel_rfl) (by simp) (r_opG rfl (e := 88) rfl rfl (oq (l02Parent_ok _ s t ((r.qI[i]!).qp) (qw (H.get 4 rfl) 0 3) (H.get 5 rfl).1 (H.get 6 rfl).1 (qw (H.get 7 rfl) 0 3) (H.get 8 rfl).1 (H.get 9 rfl).1 (H.get 10 rfl).1 (by assumption) (by assumption) (by assumption)) H fun w47 H => ⟨H, (rgp 17 (.bool ((xe s t ((r.qI[i]!).qp) : Int) != r.qp)) 88 H ?_)⟩) vU)
     refine rtp 18 (.bool ((xe s t ((r.qI[i]!).qp) : Int) != r.qp)) H ?_
     refine xy (by kernel_rfl) (t_n (xn ((xe s t ((r.qI[i]!).qp) : Int) != r.qp) rfl (fun h49 => ?_) (fun h49 => ?_)))
     ·skip
      replace h49 := bne_iff_ne.1 h49
      refine zcr (sp (.bool false) (zjr (zr5 (ret1 (.bool false) rfl rfl ⟨_, rfl, ?_, H.base⟩))))
      rw [qY (fun h => by obtain ⟨h1, h2, h3, h4, h5⟩ := h; first | exact ft h1 ‹_› | exact ft h2 ‹_› | exact ft h3 ‹_› | exact h4 ⟨‹_›, ‹_›⟩ | (obtain ⟨q1, q2⟩ := h5 i (by omega); first | exact ft q1 ‹_› | exact absurd q2 ‹_›))]
     replace h49 := xf h49
     refine qK (b_n (t_n (xH (sp (.int .i64 i) (sw (xX i 1 rfl rfl (by omega) (sp (.int .i64 (i + 1)) (xG (qR (m' := (r.qI.length - ((i + 1) : Int)).toNat) (by omega) ⟨_, i + 1, uE4, ?_, ?_, rfl, N, H.pick [] [2, 3, 4, 5, 6, 7, 8, 9, 10, 11, 12, 13, 14, 15, 16, 17]⟩)))))))))
     · omega
     · exact i1.succ ‹_› ‹_›
    replace h46 := qW h46
    refine zo [9, 10, 11, 12, 13, 14, 15, 16, 17] 9 (H) (rtp 18 (.bool true) H ?_)
    refine xy (by kernel_rfl) (t_n (xn true rfl (fun _ => zcr (sp (.bool false) (zjr (zr5 (ret1 (.bool false) rfl rfl ⟨_, rfl, ?_, H.base⟩))))) (fun h => absurd h (by decide))))
    rw [qY (fun h => by obtain ⟨h1, h2, h3, h4, h5⟩ := h; first | exact ft h1 ‹_› | exact ft h2 ‹_› | exact ft h3 ‹_› | exact h4 ⟨‹_›, ‹_›⟩ | (obtain ⟨q1, q2⟩ := h5 i (by omega); first | exact ft q1 ‹_› | exact absurd q2 ‹_›))]
   refine zx4 (zcr (sp (.bool true) (zjr (ret1 (.bool true) rfl rfl ⟨_, rfl, ?_, H.base⟩))))
   rw [jF ⟨by assumption, by assumption, by assumption, fun ⟨u, v⟩ => by first | omega | exact ft v ‹_›, (show i = r.qI.length by omega) ▸ i1⟩]
  replace h18 := qW h18
  refine xJ [48, 49, 50, 51, 52, 53, 54, 55, 56, 57, 58, 59, 60, 61] (sp (.bool true) (zjn (xn true rfl (fun _ => zcr (sp (.bool false) (zjr (t_r (ret1 (.bool false) rfl rfl ⟨_, rfl, ?_, H.base⟩))))) (fun h => absurd h (by decide)))))
  rw [qY (fun h => by obtain ⟨h1, h2, h3, h4, h5⟩ := h; first | exact ft h1 ‹_› | exact ft h2 ‹_› | exact ft h3 ‹_› | exact h4 ⟨‹_›, ‹_›⟩ | (obtain ⟨q1, q2⟩ := h5 i (by omega); first | exact ft q1 ‹_› | exact absurd q2 ‹_›))]
 replace h14 := qW h14
 refine xJ [39, 40, 41, 42, 43, 44, 45] (sps [.bool true, .bool true] (xJ [48, 49, 50, 51, 52, 53, 54, 55, 56, 57, 58, 59, 60, 61] (sp (.bool true) (zjn (xn true rfl (fun _ => zcr (sp (.bool false) (zjr (t_r (ret1 (.bool false) rfl rfl ⟨_, rfl, ?_, H.base⟩))))) (fun h => absurd h (by decide)))))))
 rw [qY (fun h => by obtain ⟨h1, h2, h3, h4, h5⟩ := h; first | exact ft h1 ‹_› | exact ft h2 ‹_› | exact ft h3 ‹_› | exact h4 ⟨‹_›, ‹_›⟩ | (obtain ⟨q1, q2⟩ := h5 i (by omega); first | exact ft q1 ‹_› | exact absurd q2 ‹_›))]

theorem l03Applicable_ok (w : World) (s : qy) (t : qE) (hs : zK w bs os [.int .i64 s.qJ, .slice qo s.qf.length qm, .slice qC s.qg.length qA]) (qU : qB.rep w qP [.slice qo s.qf.length qm] s.qf) (xx : qB.rep w xu [.slice qC s.qg.length qA] s.qg) (ht : zK w bt ot [.slice qN t.qh.length qL, .slice xh t.ql.length qZ, .slice qG t.qj.length qF]) (xK : qB.rep w xE [.slice qN t.qh.length qL] t.qh) (zn : qB.rep w zf [.slice xh t.ql.length qZ] t.ql) (xA : qB.rep w xw [.slice qG t.qj.length qF] t.qj) (p0 : jG s) (p1 : zt s t) : Calls Tryz.prog 127 #[pp bs os, pp bt ot] w (Ret (fun v w' => ∃ (ra : Option Addr) (rn : Nat) (rc : Nat), v = .slice ra rn rc ∧ Fresh w.heap.size [] ∧ St w w' [rr ra rn rc 4 1 ((appl s t).map (Value.bool))] []) w) := by
 refine en Tryz.func127 Tryz.ntmps127 ?_
 have H := (((((((St.start w).arg xA).arg zn).arg xK).XX ht).arg xx).arg qU).XX hs
 have zJ := qx qU
 have vW := qx xx
 have yJ := qx xK
 have QD := qx zn
 have jB := qx xA
 clear hs qU xx ht xK zn xA
 have N := Fresh.nil w.heap.size
 have p2 := p0.2.1
 have p3 := p0.1.2.1
 refine zcr (sp (.slice none 0 0) (zjc (sps [pp bs os, pp bs os] (oF rfl (oL rfl (H.xB 0 rfl 1 rfl) (oN rfl (sw (Xa H Tryz.underlying22 ti2 s.qf.length rfl rfl (by omega) (by omega) (by omega) fun b1 w2 H => sp (.slice (aa b1 0) s.qf.length s.qf.length) (zjc (sw (vI H Tryz.underlying26 ti4 fun b3 w4 H => sp (.slice (aa b3 0) 0 0) (zjcc (sp (.int .i64 0) (zjn (qM ?_)))))))))))))))
 replace H := H.boxRowB 0 [] 0
 refine xQ (fun m' ρ w5 => ∃ (junk : Env) (zW : Option Addr) (xZ : Nat) (zH : Nat) (out : List Bool) (i : Nat) (best : List Int), ρ = upd (upd (upd (upd (upd junk 0 (pp bs os)) 1 (pp bt ot)) 5 (.slice (aa b1 0) s.qf.length s.qf.length)) 6 (.slice zW xZ zH)) 7 (.int .i64 i) ∧ out = applB s t 0 i ∧ best = bests s t 0 s.qf.length i ∧ ((i : Int) ≤ s.qg.length) ∧ m' = (s.qg.length - (i : Int)).toNat ∧ Fresh w.heap.size [] ∧ St w w5 [rr zW xZ zH 4 1 (out.map (Value.bool)), rr (aa b1 0) s.qf.length s.qf.length 2 1 (best.map (Value.int .i64))] [atF bs os [.int .i64 s.qJ, .slice qo s.qf.length qm, .slice qC s.qg.length qA], sF false qP qo qm s.qf, sF false xu qC qA s.qg, atF bt ot [.slice qN t.qh.length qL, .slice xh t.ql.length qZ, .slice qG t.qj.length qF], sF false xE qN qL t.qh, sF false zf xh qZ t.ql, sF false xw qG qF t.qj]) ((s.qg.length - (0 : Int)).toNat) ⟨_, (aa b3 0), 0, 0, ([] : List Bool), 0, (List.replicate s.qf.length (0 : Int)), uE5, (by rfl), (by exact bests_zero s t 0 _), (by omega), rfl, N, H⟩ ?_
 clear H N
 rintro m' ρ w6 ⟨junk, zW, xZ, zH, out, i, best, rfl, rfl, rfl, i0, rfl, N, H⟩
 have hn_out := H.rowNB 0 rfl
 have hn_best := H.rowNI 1 rfl
 have bl := Xn s t 0 s.qf.length i
 have al := applB_len s t 0 i
 refine zcc (sps [.int .i64 i, pp bs os, pp bs os] (oF rfl (oL rfl (H.xB 0 rfl 2 rfl) (oN rfl (sp (.bool (decide ((i : Int) < s.qg.length))) (zjn (cD rfl (fun h7 => ?_) (fun h7 => ?_))))))))
 ·skip
  have q := p0.rule (i := i) (by omega)
  have qc := q.1
  have qk := q.cell
  have qr := q.2.1
  refine qK (t_n (xC (qM (zcr (sps [pp bs os, pp bs os] (oF rfl (oL rfl (H.xB 0 rfl 2 rfl) (sp (.int .i64 i) ?_))))))))
  obtain ⟨b8, o9, rfl⟩ := H.addr 2 rfl (by omega)
  obtain ⟨ae11Need, ce11Need, Fe11Need, ae11Have, ce11Have, Fe11Have, ae11Lack, ce11Lack, Fe11Lack, ae11Here, ce11Here, Fe11Here, ae11Out, ce11Out, Fe11Out, ae11Into, ce11Into, Fe11Into, H⟩ := H.jy 2 rfl i i (by omega) (by omega) (by omega)
  refine oI rfl rfl (sp (pp b8 (o9 + (i : Int).toNat * 9)) (zjc (sps [pp bs os, pp bt ot, pp b8 (o9 + (i : Int).toNat * 9)] (sw (oq (l03Enabled_ok _ s t (s.qg[i]!) (qw (H.get 7 rfl) 0 3) (H.get 8 rfl).1 (H.get 9 rfl).1 (qw (H.get 10 rfl) 0 3) (H.get 11 rfl).1 (H.get 12 rfl).1 (H.get 13 rfl).1 (qw (H.get 6 rfl) 0 9) (H.get 0 rfl).1 (H.get 1 rfl).1 (H.get 2 rfl).1 (H.get 3 rfl).1 (H.get 4 rfl).1 (H.get 5 rfl).1 (by first | assumption | omega) (by first | assumption | omega) (by first | assumption | omega)) H fun w13 H => ?_)))))
  refine sp (.bool (dec (EnOk s t (s.qg[i]!)))) (zjc (sps [.slice zW xZ zH, .bool (dec (EnOk s t (s.qg[i]!)))] (sw (zM H Tryz.underlying26 ti4 [.bool (dec (EnOk s t (s.qg[i]!)))] fun b15 w16 H => sw (zV H 1 rfl 0 rfl Tryz.underlying26 ti4 rfl (by decide) rfl rfl rfl (by simp [Value.oneCell', Value.cells]) (by unfold maxLen; omega) (by omega) fun a17 c18 w19 H => ?_)))))
  rw [snocB] at H
  refine sp (.slice a17 (xZ + 1) c18) (zjc (sp (.bool (dec (EnOk s t (s.qg[i]!)))) (zjn (cP rfl (fun h20 => ?_) (fun h20 => ?_)))))
  ·skip
   refine yO rfl H [0, 1] fun H => ?_
   have S := H.jZ [0, 1] [0, 1, 2, 3, 4, 5, 6, 7, 8, 9, 10, 11, 12, 13]
   refine rtp 0 (.slice (aa b1 0) s.qf.length s.qf.length) S ?_
   refine rtp 1 (pp b8 (o9 + (i : Int).toNat * 9)) S ?_
   refine rtp 2 (pp b8 (o9 + (i : Int).toNat * 9)) S ?_
   refine tF 3 rfl rfl S ?_
   refine tL 4 rfl rfl (fun _ h => h.xB 6 rfl 0 rfl) S ?_
   refine rtp 5 (.slice (aa b1 0) s.qf.length s.qf.length) S ?_
   refine rtp 6 (pp b8 (o9 + (i : Int).toNat * 9)) S ?_
   refine rtp 7 (pp b8 (o9 + (i : Int).toNat * 9)) S ?_
   refine tF 8 rfl rfl S ?_
   refine tL 9 rfl rfl (fun _ h => h.xB 6 rfl 0 rfl) S ?_
   refine tI 10 rfl rfl rfl S ?_
   refine rtp 12 (pp b8 (o9 + (i : Int).toNat * 9)) S ?_
   refine rtp 13 (pp b8 (o9 + (i : Int).toNat * 9)) S ?_
   refine tF 14 rfl rfl S ?_
   refine tL 15 rfl rfl (fun _ h => h.xB 6 rfl 1 rfl) S ?_
   refine ro 11 rfl (zl (.int .i64 ((bests s t 0 s.qf.length i)[((s.qg[i]!).qp).toNat]!)) Tryz.isAgg2 rfl (H.rowInt 2 rfl (iv := (s.qg[i]!).qp) (i := (((s.qg[i]!).qp).toNat)) (by omega) (by omega)) (⟨H.pick [0, 1] [0, 1, 2, 3, 4, 5, 6, 7, 8, 9, 10, 11, 12, 13], (ro 16 rfl (oq (l00Max_ok w19.drew ((bests s t 0 s.qf.length i)[((s.qg[i]!).qp).toNat]!) ((s.qg[i]!).zg)) H fun w23 H => ⟨H.pick [0, 1] [0, 1, 2, 3, 4, 5, 6, 7, 8, 9, 10, 11, 12, 13], (tI 17 rfl rfl rfl (H.pick [0, 1] [0, 1, 2, 3, 4, 5, 6, 7, 8, 9, 10, 11, 12, 13]) ?_)⟩))⟩))
   refine ro 18 rfl (o_storeInt H 2 rfl (max ((bests s t 0 s.qf.length i)[((s.qg[i]!).qp).toNat]!) ((s.qg[i]!).zg)) Tryz.sizeOf2 rfl rfl (i := (((s.qg[i]!).qp).toNat)) (by omega) (by omega) fun w25 H => ⟨H.pick [0, 1] [0, 1, 2, 3, 4, 5, 6, 7, 8, 9, 10, 11, 12, 13], (xy (by kernel_rfl) (b_n (t_n (xH (sp (.int .i64 i) (sw (xX i 1 rfl rfl (by omega) (sp (.int .i64 (i + 1)) (xG ?_)))))))))⟩)
   refine qR (m' := (s.qg.length - ((i + 1) : Int)).toNat) (by omega) ⟨_, a17, xZ + 1, c18, ((applB s t 0 i) ++ [dec (EnOk s t (s.qg[i]!))]), i + 1, ((bests s t 0 s.qf.length i).set (((s.qg[i]!).qp).toNat) (max ((bests s t 0 s.qf.length i)[((s.qg[i]!).qp).toNat]!) ((s.qg[i]!).zg))), uE5, ?_, ?_, ?_, rfl, N, H.pick [1, 2] [7, 8, 9, 10, 11, 12, 13]⟩
   · exact applB_snoc s t i
   · first | exact bests_set ‹_› (by omega) | exact bests_skip ‹_›
   · omega
  refine qK (b_n (t_n (xH (sp (.int .i64 i) (sw (xX i 1 rfl rfl (by omega) (sp (.int .i64 (i + 1)) (xG (qR (m' := (s.qg.length - ((i + 1) : Int)).toNat) (by omega) ⟨_, a17, xZ + 1, c18, ((applB s t 0 i) ++ [dec (EnOk s t (s.qg[i]!))]), i + 1, (bests s t 0 s.qf.length i), uE5, ?_, ?_, ?_, rfl, N, H.pick [1, 2] [7, 8, 9, 10, 11, 12, 13]⟩)))))))))
  · exact applB_snoc s t i
  · first | exact bests_set ‹_› (by omega) | exact bests_skip ‹_›
  · omega
 refine zx4 (zcc (sp (.int .i64 0) (zjn (qM ?_))))
 refine xQ (fun m' ρ w26 => ∃ (junk : Env) (i_1 : Nat) (out_1 : List Bool), ρ = upd (upd (upd (upd junk 0 (pp bs os)) 5 (.slice (aa b1 0) s.qf.length s.qf.length)) 6 (.slice zW xZ zH)) 10 (.int .i64 i_1) ∧ out_1 = applB s t i_1 s.qg.length ∧ ((i_1 : Int) ≤ s.qg.length) ∧ m' = (s.qg.length - (i_1 : Int)).toNat ∧ Fresh w.heap.size [] ∧ St w w26 [rr zW xZ zH 4 1 (out_1.map (Value.bool)), rr (aa b1 0) s.qf.length s.qf.length 2 1 ((bests s t 0 s.qf.length i).map (Value.int .i64))] [atF bs os [.int .i64 s.qJ, .slice qo s.qf.length qm, .slice qC s.qg.length qA], sF false qP qo qm s.qf, sF false xu qC qA s.qg]) ((s.qg.length - (0 : Int)).toNat) ⟨_, 0, (applB s t 0 i), uE4, (by rw [show i = s.qg.length by omega]), (by omega), rfl, N, H.pick [0, 1] [0, 1, 2]⟩ ?_
 clear H N
 rintro m' ρ w27 ⟨junk, i_1, out_1, rfl, rfl, i0, rfl, N, H⟩
 have hn_out := H.rowNB 0 rfl
 have bl := Xn s t 0 s.qf.length i
 have al := applB_len s t i_1 s.qg.length
 refine zcc (sps [.int .i64 i_1, pp bs os, pp bs os] (oF rfl (oL rfl (H.xB 0 rfl 2 rfl) (oN rfl (sp (.bool (decide ((i_1 : Int) < s.qg.length))) (zjn (cD rfl (fun h28 => ?_) (fun h28 => ?_))))))))
 ·skip
  have q := p0.rule (i := i_1) (by omega)
  have qc := q.1
  have qk := q.cell
  have qr := q.2.1
  refine qK (t_n (xC (qM ?_)))
  refine yO rfl H [1] fun H => ?_
  have S := H.jZ [1] [0, 1, 2]
  refine rtp 0 (.slice zW xZ zH) S ?_
  refine rtp 1 (.int .i64 i_1) S ?_
  refine rtp 2 (.slice zW xZ zH) S ?_
  refine rtp 3 (.int .i64 i_1) S ?_
  obtain ⟨b30, rfl⟩ := H.Qn 0 rfl (by omega)
  refine tI 4 rfl rfl rfl (H.pick [1] [0, 1, 2]) ?_
  refine ro 5 rfl (zl (.bool ((applB s t i_1 s.qg.length)[i_1]!)) Tryz.isAgg4 rfl (H.rowBool 0 rfl (iv := i_1) (i := i_1) (by omega) (by omega)) (⟨H.pick [1] [0, 1, 2], (rtp 6 (.bool ((applB s t i_1 s.qg.length)[i_1]!)) (H.pick [1] [0, 1, 2]) ?_)⟩))
  cases h31 : ((applB s t i_1 s.qg.length)[i_1]!)
  ·skip
   refine zo [7, 8, 9, 10, 11, 12, 13, 14, 15, 16, 17, 18, 19, 20, 21, 22, 23, 24, 25, 26] 20 (H.pick [1] [0, 1, 2]) ?_
   have S := H.jZ [1] [0, 1, 2]
   refine rtp 27 (.bool false) S ?_
   refine tI 28 rfl rfl rfl S ?_
   refine ro 29 rfl (Qw H 0 rfl false Tryz.sizeOf4 rfl rfl (i := i_1) (by omega) (by omega) fun w32 H => ⟨H.pick [1] [0, 1, 2], (xy (by kernel_rfl) (b_n (t_n (xH (sp (.int .i64 i_1) (sw (xX i_1 1 rfl rfl (by omega) (sp (.int .i64 (i_1 + 1)) (xG (qR (m' := (s.qg.length - ((i_1 + 1) : Int)).toNat) (by omega) ⟨_, i_1 + 1, ((applB s t i_1 s.qg.length).set i_1 false), uE4, ?_, ?_, rfl, N, H⟩))))))))))⟩)
   · first | exact applB_set (by omega) (applB_step0 (m := s.qg.length) (by omega) ‹_›) | exact applB_set (by omega) (applB_step1 (m := s.qg.length) (n := s.qf.length) (z := 0) (i := i) (by omega) ‹_› rfl (by omega) (by omega) (by omega))
   · omega
  have S := H.jZ [1] [0, 1, 2]
  refine rgp 7 (pp bs os) 75 S ?_
  refine rgp 8 (pp bs os) 75 S ?_
  refine gF 9 rfl rfl S ?_
  refine gL 10 rfl rfl (fun _ h => h.xB 0 rfl 2 rfl) S ?_
  refine rgp 11 (.int .i64 i_1) 75 S ?_
  obtain ⟨b33, o34, rfl⟩ := H.addr 2 rfl (by omega)
  obtain ⟨ae36Need, ce36Need, Fe36Need, ae36Have, ce36Have, Fe36Have, ae36Lack, ce36Lack, Fe36Lack, ae36Here, ce36Here, Fe36Here, ae36Out, ce36Out, Fe36Out, ae36Into, ce36Into, Fe36Into, H⟩ := H.jy 2 rfl i_1 i_1 (by omega) (by omega) (by omega)
  have S := H.jZ [1] [7, 8, 9]
  refine gI 12 rfl rfl rfl S ?_
  refine gF 13 rfl rfl S ?_
  refine rgp 15 (.slice (aa b1 0) s.qf.length s.qf.length) 75 S ?_
  refine rgp 16 (pp bs os) 75 S ?_
  refine rgp 17 (pp bs os) 75 S ?_
  refine gF 18 rfl rfl S ?_
  refine gL 19 rfl rfl (fun _ h => h.xB 0 rfl 2 rfl) S ?_
  refine rgp 20 (.int .i64 i_1) 75 S ?_
  refine gI 21 rfl rfl rfl S ?_
  refine gF 22 rfl rfl S ?_
  refine vT [14, 23] (by kernel_rfl) (by simp) (r_opG rfl (e := 75) rfl rfl ?_ (r_opG rfl (e := 75) rfl rfl ?_ vU))
  ·skip
   refine zl (.int .i64 ((s.qg[i_1]!).zg)) Tryz.isAgg2 rfl (H.xB 6 rfl 1 rfl) (⟨H.pick [1] [7, 8, 9], (vT [23] (by kernel_rfl) (by simp) (r_opG rfl (e := 75) rfl rfl (zl (.int .i64 ((s.qg[i_1]!).qp)) Tryz.isAgg2 rfl (H.xB 6 rfl 0 rfl) (⟨H.pick [1] [7, 8, 9], ?_⟩)) vU))⟩)
   have S := H.jZ [1] [7, 8, 9]
   refine gI 24 rfl rfl rfl S ?_
   refine gL 25 rfl rfl (fun _ h => h.rowInt 0 rfl (iv := (s.qg[i_1]!).qp) (i := (((s.qg[i_1]!).qp).toNat)) (by omega) (by omega)) S ?_
   refine rgp 26 (.bool (((s.qg[i_1]!).zg : Int) == ((bests s t 0 s.qf.length i)[((s.qg[i_1]!).qp).toNat]!))) 75 S ?_
   refine rtp 27 (.bool (((s.qg[i_1]!).zg : Int) == ((bests s t 0 s.qf.length i)[((s.qg[i_1]!).qp).toNat]!))) S ?_
   refine tI 28 rfl rfl rfl S ?_
   refine ro 29 rfl (Qw H 0 rfl (((s.qg[i_1]!).zg : Int) == ((bests s t 0 s.qf.length i)[((s.qg[i_1]!).qp).toNat]!)) Tryz.sizeOf4 rfl rfl (i := i_1) (by omega) (by omega) fun w37 H => ⟨H.pick [1] [7, 8, 9], (xy (by kernel_rfl) (b_n (t_n (xH (sp (.int .i64 i_1) (sw (xX i_1 1 rfl rfl (by omega) (sp (.int .i64 (i_1 + 1)) (xG (qR (m' := (s.qg.length - ((i_1 + 1) : Int)).toNat) (by omega) ⟨_, i_1 + 1, ((applB s t i_1 s.qg.length).set i_1 (((s.qg[i_1]!).zg : Int) == ((bests s t 0 s.qf.length i)[((s.qg[i_1]!).qp).toNat]!))), uE4, ?_, ?_, rfl, N, H.pick [0, 1] [7, 8, 9]⟩))))))))))⟩)
   · first | exact applB_set (by omega) (applB_step0 (m := s.qg.length) (by omega) ‹_›) | exact applB_set (by omega) (applB_step1 (m := s.qg.length) (n := s.qf.length) (z := 0) (i := i) (by omega) ‹_› rfl (by omega) (by omega) (by omega))
   · omega
  refine zl (.int .i64 ((s.qg[i_1]!).qp)) Tryz.isAgg2 rfl (H.xB 6 rfl 0 rfl) (⟨H.pick [1] [7, 8, 9], ?_⟩)
  have S := H.jZ [1] [7, 8, 9]
  refine gI 24 rfl rfl rfl S ?_
  refine gL 25 rfl rfl (fun _ h => h.rowInt 0 rfl (iv := (s.qg[i_1]!).qp) (i := (((s.qg[i_1]!).qp).toNat)) (by omega) (by omega)) S ?_
  refine vT [14] (by kernel_rfl) (by simp) (r_opG rfl (e := 75) rfl rfl (zl (.int .i64 ((s.qg[i_1]!).zg)) Tryz.isAgg2 rfl (H.xB 6 rfl 1 rfl) (⟨H.pick [1] [7, 8, 9], ?_⟩)) vU)
  have S := H.jZ [1] [7, 8, 9]
  refine rgp 26 (.bool (((s.qg[i_1]!).zg : Int) == ((bests s t 0 s.qf.length i)[((s.qg[i_1]!).qp).toNat]!))) 75 S ?_
  refine rtp 27 (.bool (((s.qg[i_1]!).zg : Int) == ((bests s t 0 s.qf.length i)[((s.qg[i_1]!).qp).toNat]!))) S ?_
  refine tI 28 rfl rfl rfl S ?_
  refine ro 29 rfl (Qw H 0 rfl (((s.qg[i_1]!).zg : Int) == ((bests s t 0 s.qf.length i)[((s.qg[i_1]!).qp).toNat]!)) Tryz.sizeOf4 rfl rfl (i := i_1) (by omega) (by omega) fun w38 H => ⟨H.pick [1] [7, 8, 9], (xy (by kernel_rfl) (b_n (t_n (xH (sp (.int .i64 i_1) (sw (xX i_1 1 rfl rfl (by omega) (sp (.int .i64 (i_1 + 1)) (xG (qR (m' := (s.qg.length - ((i_1 + 1) : Int)).toNat) (by omega) ⟨_, i_1 + 1, ((applB s t i_1 s.qg.length).set i_1 (((s.qg[i_1]!).zg : Int) == ((bests s t 0 s.qf.length i)[((s.qg[i_1]!).qp).toNat]!))), uE4, ?_, ?_, rfl, N, H.pick [0, 1] [7, 8, 9]⟩))))))))))⟩)
  · first | exact applB_set (by omega) (applB_step0 (m := s.qg.length) (by omega) ‹_›) | exact applB_set (by omega) (applB_step1 (m := s.qg.length) (n := s.qf.length) (z := 0) (i := i) (by omega) ‹_› rfl (by omega) (by omega) (by omega))
  · omega
 refine zx4 (zcr (sps [.slice zW xZ zH, .slice zW xZ zH] (zjr (ret1 (.slice zW xZ zH) rfl rfl ⟨_, rfl, ?_, H.base⟩))))
 obtain rfl : i_1 = s.qg.length := by omega
 exact ⟨zW, xZ, zH, rfl, N, H.pick [0] []⟩

theorem l03Halted_ok (w : World) (s : qy) (t : qE) (hs : zK w bs os [.int .i64 s.qJ, .slice qo s.qf.length qm, .slice qC s.qg.length qA]) (qU : qB.rep w qP [.slice qo s.qf.length qm] s.qf) (xx : qB.rep w xu [.slice qC s.qg.length qA] s.qg) (ht : zK w bt ot [.slice qN t.qh.length qL, .slice xh t.ql.length qZ, .slice qG t.qj.length qF]) (xK : qB.rep w xE [.slice qN t.qh.length qL] t.qh) (zn : qB.rep w zf [.slice xh t.ql.length qZ] t.ql) (xA : qB.rep w xw [.slice qG t.qj.length qF] t.qj) (p0 : jG s) (p1 : zt s t) : Calls Tryz.prog 90 #[pp bs os, pp bt ot] w (Ret (fun v w' => v = .bool (dec (Halted s t))) w) := by
 refine en Tryz.func90 Tryz.ntmps90 ?_
 have H := (((((((St.start w).arg xA).arg zn).arg xK).XX ht).arg xx).arg qU).XX hs
 have zJ := qx qU
 have vW := qx xx
 have yJ := qx xK
 have QD := qx zn
 have jB := qx xA
 clear hs qU xx ht xK zn xA
 have N := Fresh.nil w.heap.size
 have p2 := p0.2.1
 refine zcr (sp (.bool false) (zjc (sps [pp bs os, pp bt ot] ?_)))
 have sz4 := H.base.size
 refine sw (oc (l03Applicable_ok _ s t (qw (H.get 0 rfl) 0 3) (H.get 1 rfl).1 (H.get 2 rfl).1 (qw (H.get 3 rfl) 0 3) (H.get 4 rfl).1 (H.get 5 rfl).1 (H.get 6 rfl).1 (by first | assumption | omega) (by first | assumption | omega)) ?_)
 rintro _ w2 ⟨ra1, rn1, rc1, rfl, M, K⟩ _
 replace H := H.merge K M
 obtain rfl := H.rowNB 0 rfl
 have al := appl_len s t
 refine sp (.slice ra1 ((appl s t).length) rc1) (zjcc (sp (.int .i64 0) (zjn (qM ?_))))
 refine xQ (fun m' ρ w7 => ∃ (junk : Env) (i : Nat), ρ = upd (upd junk 5 (.slice ra1 ((appl s t).length) rc1)) 6 (.int .i64 i) ∧ ((i : Int) ≤ ((appl s t).length)) ∧ (HaltTo s t i) ∧ m' = (((appl s t).length) - (i : Int)).toNat ∧ Fresh w.heap.size [] ∧ St w w7 [rr ra1 ((appl s t).length) rc1 4 1 ((appl s t).map (Value.bool))] []) ((((appl s t).length) - (0 : Int)).toNat) ⟨_, 0, uE2, (by omega), (by exact fun j hj => by omega), rfl, N, H.pick [0] []⟩ ?_
 clear H N
 rintro m' ρ w8 ⟨junk, i, rfl, i0, i1, rfl, N, H⟩
 refine zcc (sps [.int .i64 i, .slice ra1 ((appl s t).length) rc1] (oN rfl (sp (.bool (decide ((i : Int) < ((appl s t).length)))) (zjn (cD rfl (fun h9 => ?_) (fun h9 => ?_))))))
 ·skip
  refine qK (t_n (xC (qM (zcr (sps [.slice ra1 ((appl s t).length) rc1, .int .i64 i] ?_)))))
  obtain ⟨b10, rfl⟩ := H.Qn 0 rfl (by omega)
  refine oI rfl rfl (oL rfl (H.rowBool 0 rfl (iv := i) (i := i) (by omega) (by omega)) (zjn (xn ((appl s t)[i]!) rfl (fun h11 => ?_) (fun h11 => ?_))))
  ·skip
   refine zcr (sp (.bool false) (zjr (zr5 (ret1 (.bool false) rfl rfl ⟨_, rfl, ?_, H.base⟩))))
   rw [qY (fun h => h i (by omega) (Qz (by omega) ‹_›))]
  refine qK (b_n (t_n (xH (sp (.int .i64 i) (sw (xX i 1 rfl rfl (by omega) (sp (.int .i64 (i + 1)) (xG (qR (m' := (((appl s t).length) - ((i + 1) : Int)).toNat) (by omega) ⟨_, i + 1, uE2, ?_, ?_, rfl, N, H⟩)))))))))
  · omega
  · exact i1.succ (yP (by omega) ‹_›)
 refine zx4 (zcr (sp (.bool true) (zjr (ret1 (.bool true) rfl rfl ⟨_, rfl, ?_, H.base⟩))))
 obtain rfl : i = s.qg.length := by omega
 rw [jF i1]

theorem l03Rest_ok (w : World) (s : qy) (t : qE) (counts : List Int) (hs : zK w bs os [.int .i64 s.qJ, .slice qo s.qf.length qm, .slice qC s.qg.length qA]) (qU : qB.rep w qP [.slice qo s.qf.length qm] s.qf) (xx : qB.rep w xu [.slice qC s.qg.length qA] s.qg) (ht : zK w bt ot [.slice qN t.qh.length qL, .slice xh t.ql.length qZ, .slice qG t.qj.length qF]) (xK : qB.rep w xE [.slice qN t.qh.length qL] t.qh) (zn : qB.rep w zf [.slice xh t.ql.length qZ] t.ql) (xA : qB.rep w xw [.slice qG t.qj.length qF] t.qj) (hcounts : qB.rep w Fcounts [.slice acounts counts.length ccounts] counts) (p0 : jG s) (p1 : zt s t) (p2 : CntOk s counts) : Calls Tryz.prog 180 #[pp bs os, pp bt ot, .slice acounts counts.length ccounts] w (Ret (fun v w' => ∃ (ra0 : Option Addr) (rn0 : Nat) (rc0 : Nat) (rx0 : List Value) (rF0 : List Nat), v = .tuple #[.slice ra0 rn0 rc0, .bool (dec (IsCh s t counts))] ∧ Fresh w.heap.size [rF0] ∧ St w w' [rr ra0 rn0 rc0 22 1 rx0] [xN true rF0 rx0 (yz s t counts (Qh (BadAt s t counts) counts.length))]) w) := by
 refine en Tryz.func180 Tryz.ntmps180 ?_
 have H := ((((((((St.start w).arg hcounts).arg xA).arg zn).arg xK).XX ht).arg xx).arg qU).XX hs
 have zJ := qx qU
 have vW := qx xx
 have yJ := qx xK
 have QD := qx zn
 have jB := qx xA
 have nhcounts := qx hcounts
 clear hs qU xx ht xK zn xA hcounts
 have N := Fresh.nil w.heap.size
 have p3 := p0.2.1
 have p6 := p2.1
 have p7 := p1.2.1
 have p8 := kinds_le p0
 have p9 := p0.1.2.1
 have p11 : vJ s = s.qf.length := rfl
 refine zcr (sps [.slice none 0 0, .bool false] (zjc (sps [pp bs os, pp bt ot] ?_)))
 have sz4 := H.base.size
 refine sw (oc (l03Applicable_ok _ s t (qw (H.get 0 rfl) 0 3) (H.get 1 rfl).1 (H.get 2 rfl).1 (qw (H.get 3 rfl) 0 3) (H.get 4 rfl).1 (H.get 5 rfl).1 (H.get 6 rfl).1 (by first | assumption | omega) (by first | assumption | omega)) ?_)
 rintro _ w2 ⟨ra1, rn1, rc1, rfl, M, K⟩ _
 replace H := H.merge K M
 obtain rfl := H.rowNB 0 rfl
 have al := appl_len s t
 refine sp (.slice ra1 ((appl s t).length) rc1) (zjc (sw (vI H Tryz.underlying27 ti22 fun b7 w8 H => sp (.slice (aa b7 0) 0 0) (zjcc (sp (.int .i64 0) (zjn (qM ?_)))))))
 replace H := H.boxRow 0 rfl 1 0 rfl (by decide)
 replace H := H.vw (α := List Int)
 refine xQ (fun m' ρ w9 => ∃ (junk : Env) (XA : Option Addr) (yQ : Nat) (QJ : Nat) (rest : List (List Int)) (x_rest : List Value) (F_rest : List Nat) (c : Nat), ρ = upd (upd (upd (upd (upd (upd junk 0 (pp bs os)) 1 (pp bt ot)) 2 (.slice acounts counts.length ccounts)) 8 (.slice ra1 ((appl s t).length) rc1)) 9 (.slice XA yQ QJ)) 10 (.int .i64 c) ∧ rest = t.ql.take c ∧ ((c : Int) ≤ t.ql.length) ∧ m' = (t.ql.length - (c : Int)).toNat ∧ Fresh w.heap.size [F_rest] ∧ St w w9 [rr XA yQ QJ 22 1 x_rest, rr ra1 ((appl s t).length) rc1 4 1 ((appl s t).map (Value.bool))] [xN true F_rest x_rest rest, atF bs os [.int .i64 s.qJ, .slice qo s.qf.length qm, .slice qC s.qg.length qA], sF false qP qo qm s.qf, sF false xu qC qA s.qg, atF bt ot [.slice qN t.qh.length qL, .slice xh t.ql.length qZ, .slice qG t.qj.length qF], sF false xE qN qL t.qh, sF false zf xh qZ t.ql, sF false xw qG qF t.qj, sF false Fcounts acounts ccounts counts]) ((t.ql.length - (0 : Int)).toNat) ⟨_, (aa b7 0), 0, 0, ([] : List (List Int)), [], [], 0, uE6, (by rfl), (by omega), rfl, N.emp, H⟩ ?_
 clear H N
 rintro m' ρ w10 ⟨junk, XA, yQ, QJ, rest, x_rest, F_rest, c, rfl, rfl, i0, rfl, N, H⟩
 have hn_rest := H.xP (α := List Int) 0 rfl 0 rfl (by decide)
 have p4 := (p1.bagLen (k := c))
 rw [List.length_take_of_le (by omega)] at hn_rest
 refine zcc (sps [.int .i64 c, pp bt ot, pp bt ot] (oF rfl (oL rfl (H.xB 4 rfl 1 rfl) (oN rfl (sp (.bool (decide ((c : Int) < t.ql.length))) (zjn (cD rfl (fun h11 => ?_) (fun h11 => ?_))))))))
 ·skip
  refine qK (t_n (xC (qM (xH (sps [.slice XA yQ QJ, pp bt ot, pp bt ot] (oF rfl (oL rfl (H.xB 4 rfl 1 rfl) (sp (.int .i64 c) ?_))))))))
  obtain ⟨b12, o13, rfl⟩ := H.addr 6 rfl (by omega)
  obtain ⟨ae15, ce15, Fe15, H⟩ := H.zU 6 rfl c c (by omega) (by omega) (by omega)
  refine oI rfl rfl (oL rfl (H.xB 1 rfl 0 rfl) ?_)
  have p5 := (p1.bagLen (k := c) (by omega)).len
  have sz16 := H.base.size
  have lt17 := H.ltN (L := [F_rest]) [2]
  refine sw (oc (Xm _ (t.ql[c]!) (H.get 0 rfl).1 (by first | assumption | omega)) ?_)
  rintro v21 w19 r21 x20
  replace H := H.xW x20 r21
  obtain ⟨a22, c23, rfl, hc24, hm25⟩ := H.vN 0 rfl
  refine sw (zM H Tryz.underlying27 ti22 [.slice a22 ((t.ql[c]!).length) c23] fun b26 w27 H => ?_)
  obtain ⟨G31, N, hn32, H⟩ := H.vG 1 rfl N (H.yT [2])
  refine sw (zV H 2 rfl 0 rfl Tryz.underlying27 ti22 rfl (by decide) rfl rfl rfl (by simp [Value.oneCell', Value.cells]) (by unfold maxLen; omega) (by omega) fun a28 c29 w30 H => ?_)
  replace H := H.yl 3 rfl 0 rfl
  replace N : Fresh w.heap.size [(F_rest ++ G31)] := (N.pick [1, 0]).join
  refine sp (.slice a28 (yQ + 1) c29) (xG (b_n (t_n (xH (sp (.int .i64 c) (sw (xX c 1 rfl rfl (by omega) (sp (.int .i64 (c + 1)) (xG (qR (m' := (t.ql.length - ((c + 1) : Int)).toNat) (by omega) ⟨_, a28, yQ + 1, c29, ((t.ql.take c) ++ [(t.ql[c]!)]), x_rest ++ [.slice a22 ((t.ql[c]!).length) c23], (F_rest ++ G31), c + 1, uE6, ?_, ?_, rfl, N, H.pick [2, 3] [0, 5, 6, 7, 8, 9, 10, 11, 12]⟩))))))))))
  · exact take_snoc (by omega)
  · omega
 refine zx4 (zcc (sp (.int .i64 0) (zjn (qM ?_))))
 refine xQ (fun m' ρ w33 => ∃ (junk : Env) (i : Nat) (rest_1 : List (List Int)) (x_rest_1 : List Value) (VM : List Nat), ρ = upd (upd (upd (upd (upd junk 0 (pp bs os)) 2 (.slice acounts counts.length ccounts)) 8 (.slice ra1 ((appl s t).length) rc1)) 9 (.slice XA yQ QJ)) 11 (.int .i64 i) ∧ rest_1 = yz s t counts i ∧ ((i : Int) ≤ counts.length) ∧ (GoodTo s t counts i) ∧ m' = (counts.length - (i : Int)).toNat ∧ Fresh w.heap.size [VM] ∧ St w w33 [rr XA yQ QJ 22 1 x_rest_1, rr ra1 ((appl s t).length) rc1 4 1 ((appl s t).map (Value.bool))] [xN true VM x_rest_1 rest_1, atF bs os [.int .i64 s.qJ, .slice qo s.qf.length qm, .slice qC s.qg.length qA], sF false qP qo qm s.qf, sF false xu qC qA s.qg, sF false Fcounts acounts ccounts counts]) ((counts.length - (0 : Int)).toNat) ⟨_, 0, (t.ql.take c), x_rest, F_rest, uE5, (by rw [List.take_of_length_le (by omega)]; rfl), (by omega), (by exact fun j hj => by omega), rfl, N, H.pick [0, 1] [0, 1, 2, 3, 8]⟩ ?_
 clear H N
 rintro m' ρ w34 ⟨junk, i, rest_1, x_rest_1, VM, rfl, rfl, i0, i1, rfl, N, H⟩
 have hn_rest := H.xP (α := List Int) 0 rfl 0 rfl (by decide)
 have rl := restR_len (s := s) (t := t) (counts := counts) i
 refine zcc (sps [.int .i64 i, .slice acounts counts.length ccounts] (oN rfl (sp (.bool (decide ((i : Int) < counts.length))) (zjn (cD rfl (fun h35 => ?_) (fun h35 => ?_))))))
 ·skip
  have q := p0.rule (i := i) (by omega)
  have qc := q.1
  have qk := q.cell
  have qr := q.2.1
  have b1 := q.2.2.2.2.1
  have p10 := p2.bd (i := i) (by omega)
  refine qK (t_n (xC (qM (zcc (sps [.slice acounts counts.length ccounts, .int .i64 i] ?_)))))
  obtain ⟨b36, o37, rfl⟩ := H.addr 4 rfl (by omega)
  refine oI rfl rfl (oL rfl (H.jd 4 rfl i (by omega) (by omega)) (sps [.bool (decide ((counts[i]! : Int) > 0)), .bool (decide ((counts[i]! : Int) > 0))] ?_))
  cases h39 : (decide ((counts[i]! : Int) > 0))
  ·skip
   replace h39 := of_decide_eq_false h39
   refine xJ [51, 52, 53, 54, 55] (sp (.bool false) (zjn (xn false rfl (fun h => absurd h (by decide)) (fun _ => qK (t_n (zcr (sps [pp bs os, pp bs os] (oF rfl (oL rfl (H.xB 1 rfl 2 rfl) (sp (.int .i64 i) ?_))))))))))
   obtain ⟨b40, o41, rfl⟩ := H.addr 3 rfl (by omega)
   obtain ⟨ae43Need, ce43Need, Fe43Need, ae43Have, ce43Have, Fe43Have, ae43Lack, ce43Lack, Fe43Lack, ae43Here, ce43Here, Fe43Here, ae43Out, ce43Out, Fe43Out, ae43Into, ce43Into, Fe43Into, H⟩ := H.jy 3 rfl i i (by omega) (by omega) (by omega)
   refine oI rfl rfl (oF rfl (oL rfl (H.xB 6 rfl 0 rfl) (sp (.int .i64 ((s.qg[i]!).qp)) (zjn ?_))))
   refine yO rfl H [1] fun H => ?_
   have S := H.jZ [1] [0, 1, 2, 3, 4, 5, 6, 7, 8, 9, 10, 11]
   refine rtp 0 (.slice XA yQ QJ) S ?_
   refine rtp 1 (.int .i64 ((s.qg[i]!).qp)) S ?_
   refine rtp 2 (.slice XA yQ QJ) S ?_
   refine rtp 3 (.int .i64 ((s.qg[i]!).qp)) S ?_
   obtain ⟨b45, rfl⟩ := H.Qn 0 rfl (by omega)
   have S := H.jZ [1] [0, 1, 2, 3, 4, 5, 6, 7, 8, 9, 10, 11]
   refine tI 4 rfl rfl rfl S ?_
   refine rtp 6 (pp bs os) S ?_
   refine rtp 7 (pp bs os) S ?_
   refine tF 8 rfl rfl S ?_
   refine tL 9 rfl rfl (fun _ h => h.xB 8 rfl 2 rfl) S ?_
   refine rtp 10 (.int .i64 i) S ?_
   refine tI 11 rfl rfl rfl S ?_
   refine tF 12 rfl rfl S ?_
   refine tL 13 rfl rfl (fun _ h => h.xB 6 rfl 2 rfl) S ?_
   refine rtp 14 (.slice (aa b36 o37) counts.length ccounts) S ?_
   refine rtp 15 (.int .i64 i) S ?_
   refine tI 16 rfl rfl rfl S ?_
   refine tL 17 rfl rfl (fun _ h => h.jA 11 rfl i (by omega)) S ?_
   refine rt 18 (.int .i64 (-(counts[i]!))) (y_neg (counts[i]!) rfl (by omega)) S ?_
   refine ro 5 rfl ?_
   obtain ⟨a46, c47, G48, s49, h50, H⟩ := H.jo 0 rfl 7 rfl (iv := (s.qg[i]!).qp) (((s.qg[i]!).qp).toNat) (by omega) (by omega)
   refine zl (.slice a46 (((yz s t counts i)[((s.qg[i]!).qp).toNat]!).length) c47) Tryz.isAgg22 rfl (h50) (⟨H.pick [1] [1, 2, 3, 4, 5, 6, 7, 8, 9, 10, 11, 12], (ro 19 rfl ?_)⟩)
   obtain ⟨u1, u2⟩ := restR_row (c := (s.qg[i]!).qp.toNat) p0 p1 p2 (show i ≤ _ by omega) qk
   have u3 := b1.len
   have u4 := b1.jW (t := -(counts[i]!)) (by omega)
   have sz51 := H.base.size
   have lt52 := H.ltN (L := [VM]) [8]
   refine oc (Xo _ ((yz s t counts i)[((s.qg[i]!).qp).toNat]!) ((s.qg[i]!).qV) (-(counts[i]!)) (H.get 0 rfl).1 (H.get 1 rfl).1 (by first | assumption | omega) (by first | assumption | omega) (by first | assumption | omega)) ?_
   rintro v56 w54 r56 x55
   replace H := H.xW x55 r56
   obtain ⟨a57, c58, rfl, hc59, hm60⟩ := H.vN 0 rfl
   refine ⟨H.pick [2] [1, 2, 3, 4, 5, 6, 7, 8, 9, 10, 11, 12], (tI 20 rfl rfl rfl (H.pick [2] [1, 2, 3, 4, 5, 6, 7, 8, 9, 10, 11, 12]) ?_)⟩
   refine ro 21 rfl ?_
   obtain ⟨G62, N, hn63, H⟩ := H.vG 0 rfl N (H.yT [8])
   refine jb true H 1 rfl 9 rfl (.slice a57 ((vk ((yz s t counts i)[((s.qg[i]!).qp).toNat]!) ((s.qg[i]!).qV) (-(counts[i]!))).length) c58) 0 rfl rfl Tryz.sizeOf22 rfl rfl (i := (((s.qg[i]!).qp).toNat)) (by omega) (by omega) (by simp) fun w61 xs64 F65 hs66 H => ?_
   replace N : Fresh w.heap.size [F65] := (N.pick [1, 0]).repl hs66
   refine ⟨H.pick [2] [3, 4, 5, 6, 7, 8, 9, 10, 11, 12, 13, 14], (xy (by kernel_rfl) (b_n (t_n (xH (sp (.int .i64 i) (sw (xX i 1 rfl rfl (by omega) (sp (.int .i64 (i + 1)) (xG (qR (m' := (counts.length - ((i + 1) : Int)).toNat) (by omega) ⟨_, i + 1, ((yz s t counts i).set (((s.qg[i]!).qp).toNat) (vk ((yz s t counts i)[((s.qg[i]!).qp).toNat]!) ((s.qg[i]!).qV) (-(counts[i]!)))), xs64, F65, uE5, ?_, ?_, ?_, rfl, N, H.pick [1, 2] [0, 11, 12, 13, 14]⟩))))))))))⟩
   · rfl
   · omega
   · exact i1.succ (fun h => by obtain ⟨u, v⟩ := h; first | omega | exact v (Qz (by omega) ‹_›))
  replace h39 := of_decide_eq_true h39
  refine qH 50 rfl rfl (sp (.slice ra1 ((appl s t).length) rc1) (qH 50 rfl rfl (sp (.int .i64 i) (qH 50 rfl rfl ?_))))
  obtain ⟨b67, rfl⟩ := H.Qn 1 rfl (by omega)
  refine oI rfl rfl (qH 50 rfl rfl (oL rfl (H.rowBool 1 rfl (iv := i) (i := i) (by omega) (by omega)) (qH 50 rfl rfl (sps [.bool (!((appl s t)[i]!)), .bool (!((appl s t)[i]!))] (zjn (xn (!((appl s t)[i]!)) rfl (fun h68 => ?_) (fun h68 => ?_)))))))
  ·skip
   replace h68 := qW h68
   refine zcr (sps [.slice XA yQ QJ, .slice XA yQ QJ, .bool false] (zjr (t_r (zr5 (ret2 (.slice XA yQ QJ) (.bool false) rfl rfl rfl ⟨_, rfl, ?_, H.base⟩)))))
   rw [stop_first (k := i) i1 (by omega) ⟨by omega, yP (by omega) ‹_›⟩, qY (fun h => h.1 i (by omega) ⟨by omega, yP (by omega) ‹_›⟩)]
   exact ⟨XA, yQ, QJ, x_rest_1, VM, rfl, N, H.pick [0] [0]⟩
  replace h68 := qQ h68
  refine qK (t_n (zcr (sps [pp bs os, pp bs os] (oF rfl (oL rfl (H.xB 1 rfl 2 rfl) (sp (.int .i64 i) ?_))))))
  obtain ⟨b69, o70, rfl⟩ := H.addr 3 rfl (by omega)
  obtain ⟨ae72Need, ce72Need, Fe72Need, ae72Have, ce72Have, Fe72Have, ae72Lack, ce72Lack, Fe72Lack, ae72Here, ce72Here, Fe72Here, ae72Out, ce72Out, Fe72Out, ae72Into, ce72Into, Fe72Into, H⟩ := H.jy 3 rfl i i (by omega) (by omega) (by omega)
  refine oI rfl rfl (oF rfl (oL rfl (H.xB 6 rfl 0 rfl) (sp (.int .i64 ((s.qg[i]!).qp)) (zjn ?_))))
  refine yO rfl H [1] fun H => ?_
  have S := H.jZ [1] [0, 1, 2, 3, 4, 5, 6, 7, 8, 9, 10, 11]
  refine rtp 0 (.slice XA yQ QJ) S ?_
  refine rtp 1 (.int .i64 ((s.qg[i]!).qp)) S ?_
  refine rtp 2 (.slice XA yQ QJ) S ?_
  refine rtp 3 (.int .i64 ((s.qg[i]!).qp)) S ?_
  obtain ⟨b74, rfl⟩ := H.Qn 0 rfl (by omega)
  have S := H.jZ [1] [0, 1, 2, 3, 4, 5, 6, 7, 8, 9, 10, 11]
  refine tI 4 rfl rfl rfl S ?_
  refine rtp 6 (pp bs os) S ?_
  refine rtp 7 (pp bs os) S ?_
  refine tF 8 rfl rfl S ?_
  refine tL 9 rfl rfl (fun _ h => h.xB 8 rfl 2 rfl) S ?_
  refine rtp 10 (.int .i64 i) S ?_
  refine tI 11 rfl rfl rfl S ?_
  refine tF 12 rfl rfl S ?_
  refine tL 13 rfl rfl (fun _ h => h.xB 6 rfl 2 rfl) S ?_
  refine rtp 14 (.slice (aa b36 o37) counts.length ccounts) S ?_
  refine rtp 15 (.int .i64 i) S ?_
  refine tI 16 rfl rfl rfl S ?_
  refine tL 17 rfl rfl (fun _ h => h.jA 11 rfl i (by omega)) S ?_
  refine rt 18 (.int .i64 (-(counts[i]!))) (y_neg (counts[i]!) rfl (by omega)) S ?_
  refine ro 5 rfl ?_
  obtain ⟨a75, c76, G77, s78, h79, H⟩ := H.jo 0 rfl 7 rfl (iv := (s.qg[i]!).qp) (((s.qg[i]!).qp).toNat) (by omega) (by omega)
  refine zl (.slice a75 (((yz s t counts i)[((s.qg[i]!).qp).toNat]!).length) c76) Tryz.isAgg22 rfl (h79) (⟨H.pick [1] [1, 2, 3, 4, 5, 6, 7, 8, 9, 10, 11, 12], (ro 19 rfl ?_)⟩)
  obtain ⟨u1, u2⟩ := restR_row (c := (s.qg[i]!).qp.toNat) p0 p1 p2 (show i ≤ _ by omega) qk
  have u3 := b1.len
  have u4 := b1.jW (t := -(counts[i]!)) (by omega)
  have sz80 := H.base.size
  have lt81 := H.ltN (L := [VM]) [8]
  refine oc (Xo _ ((yz s t counts i)[((s.qg[i]!).qp).toNat]!) ((s.qg[i]!).qV) (-(counts[i]!)) (H.get 0 rfl).1 (H.get 1 rfl).1 (by first | assumption | omega) (by first | assumption | omega) (by first | assumption | omega)) ?_
  rintro v85 w83 r85 x84
  replace H := H.xW x84 r85
  obtain ⟨a86, c87, rfl, hc88, hm89⟩ := H.vN 0 rfl
  refine ⟨H.pick [2] [1, 2, 3, 4, 5, 6, 7, 8, 9, 10, 11, 12], (tI 20 rfl rfl rfl (H.pick [2] [1, 2, 3, 4, 5, 6, 7, 8, 9, 10, 11, 12]) ?_)⟩
  refine ro 21 rfl ?_
  obtain ⟨G91, N, hn92, H⟩ := H.vG 0 rfl N (H.yT [8])
  refine jb true H 1 rfl 9 rfl (.slice a86 ((vk ((yz s t counts i)[((s.qg[i]!).qp).toNat]!) ((s.qg[i]!).qV) (-(counts[i]!))).length) c87) 0 rfl rfl Tryz.sizeOf22 rfl rfl (i := (((s.qg[i]!).qp).toNat)) (by omega) (by omega) (by simp) fun w90 xs93 F94 hs95 H => ?_
  replace N : Fresh w.heap.size [F94] := (N.pick [1, 0]).repl hs95
  refine ⟨H.pick [2] [3, 4, 5, 6, 7, 8, 9, 10, 11, 12, 13, 14], (xy (by kernel_rfl) (b_n (t_n (xH (sp (.int .i64 i) (sw (xX i 1 rfl rfl (by omega) (sp (.int .i64 (i + 1)) (xG (qR (m' := (counts.length - ((i + 1) : Int)).toNat) (by omega) ⟨_, i + 1, ((yz s t counts i).set (((s.qg[i]!).qp).toNat) (vk ((yz s t counts i)[((s.qg[i]!).qp).toNat]!) ((s.qg[i]!).qV) (-(counts[i]!)))), xs93, F94, uE5, ?_, ?_, ?_, rfl, N, H.pick [1, 2] [0, 11, 12, 13, 14]⟩))))))))))⟩
  · rfl
  · omega
  · exact i1.succ (fun h => by obtain ⟨u, v⟩ := h; first | omega | exact v (Qz (by omega) ‹_›))
 refine zx4 (zcc (sp (.int .i64 0) (zjn (qM ?_))))
 refine xQ (fun m' ρ w96 => ∃ (junk : Env) (c_1 : Nat), ρ = upd (upd junk 9 (.slice XA yQ QJ)) 13 (.int .i64 c_1) ∧ ((c_1 : Int) ≤ yQ) ∧ (NonNeg (yz s t counts i) c_1) ∧ m' = (yQ - (c_1 : Int)).toNat ∧ Fresh w.heap.size [VM] ∧ St w w96 [rr XA yQ QJ 22 1 x_rest_1, rr ra1 ((appl s t).length) rc1 4 1 ((appl s t).map (Value.bool))] [xN true VM x_rest_1 (yz s t counts i)]) ((yQ - (0 : Int)).toNat) ⟨_, 0, uE2, (by omega), (by exact fun j hj => by omega), rfl, N, H.pick [0, 1] [0]⟩ ?_
 clear H N
 rintro m' ρ w97 ⟨junk, c_1, rfl, i0, i2, rfl, N, H⟩
 refine zcc (sps [.int .i64 c_1, .slice XA yQ QJ] (oN rfl (sp (.bool (decide ((c_1 : Int) < yQ))) (zjn (cD rfl (fun h98 => ?_) (fun h98 => ?_))))))
 ·skip
  have r1 := (restR_row (c := c_1) p0 p1 p2 (show i ≤ _ by omega) (show c_1 < vJ s by omega)).1
  refine qK (t_n (xC (qM (zcr (sp (.int .i64 0) (zjn (qM ?_)))))))
  refine xQ (fun m' ρ w99 => ∃ (junk : Env) (k : Nat), ρ = upd (upd (upd junk 9 (.slice XA yQ QJ)) 13 (.int .i64 c_1)) 14 (.int .i64 k) ∧ ((k : Int) ≤ (((yz s t counts i)[c_1]!).length)) ∧ (∀ j, j < k → 0 ≤ ((yz s t counts i)[c_1]!)[j]!) ∧ m' = ((((yz s t counts i)[c_1]!).length) - (k : Int)).toNat ∧ Fresh w.heap.size [VM] ∧ St w w99 [rr XA yQ QJ 22 1 x_rest_1, rr ra1 ((appl s t).length) rc1 4 1 ((appl s t).map (Value.bool))] [xN true VM x_rest_1 (yz s t counts i)]) (((((yz s t counts i)[c_1]!).length) - (0 : Int)).toNat) ⟨_, 0, uE3, (by omega), (by exact fun j hj => by omega), rfl, N, H⟩ ?_
  clear H N
  rintro m' ρ w100 ⟨junk, k, rfl, i0, i3, rfl, N, H⟩
  refine zcc (sps [.int .i64 k, .slice XA yQ QJ, .int .i64 c_1] ?_)
  obtain ⟨b101, rfl⟩ := H.Qn 0 rfl (by omega)
  refine oI rfl rfl ?_
  obtain ⟨a102, c103, G104, s105, h106, H⟩ := H.jo 0 rfl 0 rfl (iv := c_1) c_1 (by omega) (by omega)
  refine oL rfl (h106) (oN rfl (sp (.bool (decide ((k : Int) < (((yz s t counts i)[c_1]!).length)))) (zjn (cD rfl (fun h107 => ?_) (fun h107 => ?_)))))
  ·skip
   refine qK (t_n (xC (qM (zcr (sps [.slice (aa b101 0) yQ QJ, .int .i64 c_1] (oI rfl rfl ?_))))))
   obtain ⟨a108, c109, G110, s111, h112, H⟩ := H.jo 0 rfl 1 rfl (iv := c_1) c_1 (by omega) (by omega)
   refine oL rfl (h112) (sp (.int .i64 k) ?_)
   obtain ⟨b113, o114, rfl⟩ := H.addr 0 rfl (by omega)
   refine oI rfl rfl (oL rfl (H.jd 0 rfl k (by omega) (by omega)) (sp (.bool (decide ((((yz s t counts i)[c_1]!)[k]! : Int) < 0))) (zjn (cD rfl (fun h116 => ?_) (fun h116 => ?_)))))
   ·skip
    refine zcr (sps [.slice (aa b101 0) yQ QJ, .slice (aa b101 0) yQ QJ, .bool false] (zjr (b_r (t_r (t_r (b_r (zr5 (ret2 (.slice (aa b101 0) yQ QJ) (.bool false) rfl rfl rfl ⟨_, rfl, ?_, H.base⟩))))))))
    obtain rfl : i = counts.length := by omega
    rw [stop_none (n := counts.length) i1, qY (fun h => by have := h.2 c_1 (by omega) k (by omega); omega)]
    exact ⟨(aa b101 0), yQ, QJ, x_rest_1, VM, rfl, N, H.pick [0] [2]⟩
   refine qK (b_n (t_n (xH (sp (.int .i64 k) (sw (xX k 1 rfl rfl (by omega) (sp (.int .i64 (k + 1)) (xG (qR (m' := ((((yz s t counts i)[c_1]!).length) - ((k + 1) : Int)).toNat) (by omega) ⟨_, k + 1, uE3, ?_, ?_, rfl, N, H.pick [0, 1] [2]⟩)))))))))
   · omega
   · exact fun j hj => by (by_cases e : j = k; (subst e; omega); exact i3 j (by omega))
  refine c_exit (t_x (t_x (b_x (b_n (t_n (xH (sp (.int .i64 c_1) (sw (xX c_1 1 rfl rfl (by omega) (sp (.int .i64 (c_1 + 1)) (xG (qR (m' := (yQ - ((c_1 + 1) : Int)).toNat) (by omega) ⟨_, c_1 + 1, uE2, ?_, ?_, rfl, N, H.pick [0, 1] [1]⟩))))))))))))
  · omega
  · exact i2.succ (fun j hj => i3 j (by omega))
 refine zx4 (zcr (sps [.slice XA yQ QJ, .slice XA yQ QJ, .bool true] (zjr (ret2 (.slice XA yQ QJ) (.bool true) rfl rfl rfl ⟨_, rfl, ?_, H.base⟩))))
 obtain rfl : i = counts.length := by omega
 rw [stop_none (n := counts.length) i1, jF ⟨i1, (show c_1 = t.ql.length by omega) ▸ i2⟩]
 exact ⟨XA, yQ, QJ, x_rest_1, VM, rfl, N, H.pick [0] [0]⟩
theorem l03Step_ok (w : World) (s : qy) (t : qE) (counts : List Int) (hs : zK w bs os [.int .i64 s.qJ, .slice qo s.qf.length qm, .slice qC s.qg.length qA]) (qU : qB.rep w qP [.slice qo s.qf.length qm] s.qf) (xx : qB.rep w xu [.slice qC s.qg.length qA] s.qg) (ht : zK w bt ot [.slice qN t.qh.length qL, .slice xh t.ql.length qZ, .slice qG t.qj.length qF]) (xK : qB.rep w xE [.slice qN t.qh.length qL] t.qh) (zn : qB.rep w zf [.slice xh t.ql.length qZ] t.ql) (xA : qB.rep w xw [.slice qG t.qj.length qF] t.qj) (hcounts : qB.rep w Fcounts [.slice acounts counts.length ccounts] counts) (p0 : jG s) (p1 : zt s t) (p2 : CntOk s counts) : Calls Tryz.prog 144 #[pp bs os, pp bt ot, .slice acounts counts.length ccounts] w (Ret (fun v w' => ∃ (ra0Alive : Option Addr) (rn0Alive : Nat) (rc0Alive : Nat) (ra0Bags : Option Addr) (rn0Bags : Nat) (rc0Bags : Nat) (rx0Bags : List Value) (rF0Bags : List Nat) (ra0Around : Option Addr) (rn0Around : Nat) (rc0Around : Nat), v = .tuple #[.agg #[.slice ra0Alive rn0Alive rc0Alive, .slice ra0Bags rn0Bags rc0Bags, .slice ra0Around rn0Around rc0Around], .int .i64 ((xR s t counts).2)] ∧ Fresh w.heap.size [rF0Bags] ∧ St w w' [rr ra0Alive rn0Alive rc0Alive 4 1 ((((xR s t counts).1).qh).map (Value.bool)), rr ra0Bags rn0Bags rc0Bags 22 1 rx0Bags, rr ra0Around rn0Around rc0Around 2 1 ((((xR s t counts).1).qj).map (Value.int .i64))] [xN true rF0Bags rx0Bags (((xR s t counts).1).ql)]) w) := by
 refine en Tryz.func144 Tryz.ntmps144 ?_
 have H := ((((((((St.start w).arg hcounts).arg xA).arg zn).arg xK).XX ht).arg xx).arg qU).XX hs
 have zJ := qx qU
 have vW := qx xx
 have yJ := qx xK
 have QD := qx zn
 have jB := qx xA
 have nhcounts := qx hcounts
 clear hs qU xx ht xK zn xA hcounts
 have N := Fresh.nil w.heap.size
 have p3 := p0.2.1
 have p6 := p2.1
 have p7 := p1.2.1
 have p8 := kinds_le p0
 have p9 := p0.1.2.1
 have p11 : vJ s = s.qf.length := rfl
 have p12 := p1.1
 have p15 := p0.1
 have p16 := p0.1.1
 obtain ⟨q7, q8, q9, q10⟩ := p1.sizes p0.1
 have q13 := fun k hk => Nat.le_trans (q10 k hk) (by decide : 8 ≤ 1000000)
 have p14 := restR_len (s := s) (t := t) (counts := counts)
 refine zcr (sw (xM H ti38 [.slice none 0 0, .slice none 0 0, .slice none 0 0] fun b1 w2 H => sp (.int .i64 0) (zjc (sps [pp bs os, pp bt ot, .slice acounts counts.length ccounts] ?_))))
 have sz6 := H.base.size
 refine sw (oc (l03Rest_ok _ s t counts (qw (H.get 0 rfl) 0 3) (H.get 1 rfl).1 (H.get 2 rfl).1 (qw (H.get 3 rfl) 0 3) (H.get 4 rfl).1 (H.get 5 rfl).1 (H.get 6 rfl).1 (H.get 7 rfl).1 (by first | assumption | omega) (by first | assumption | omega) (by first | assumption | omega)) ?_)
 rintro _ w4 ⟨ra3a, rn3a, rc3a, rx3a, rF3a, rfl, M, K⟩ _
 replace N := N.merge sz6 (by simp) M
 replace H := H.merge K M
 obtain rfl := H.xP (α := List Int) 0 rfl 0 rfl (by decide)
 refine sps [.tuple #[.slice ra3a ((yz s t counts (Qh (BadAt s t counts) counts.length)).length) rc3a, .bool (dec (IsCh s t counts))], .slice ra3a ((yz s t counts (Qh (BadAt s t counts) counts.length)).length) rc3a, .bool (dec (IsCh s t counts)), .slice ra3a ((yz s t counts (Qh (BadAt s t counts) counts.length)).length) rc3a, .bool (dec (IsCh s t counts))] (zjcc (sps [.bool (dec (IsCh s t counts)), .bool (!(dec (IsCh s t counts)))] (zjn (cQ rfl (fun h9 => ?_) (fun h9 => ?_)))))
 ·skip
  refine zcr (sw (jD [.slice none 0 0, .slice none 0 0, .slice none 0 0] [] (sw (zF H 1 [.slice none 0 0, .slice none 0 0, .slice none 0 0] Tryz.sizeOf38 fun w10 H => sp (.int .i64 4) (zjr (t_r ?_))))))
  replace H := H.nilRowB 4
  replace H := H.nilRow 22 1
  replace H := H.vw (α := List Int)
  replace H := H.nilRowI 2
  refine retC2 H 4 rfl (.int .i64 4) rfl Tryz.isAgg38 Tryz.sizeOf38 rfl rfl ⟨_, rfl, ?_, H.base⟩
  rw [stepBy_no ‹_›]
  exact ⟨none, 0, 0, none, 0, 0, [], [], none, 0, 0, rfl, (N.emp.pick [0]), H.pick [2, 1, 0] [0]⟩
 have st := stop_none (n := counts.length) (P := BadAt s t counts) (‹IsCh s t counts›).1
 have r1 := restR_len (s := s) (t := t) (counts := counts) (Qh (BadAt s t counts) counts.length)
 refine qK (t_n (zcr (sp (pp bt ot) ?_)))
 have sz14 := H.base.size
 have lt15 := H.ltN (L := [rF3a]) [0]
 refine sw (oc (l02Own_ok _ t (qw (H.get 4 rfl) 0 3) (H.get 5 rfl).1 (H.get 6 rfl).1 (H.get 7 rfl).1 (by first | assumption | omega) (by first | assumption | omega) (by first | assumption | omega) (by first | assumption | omega)) ?_)
 rintro _ w12 ⟨jY, rn11Alive, jX, ra11Bags, rn11Bags, rc11Bags, VI, jE, ra11Around, rn11Around, rc11Around, rfl, M, K⟩ _
 replace N := N.merge sz14 lt15 M
 replace H := H.merge K M
 obtain rfl := H.rowNB 0 rfl
 obtain rfl := H.xP (α := List Int) 1 rfl 0 rfl (by decide)
 obtain rfl := H.rowNI 2 rfl
 refine sw (xM H ti38 [.slice none 0 0, .slice none 0 0, .slice none 0 0] fun b19 w20 H => sw (zF H 0 [.slice jY t.qh.length jX, .slice ra11Bags t.ql.length rc11Bags, .slice ra11Around t.qj.length rc11Around] Tryz.sizeOf38 fun w21 H => zjc (sp (.slice ra3a ((yz s t counts (Qh (BadAt s t counts) counts.length)).length) rc3a) (oF rfl (sw (zk H 0 [.slice jY t.qh.length jX, .slice ra3a ((yz s t counts (Qh (BadAt s t counts) counts.length)).length) rc3a, .slice ra11Around t.qj.length rc11Around] Tryz.sizeOf27 fun w22 H => zjcc (sp (.int .i64 0) ?_)))))))
 refine zjn (qM ?_)
 refine xQ (fun m' ρ w23 => ∃ (junk : Env) (i : Nat) (vg : Option Addr) (zZ : Nat) (ve : Nat) (out_Around : List Int) (rest : List (List Int)) (x_rest : List Value) (F_rest : List Nat), ρ = upd (upd (upd (upd (upd (upd junk 0 (pp bs os)) 1 (pp bt ot)) 2 (.slice acounts counts.length ccounts)) 6 (pp b1 0)) 10 (pp b19 0)) 11 (.int .i64 i) ∧ ((i : Int) ≤ counts.length) ∧ (Ent (s.qf.length + 1) (yZ s) (fun p q => base0 s t p q + needS s counts s.qg.length p q + putS s t counts i p q) (20000000 + 6000000 * i) (rest ++ [out_Around])) ∧ (rest.length = s.qf.length) ∧ m' = (counts.length - (i : Int)).toNat ∧ Fresh w.heap.size [jE, F_rest] ∧ St w w23 [.box b19 [.slice jY t.qh.length jX, .slice ra3a ((yz s t counts (Qh (BadAt s t counts) counts.length)).length) rc3a, .slice vg zZ ve] 38, rr jY t.qh.length jX 4 1 (t.qh.map (Value.bool)), rr ra11Bags t.ql.length rc11Bags 22 1 VI, rr vg zZ ve 2 1 (out_Around.map (Value.int .i64)), rr ra3a ((yz s t counts (Qh (BadAt s t counts) counts.length)).length) rc3a 22 1 x_rest, .box b1 [.slice none 0 0, .slice none 0 0, .slice none 0 0] 38] [xN true jE VI t.ql, xN true F_rest x_rest rest, atF bs os [.int .i64 s.qJ, .slice qo s.qf.length qm, .slice qC s.qg.length qA], sF false qP qo qm s.qf, sF false xu qC qA s.qg, atF bt ot [.slice qN t.qh.length qL, .slice xh t.ql.length qZ, .slice qG t.qj.length qF], sF false xE qN qL t.qh, sF false zf xh qZ t.ql, sF false xw qG qF t.qj, sF false Fcounts acounts ccounts counts]) ((counts.length - (0 : Int)).toNat) ⟨_, 0, ra11Around, t.qj.length, rc11Around, t.qj, yz s t counts (Qh (BadAt s t counts) counts.length), rx3a, rF3a, uE6, (by omega), (by rw [st, p6]; exact (rest_ent p0 p1 p2).to (fun _ _ => rfl) (by omega)), (by omega), rfl, N, H⟩ ?_
 clear H N
 rintro m' ρ w24 ⟨junk, i, vg, zZ, ve, out_Around, rest, x_rest, F_rest, rfl, i0, E_rest, z_rest, rfl, N, H⟩
 have hn_out_Around := H.rowNI 3 rfl
 have hn_rest := H.xP (α := List Int) 4 rfl 1 rfl (by decide)
 refine zcc (sps [.int .i64 i, .slice acounts counts.length ccounts] (oN rfl (sp (.bool (decide ((i : Int) < counts.length))) (zjn (cD rfl (fun h25 => ?_) (fun h25 => ?_))))))
 ·skip
  have q := p0.rule (i := i) (by omega)
  have qc := q.1
  have qk := q.cell
  have qr := q.2.1
  have bn1 := q.2.2.2.2.1
  have bn2 := q.2.2.2.2.2.2.2.1
  have bn3 := q.2.2.2.2.2.2.2.2.1
  have ln1 := bn1.len
  have ln2 := bn2.len
  have ln3 := bn3.len
  have p10 := p2.bd (i := i) (by omega)
  have qn := q.2.2.2.1
  refine qK (t_n (xC (qM (zcr (sps [pp bs os, pp bs os] (oF rfl (oL rfl (H.xB 2 rfl 2 rfl) (sp (.int .i64 i) ?_))))))))
  obtain ⟨b26, o27, rfl⟩ := H.addr 4 rfl (by omega)
  obtain ⟨ae29Need, ce29Need, Fe29Need, ae29Have, ce29Have, Fe29Have, ae29Lack, ce29Lack, Fe29Lack, ae29Here, ce29Here, Fe29Here, ae29Out, ce29Out, Fe29Out, ae29Into, ce29Into, Fe29Into, H⟩ := H.jy 4 rfl i i (by omega) (by omega) (by omega)
  refine oI rfl rfl (sp (pp b26 (o27 + (i : Int).toNat * 9)) (zjcc (sps [.slice acounts counts.length ccounts, .int .i64 i] ?_)))
  obtain ⟨b30, o31, rfl⟩ := H.addr 16 rfl (by omega)
  refine oI rfl rfl (oL rfl (H.jd 16 rfl i (by omega) (by omega)) (sp (.bool ((counts[i]! : Int) == 0)) (zjn (cE rfl (fun h33 => ?_) (fun h33 => ?_)))))
  ·skip
   refine c_exit (t_x (b_x (t_n (xH (sp (.int .i64 i) (sw (xX i 1 rfl rfl (by omega) (sp (.int .i64 (i + 1)) (xG (qR (m' := (counts.length - ((i + 1) : Int)).toNat) (by omega) ⟨_, i + 1, vg, zZ, ve, out_Around, rest, x_rest, F_rest, uE6, ?_, ?_, ?_, rfl, N, H.pick [0, 1, 2, 3, 4, 5] [7, 8, 9, 10, 11, 12, 13, 14, 15, 16]⟩))))))))))
   · omega
   · first | exact E_rest.to (fun p q => by simp only [putS_skip (s := s) (t := t) (counts := counts) (i := i) ‹_›]) (by omega) | exact E_out_Bags.to (fun p q => by rw [show k = ((s.qg[i]!).qI).length by omega]; simp only [putS, putF]; omega) (by omega)
   · omega
  refine qK (t_n (xC ?_))
  refine yO rfl H [0, 1, 2, 3, 5] fun H => ?_
  have S := H.jZ [0, 1, 2, 3, 5] [0, 1, 2, 3, 4, 5, 6, 7, 8, 9, 10, 11, 12, 13, 14, 15, 16]
  refine tF 0 rfl rfl S ?_
  refine tL 1 rfl rfl (fun _ h => h.cell 0 rfl rfl) S ?_
  refine rtp 2 (pp b26 (o27 + (i : Int).toNat * 9)) S ?_
  refine rtp 3 (pp b26 (o27 + (i : Int).toNat * 9)) S ?_
  refine tF 4 rfl rfl S ?_
  refine tL 5 rfl rfl (fun _ h => h.xB 6 rfl 0 rfl) S ?_
  refine tF 6 rfl rfl S ?_
  refine tL 7 rfl rfl (fun _ h => h.cell 0 rfl rfl) S ?_
  refine rtp 8 (pp b26 (o27 + (i : Int).toNat * 9)) S ?_
  refine rtp 9 (pp b26 (o27 + (i : Int).toNat * 9)) S ?_
  refine tF 10 rfl rfl S ?_
  refine tL 11 rfl rfl (fun _ h => h.xB 6 rfl 0 rfl) S ?_
  obtain ⟨b35, rfl⟩ := H.Qn 4 rfl (by omega)
  have S := H.jZ [0, 1, 2, 3, 5] [0, 1, 2, 3, 4, 5, 6, 7, 8, 9, 10, 11, 12, 13, 14, 15, 16]
  refine tI 12 rfl rfl rfl S ?_
  refine rtp 14 (pp b26 (o27 + (i : Int).toNat * 9)) S ?_
  refine rtp 15 (pp b26 (o27 + (i : Int).toNat * 9)) S ?_
  refine tF 16 rfl rfl S ?_
  refine tL 17 rfl rfl (fun _ h => h.xB 6 rfl 5 rfl) S ?_
  refine rtp 18 (.slice (aa b30 o31) counts.length ccounts) S ?_
  refine rtp 19 (.int .i64 i) S ?_
  refine tI 20 rfl rfl rfl S ?_
  refine tL 21 rfl rfl (fun _ h => h.jA 16 rfl i (by omega)) S ?_
  refine ro 13 rfl ?_
  obtain ⟨a36, c37, G38, s39, h40, H⟩ := H.jo 4 rfl 8 rfl (iv := (s.qg[i]!).qp) (((s.qg[i]!).qp).toNat) (by omega) (by omega)
  refine zl (.slice a36 ((rest[((s.qg[i]!).qp).toNat]!).length) c37) Tryz.isAgg22 rfl (h40) (⟨H.pick [0, 1, 2, 3, 5] [1, 2, 3, 4, 5, 6, 7, 8, 9, 10, 11, 12, 13, 14, 15, 16, 17], (ro 22 rfl ?_)⟩)
  obtain ⟨u1, u2⟩ := Ent.rowL E_rest (c := ((s.qg[i]!).qp).toNat) (by omega) (by omega) (by omega) (by omega)
  have u4 := (by first | exact bn2.jW (by omega) | exact bn3.jW (by omega) | exact bn4.jW (by omega) : SmallT ((s.qg[i]!).xq) (counts[i]!))
  have sz41 := H.base.size
  have lt42 := H.ltN (L := [jE, F_rest]) [8, 9]
  refine oc (Xo _ (rest[((s.qg[i]!).qp).toNat]!) ((s.qg[i]!).xq) (counts[i]!) (H.get 0 rfl).1 (H.get 4 rfl).1 (by first | assumption | omega) (by first | assumption | omega) (by first | assumption | omega)) ?_
  rintro v46 w44 r46 x45
  replace H := H.xW x45 r46
  obtain ⟨a47, c48, rfl, hc49, hm50⟩ := H.vN 0 rfl
  refine ⟨H.pick [1, 2, 3, 4, 6] [1, 2, 3, 4, 5, 6, 7, 8, 9, 10, 11, 12, 13, 14, 15, 16, 17], (tI 23 rfl rfl rfl (H.pick [1, 2, 3, 4, 6] [1, 2, 3, 4, 5, 6, 7, 8, 9, 10, 11, 12, 13, 14, 15, 16, 17]) ?_)⟩
  refine ro 24 rfl ?_
  obtain ⟨G52, N, hn53, H⟩ := H.vG 0 rfl N (H.yT [8, 9])
  refine jb true H 5 rfl 10 rfl (.slice a47 ((vk (rest[((s.qg[i]!).qp).toNat]!) ((s.qg[i]!).xq) (counts[i]!)).length) c48) 0 rfl rfl Tryz.sizeOf22 rfl rfl (i := (((s.qg[i]!).qp).toNat)) (by omega) (by omega) (by simp) fun w51 xs54 F55 hs56 H => ?_
  replace N : Fresh w.heap.size [F55, jE] := (N.pick [2, 0, 1]).repl hs56
  refine ⟨H.pick [1, 2, 3, 4, 6] [3, 4, 5, 6, 7, 8, 9, 10, 11, 12, 13, 14, 15, 16, 17, 18, 19], (xy (by kernel_rfl) (t_n (zcc (sps [pp b26 (o27 + (i : Int).toNat * 9), pp b26 (o27 + (i : Int).toNat * 9)] (oF rfl (oL rfl (H.xB 9 rfl 0 rfl) (sp (.bool (((s.qg[i]!).qp : Int) == 0)) (zjn (cE rfl (fun h57 => ?_) (fun h57 => ?_))))))))))⟩
  ·skip
   obtain ⟨bg58, e_bg58⟩ : ∃ z, z = (rest.set (((s.qg[i]!).qp).toNat) (vk (rest[((s.qg[i]!).qp).toNat]!) ((s.qg[i]!).xq) (counts[i]!))) := ⟨_, rfl⟩
   rw [← e_bg58] at H
   have E_bg58 := Ent.addL (D := 1000000) E_rest e_bg58 (by omega) (by omega) (by first | exact bn2.mul (by omega) | exact bn3.mul (by omega) | exact bn4.mul (by omega)) (by omega)
   have z_bg58 : bg58.length = s.qf.length := by rw [e_bg58, List.length_set]; omega
   have E_cur := E_bg58
   refine yO rfl H [0, 2, 3, 4, 5, 6] fun H => ?_
   have S := H.jZ [0, 2, 3, 4, 5, 6] [0, 1, 2, 3, 4, 5, 6, 7, 8, 9, 10, 11, 12, 13, 14, 15, 16, 17, 18, 19]
   refine tF 0 rfl rfl S ?_
   refine rtp 2 (pp b26 (o27 + (i : Int).toNat * 9)) S ?_
   refine rtp 3 (pp b26 (o27 + (i : Int).toNat * 9)) S ?_
   refine tF 4 rfl rfl S ?_
   refine tL 5 rfl rfl (fun _ h => h.xB 9 rfl 6 rfl) S ?_
   refine rtp 6 (.slice (aa b30 o31) counts.length ccounts) S ?_
   refine rtp 7 (.int .i64 i) S ?_
   refine tI 8 rfl rfl rfl S ?_
   refine tL 9 rfl rfl (fun _ h => h.jA 19 rfl i (by omega)) S ?_
   refine ro 1 rfl (zl (.slice vg zZ ve) Tryz.isAgg22 rfl (H.cell 1 rfl rfl) (⟨H.pick [0, 2, 3, 4, 5, 6] [0, 1, 2, 3, 4, 5, 6, 7, 8, 9, 10, 11, 12, 13, 14, 15, 16, 17, 18, 19], (ro 10 rfl ?_)⟩))
   obtain ⟨G60, hn61, h62⟩ := H.rowIsI 4 rfl
   obtain ⟨u1, u2⟩ := Ent.rowN E_bg58 (by omega) (by omega) (by omega)
   have u4 := (by first | exact bn2.jW (by omega) | exact bn3.jW (by omega) | exact bn4.jW (by omega) : SmallT ((s.qg[i]!).zq) (counts[i]!))
   have sz63 := H.base.size
   have lt64 := H.ltN (L := [F55, jE]) [0, 10]
   refine oc (args_eq (by rw [← hn61]) (Xo _ out_Around ((s.qg[i]!).zq) (counts[i]!) (hn61 ▸ h62) (H.get 7 rfl).1 (by first | assumption | omega) (by first | assumption | omega) (by first | assumption | omega))) ?_
   rintro v68 w66 r68 x67
   replace H := H.xW x67 r68
   obtain ⟨a69, c70, rfl, hc71, hm72⟩ := H.vN 0 rfl
   refine ⟨H.pick [1, 3, 4, 5, 6, 7] [0, 1, 2, 3, 4, 5, 6, 7, 8, 9, 10, 11, 12, 13, 14, 15, 16, 17, 18, 19], (tF 11 rfl rfl (H.pick [1, 3, 4, 5, 6, 7] [0, 1, 2, 3, 4, 5, 6, 7, 8, 9, 10, 11, 12, 13, 14, 15, 16, 17, 18, 19]) ?_)⟩
   refine ro 12 rfl (zk H 2 [.slice jY t.qh.length jX, .slice (aa b35 0) ((yz s t counts (Qh (BadAt s t counts) counts.length)).length) rc3a, .slice a69 ((vk out_Around ((s.qg[i]!).zq) (counts[i]!)).length) c70] Tryz.sizeOf22 fun w73 H => ⟨H.pick [1, 3, 4, 5, 6, 7] [0, 1, 2, 3, 4, 5, 6, 7, 8, 9, 10, 11, 12, 13, 14, 15, 16, 17, 18, 19], (xy (by kernel_rfl) (t_n (zcr (sp (.int .i64 0) (zjn (qM ?_))))))⟩)
   replace E_bg58 := Ent.addN (D := 1000000) (a' := vk out_Around ((s.qg[i]!).zq) (counts[i]!)) E_bg58 rfl (by omega) (by first | exact bn2.mul (by omega) | exact bn3.mul (by omega) | exact bn4.mul (by omega)) (by omega)
   have E_cur := E_bg58
   refine xQ (fun m' ρ w74 => ∃ (junk : Env) (k : Nat) (out_Bags : List (List Int)) (zi : List Value) (xF : List Nat), ρ = upd (upd (upd (upd (upd (upd (upd (upd junk 0 (pp bs os)) 1 (pp bt ot)) 2 (.slice (aa b30 o31) counts.length ccounts)) 6 (pp b1 0)) 10 (pp b19 0)) 11 (.int .i64 i)) 12 (pp b26 (o27 + (i : Int).toNat * 9))) 14 (.int .i64 k) ∧ ((k : Int) ≤ (((s.qg[i]!).qI).length)) ∧ (Ent (s.qf.length + 1) (yZ s) (fun p q => base0 s t p q + needS s counts s.qg.length p q + putS s t counts i p q + at' p (s.qg[i]!).qp.toNat (counts[i]! * ((s.qg[i]!).xq)[q]!) + at' p (outPl s t (s.qg[i]!)) (counts[i]! * ((s.qg[i]!).zq)[q]!) + intoF (s.qg[i]!) (counts[i]!) k p q) (22000000 + 6000000 * i + 1000000 * k) (out_Bags ++ [vk out_Around ((s.qg[i]!).zq) (counts[i]!)])) ∧ (out_Bags.length = s.qf.length) ∧ m' = ((((s.qg[i]!).qI).length) - (k : Int)).toNat ∧ Fresh w.heap.size [jE, xF] ∧ St w w74 [rr a69 ((vk out_Around ((s.qg[i]!).zq) (counts[i]!)).length) c70 2 1 ((vk out_Around ((s.qg[i]!).zq) (counts[i]!)).map (Value.int .i64)), .box b19 [.slice jY t.qh.length jX, .slice (aa b35 0) ((yz s t counts (Qh (BadAt s t counts) counts.length)).length) rc3a, .slice a69 ((vk out_Around ((s.qg[i]!).zq) (counts[i]!)).length) c70] 38, rr jY t.qh.length jX 4 1 (t.qh.map (Value.bool)), rr ra11Bags t.ql.length rc11Bags 22 1 VI, rr vg zZ ve 2 1 (out_Around.map (Value.int .i64)), rr (aa b35 0) ((yz s t counts (Qh (BadAt s t counts) counts.length)).length) rc3a 22 1 zi, .box b1 [.slice none 0 0, .slice none 0 0, .slice none 0 0] 38] [xN true xF zi out_Bags, sF false Fe29Need ae29Need ce29Need ((s.qg[i]!).qV), sF false Fe29Have ae29Have ce29Have ((s.qg[i]!).xg), sF false Fe29Lack ae29Lack ce29Lack ((s.qg[i]!).xm), sF false Fe29Here ae29Here ce29Here ((s.qg[i]!).xq), sF false Fe29Out ae29Out ce29Out ((s.qg[i]!).zq), sF false Fe29Into ae29Into ce29Into ((s.qg[i]!).qI), atF b26 (o27 + (i : Int).toNat * 9) [.int .i64 ((s.qg[i]!).qp), .int .i64 ((s.qg[i]!).zg), .slice ae29Need (((s.qg[i]!).qV).length) ce29Need, .slice ae29Have (((s.qg[i]!).xg).length) ce29Have, .slice ae29Lack (((s.qg[i]!).xm).length) ce29Lack, .slice ae29Here (((s.qg[i]!).xq).length) ce29Here, .slice ae29Out (((s.qg[i]!).zq).length) ce29Out, .slice ae29Into (((s.qg[i]!).qI).length) ce29Into, .bool ((s.qg[i]!).xO)], xN true jE VI t.ql, atF bs os [.int .i64 s.qJ, .slice qo s.qf.length qm, .slice (aa b26 o27) s.qg.length qA], sF false qP qo qm s.qf, sF false xu (aa b26 o27) qA s.qg, atF bt ot [.slice qN t.qh.length qL, .slice xh t.ql.length qZ, .slice qG t.qj.length qF], sF false xE qN qL t.qh, sF false zf xh qZ t.ql, sF false xw qG qF t.qj, sF false Fcounts (aa b30 o31) ccounts counts]) (((((s.qg[i]!).qI).length) - (0 : Int)).toNat) ⟨_, 0, bg58, xs54, F55, uE8, (by omega), (by exact E_cur.to (fun p q => by first | (simp only [intoF, outPl_root (s := s) (t := t) (r := s.qg[i]!) ‹_›, vJ]; omega) | (simp only [intoF, outPl_up (s := s) (t := t) (r := s.qg[i]!) ‹_›]; omega)) (by omega)), (by omega), rfl, (N.pick [1, 0]), H.pick [0, 2, 3, 4, 5, 6, 7] [0, 3, 4, 5, 6, 7, 8, 9, 10, 12, 13, 14, 15, 16, 17, 18, 19]⟩ ?_
   clear H N
   rintro m' ρ w75 ⟨junk, k, out_Bags, zi, xF, rfl, i0, E_out_Bags, z_out_Bags, rfl, N, H⟩
   have VT := H.xP (α := List Int) 5 rfl 0 rfl (by decide)
   refine zcc (sps [.int .i64 k, pp b26 (o27 + (i : Int).toNat * 9), pp b26 (o27 + (i : Int).toNat * 9)] (oF rfl (oL rfl (H.xB 7 rfl 7 rfl) (oN rfl (sp (.bool (decide ((k : Int) < (((s.qg[i]!).qI).length)))) (zjn (cD rfl (fun h76 => ?_) (fun h76 => ?_))))))))
   ·skip
    have qi := q.2.2.2.2.2.2.2.2.2.2 k (by omega)
    have qi1 := qi.1
    have bn4 := qi.2.2.1
    have ln4 := bn4.len
    refine qK (t_n (xC (qM (zcr (sps [pp b26 (o27 + (i : Int).toNat * 9), pp b26 (o27 + (i : Int).toNat * 9)] (oF rfl (oL rfl (H.xB 7 rfl 7 rfl) (sp (.int .i64 k) ?_))))))))
    obtain ⟨b77, o78, rfl⟩ := H.addr 6 rfl (by omega)
    obtain ⟨ae80Bag, ce80Bag, Fe80Bag, H⟩ := H.jh 6 rfl k k (by omega) (by omega) (by omega)
    refine oI rfl rfl (oF rfl (oL rfl (H.xB 1 rfl 0 rfl) (sp (.int .i64 ((((s.qg[i]!).qI)[k]!).qp)) (zjn ?_))))
    refine yO rfl H [0, 1, 2, 3, 4, 6] fun H => ?_
    have S := H.jZ [0, 1, 2, 3, 4, 6] [0, 1, 2, 3, 4, 5, 6, 7, 8, 9, 10, 11, 12, 13, 14, 15, 16, 17, 18]
    refine tF 0 rfl rfl S ?_
    refine tL 1 rfl rfl (fun _ h => h.cell 1 rfl rfl) S ?_
    refine rtp 2 (.int .i64 ((((s.qg[i]!).qI)[k]!).qp)) S ?_
    refine tF 3 rfl rfl S ?_
    refine tL 4 rfl rfl (fun _ h => h.cell 1 rfl rfl) S ?_
    refine rtp 5 (.int .i64 ((((s.qg[i]!).qI)[k]!).qp)) S ?_
    refine tI 6 rfl rfl rfl S ?_
    refine rtp 8 (pp b26 (o27 + (i : Int).toNat * 9)) S ?_
    refine rtp 9 (pp b26 (o27 + (i : Int).toNat * 9)) S ?_
    refine tF 10 rfl rfl S ?_
    refine tL 11 rfl rfl (fun _ h => h.xB 9 rfl 7 rfl) S ?_
    refine rtp 12 (.int .i64 k) S ?_
    refine tI 13 rfl rfl rfl S ?_
    refine tF 14 rfl rfl S ?_
    refine tL 15 rfl rfl (fun _ h => h.xB 1 rfl 1 rfl) S ?_
    refine rtp 16 (.slice (aa b30 o31) counts.length ccounts) S ?_
    refine rtp 17 (.int .i64 i) S ?_
    refine tI 18 rfl rfl rfl S ?_
    refine tL 19 rfl rfl (fun _ h => h.jA 18 rfl i (by omega)) S ?_
    refine ro 7 rfl ?_
    obtain ⟨a82, c83, G84, s85, h86, H⟩ := H.jo 5 rfl 2 rfl (iv := (((s.qg[i]!).qI)[k]!).qp) (((((s.qg[i]!).qI)[k]!).qp).toNat) (by omega) (by omega)
    refine zl (.slice a82 ((out_Bags[((((s.qg[i]!).qI)[k]!).qp).toNat]!).length) c83) Tryz.isAgg22 rfl (h86) (⟨H.pick [0, 1, 2, 3, 4, 6] [1, 2, 3, 4, 5, 6, 7, 8, 9, 10, 11, 12, 13, 14, 15, 16, 17, 18, 19], (ro 20 rfl ?_)⟩)
    obtain ⟨u1, u2⟩ := Ent.rowL E_out_Bags (c := ((((s.qg[i]!).qI)[k]!).qp).toNat) (by omega) (by omega) (by omega) (by omega)
    have u4 := (by first | exact bn2.jW (by omega) | exact bn3.jW (by omega) | exact bn4.jW (by omega) : SmallT ((((s.qg[i]!).qI)[k]!).vS) (counts[i]!))
    have sz87 := H.base.size
    have lt88 := H.ltN (L := [jE, xF]) [11, 3]
    refine oc (Xo _ (out_Bags[((((s.qg[i]!).qI)[k]!).qp).toNat]!) ((((s.qg[i]!).qI)[k]!).vS) (counts[i]!) (H.get 0 rfl).1 (H.get 1 rfl).1 (by first | assumption | omega) (by first | assumption | omega) (by first | assumption | omega)) ?_
    rintro v92 w90 r92 x91
    replace H := H.xW x91 r92
    obtain ⟨a93, c94, rfl, hc95, hm96⟩ := H.vN 0 rfl
    refine ⟨H.pick [1, 2, 3, 4, 5, 7] [1, 2, 3, 4, 5, 6, 7, 8, 9, 10, 11, 12, 13, 14, 15, 16, 17, 18, 19], (tI 21 rfl rfl rfl (H.pick [1, 2, 3, 4, 5, 7] [1, 2, 3, 4, 5, 6, 7, 8, 9, 10, 11, 12, 13, 14, 15, 16, 17, 18, 19]) ?_)⟩
    refine ro 22 rfl ?_
    obtain ⟨G98, N, hn99, H⟩ := H.vG 0 rfl N (H.yT [11, 3])
    refine jb true H 6 rfl 4 rfl (.slice a93 ((vk (out_Bags[((((s.qg[i]!).qI)[k]!).qp).toNat]!) ((((s.qg[i]!).qI)[k]!).vS) (counts[i]!)).length) c94) 0 rfl rfl Tryz.sizeOf22 rfl rfl (i := (((((s.qg[i]!).qI)[k]!).qp).toNat)) (by omega) (by omega) (by simp) fun w97 xs100 F101 hs102 H => ?_
    replace N : Fresh w.heap.size [F101, jE] := (N.pick [2, 0, 1]).repl hs102
    refine ⟨H.pick [1, 2, 3, 4, 5, 7] [3, 4, 5, 6, 7, 8, 9, 10, 11, 12, 13, 14, 15, 16, 17, 18, 19, 20, 21], (xy (by kernel_rfl) (b_n (t_n (xH (sp (.int .i64 k) (sw (xX k 1 rfl rfl (by omega) (sp (.int .i64 (k + 1)) (xG ?_)))))))))⟩
    obtain ⟨bg103, e_bg103⟩ : ∃ z, z = (out_Bags.set (((((s.qg[i]!).qI)[k]!).qp).toNat) (vk (out_Bags[((((s.qg[i]!).qI)[k]!).qp).toNat]!) ((((s.qg[i]!).qI)[k]!).vS) (counts[i]!))) := ⟨_, rfl⟩
    rw [← e_bg103] at H
    have E_bg103 := Ent.addL (D := 1000000) E_out_Bags e_bg103 (by omega) (by omega) (by first | exact bn2.mul (by omega) | exact bn3.mul (by omega) | exact bn4.mul (by omega)) (by omega)
    have z_bg103 : bg103.length = s.qf.length := by rw [e_bg103, List.length_set]; omega
    have E_cur := E_bg103
    refine qR (m' := ((((s.qg[i]!).qI).length) - ((k + 1) : Int)).toNat) (by omega) ⟨_, k + 1, bg103, xs100, F101, uE8, ?_, ?_, ?_, rfl, (N.pick [1, 0]), H.pick [1, 2, 3, 4, 5, 6, 7] [0, 6, 7, 8, 9, 10, 11, 12, 13, 14, 15, 16, 17, 18, 19, 20, 21]⟩
    · omega
    · exact E_cur.to (fun p q => by simp only [intoF]; omega) (by omega)
    · omega
   refine c_exit (t_x (t_x (b_x (b_n (t_n (xH (sp (.int .i64 i) (sw (xX i 1 rfl rfl (by omega) (sp (.int .i64 (i + 1)) (xG (qR (m' := (counts.length - ((i + 1) : Int)).toNat) (by omega) ⟨_, i + 1, a69, (vk out_Around ((s.qg[i]!).zq) (counts[i]!)).length, c70, vk out_Around ((s.qg[i]!).zq) (counts[i]!), out_Bags, zi, xF, uE6, ?_, ?_, ?_, rfl, N, H.pick [1, 2, 3, 0, 5, 6] [8, 0, 9, 10, 11, 12, 13, 14, 15, 16]⟩))))))))))))
   · omega
   · first | exact E_rest.to (fun p q => by simp only [putS_skip (s := s) (t := t) (counts := counts) (i := i) ‹_›]) (by omega) | exact E_out_Bags.to (fun p q => by rw [show k = ((s.qg[i]!).qI).length by omega]; simp only [putS, putF]; omega) (by omega)
   · omega
  obtain ⟨bg104, e_bg104⟩ : ∃ z, z = (rest.set (((s.qg[i]!).qp).toNat) (vk (rest[((s.qg[i]!).qp).toNat]!) ((s.qg[i]!).xq) (counts[i]!))) := ⟨_, rfl⟩
  rw [← e_bg104] at H
  have E_bg104 := Ent.addL (D := 1000000) E_rest e_bg104 (by omega) (by omega) (by first | exact bn2.mul (by omega) | exact bn3.mul (by omega) | exact bn4.mul (by omega)) (by omega)
  have z_bg104 : bg104.length = s.qf.length := by rw [e_bg104, List.length_set]; omega
  have E_cur := E_bg104
  refine zcr (sps [pp bs os, pp bt ot, pp b26 (o27 + (i : Int).toNat * 9), pp b26 (o27 + (i : Int).toNat * 9)] (oF rfl (oL rfl (H.xB 9 rfl 0 rfl) (sw (oq (l02Parent_ok _ s t ((s.qg[i]!).qp) (qw (H.get 12 rfl) 0 3) (H.get 13 rfl).1 (H.get 14 rfl).1 (qw (H.get 15 rfl) 0 3) (H.get 16 rfl).1 (H.get 17 rfl).1 (H.get 18 rfl).1 (by assumption) (by assumption) (by assumption)) H fun w105 H => ?_)))))
  have pin := VZ (s := s) (t := t) (c := ((s.qg[i]!).qp)) p0.1 p1.2.2.1 (by omega) (by omega)
  refine sp (.int .i64 (xe s t ((s.qg[i]!).qp))) (zjn ?_)
  refine yO rfl H [0, 1, 2, 3, 4, 6] fun H => ?_
  have S := H.jZ [0, 1, 2, 3, 4, 6] [0, 1, 2, 3, 4, 5, 6, 7, 8, 9, 10, 11, 12, 13, 14, 15, 16, 17, 18, 19]
  refine tF 0 rfl rfl S ?_
  refine tL 1 rfl rfl (fun _ h => h.cell 1 rfl rfl) S ?_
  refine rtp 2 (.int .i64 (xe s t ((s.qg[i]!).qp))) S ?_
  refine tF 3 rfl rfl S ?_
  refine tL 4 rfl rfl (fun _ h => h.cell 1 rfl rfl) S ?_
  refine rtp 5 (.int .i64 (xe s t ((s.qg[i]!).qp))) S ?_
  refine tI 6 rfl rfl rfl S ?_
  refine rtp 8 (pp b26 (o27 + (i : Int).toNat * 9)) S ?_
  refine rtp 9 (pp b26 (o27 + (i : Int).toNat * 9)) S ?_
  refine tF 10 rfl rfl S ?_
  refine tL 11 rfl rfl (fun _ h => h.xB 9 rfl 6 rfl) S ?_
  refine rtp 12 (.slice (aa b30 o31) counts.length ccounts) S ?_
  refine rtp 13 (.int .i64 i) S ?_
  refine tI 14 rfl rfl rfl S ?_
  refine tL 15 rfl rfl (fun _ h => h.jA 19 rfl i (by omega)) S ?_
  refine ro 7 rfl ?_
  obtain ⟨a108, c109, G110, s111, h112, H⟩ := H.jo 5 rfl 0 rfl (iv := xe s t ((s.qg[i]!).qp)) ((xe s t ((s.qg[i]!).qp)).toNat) (by omega) (by omega)
  refine zl (.slice a108 ((bg104[(xe s t ((s.qg[i]!).qp)).toNat]!).length) c109) Tryz.isAgg22 rfl (h112) (⟨H.pick [0, 1, 2, 3, 4, 6] [1, 2, 3, 4, 5, 6, 7, 8, 9, 10, 11, 12, 13, 14, 15, 16, 17, 18, 19, 20], (ro 16 rfl ?_)⟩)
  obtain ⟨u1, u2⟩ := Ent.rowL E_bg104 (c := (xe s t ((s.qg[i]!).qp)).toNat) (by omega) (by omega) (by omega) (by omega)
  have u4 := (by first | exact bn2.jW (by omega) | exact bn3.jW (by omega) | exact bn4.jW (by omega) : SmallT ((s.qg[i]!).zq) (counts[i]!))
  have sz113 := H.base.size
  have lt114 := H.ltN (L := [F55, jE]) [1, 11]
  refine oc (Xo _ (bg104[(xe s t ((s.qg[i]!).qp)).toNat]!) ((s.qg[i]!).zq) (counts[i]!) (H.get 0 rfl).1 (H.get 8 rfl).1 (by first | assumption | omega) (by first | assumption | omega) (by first | assumption | omega)) ?_
  rintro v118 w116 r118 x117
  replace H := H.xW x117 r118
  obtain ⟨a119, c120, rfl, hc121, hm122⟩ := H.vN 0 rfl
  refine ⟨H.pick [1, 2, 3, 4, 5, 7] [1, 2, 3, 4, 5, 6, 7, 8, 9, 10, 11, 12, 13, 14, 15, 16, 17, 18, 19, 20], (tI 17 rfl rfl rfl (H.pick [1, 2, 3, 4, 5, 7] [1, 2, 3, 4, 5, 6, 7, 8, 9, 10, 11, 12, 13, 14, 15, 16, 17, 18, 19, 20]) ?_)⟩
  refine ro 18 rfl ?_
  obtain ⟨G124, N, hn125, H⟩ := H.vG 0 rfl N (H.yT [1, 11])
  refine jb true H 6 rfl 2 rfl (.slice a119 ((vk (bg104[(xe s t ((s.qg[i]!).qp)).toNat]!) ((s.qg[i]!).zq) (counts[i]!)).length) c120) 0 rfl rfl Tryz.sizeOf22 rfl rfl (i := ((xe s t ((s.qg[i]!).qp)).toNat)) (by omega) (by omega) (by simp) fun w123 xs126 F127 hs128 H => ?_
  replace N : Fresh w.heap.size [F127, jE] := (N.pick [1, 0, 2]).repl hs128
  refine ⟨H.pick [1, 2, 3, 4, 5, 7] [3, 4, 5, 6, 7, 8, 9, 10, 11, 12, 13, 14, 15, 16, 17, 18, 19, 20, 21, 22], (xy (by kernel_rfl) (t_n (zcr (sp (.int .i64 0) (zjn (qM ?_))))))⟩
  obtain ⟨bg129, e_bg129⟩ : ∃ z, z = (bg104.set ((xe s t ((s.qg[i]!).qp)).toNat) (vk (bg104[(xe s t ((s.qg[i]!).qp)).toNat]!) ((s.qg[i]!).zq) (counts[i]!))) := ⟨_, rfl⟩
  rw [← e_bg129] at H
  have E_bg129 := Ent.addL (D := 1000000) E_bg104 e_bg129 (by omega) (by omega) (by first | exact bn2.mul (by omega) | exact bn3.mul (by omega) | exact bn4.mul (by omega)) (by omega)
  have z_bg129 : bg129.length = s.qf.length := by rw [e_bg129, List.length_set]; omega
  have E_cur := E_bg129
  refine xQ (fun m' ρ w130 => ∃ (junk : Env) (k : Nat) (out_Bags : List (List Int)) (zi : List Value) (xF : List Nat), ρ = upd (upd (upd (upd (upd (upd (upd (upd junk 0 (pp bs os)) 1 (pp bt ot)) 2 (.slice (aa b30 o31) counts.length ccounts)) 6 (pp b1 0)) 10 (pp b19 0)) 11 (.int .i64 i)) 12 (pp b26 (o27 + (i : Int).toNat * 9))) 14 (.int .i64 k) ∧ ((k : Int) ≤ (((s.qg[i]!).qI).length)) ∧ (Ent (s.qf.length + 1) (yZ s) (fun p q => base0 s t p q + needS s counts s.qg.length p q + putS s t counts i p q + at' p (s.qg[i]!).qp.toNat (counts[i]! * ((s.qg[i]!).xq)[q]!) + at' p (outPl s t (s.qg[i]!)) (counts[i]! * ((s.qg[i]!).zq)[q]!) + intoF (s.qg[i]!) (counts[i]!) k p q) (22000000 + 6000000 * i + 1000000 * k) (out_Bags ++ [out_Around])) ∧ (out_Bags.length = s.qf.length) ∧ m' = ((((s.qg[i]!).qI).length) - (k : Int)).toNat ∧ Fresh w.heap.size [jE, xF] ∧ St w w130 [.box b19 [.slice jY t.qh.length jX, .slice (aa b35 0) ((yz s t counts (Qh (BadAt s t counts) counts.length)).length) rc3a, .slice vg zZ ve] 38, rr jY t.qh.length jX 4 1 (t.qh.map (Value.bool)), rr ra11Bags t.ql.length rc11Bags 22 1 VI, rr vg zZ ve 2 1 (out_Around.map (Value.int .i64)), rr (aa b35 0) ((yz s t counts (Qh (BadAt s t counts) counts.length)).length) rc3a 22 1 zi, .box b1 [.slice none 0 0, .slice none 0 0, .slice none 0 0] 38] [xN true xF zi out_Bags, sF false Fe29Need ae29Need ce29Need ((s.qg[i]!).qV), sF false Fe29Have ae29Have ce29Have ((s.qg[i]!).xg), sF false Fe29Lack ae29Lack ce29Lack ((s.qg[i]!).xm), sF false Fe29Here ae29Here ce29Here ((s.qg[i]!).xq), sF false Fe29Out ae29Out ce29Out ((s.qg[i]!).zq), sF false Fe29Into ae29Into ce29Into ((s.qg[i]!).qI), atF b26 (o27 + (i : Int).toNat * 9) [.int .i64 ((s.qg[i]!).qp), .int .i64 ((s.qg[i]!).zg), .slice ae29Need (((s.qg[i]!).qV).length) ce29Need, .slice ae29Have (((s.qg[i]!).xg).length) ce29Have, .slice ae29Lack (((s.qg[i]!).xm).length) ce29Lack, .slice ae29Here (((s.qg[i]!).xq).length) ce29Here, .slice ae29Out (((s.qg[i]!).zq).length) ce29Out, .slice ae29Into (((s.qg[i]!).qI).length) ce29Into, .bool ((s.qg[i]!).xO)], xN true jE VI t.ql, atF bs os [.int .i64 s.qJ, .slice qo s.qf.length qm, .slice (aa b26 o27) s.qg.length qA], sF false qP qo qm s.qf, sF false xu (aa b26 o27) qA s.qg, atF bt ot [.slice qN t.qh.length qL, .slice xh t.ql.length qZ, .slice qG t.qj.length qF], sF false xE qN qL t.qh, sF false zf xh qZ t.ql, sF false xw qG qF t.qj, sF false Fcounts (aa b30 o31) ccounts counts]) (((((s.qg[i]!).qI).length) - (0 : Int)).toNat) ⟨_, 0, bg129, xs126, F127, uE8, (by omega), (by exact E_cur.to (fun p q => by first | (simp only [intoF, outPl_root (s := s) (t := t) (r := s.qg[i]!) ‹_›, vJ]; omega) | (simp only [intoF, outPl_up (s := s) (t := t) (r := s.qg[i]!) ‹_›]; omega)) (by omega)), (by omega), rfl, (N.pick [1, 0]), H.pick [2, 3, 4, 5, 6, 7] [0, 6, 7, 8, 9, 10, 11, 12, 13, 15, 16, 17, 18, 19, 20, 21, 22]⟩ ?_
  clear H N
  rintro m' ρ w131 ⟨junk, k, out_Bags, zi, xF, rfl, i0, E_out_Bags, z_out_Bags, rfl, N, H⟩
  have VT := H.xP (α := List Int) 4 rfl 0 rfl (by decide)
  refine zcc (sps [.int .i64 k, pp b26 (o27 + (i : Int).toNat * 9), pp b26 (o27 + (i : Int).toNat * 9)] (oF rfl (oL rfl (H.xB 7 rfl 7 rfl) (oN rfl (sp (.bool (decide ((k : Int) < (((s.qg[i]!).qI).length)))) (zjn (cD rfl (fun h132 => ?_) (fun h132 => ?_))))))))
  ·skip
   have qi := q.2.2.2.2.2.2.2.2.2.2 k (by omega)
   have qi1 := qi.1
   have bn4 := qi.2.2.1
   have ln4 := bn4.len
   refine qK (t_n (xC (qM (zcr (sps [pp b26 (o27 + (i : Int).toNat * 9), pp b26 (o27 + (i : Int).toNat * 9)] (oF rfl (oL rfl (H.xB 7 rfl 7 rfl) (sp (.int .i64 k) ?_))))))))
   obtain ⟨b133, o134, rfl⟩ := H.addr 6 rfl (by omega)
   obtain ⟨ae136Bag, ce136Bag, Fe136Bag, H⟩ := H.jh 6 rfl k k (by omega) (by omega) (by omega)
   refine oI rfl rfl (oF rfl (oL rfl (H.xB 1 rfl 0 rfl) (sp (.int .i64 ((((s.qg[i]!).qI)[k]!).qp)) (zjn ?_))))
   refine yO rfl H [0, 1, 2, 3, 5] fun H => ?_
   have S := H.jZ [0, 1, 2, 3, 5] [0, 1, 2, 3, 4, 5, 6, 7, 8, 9, 10, 11, 12, 13, 14, 15, 16, 17, 18]
   refine tF 0 rfl rfl S ?_
   refine tL 1 rfl rfl (fun _ h => h.cell 0 rfl rfl) S ?_
   refine rtp 2 (.int .i64 ((((s.qg[i]!).qI)[k]!).qp)) S ?_
   refine tF 3 rfl rfl S ?_
   refine tL 4 rfl rfl (fun _ h => h.cell 0 rfl rfl) S ?_
   refine rtp 5 (.int .i64 ((((s.qg[i]!).qI)[k]!).qp)) S ?_
   refine tI 6 rfl rfl rfl S ?_
   refine rtp 8 (pp b26 (o27 + (i : Int).toNat * 9)) S ?_
   refine rtp 9 (pp b26 (o27 + (i : Int).toNat * 9)) S ?_
   refine tF 10 rfl rfl S ?_
   refine tL 11 rfl rfl (fun _ h => h.xB 9 rfl 7 rfl) S ?_
   refine rtp 12 (.int .i64 k) S ?_
   refine tI 13 rfl rfl rfl S ?_
   refine tF 14 rfl rfl S ?_
   refine tL 15 rfl rfl (fun _ h => h.xB 1 rfl 1 rfl) S ?_
   refine rtp 16 (.slice (aa b30 o31) counts.length ccounts) S ?_
   refine rtp 17 (.int .i64 i) S ?_
   refine tI 18 rfl rfl rfl S ?_
   refine tL 19 rfl rfl (fun _ h => h.jA 18 rfl i (by omega)) S ?_
   refine ro 7 rfl ?_
   obtain ⟨a138, c139, G140, s141, h142, H⟩ := H.jo 4 rfl 2 rfl (iv := (((s.qg[i]!).qI)[k]!).qp) (((((s.qg[i]!).qI)[k]!).qp).toNat) (by omega) (by omega)
   refine zl (.slice a138 ((out_Bags[((((s.qg[i]!).qI)[k]!).qp).toNat]!).length) c139) Tryz.isAgg22 rfl (h142) (⟨H.pick [0, 1, 2, 3, 5] [1, 2, 3, 4, 5, 6, 7, 8, 9, 10, 11, 12, 13, 14, 15, 16, 17, 18, 19], (ro 20 rfl ?_)⟩)
   obtain ⟨u1, u2⟩ := Ent.rowL E_out_Bags (c := ((((s.qg[i]!).qI)[k]!).qp).toNat) (by omega) (by omega) (by omega) (by omega)
   have u4 := (by first | exact bn2.jW (by omega) | exact bn3.jW (by omega) | exact bn4.jW (by omega) : SmallT ((((s.qg[i]!).qI)[k]!).vS) (counts[i]!))
   have sz143 := H.base.size
   have lt144 := H.ltN (L := [jE, xF]) [11, 3]
   refine oc (Xo _ (out_Bags[((((s.qg[i]!).qI)[k]!).qp).toNat]!) ((((s.qg[i]!).qI)[k]!).vS) (counts[i]!) (H.get 0 rfl).1 (H.get 1 rfl).1 (by first | assumption | omega) (by first | assumption | omega) (by first | assumption | omega)) ?_
   rintro v148 w146 r148 x147
   replace H := H.xW x147 r148
   obtain ⟨a149, c150, rfl, hc151, hm152⟩ := H.vN 0 rfl
   refine ⟨H.pick [1, 2, 3, 4, 6] [1, 2, 3, 4, 5, 6, 7, 8, 9, 10, 11, 12, 13, 14, 15, 16, 17, 18, 19], (tI 21 rfl rfl rfl (H.pick [1, 2, 3, 4, 6] [1, 2, 3, 4, 5, 6, 7, 8, 9, 10, 11, 12, 13, 14, 15, 16, 17, 18, 19]) ?_)⟩
   refine ro 22 rfl ?_
   obtain ⟨G154, N, hn155, H⟩ := H.vG 0 rfl N (H.yT [11, 3])
   refine jb true H 5 rfl 4 rfl (.slice a149 ((vk (out_Bags[((((s.qg[i]!).qI)[k]!).qp).toNat]!) ((((s.qg[i]!).qI)[k]!).vS) (counts[i]!)).length) c150) 0 rfl rfl Tryz.sizeOf22 rfl rfl (i := (((((s.qg[i]!).qI)[k]!).qp).toNat)) (by omega) (by omega) (by simp) fun w153 xs156 F157 hs158 H => ?_
   replace N : Fresh w.heap.size [F157, jE] := (N.pick [2, 0, 1]).repl hs158
   refine ⟨H.pick [1, 2, 3, 4, 6] [3, 4, 5, 6, 7, 8, 9, 10, 11, 12, 13, 14, 15, 16, 17, 18, 19, 20, 21], (xy (by kernel_rfl) (b_n (t_n (xH (sp (.int .i64 k) (sw (xX k 1 rfl rfl (by omega) (sp (.int .i64 (k + 1)) (xG ?_)))))))))⟩
   obtain ⟨bg159, e_bg159⟩ : ∃ z, z = (out_Bags.set (((((s.qg[i]!).qI)[k]!).qp).toNat) (vk (out_Bags[((((s.qg[i]!).qI)[k]!).qp).toNat]!) ((((s.qg[i]!).qI)[k]!).vS) (counts[i]!))) := ⟨_, rfl⟩
   rw [← e_bg159] at H
   have E_bg159 := Ent.addL (D := 1000000) E_out_Bags e_bg159 (by omega) (by omega) (by first | exact bn2.mul (by omega) | exact bn3.mul (by omega) | exact bn4.mul (by omega)) (by omega)
   have z_bg159 : bg159.length = s.qf.length := by rw [e_bg159, List.length_set]; omega
   have E_cur := E_bg159
   refine qR (m' := ((((s.qg[i]!).qI).length) - ((k + 1) : Int)).toNat) (by omega) ⟨_, k + 1, bg159, xs156, F157, uE8, ?_, ?_, ?_, rfl, (N.pick [1, 0]), H.pick [1, 2, 3, 4, 5, 6] [0, 6, 7, 8, 9, 10, 11, 12, 13, 14, 15, 16, 17, 18, 19, 20, 21]⟩
   · omega
   · exact E_cur.to (fun p q => by simp only [intoF]; omega) (by omega)
   · omega
  refine c_exit (t_x (t_x (b_x (b_n (t_n (xH (sp (.int .i64 i) (sw (xX i 1 rfl rfl (by omega) (sp (.int .i64 (i + 1)) (xG (qR (m' := (counts.length - ((i + 1) : Int)).toNat) (by omega) ⟨_, i + 1, vg, zZ, ve, out_Around, out_Bags, zi, xF, uE6, ?_, ?_, ?_, rfl, N, H.pick [0, 1, 2, 3, 4, 5] [8, 0, 9, 10, 11, 12, 13, 14, 15, 16]⟩))))))))))))
  · omega
  · first | exact E_rest.to (fun p q => by simp only [putS_skip (s := s) (t := t) (counts := counts) (i := i) ‹_›]) (by omega) | exact E_out_Bags.to (fun p q => by rw [show k = ((s.qg[i]!).qI).length by omega]; simp only [putS, putF]; omega) (by omega)
  · omega
 refine zx4 (zcc (sps [pp bs os, pp bs os] (oF rfl (oL rfl (H.xB 2 rfl 1 rfl) (oN rfl (sw (o_sub s.qf.length 1 rfl rfl (by omega) (sp (.int .i64 (s.qf.length - 1)) (zjn (qM ?_))))))))))
 obtain rfl : i = s.qg.length := by omega
 have hl := stepped_live (counts := counts) p1 (E_rest.to (g := fun p k => base0 s t p k + allS s t counts s.qg.length p k) (fun p k => by rw [allS_eq]; omega) (Int.le_refl _)) (by omega)
 obtain ⟨s1, s2⟩ := step_tab2 (by omega) E_rest
 subst s1 s2
 refine xQ (fun m' ρ w160 => ∃ (junk : Env) (c : Int) (out_Alive : List Bool) (out_Bags : List (List Int)) (zi : List Value) (xF : List Nat) (j : Nat), ρ = upd (upd (upd (upd (upd junk 0 (pp bs os)) 2 (.slice acounts counts.length ccounts)) 6 (pp b1 0)) 10 (pp b19 0)) 16 (.int .i64 c) ∧ out_Alive = (qX s counts (stepped s t counts) j).qh ∧ out_Bags = (qX s counts (stepped s t counts) j).ql ∧ (c = (s.qf.length : Int) - 1 - j) ∧ (j + 1 ≤ s.qf.length) ∧ m' = (c : Int).toNat ∧ Fresh w.heap.size [jE, xF] ∧ St w w160 [.box b19 [.slice jY t.qh.length jX, .slice ra3a ((yz s t counts (Qh (BadAt s t counts) counts.length)).length) rc3a, .slice vg zZ ve] 38, rr jY t.qh.length jX 4 1 (out_Alive.map (Value.bool)), rr ra11Bags t.ql.length rc11Bags 22 1 VI, rr vg zZ ve 2 1 (((stepped s t counts).qj).map (Value.int .i64)), rr ra3a ((yz s t counts (Qh (BadAt s t counts) counts.length)).length) rc3a 22 1 zi, .box b1 [.slice none 0 0, .slice none 0 0, .slice none 0 0] 38] [xN true jE VI t.ql, xN true xF zi out_Bags, atF bs os [.int .i64 s.qJ, .slice qo s.qf.length qm, .slice qC s.qg.length qA], sF false qP qo qm s.qf, sF false xu qC qA s.qg, sF false Fcounts acounts ccounts counts]) (((s.qf.length - 1) : Int).toNat) ⟨_, s.qf.length - 1, t.qh, (stepped s t counts).ql, x_rest, F_rest, 0, uE5, (by rfl), (by rfl), (by omega), (by omega), rfl, N, H.pick [0, 1, 2, 3, 4, 5] [0, 1, 2, 3, 4, 9]⟩ ?_
 clear H N
 rintro m' ρ w161 ⟨junk, c, out_Alive, out_Bags, zi, xF, j, rfl, rfl, rfl, ic, jc, rfl, N, H⟩
 have hn_out_Alive := H.rowNB 1 rfl
 have VT := H.xP (α := List Int) 4 rfl 1 rfl (by decide)
 have L := meltDown_live (counts := counts) p0 hl j (by omega)
 have L1 := L.alive
 have L2 := L.root
 have L3 := L.bags.1
 rw [← yV s counts (stepped s t counts) j] at H
 refine zcc (sps [.int .i64 c, .bool (decide ((c : Int) > 0))] (zjn (cD rfl (fun h162 => ?_) (fun h162 => ?_))))
 ·skip
  have cin : CellIn s c := ⟨by omega, by omega⟩
  refine qK (t_n (xC (qM (zcr (sp (.bool false) (zjcc (sp (.int .i64 0) (zjn (qM ?_)))))))))
  refine xQ (fun m' ρ w163 => ∃ (junk : Env) (melts : Bool) (i_1 : Nat), ρ = upd (upd (upd (upd (upd (upd (upd junk 0 (pp bs os)) 2 (.slice acounts counts.length ccounts)) 6 (pp b1 0)) 10 (pp b19 0)) 16 (.int .i64 c)) 17 (.bool melts)) 18 (.int .i64 i_1) ∧ melts = dec (QE s counts c i_1) ∧ ((i_1 : Int) ≤ counts.length) ∧ m' = (counts.length - (i_1 : Int)).toNat ∧ Fresh w.heap.size [jE, xF] ∧ St w w163 [.box b19 [.slice jY t.qh.length jX, .slice ra3a ((yz s t counts (Qh (BadAt s t counts) counts.length)).length) rc3a, .slice vg zZ ve] 38, rr jY t.qh.length jX 4 1 (((qX s counts (stepped s t counts) j).qh).map (Value.bool)), rr ra11Bags t.ql.length rc11Bags 22 1 VI, rr vg zZ ve 2 1 (((qX s counts (stepped s t counts) j).qj).map (Value.int .i64)), rr ra3a ((yz s t counts (Qh (BadAt s t counts) counts.length)).length) rc3a 22 1 zi, .box b1 [.slice none 0 0, .slice none 0 0, .slice none 0 0] 38] [xN true jE VI t.ql, xN true xF zi ((qX s counts (stepped s t counts) j).ql), atF bs os [.int .i64 s.qJ, .slice qo s.qf.length qm, .slice qC s.qg.length qA], sF false qP qo qm s.qf, sF false xu qC qA s.qg, sF false Fcounts acounts ccounts counts]) ((counts.length - (0 : Int)).toNat) ⟨_, false, 0, uE7, (by exact (qY (melts_zero _ _ _)).symm), (by omega), rfl, N, H⟩ ?_
  clear H N
  rintro m' ρ w164 ⟨junk, melts, i_1, rfl, rfl, i0, rfl, N, H⟩
  refine zcc (sps [.int .i64 i_1, .slice acounts counts.length ccounts] (oN rfl (sp (.bool (decide ((i_1 : Int) < counts.length))) (zjn (cD rfl (fun h165 => ?_) (fun h165 => ?_))))))
  ·skip
   refine qK (t_n (xC (qM (xH (sps [.bool (dec (QE s counts c i_1)), .bool (dec (QE s counts c i_1))] ?_)))))
   cases h166 : ((dec (QE s counts c i_1)))
   ·skip
    refine qH 172 rfl rfl (sp (.slice acounts counts.length ccounts) (qH 172 rfl rfl (sp (.int .i64 i_1) (qH 172 rfl rfl ?_))))
    obtain ⟨b167, o168, rfl⟩ := H.addr 5 rfl (by omega)
    refine oI rfl rfl (qH 172 rfl rfl (oL rfl (H.jd 5 rfl i_1 (by omega) (by omega)) (qH 172 rfl rfl (sp (.bool (decide ((counts[i_1]! : Int) > 0))) (qH 172 rfl rfl (sp (.bool (decide ((counts[i_1]! : Int) > 0))) ?_))))))
    cases h170 : (decide ((counts[i_1]! : Int) > 0))
    ·skip
     replace h170 := of_decide_eq_false h170
     refine xJ [179, 180, 181, 182, 183, 184, 185, 186] (qH 172 rfl rfl (sp (.bool false) (qH 172 rfl rfl (sp (.bool false) (xJ [189, 190, 191, 192, 193, 194, 195, 196, 197, 198] (qH 172 rfl rfl (sps [.bool false, .bool false, .bool false] (xG (b_n (t_n (xH (sp (.int .i64 i_1) (sw (xX i_1 1 rfl rfl (by omega) (sp (.int .i64 (i_1 + 1)) (xG (qR (m' := (counts.length - ((i_1 + 1) : Int)).toNat) (by omega) ⟨_, false, i_1 + 1, uE7, ?_, ?_, rfl, N, H⟩)))))))))))))))))
     · first | exact melts_1 ‹_› | exact melts_2 ‹_› (by omega) | exact melts_3 ‹_› ‹_› | exact melts_4 ‹_› (by omega) ‹_›
     · omega
    replace h170 := of_decide_eq_true h170
    refine qH 178 rfl rfl (sp (pp bs os) (qH 178 rfl rfl (sp (pp bs os) (qH 178 rfl rfl (oF rfl (qH 178 rfl rfl (oL rfl (H.xB 2 rfl 2 rfl) (qH 178 rfl rfl (sp (.int .i64 i_1) (qH 178 rfl rfl ?_))))))))))
    obtain ⟨b171, o172, rfl⟩ := H.addr 4 rfl (by omega)
    obtain ⟨ae174Need, ce174Need, Fe174Need, ae174Have, ce174Have, Fe174Have, ae174Lack, ce174Lack, Fe174Lack, ae174Here, ce174Here, Fe174Here, ae174Out, ce174Out, Fe174Out, ae174Into, ce174Into, Fe174Into, H⟩ := H.jy 4 rfl i_1 i_1 (by omega) (by omega) (by omega)
    refine oI rfl rfl (qH 178 rfl rfl (oF rfl (qH 178 rfl rfl (oL rfl (H.xB 6 rfl 8 rfl) (qH 172 rfl rfl (sp (.bool ((s.qg[i_1]!).xO)) (qH 172 rfl rfl (sp (.bool ((s.qg[i_1]!).xO)) ?_))))))))
    cases h175 : ((s.qg[i_1]!).xO)
    ·skip
     rw [h175] at H
     refine xJ [189, 190, 191, 192, 193, 194, 195, 196, 197, 198] (qH 172 rfl rfl (sps [.bool false, .bool false, .bool false] (xG (b_n (t_n (xH (sp (.int .i64 i_1) (sw (xX i_1 1 rfl rfl (by omega) (sp (.int .i64 (i_1 + 1)) (xG (qR (m' := (counts.length - ((i_1 + 1) : Int)).toNat) (by omega) ⟨_, false, i_1 + 1, uE7, ?_, ?_, rfl, N, H.pick [0, 1, 2, 3, 4, 5] [7, 8, 9, 10, 11, 12]⟩))))))))))))
     · first | exact melts_1 ‹_› | exact melts_2 ‹_› (by omega) | exact melts_3 ‹_› ‹_› | exact melts_4 ‹_› (by omega) ‹_›
     · omega
    rw [h175] at H
    refine qH 188 rfl rfl (sp (pp bs os) (qH 188 rfl rfl (sp (pp bs os) (qH 188 rfl rfl (oF rfl (qH 188 rfl rfl (oL rfl (H.xB 9 rfl 2 rfl) (qH 188 rfl rfl (sp (.int .i64 i_1) (qH 188 rfl rfl (oI rfl rfl (qH 188 rfl rfl (oF rfl (qH 188 rfl rfl (oL rfl (H.xB 6 rfl 0 rfl) (qH 188 rfl rfl (sp (.int .i64 c) (qH 188 rfl rfl (sp (.bool (((s.qg[i_1]!).qp : Int) == c)) (qH 172 rfl rfl (sps [.bool (((s.qg[i_1]!).qp : Int) == c), .bool (((s.qg[i_1]!).qp : Int) == c), .bool (((s.qg[i_1]!).qp : Int) == c)] (xG (b_n (t_n (xH (sp (.int .i64 i_1) ?_))))))))))))))))))))))))))
    refine sw (xX i_1 1 rfl rfl (by omega) (sp (.int .i64 (i_1 + 1)) (xG (qR (m' := (counts.length - ((i_1 + 1) : Int)).toNat) (by omega) ⟨_, ((s.qg[i_1]!).qp : Int) == c, i_1 + 1, uE7, ?_, ?_, rfl, N, H.pick [0, 1, 2, 3, 4, 5] [7, 8, 9, 10, 11, 12]⟩))))
    · first | exact melts_1 ‹_› | exact melts_2 ‹_› (by omega) | exact melts_3 ‹_› ‹_› | exact melts_4 ‹_› (by omega) ‹_›
    · omega
   refine xJ [173, 174, 175, 176, 177, 178, 179, 180, 181, 182, 183, 184, 185, 186, 187, 188, 189, 190, 191, 192, 193, 194, 195, 196, 197, 198, 199] (sps [.bool true, .bool true] (xG (b_n (t_n (xH (sp (.int .i64 i_1) (sw (xX i_1 1 rfl rfl (by omega) (sp (.int .i64 (i_1 + 1)) (xG (qR (m' := (counts.length - ((i_1 + 1) : Int)).toNat) (by omega) ⟨_, true, i_1 + 1, uE7, ?_, ?_, rfl, N, H⟩)))))))))))
   · first | exact melts_1 ‹_› | exact melts_2 ‹_› (by omega) | exact melts_3 ‹_› ‹_› | exact melts_4 ‹_› (by omega) ‹_›
   · omega
  refine zx4 (zcr (sp (.bool (dec (QE s counts c i_1))) (zjn (xn ((dec (QE s counts c i_1))) rfl (fun h176 => ?_) (fun h176 => ?_)))))
  ·skip
   refine xH (sps [pp bs os, .int .i64 c] (sw (zS #[pp bs os, pp b19 0, .int .i64 c] rfl rfl Tryz.call183 (en Tryz.func183 Tryz.ntmps183 ?_))))
   refine zcr (sps [pp bs os, pp b19 0, .int .i64 c] ?_)
   obtain ⟨G177, hn178, h179⟩ := H.rowIsB 1 rfl
   obtain ⟨G180, hn181, h182⟩ := H.rowIsR (α := List Int) 4 rfl 1 rfl (by decide)
   obtain ⟨G183, hn184, h185⟩ := H.rowIsI 3 rfl
   refine sw (oq (l02Parent_ok _ s (qX s counts (stepped s t counts) j) c (qw (H.get 2 rfl) 0 3) (H.get 3 rfl).1 (H.get 4 rfl).1 (by have hz := (qw (H.cells 0 rfl) 0 3); rw [hn178, hn181, hn184] at hz; exact hz) (hn178 ▸ h179) (hn181 ▸ h182) (hn184 ▸ h185) (by assumption) (by assumption) (by assumption)) H fun w186 H => ?_)
   have pin := VZ (s := s) (t := (qX s counts (stepped s t counts) j)) (c := c) p0.1 L2 (by omega) (by omega)
   refine sp (.int .i64 (xe s (qX s counts (stepped s t counts) j) c)) (zjn (xC ?_))
   obtain ⟨b188, rfl⟩ := H.Qn 4 rfl (by omega)
   refine c_cut (fun ρ w191 => ∃ (junk : Env) (xs189 : List Value) (F190 : List Nat), ρ = upd (upd (upd junk 0 (pp bs os)) 1 (pp b19 0)) 2 (.int .i64 c) ∧ Fresh w.heap.size [F190, jE] ∧ St w w191 [.box b19 [.slice jY t.qh.length jX, .slice (aa b188 0) ((yz s t counts (Qh (BadAt s t counts) counts.length)).length) rc3a, .slice vg zZ ve] 38, rr jY t.qh.length jX 4 1 (((qX s counts (stepped s t counts) j).qh).map (Value.bool)), rr ra11Bags t.ql.length rc11Bags 22 1 VI, rr vg zZ ve 2 1 (((qX s counts (stepped s t counts) j).qj).map (Value.int .i64)), rr (aa b188 0) ((yz s t counts (Qh (BadAt s t counts) counts.length)).length) rc3a 22 1 xs189, .box b1 [.slice none 0 0, .slice none 0 0, .slice none 0 0] 38] [xN true F190 xs189 (((qX s counts (stepped s t counts) j).ql).set ((xe s (qX s counts (stepped s t counts) j) c).toNat) (vk (((qX s counts (stepped s t counts) j).ql)[(xe s (qX s counts (stepped s t counts) j) c).toNat]!) (((qX s counts (stepped s t counts) j).ql)[c.toNat]!) 1)), xN true jE VI t.ql, atF bs os [.int .i64 s.qJ, .slice qo s.qf.length qm, .slice qC s.qg.length qA], sF false qP qo qm s.qf, sF false xu qC qA s.qg, sF false Fcounts acounts ccounts counts]) ?_ ?_
   ·skip
    refine yO rfl H [0, 1, 2, 3, 5] fun H => ?_
    have S := H.jZ [0, 1, 2, 3, 5] [0, 1, 2, 3, 4, 5]
    refine rtp 0 (pp b19 0) S ?_
    refine rtp 1 (pp b19 0) S ?_
    refine tF 2 rfl rfl S ?_
    refine tL 3 rfl rfl (fun _ h => h.cell 0 rfl rfl) S ?_
    refine rtp 4 (.int .i64 (xe s (qX s counts (stepped s t counts) j) c)) S ?_
    refine rtp 5 (pp b19 0) S ?_
    refine rtp 6 (pp b19 0) S ?_
    refine tF 7 rfl rfl S ?_
    refine tL 8 rfl rfl (fun _ h => h.cell 0 rfl rfl) S ?_
    refine rtp 9 (.int .i64 (xe s (qX s counts (stepped s t counts) j) c)) S ?_
    refine tI 10 rfl rfl rfl S ?_
    refine rtp 12 (pp b19 0) S ?_
    refine rtp 13 (pp b19 0) S ?_
    refine tF 14 rfl rfl S ?_
    refine tL 15 rfl rfl (fun _ h => h.cell 0 rfl rfl) S ?_
    refine rtp 16 (.int .i64 c) S ?_
    refine tI 17 rfl rfl rfl S ?_
    refine vT [11, 18] (by kernel_rfl) (by simp) (yx rfl ?_ (yx rfl ?_ vU))
    ·skip
     obtain ⟨a193, c194, G195, s196, h197, H⟩ := H.jo 4 rfl 1 rfl (iv := xe s (qX s counts (stepped s t counts) j) c) ((xe s (qX s counts (stepped s t counts) j) c).toNat) (by omega) (by omega)
     refine zl (.slice a193 ((((qX s counts (stepped s t counts) j).ql)[(xe s (qX s counts (stepped s t counts) j) c).toNat]!).length) c194) Tryz.isAgg22 rfl (h197) (⟨H.pick [0, 1, 2, 3, 5] [1, 2, 3, 4, 5, 6], (ro 18 rfl ?_)⟩)
     obtain ⟨a198, c199, G200, s201, h202, H⟩ := H.jo 4 rfl 2 rfl (iv := c) c.toNat (by omega) (by omega)
     refine zl (.slice a198 ((((qX s counts (stepped s t counts) j).ql)[c.toNat]!).length) c199) Tryz.isAgg22 rfl (h202) (⟨H.pick [0, 1, 2, 3, 5] [2, 3, 4, 5, 6, 7], (ro 19 rfl ?_)⟩)
     obtain ⟨u1, u2, u4⟩ := L.rows p0 (bnd_le (by omega)) (p := (xe s (qX s counts (stepped s t counts) j) c).toNat) (c := c.toNat) (by omega) (by omega)
     have sz203 := H.base.size
     have lt204 := H.ltN (L := [jE, xF]) [2, 3]
     refine oc (Xo _ (((qX s counts (stepped s t counts) j).ql)[(xe s (qX s counts (stepped s t counts) j) c).toNat]!) (((qX s counts (stepped s t counts) j).ql)[c.toNat]!) 1 (H.get 1 rfl).1 (H.get 0 rfl).1 (by first | assumption | omega) (by first | assumption | omega) (by first | assumption | omega)) ?_
     rintro v208 w206 r208 x207
     replace H := H.xW x207 r208
     obtain ⟨a209, c210, rfl, hc211, hm212⟩ := H.vN 0 rfl
     refine ⟨H.pick [1, 2, 3, 4, 6] [2, 3, 4, 5, 6, 7], (tI 20 rfl rfl rfl (H.pick [1, 2, 3, 4, 6] [2, 3, 4, 5, 6, 7]) ?_)⟩
     refine ro 21 rfl ?_
     obtain ⟨G214, N, hn215, H⟩ := H.vG 0 rfl N (H.yT [2, 3])
     refine jb true H 5 rfl 4 rfl (.slice a209 ((vk (((qX s counts (stepped s t counts) j).ql)[(xe s (qX s counts (stepped s t counts) j) c).toNat]!) (((qX s counts (stepped s t counts) j).ql)[c.toNat]!) 1).length) c210) 0 rfl rfl Tryz.sizeOf22 rfl rfl (i := ((xe s (qX s counts (stepped s t counts) j) c).toNat)) (by omega) (by omega) (by simp) fun w213 xs216 F217 hs218 H => ?_
     replace N : Fresh w.heap.size [F217, jE] := (N.pick [2, 0, 1]).repl hs218
     refine ⟨H.pick [1, 2, 3, 4, 6] [4, 5, 6, 7, 8, 9], (xy (by kernel_rfl) ((meet ⟨_, xs216, F217, uE3, N, H.pick [1, 2, 3, 4, 5, 6] [0, 4, 6, 7, 8, 9]⟩)))⟩
    obtain ⟨a219, c220, G221, s222, h223, H⟩ := H.jo 4 rfl 1 rfl (iv := c) c.toNat (by omega) (by omega)
    refine zl (.slice a219 ((((qX s counts (stepped s t counts) j).ql)[c.toNat]!).length) c220) Tryz.isAgg22 rfl (h223) (⟨H.pick [0, 1, 2, 3, 5] [1, 2, 3, 4, 5, 6], (ro 11 rfl ?_)⟩)
    obtain ⟨a224, c225, G226, s227, h228, H⟩ := H.jo 4 rfl 2 rfl (iv := xe s (qX s counts (stepped s t counts) j) c) ((xe s (qX s counts (stepped s t counts) j) c).toNat) (by omega) (by omega)
    refine zl (.slice a224 ((((qX s counts (stepped s t counts) j).ql)[(xe s (qX s counts (stepped s t counts) j) c).toNat]!).length) c225) Tryz.isAgg22 rfl (h228) (⟨H.pick [0, 1, 2, 3, 5] [2, 3, 4, 5, 6, 7], (ro 19 rfl ?_)⟩)
    obtain ⟨u1, u2, u4⟩ := L.rows p0 (bnd_le (by omega)) (p := (xe s (qX s counts (stepped s t counts) j) c).toNat) (c := c.toNat) (by omega) (by omega)
    have sz229 := H.base.size
    have lt230 := H.ltN (L := [jE, xF]) [2, 3]
    refine oc (Xo _ (((qX s counts (stepped s t counts) j).ql)[(xe s (qX s counts (stepped s t counts) j) c).toNat]!) (((qX s counts (stepped s t counts) j).ql)[c.toNat]!) 1 (H.get 0 rfl).1 (H.get 1 rfl).1 (by first | assumption | omega) (by first | assumption | omega) (by first | assumption | omega)) ?_
    rintro v234 w232 r234 x233
    replace H := H.xW x233 r234
    obtain ⟨a235, c236, rfl, hc237, hm238⟩ := H.vN 0 rfl
    refine ⟨H.pick [1, 2, 3, 4, 6] [2, 3, 4, 5, 6, 7], (tI 20 rfl rfl rfl (H.pick [1, 2, 3, 4, 6] [2, 3, 4, 5, 6, 7]) ?_)⟩
    refine ro 21 rfl ?_
    obtain ⟨G240, N, hn241, H⟩ := H.vG 0 rfl N (H.yT [2, 3])
    refine jb true H 5 rfl 4 rfl (.slice a235 ((vk (((qX s counts (stepped s t counts) j).ql)[(xe s (qX s counts (stepped s t counts) j) c).toNat]!) (((qX s counts (stepped s t counts) j).ql)[c.toNat]!) 1).length) c236) 0 rfl rfl Tryz.sizeOf22 rfl rfl (i := ((xe s (qX s counts (stepped s t counts) j) c).toNat)) (by omega) (by omega) (by simp) fun w239 xs242 F243 hs244 H => ?_
    replace N : Fresh w.heap.size [F243, jE] := (N.pick [2, 0, 1]).repl hs244
    refine ⟨H.pick [1, 2, 3, 4, 6] [4, 5, 6, 7, 8, 9], (xy (by kernel_rfl) ((meet ⟨_, xs242, F243, uE3, N, H.pick [1, 2, 3, 4, 5, 6] [0, 4, 6, 7, 8, 9]⟩)))⟩
   clear H N
   rintro ρ w245 ⟨junk, xs189, F190, rfl, N, H⟩
   refine t_n (xC ?_)
   refine yO rfl H [0, 1, 2, 3, 5] fun H => ?_
   have S := H.jZ [0, 1, 2, 3, 5] [0, 1, 2, 3, 4, 5]
   refine rtp 0 (pp b19 0) S ?_
   refine rtp 1 (pp b19 0) S ?_
   refine tF 2 rfl rfl S ?_
   refine tL 3 rfl rfl (fun _ h => h.cell 0 rfl rfl) S ?_
   refine rtp 4 (.int .i64 c) S ?_
   refine rtp 5 (pp bs os) S ?_
   refine rtp 6 (pp bs os) S ?_
   refine tF 7 rfl rfl S ?_
   refine tL 8 rfl rfl (fun _ h => h.xB 2 rfl 0 rfl) S ?_
   refine ro 9 rfl (Xa H Tryz.underlying22 ti2 s.qJ.toNat rfl rfl (by omega) (by omega) (by omega) fun b247 w248 H => ⟨H.pick [1, 2, 3, 4, 6] [0, 1, 2, 3, 4, 5], (tI 10 rfl rfl rfl (H.pick [1, 2, 3, 4, 6] [0, 1, 2, 3, 4, 5]) ?_)⟩)
   refine ro 11 rfl ?_
   obtain ⟨G250, N, hn251, H⟩ := H.vG 0 rfl N (H.yT [0, 1])
   refine jb true H 5 rfl 1 rfl (.slice (aa b247 0) s.qJ.toNat s.qJ.toNat) 0 rfl rfl Tryz.sizeOf22 rfl rfl (i := c.toNat) (by omega) (by omega) (by simp) fun w249 xs252 F253 hs254 H => ?_
   replace N : Fresh w.heap.size [F253, jE] := (N.pick [1, 0, 2]).repl hs254
   refine ⟨H.pick [1, 2, 3, 4, 6] [2, 3, 4, 5, 6, 7], (xy (by kernel_rfl) (t_n (xH (sps [pp b19 0, pp b19 0] (oF rfl (oL rfl (H.cell 1 rfl rfl) (sp (.int .i64 c) ?_)))))))⟩
   obtain ⟨b255, rfl⟩ := H.Qn 2 rfl (by omega)
   refine oI rfl rfl (sw (Qw H 2 rfl false Tryz.sizeOf4 rfl rfl (i := c.toNat) (by omega) (by omega) fun w256 H => xG (ret0 rfl ⟨_, rfl, ?_⟩)))
   replace H := H.erases [0]
   dsimp only [jf, List.eraseIdx] at H
   refine xG (b_n (t_n (xH (sp (.int .i64 c) (sw (o_sub c 1 rfl rfl (by omega) (sp (.int .i64 (c - 1)) (xG ?_))))))))
   rw [yV] at H
   refine qR (m' := ((c - 1) : Int).toNat) (by omega) ⟨_, c - 1, (((qX s counts (stepped s t counts) j).qh).set c.toNat false), ((((qX s counts (stepped s t counts) j).ql).set ((xe s (qX s counts (stepped s t counts) j) c).toNat) (vk (((qX s counts (stepped s t counts) j).ql)[(xe s (qX s counts (stepped s t counts) j) c).toNat]!) (((qX s counts (stepped s t counts) j).ql)[c.toNat]!) 1)).set c.toNat (List.replicate s.qJ.toNat (0 : Int))), xs252, F253, j + 1, uE5, ?_, ?_, ?_, ?_, rfl, (N.pick [1, 0]), H.pick [0, 1, 2, 3, 4, 5] [3, 0, 4, 5, 6, 7]⟩
   · first | (rw [Qp (c := c) (i := i_1) ‹_› (by omega) ic]; done) | (rw [Qp (c := c) (i := i_1) ‹_› (by omega) ic]; rfl) | rw [meltDown_no' (c := c) (i := i_1) ‹_› (by omega) ic]
   · first | (rw [Qp (c := c) (i := i_1) ‹_› (by omega) ic]; done) | (rw [Qp (c := c) (i := i_1) ‹_› (by omega) ic]; rfl) | rw [meltDown_no' (c := c) (i := i_1) ‹_› (by omega) ic]
   · omega
   · omega
  refine qK (b_n (t_n (xH (sp (.int .i64 c) (sw (o_sub c 1 rfl rfl (by omega) (sp (.int .i64 (c - 1)) (xG ?_))))))))
  rw [yV] at H
  refine qR (m' := ((c - 1) : Int).toNat) (by omega) ⟨_, c - 1, ((qX s counts (stepped s t counts) j).qh), ((qX s counts (stepped s t counts) j).ql), zi, xF, j + 1, uE5, ?_, ?_, ?_, ?_, rfl, N, H⟩
  · first | (rw [Qp (c := c) (i := i_1) ‹_› (by omega) ic]; done) | (rw [Qp (c := c) (i := i_1) ‹_› (by omega) ic]; rfl) | rw [meltDown_no' (c := c) (i := i_1) ‹_› (by omega) ic]
  · first | (rw [Qp (c := c) (i := i_1) ‹_› (by omega) ic]; done) | (rw [Qp (c := c) (i := i_1) ‹_› (by omega) ic]; rfl) | rw [meltDown_no' (c := c) (i := i_1) ‹_› (by omega) ic]
  · omega
  · omega
 refine zx4 (zcr (sp (pp bs os) (sw (zS #[pp bs os, pp b19 0] rfl rfl Tryz.call184 (en Tryz.func184 Tryz.ntmps184 ?_)))))
 refine zcr (sw (xM H ti38 [.slice none 0 0, .slice none 0 0, .slice none 0 0] fun b257 w258 H => sp (.int .i64 0) (zjcc (sps [pp bs os, pp b19 0] ?_))))
 obtain ⟨G259, hn260, h261⟩ := H.rowIsB 2 rfl
 obtain ⟨G262, hn263, h264⟩ := H.rowIsR (α := List Int) 5 rfl 1 rfl (by decide)
 obtain ⟨G265, hn266, h267⟩ := H.rowIsI 4 rfl
 refine sw (oq (l02State_ok _ s (qX s counts (stepped s t counts) j) (qw (H.get 2 rfl) 0 3) (H.get 3 rfl).1 (H.get 4 rfl).1 (by have hz := (qw (H.cells 1 rfl) 0 3); rw [hn260, hn263, hn266] at hz; exact hz) (hn260 ▸ h261) (hn263 ▸ h264) (hn266 ▸ h267) (by first | assumption | exact (And.left (by assumption : jG _)))) H fun w268 H => sp (.bool (!(dec (zt s (qX s counts (stepped s t counts) j))))) (zjn (cQ rfl (fun h270 => ?_) (fun h270 => ?_))))
 ·skip
  refine zcr (sw (jD [.slice none 0 0, .slice none 0 0, .slice none 0 0] [] (sw (zF H 0 [.slice none 0 0, .slice none 0 0, .slice none 0 0] Tryz.sizeOf38 fun w271 H => sp (.int .i64 3) (zjr (t_r (retC2 H 0 rfl (.int .i64 3) rfl Tryz.isAgg38 Tryz.sizeOf38 rfl rfl ⟨_, rfl, ?_⟩)))))))
  replace H := H.erases [0]
  dsimp only [jf, List.eraseIdx] at H
  refine sps [.agg #[.slice none 0 0, .slice none 0 0, .slice none 0 0], .int .i64 3] (sw (zF H 5 [.slice none 0 0, .slice none 0 0, .slice none 0 0] Tryz.sizeOf38 fun w272 H => sp (.int .i64 3) (zjr ?_)))
  replace H := H.nilRowB 4
  replace H := H.nilRow 22 1
  replace H := H.vw (α := List Int)
  replace H := H.nilRowI 2
  refine retC2 H 8 rfl (.int .i64 3) rfl Tryz.isAgg38 Tryz.sizeOf38 rfl rfl ⟨_, rfl, ?_, H.base⟩
  rw [stepBy_yes ‹_›, stepRes, show vJ s - 1 = j by omega, told_no ‹_›]
  exact ⟨none, 0, 0, none, 0, 0, [], [], none, 0, 0, rfl, (N.emp.pick [0]), H.pick [2, 1, 0] [0]⟩
 refine qK (t_n (zcr (sps [pp b19 0, pp b19 0] (sw (xU [.slice jY t.qh.length jX, .slice ra3a ((yz s t counts (Qh (BadAt s t counts) counts.length)).length) rc3a, .slice vg zZ ve] Tryz.isAgg38 Tryz.sizeOf38 rfl (qw (H.cells 1 rfl) 0 3) (sw (zF H 0 [.slice jY t.qh.length jX, .slice ra3a ((yz s t counts (Qh (BadAt s t counts) counts.length)).length) rc3a, .slice vg zZ ve] Tryz.sizeOf38 fun w273 H => sp (.int .i64 0) (zjr ?_))))))))
 refine retC2 H 0 rfl (.int .i64 0) rfl Tryz.isAgg38 Tryz.sizeOf38 rfl rfl ⟨_, rfl, ?_⟩
 replace H := H.erases [0]
 dsimp only [jf, List.eraseIdx] at H
 refine sps [.agg #[.slice jY t.qh.length jX, .slice ra3a ((yz s t counts (Qh (BadAt s t counts) counts.length)).length) rc3a, .slice vg zZ ve], .int .i64 0] (sw (zF H 5 [.slice jY t.qh.length jX, .slice ra3a ((yz s t counts (Qh (BadAt s t counts) counts.length)).length) rc3a, .slice vg zZ ve] Tryz.sizeOf38 fun w274 H => sp (.int .i64 0) (zjr (retC2 H 5 rfl (.int .i64 0) rfl Tryz.isAgg38 Tryz.sizeOf38 rfl rfl ⟨_, rfl, ?_, H.base⟩))))
 rw [stepBy_yes ‹_›, stepRes, show vJ s - 1 = j by omega, told_yes ‹_›]
 exact ⟨jY, t.qh.length, jX, ra3a, (yz s t counts (Qh (BadAt s t counts) counts.length)).length, rc3a, zi, xF, vg, zZ, ve, rfl, (N.pick [1]), H.pick [1, 4, 3] [1]⟩
theorem isEnabled_ok (w : World) (s : qy) (t : qE) (r : Qr) (qU : qB.rep w qP [.slice qo s.qf.length qm] s.qf) (xx : qB.rep w xu [.slice qC s.qg.length qA] s.qg) (xK : qB.rep w xE [.slice qN t.qh.length qL] t.qh) (zn : qB.rep w zf [.slice xh t.ql.length qZ] t.ql) (xA : qB.rep w xw [.slice qG t.qj.length qF] t.qj) (hrNeed : qB.rep w VD [.slice jO r.qV.length jI] r.qV) (hrHave : qB.rep w VG [.slice jR r.xg.length jL] r.xg) (hrLack : qB.rep w VE [.slice jP r.xm.length jJ] r.xm) (hrHere : qB.rep w VF [.slice jQ r.xq.length jK] r.xq) (hrOut : qB.rep w FrOut [.slice QR r.zq.length QQ] r.zq) (hrInto : qB.rep w FrInto [.slice jv r.qI.length jr] r.qI) (p0 : jG s) (p1 : zt s t) (p2 : RuleOk s r) : Calls Tryz.prog 145 #[.agg #[.int .i64 s.qJ, .slice qo s.qf.length qm, .slice qC s.qg.length qA], .agg #[.slice qN t.qh.length qL, .slice xh t.ql.length qZ, .slice qG t.qj.length qF], .agg #[.int .i64 r.qp, .int .i64 r.zg, .slice jO r.qV.length jI, .slice jR r.xg.length jL, .slice jP r.xm.length jJ, .slice jQ r.xq.length jK, .slice QR r.zq.length QQ, .slice jv r.qI.length jr, .bool r.xO]] w (Ret (fun v w' => v = .bool (dec (EnOk s t r))) w) := by
 refine en Tryz.func145 Tryz.ntmps145 ?_
 have H := (((((((((((St.start w).arg hrInto).arg hrOut).arg hrHere).arg hrLack).arg hrHave).arg hrNeed).arg xA).arg zn).arg xK).arg xx).arg qU
 have zJ := qx qU
 have vW := qx xx
 have yJ := qx xK
 have QD := qx zn
 have jB := qx xA
 have nhrNeed := qx hrNeed
 have nhrHave := qx hrHave
 have nhrLack := qx hrLack
 have nhrHere := qx hrHere
 have nhrOut := qx hrOut
 have nhrInto := qx hrInto
 clear qU xx xK zn xA hrNeed hrHave hrLack hrHere hrOut hrInto
 have N := Fresh.nil w.heap.size
 have p3 := p2.1
 have p4 := p1.1
 have p5 := p1.2.1
 have p6 := (p1.bagLen (k := r.qp.toNat) (by omega)).len
 have p7 := p2.2.2.2.2.1.len
 have p8 := p2.2.2.2.2.2.1.len
 have p9 := p2.2.2.2.2.2.2.1.len
 have p10 := zL p2.2.2.2.2.2.2.1
 have p11 := p0.1
 have p12 := p2.2.2.2.2.2.2.2.2.2.2
 have p13 := kinds_le p0
 refine zcr (sw (zY H [.int .i64 s.qJ, .slice qo s.qf.length qm, .slice qC s.qg.length qA] fun b1 w2 H => sw (zY H [.slice qN t.qh.length qL, .slice xh t.ql.length qZ, .slice qG t.qj.length qF] fun b3 w4 H => sw (zY H [.int .i64 r.qp, .int .i64 r.zg, .slice jO r.qV.length jI, .slice jR r.xg.length jL, .slice jP r.xm.length jJ, .slice jQ r.xq.length jK, .slice QR r.zq.length QQ, .slice jv r.qI.length jr, .bool r.xO] fun b5 w6 H => sp (.bool false) (zjcc (oF rfl ?_))))))
 refine oL rfl (H.cell 1 rfl rfl) (oF rfl (oL rfl (H.cell 0 rfl rfl) ?_))
 obtain ⟨b7, o8, rfl⟩ := H.addr 2 rfl (by omega)
 refine oI rfl rfl (oL rfl (H.Xc 2 rfl r.qp (by omega) (by omega)) (sp (.bool (!(t.qh[r.qp.toNat]!))) (zjn (xn (!(t.qh[r.qp.toNat]!)) rfl (fun h10 => ?_) (fun h10 => ?_)))))
 ·skip
  replace h10 := qW h10
  refine zcr (sp (.bool false) (zjr (t_r (ret1 (.bool false) rfl rfl ⟨_, rfl, ?_, H.base⟩))))
  rw [qY (fun h => by obtain ⟨h1, h2, h3, h4, h5⟩ := h; first | exact ft h1 ‹_› | exact ft h2 ‹_› | exact ft h3 ‹_› | exact h4 ⟨‹_›, ‹_›⟩ | (obtain ⟨q1, q2⟩ := h5 i (by omega); first | exact ft q1 ‹_› | exact absurd q2 ‹_›))]
 replace h10 := qQ h10
 refine qK (t_n (zcr (oF rfl (oL rfl (H.cell 1 rfl rfl) (oF rfl (oL rfl (H.cell 0 rfl rfl) ?_))))))
 obtain ⟨b11, o12, rfl⟩ := H.addr 3 rfl (by omega)
 obtain ⟨ae14, ce14, Fe14, H⟩ := H.zU 3 rfl r.qp r.qp.toNat (by omega) (by omega) (by omega)
 refine oI rfl rfl (oL rfl (H.xB 1 rfl 0 rfl) (sp (.slice ae14 ((t.ql[r.qp.toNat]!).length) ce14) (zjcc (oF rfl (oL rfl (H.cell 0 rfl rfl) (sp (.slice ae14 ((t.ql[r.qp.toNat]!).length) ce14) (sw (oq (isWithin_ok _ r.qV (t.ql[r.qp.toNat]!) (H.get 7 rfl).1 (H.get 0 rfl).1 (by first | assumption | omega) (by first | assumption | omega)) H fun w15 H => sps [.bool (!(within r.qV (t.ql[r.qp.toNat]!))), .bool (!(within r.qV (t.ql[r.qp.toNat]!)))] ?_))))))))
 cases h17 : (!(within r.qV (t.ql[r.qp.toNat]!)))
 ·skip
  replace h17 := qQ h17
  refine qH 26 rfl rfl (oF rfl (qH 26 rfl rfl (oL rfl (H.cell 0 rfl rfl) (qH 26 rfl rfl (sp (.slice ae14 ((t.ql[r.qp.toNat]!).length) ce14) (qH 26 rfl rfl (sw (oq (isWithin_ok _ r.xg (t.ql[r.qp.toNat]!) (H.get 8 rfl).1 (H.get 0 rfl).1 (by first | assumption | omega) (by first | assumption | omega)) H fun w18 H => qH 26 rfl rfl (sps [.bool (!(within r.xg (t.ql[r.qp.toNat]!))), .bool (!(within r.xg (t.ql[r.qp.toNat]!))), .bool (!(within r.xg (t.ql[r.qp.toNat]!)))] ?_)))))))))
  cases h20 : (!(within r.xg (t.ql[r.qp.toNat]!)))
  ·skip
   replace h20 := qQ h20
   refine qH 33 rfl rfl (oF rfl (qH 33 rfl rfl (oL rfl (H.cell 0 rfl rfl) (qH 33 rfl rfl (sw (oq (XW _ r.xm (H.get 9 rfl).1 (by first | assumption | exact zL (by assumption) | exact yD (by assumption))) H fun w21 H => qH 33 rfl rfl (sp (.bool (decide ((X4 r.xm : Int) > 0))) (qH 33 rfl rfl (sp (.bool (decide ((X4 r.xm : Int) > 0))) ?_)))))))))
   cases h23 : (decide ((X4 r.xm : Int) > 0))
   ·skip
    replace h23 := of_decide_eq_false h23
    refine xJ [39, 40, 41, 42] (qH 33 rfl rfl (sps [.bool false, .bool false] (zjn (xn false rfl (fun h => absurd h (by decide)) (fun _ => qK (t_n (zcr (oF rfl (oL rfl (H.cell 0 rfl rfl) (sp (.func (.func 187) #[] #[pp b3 0, pp b1 0, pp b5 0]) (sw (zS #[.slice jv r.qI.length jr, .func (.func 187) #[] #[pp b3 0, pp b1 0, pp b5 0]] rfl rfl Tryz.call186 (en Tryz.func186 Tryz.ntmps186 ?_)))))))))))))
    refine zcr (sp (.bool false) (zjc (sps [.slice jv r.qI.length jr, .func (.func 187) #[] #[pp b3 0, pp b1 0, pp b5 0]] (sw (zS #[.slice jv r.qI.length jr, .func (.func 187) #[] #[pp b3 0, pp b1 0, pp b5 0]] rfl rfl Tryz.call207 (en Tryz.func207 Tryz.ntmps207 ?_))))))
    refine zcr (sp (.int .i64 0) (zjcc (sp (.slice jv r.qI.length jr) (oN rfl (sp (.int .i64 0) (zjn (qM ?_)))))))
    refine xQ (fun m' ρ w24 => ∃ (junk : Env) (i : Nat), ρ = upd (upd (upd (upd junk 0 (.slice jv r.qI.length jr)) 1 (.func (.func 187) #[] #[pp b3 0, pp b1 0, pp b5 0])) 7 (.int .i64 r.qI.length)) 8 (.int .i64 i) ∧ ((i : Int) ≤ r.qI.length) ∧ (IntoUp s t r i) ∧ m' = (r.qI.length - (i : Int)).toNat ∧ Fresh w.heap.size [] ∧ St w w24 [.box b5 [.int .i64 r.qp, .int .i64 r.zg, .slice jO r.qV.length jI, .slice jR r.xg.length jL, .slice jP r.xm.length jJ, .slice jQ r.xq.length jK, .slice QR r.zq.length QQ, .slice jv r.qI.length jr, .bool r.xO] 121, .box b3 [.slice (aa b7 o8) t.qh.length qL, .slice (aa b11 o12) t.ql.length qZ, .slice qG t.qj.length qF] 38, .box b1 [.int .i64 s.qJ, .slice qo s.qf.length qm, .slice qC s.qg.length qA] 36] [sF false Fe14 ae14 ce14 (t.ql[r.qp.toNat]!), atF b11 (o12 + (r.qp : Int).toNat * 1) [.slice ae14 ((t.ql[r.qp.toNat]!).length) ce14], sF false qP qo qm s.qf, sF false xu qC qA s.qg, sF false xE (aa b7 o8) qL t.qh, sF false zf (aa b11 o12) qZ t.ql, sF false xw qG qF t.qj, sF false VD jO jI r.qV, sF false VG jR jL r.xg, sF false VE jP jJ r.xm, sF false VF jQ jK r.xq, sF false FrOut QR QQ r.zq, sF false FrInto jv jr r.qI]) ((r.qI.length - (0 : Int)).toNat) ⟨_, 0, uE4, (by omega), (by exact fun j hj => by omega), rfl, N, H⟩ ?_
    clear H N
    rintro m' ρ w25 ⟨junk, i, rfl, i0, i1, rfl, N, H⟩
    refine zcr (sp (.bool (decide ((i : Int) < r.qI.length))) (zjn (xC (cD rfl (fun h26 => ?_) (fun h26 => ?_)))))
    ·skip
     have q := (p12 i (by omega)).1
     have q1 := q.1
     have q2 := q.2
     refine qK (t_n (xC (qM (zcr (sps [.int .i64 i, .int .i64 i] (zjc (sps [.func (.func 187) #[] #[pp b3 0, pp b1 0, pp b5 0], .slice jv r.qI.length jr, .int .i64 i] ?_)))))))
     obtain ⟨b27, o28, rfl⟩ := H.addr 12 rfl (by omega)
     obtain ⟨ae30Bag, ce30Bag, Fe30Bag, H⟩ := H.jh 12 rfl i i (by omega) (by omega) (by omega)
     refine oI rfl rfl (sw (xU [.int .i64 ((r.qI[i]!).qp), .slice ae30Bag (((r.qI[i]!).vS).length) ce30Bag] Tryz.isAgg164 Tryz.sizeOf164 rfl (qw (H.get 1 rfl) 0 2) (sw (zS #[.agg #[.int .i64 ((r.qI[i]!).qp), .slice ae30Bag (((r.qI[i]!).vS).length) ce30Bag], pp b3 0, pp b1 0, pp b5 0] rfl rfl Tryz.call187 (en Tryz.func187 Tryz.ntmps187 ?_)))))
     refine zcr (sw (zY H [.int .i64 ((r.qI[i]!).qp), .slice ae30Bag (((r.qI[i]!).vS).length) ce30Bag] fun b31 w32 H => sp (.bool false) (zjn (xC ?_))))
     refine vH rfl H fun H => tF 0 rfl rfl H ?_
     refine tL 1 rfl rfl (fun _ h => h.cell 2 rfl rfl) H ?_
     refine tF 2 rfl rfl H ?_
     refine tL 3 rfl rfl (fun _ h => h.cell 0 rfl rfl) H ?_
     refine tI 4 rfl rfl rfl H ?_
     refine tL 5 rfl rfl (fun _ h => h.Xc 6 rfl ((r.qI[i]!).qp) (by omega) (by omega)) H ?_
     refine rtp 6 (.bool (!(t.qh[((r.qI[i]!).qp).toNat]!))) H ?_
     refine rtp 7 (.bool (!(t.qh[((r.qI[i]!).qp).toNat]!))) H ?_
     cases h34 : (!(t.qh[((r.qI[i]!).qp).toNat]!))
     ·skip
      replace h34 := qQ h34
      refine rg 8 (.agg #[.int .i64 s.qJ, .slice qo s.qf.length qm, .slice qC s.qg.length qA]) 13 (Qm (cs := [.int .i64 s.qJ, .slice qo s.qf.length qm, .slice qC s.qg.length qA]) Tryz.isAgg36 Tryz.sizeOf36 rfl (fun _ h => qw (h.cells 3 rfl) 0 3)) H ?_
      refine rg 9 (.agg #[.slice (aa b7 o8) t.qh.length qL, .slice (aa b11 o12) t.ql.length qZ, .slice qG t.qj.length qF]) 13 (Qm (cs := [.slice (aa b7 o8) t.qh.length qL, .slice (aa b11 o12) t.ql.length qZ, .slice qG t.qj.length qF]) Tryz.isAgg38 Tryz.sizeOf38 rfl (fun _ h => qw (h.cells 2 rfl) 0 3)) H ?_
      refine gF 10 rfl rfl H ?_
      refine gL 11 rfl rfl (fun _ h => h.cell 0 rfl rfl) H ?_
      refine gF 13 rfl rfl H ?_
      refine gL 14 rfl rfl (fun _ h => h.cell 1 rfl rfl) H ?_
      refine vT [12] (by kernel_rfl) (by simp) (r_opG rfl (e := 13) rfl rfl (oq (parentNow_ok _ s t ((r.qI[i]!).qp) (H.get 4 rfl).1 (H.get 5 rfl).1 (H.get 6 rfl).1 (H.get 7 rfl).1 (H.get 8 rfl).1 (by first | assumption | omega) (by first | assumption | omega) (by first | assumption | omega)) H fun w36 H => ⟨H, (rgp 15 (.bool ((xe s t ((r.qI[i]!).qp) : Int) != r.qp)) 13 H ?_)⟩) vU)
      refine rtp 16 (.bool ((xe s t ((r.qI[i]!).qp) : Int) != r.qp)) H ?_
      refine rtp 17 (.bool ((xe s t ((r.qI[i]!).qp) : Int) != r.qp)) H ?_
      refine xy (by kernel_rfl) (t_n (c_ret (ret1 (.bool ((xe s t ((r.qI[i]!).qp) : Int) != r.qp)) rfl rfl ⟨_, rfl, ?_⟩)))
      replace H := H.erases [0]
      dsimp only [jf, List.eraseIdx] at H
      refine zjn (xn ((xe s t ((r.qI[i]!).qp) : Int) != r.qp) rfl (fun h38 => ?_) (fun h38 => ?_))
      ·skip
       replace h38 := bne_iff_ne.1 h38
       refine zcr (sps [.int .i64 i, .int .i64 i] (zjr (zr5 (ret1 (.int .i64 i) rfl rfl ⟨_, rfl, (sw (o_pure (.bool true) (by show some (Value.bool (decide ((i : Int) ≥ 0))) = some (Value.bool true); rw [decide_eq_true (by omega)]) (sp (.bool true) (zjr (ret1 (.bool true) rfl rfl ⟨_, rfl, (sps [.bool false, .bool false] (zjr (ret1 (.bool false) rfl rfl ⟨_, rfl, ?_, H.base⟩)))⟩)))))⟩))))
       rw [qY (fun h => by obtain ⟨h1, h2, h3, h4, h5⟩ := h; first | exact ft h1 ‹_› | exact ft h2 ‹_› | exact ft h3 ‹_› | exact h4 ⟨‹_›, ‹_›⟩ | (obtain ⟨q1, q2⟩ := h5 i (by omega); first | exact ft q1 ‹_› | exact absurd q2 ‹_›))]
      replace h38 := xf h38
      refine qK (b_n (t_n (xH (sw (xX i 1 rfl rfl (by omega) (sp (.int .i64 (i + 1)) (xG (qR (m' := (r.qI.length - ((i + 1) : Int)).toNat) (by omega) ⟨_, i + 1, uE4, ?_, ?_, rfl, N, H.pick [0, 1, 2] [2, 3, 4, 5, 6, 7, 8, 9, 10, 11, 12, 13, 14]⟩))))))))
      · omega
      · exact i1.succ ‹_› ‹_›
     replace h34 := qW h34
     refine zo [8, 9, 10, 11, 12, 13, 14, 15] 8 (H) (rtp 16 (.bool true) H ?_)
     refine rtp 17 (.bool true) H ?_
     refine xy (by kernel_rfl) (t_n (c_ret (ret1 (.bool true) rfl rfl ⟨_, rfl, ?_⟩)))
     replace H := H.erases [0]
     dsimp only [jf, List.eraseIdx] at H
     refine zjn (xn true rfl (fun _ => zcr (sps [.int .i64 i, .int .i64 i] (zjr (zr5 (ret1 (.int .i64 i) rfl rfl ⟨_, rfl, (sw (o_pure (.bool true) (by show some (Value.bool (decide ((i : Int) ≥ 0))) = some (Value.bool true); rw [decide_eq_true (by omega)]) (sp (.bool true) (zjr (ret1 (.bool true) rfl rfl ⟨_, rfl, (sps [.bool false, .bool false] (zjr (ret1 (.bool false) rfl rfl ⟨_, rfl, ?_, H.base⟩)))⟩)))))⟩))))) (fun h => absurd h (by decide)))
     rw [qY (fun h => by obtain ⟨h1, h2, h3, h4, h5⟩ := h; first | exact ft h1 ‹_› | exact ft h2 ‹_› | exact ft h3 ‹_› | exact h4 ⟨‹_›, ‹_›⟩ | (obtain ⟨q1, q2⟩ := h5 i (by omega); first | exact ft q1 ‹_› | exact absurd q2 ‹_›))]
    refine zx4 (zcr (sp (.int .i64 (-1)) (zjr (ret1 (.int .i64 (-1)) rfl rfl ⟨_, rfl, (sps [.bool false, .bool false] (zjr (ret1 (.bool false) rfl rfl ⟨_, rfl, (sps [.bool true, .bool true] (zjr (ret1 (.bool true) rfl rfl ⟨_, rfl, ?_, H.base⟩)))⟩)))⟩))))
    rw [jF ⟨by assumption, by assumption, by assumption, fun ⟨u, v⟩ => by first | omega | exact ft v ‹_›, (show i = r.qI.length by omega) ▸ i1⟩]
   replace h23 := of_decide_eq_true h23
   refine qH 38 rfl rfl (oF rfl (qH 38 rfl rfl (oL rfl (H.cell 0 rfl rfl) (qH 38 rfl rfl (sp (.slice ae14 ((t.ql[r.qp.toNat]!).length) ce14) (qH 38 rfl rfl (sw (oq (isWithin_ok _ r.xm (t.ql[r.qp.toNat]!) (H.get 9 rfl).1 (H.get 0 rfl).1 (by first | assumption | omega) (by first | assumption | omega)) H fun w39 H => qH 33 rfl rfl (sps [.bool (within r.xm (t.ql[r.qp.toNat]!)), .bool (within r.xm (t.ql[r.qp.toNat]!))] (zjn (xn (within r.xm (t.ql[r.qp.toNat]!)) rfl (fun h41 => ?_) (fun h41 => ?_))))))))))))
   ·skip
    refine zcr (sp (.bool false) (zjr (t_r (ret1 (.bool false) rfl rfl ⟨_, rfl, ?_, H.base⟩))))
    rw [qY (fun h => by obtain ⟨h1, h2, h3, h4, h5⟩ := h; first | exact ft h1 ‹_› | exact ft h2 ‹_› | exact ft h3 ‹_› | exact h4 ⟨‹_›, ‹_›⟩ | (obtain ⟨q1, q2⟩ := h5 i (by omega); first | exact ft q1 ‹_› | exact absurd q2 ‹_›))]
   refine qK (t_n (zcr (oF rfl (oL rfl (H.cell 0 rfl rfl) (sp (.func (.func 187) #[] #[pp b3 0, pp b1 0, pp b5 0]) (sw (zS #[.slice jv r.qI.length jr, .func (.func 187) #[] #[pp b3 0, pp b1 0, pp b5 0]] rfl rfl Tryz.call186 (en Tryz.func186 Tryz.ntmps186 ?_))))))))
   refine zcr (sp (.bool false) (zjc (sps [.slice jv r.qI.length jr, .func (.func 187) #[] #[pp b3 0, pp b1 0, pp b5 0]] (sw (zS #[.slice jv r.qI.length jr, .func (.func 187) #[] #[pp b3 0, pp b1 0, pp b5 0]] rfl rfl Tryz.call207 (en Tryz.func207 Tryz.ntmps207 ?_))))))
   refine zcr (sp (.int .i64 0) (zjcc (sp (.slice jv r.qI.length jr) (oN rfl (sp (.int .i64 0) (zjn (qM ?_)))))))
   refine xQ (fun m' ρ w42 => ∃ (junk : Env) (i : Nat), ρ = upd (upd (upd (upd junk 0 (.slice jv r.qI.length jr)) 1 (.func (.func 187) #[] #[pp b3 0, pp b1 0, pp b5 0])) 7 (.int .i64 r.qI.length)) 8 (.int .i64 i) ∧ ((i : Int) ≤ r.qI.length) ∧ (IntoUp s t r i) ∧ m' = (r.qI.length - (i : Int)).toNat ∧ Fresh w.heap.size [] ∧ St w w42 [.box b5 [.int .i64 r.qp, .int .i64 r.zg, .slice jO r.qV.length jI, .slice jR r.xg.length jL, .slice jP r.xm.length jJ, .slice jQ r.xq.length jK, .slice QR r.zq.length QQ, .slice jv r.qI.length jr, .bool r.xO] 121, .box b3 [.slice (aa b7 o8) t.qh.length qL, .slice (aa b11 o12) t.ql.length qZ, .slice qG t.qj.length qF] 38, .box b1 [.int .i64 s.qJ, .slice qo s.qf.length qm, .slice qC s.qg.length qA] 36] [sF false Fe14 ae14 ce14 (t.ql[r.qp.toNat]!), atF b11 (o12 + (r.qp : Int).toNat * 1) [.slice ae14 ((t.ql[r.qp.toNat]!).length) ce14], sF false qP qo qm s.qf, sF false xu qC qA s.qg, sF false xE (aa b7 o8) qL t.qh, sF false zf (aa b11 o12) qZ t.ql, sF false xw qG qF t.qj, sF false VD jO jI r.qV, sF false VG jR jL r.xg, sF false VE jP jJ r.xm, sF false VF jQ jK r.xq, sF false FrOut QR QQ r.zq, sF false FrInto jv jr r.qI]) ((r.qI.length - (0 : Int)).toNat) ⟨_, 0, uE4, (by omega), (by exact fun j hj => by omega), rfl, N, H⟩ ?_
   clear H N
   rintro m' ρ w43 ⟨junk, i, rfl, i0, i1, rfl, N, H⟩
   refine zcr (sp (.bool (decide ((i : Int) < r.qI.length))) (zjn (xC (cD rfl (fun h44 => ?_) (fun h44 => ?_)))))
   ·skip
    have q := (p12 i (by omega)).1
    have q1 := q.1
    have q2 := q.2
    refine qK (t_n (xC (qM (zcr (sps [.int .i64 i, .int .i64 i] (zjc (sps [.func (.func 187) #[] #[pp b3 0, pp b1 0, pp b5 0], .slice jv r.qI.length jr, .int .i64 i] ?_)))))))
    obtain ⟨b45, o46, rfl⟩ := H.addr 12 rfl (by omega)
    obtain ⟨ae48Bag, ce48Bag, Fe48Bag, H⟩ := H.jh 12 rfl i i (by omega) (by omega) (by omega)
    refine oI rfl rfl (sw (xU [.int .i64 ((r.qI[i]!).qp), .slice ae48Bag (((r.qI[i]!).vS).length) ce48Bag] Tryz.isAgg164 Tryz.sizeOf164 rfl (qw (H.get 1 rfl) 0 2) (sw (zS #[.agg #[.int .i64 ((r.qI[i]!).qp), .slice ae48Bag (((r.qI[i]!).vS).length) ce48Bag], pp b3 0, pp b1 0, pp b5 0] rfl rfl Tryz.call187 (en Tryz.func187 Tryz.ntmps187 ?_)))))
    refine zcr (sw (zY H [.int .i64 ((r.qI[i]!).qp), .slice ae48Bag (((r.qI[i]!).vS).length) ce48Bag] fun b49 w50 H => sp (.bool false) (zjn (xC ?_))))
    refine vH rfl H fun H => tF 0 rfl rfl H ?_
    refine tL 1 rfl rfl (fun _ h => h.cell 2 rfl rfl) H ?_
    refine tF 2 rfl rfl H ?_
    refine tL 3 rfl rfl (fun _ h => h.cell 0 rfl rfl) H ?_
    refine tI 4 rfl rfl rfl H ?_
    refine tL 5 rfl rfl (fun _ h => h.Xc 6 rfl ((r.qI[i]!).qp) (by omega) (by omega)) H ?_
    refine rtp 6 (.bool (!(t.qh[((r.qI[i]!).qp).toNat]!))) H ?_
    refine rtp 7 (.bool (!(t.qh[((r.qI[i]!).qp).toNat]!))) H ?_
    cases h52 : (!(t.qh[((r.qI[i]!).qp).toNat]!))
    ·skip
     replace h52 := qQ h52
     refine rg 8 (.agg #[.int .i64 s.qJ, .slice qo s.qf.length qm, .slice qC s.qg.length qA]) 13 (Qm (cs := [.int .i64 s.qJ, .slice qo s.qf.length qm, .slice qC s.qg.length qA]) Tryz.isAgg36 Tryz.sizeOf36 rfl (fun _ h => qw (h.cells 3 rfl) 0 3)) H ?_
     refine rg 9 (.agg #[.slice (aa b7 o8) t.qh.length qL, .slice (aa b11 o12) t.ql.length qZ, .slice qG t.qj.length qF]) 13 (Qm (cs := [.slice (aa b7 o8) t.qh.length qL, .slice (aa b11 o12) t.ql.length qZ, .slice qG t.qj.length qF]) Tryz.isAgg38 Tryz.sizeOf38 rfl (fun _ h => qw (h.cells 2 rfl) 0 3)) H ?_
     refine gF 10 rfl rfl H ?_
     refine gL 11 rfl rfl (fun _ h => h.cell 0 rfl rfl) H ?_
     refine gF 13 rfl rfl H ?_
     refine gL 14 rfl rfl (fun _ h => h.cell 1 rfl rfl) H ?_
     refine vT [12] (by kernel_rfl) (by simp) (r_opG rfl (e := 13) rfl rfl (oq (parentNow_ok _ s t ((r.qI[i]!).qp) (H.get 4 rfl).1 (H.get 5 rfl).1 (H.get 6 rfl).1 (H.get 7 rfl).1 (H.get 8 rfl).1 (by first | assumption | omega) (by first | assumption | omega) (by first | assumption | omega)) H fun w54 H => ⟨H, (rgp 15 (.bool ((xe s t ((r.qI[i]!).qp) : Int) != r.qp)) 13 H ?_)⟩) vU)
     refine rtp 16 (.bool ((xe s t ((r.qI[i]!).qp) : Int) != r.qp)) H ?_
     refine rtp 17 (.bool ((xe s t ((r.qI[i]!).qp) : Int) != r.qp)) H ?_
     refine xy (by kernel_rfl) (t_n (c_ret (ret1 (.bool ((xe s t ((r.qI[i]!).qp) : Int) != r.qp)) rfl rfl ⟨_, rfl, ?_⟩)))
     replace H := H.erases [0]
     dsimp only [jf, List.eraseIdx] at H
     refine zjn (xn ((xe s t ((r.qI[i]!).qp) : Int) != r.qp) rfl (fun h56 => ?_) (fun h56 => ?_))
     ·skip
      replace h56 := bne_iff_ne.1 h56
      refine zcr (sps [.int .i64 i, .int .i64 i] (zjr (zr5 (ret1 (.int .i64 i) rfl rfl ⟨_, rfl, (sw (o_pure (.bool true) (by show some (Value.bool (decide ((i : Int) ≥ 0))) = some (Value.bool true); rw [decide_eq_true (by omega)]) (sp (.bool true) (zjr (ret1 (.bool true) rfl rfl ⟨_, rfl, (sps [.bool false, .bool false] (zjr (ret1 (.bool false) rfl rfl ⟨_, rfl, ?_, H.base⟩)))⟩)))))⟩))))
      rw [qY (fun h => by obtain ⟨h1, h2, h3, h4, h5⟩ := h; first | exact ft h1 ‹_› | exact ft h2 ‹_› | exact ft h3 ‹_› | exact h4 ⟨‹_›, ‹_›⟩ | (obtain ⟨q1, q2⟩ := h5 i (by omega); first | exact ft q1 ‹_› | exact absurd q2 ‹_›))]
     replace h56 := xf h56
     refine qK (b_n (t_n (xH (sw (xX i 1 rfl rfl (by omega) (sp (.int .i64 (i + 1)) (xG (qR (m' := (r.qI.length - ((i + 1) : Int)).toNat) (by omega) ⟨_, i + 1, uE4, ?_, ?_, rfl, N, H.pick [0, 1, 2] [2, 3, 4, 5, 6, 7, 8, 9, 10, 11, 12, 13, 14]⟩))))))))
     · omega
     · exact i1.succ ‹_› ‹_›
    replace h52 := qW h52
    refine zo [8, 9, 10, 11, 12, 13, 14, 15] 8 (H) (rtp 16 (.bool true) H ?_)
    refine rtp 17 (.bool true) H ?_
    refine xy (by kernel_rfl) (t_n (c_ret (ret1 (.bool true) rfl rfl ⟨_, rfl, ?_⟩)))
    replace H := H.erases [0]
    dsimp only [jf, List.eraseIdx] at H
    refine zjn (xn true rfl (fun _ => zcr (sps [.int .i64 i, .int .i64 i] (zjr (zr5 (ret1 (.int .i64 i) rfl rfl ⟨_, rfl, (sw (o_pure (.bool true) (by show some (Value.bool (decide ((i : Int) ≥ 0))) = some (Value.bool true); rw [decide_eq_true (by omega)]) (sp (.bool true) (zjr (ret1 (.bool true) rfl rfl ⟨_, rfl, (sps [.bool false, .bool false] (zjr (ret1 (.bool false) rfl rfl ⟨_, rfl, ?_, H.base⟩)))⟩)))))⟩))))) (fun h => absurd h (by decide)))
    rw [qY (fun h => by obtain ⟨h1, h2, h3, h4, h5⟩ := h; first | exact ft h1 ‹_› | exact ft h2 ‹_› | exact ft h3 ‹_› | exact h4 ⟨‹_›, ‹_›⟩ | (obtain ⟨q1, q2⟩ := h5 i (by omega); first | exact ft q1 ‹_› | exact absurd q2 ‹_›))]
   refine zx4 (zcr (sp (.int .i64 (-1)) (zjr (ret1 (.int .i64 (-1)) rfl rfl ⟨_, rfl, (sps [.bool false, .bool false] (zjr (ret1 (.bool false) rfl rfl ⟨_, rfl, (sps [.bool true, .bool true] (zjr (ret1 (.bool true) rfl rfl ⟨_, rfl, ?_, H.base⟩)))⟩)))⟩))))
   rw [jF ⟨by assumption, by assumption, by assumption, fun ⟨u, v⟩ => by first | omega | exact ft v ‹_›, (show i = r.qI.length by omega) ▸ i1⟩]
  replace h20 := qW h20
  refine xJ [34, 35, 36, 37, 38, 39, 40, 41, 42, 43] (sp (.bool true) (zjn (xn true rfl (fun _ => zcr (sp (.bool false) (zjr (t_r (ret1 (.bool false) rfl rfl ⟨_, rfl, ?_, H.base⟩))))) (fun h => absurd h (by decide)))))
  rw [qY (fun h => by obtain ⟨h1, h2, h3, h4, h5⟩ := h; first | exact ft h1 ‹_› | exact ft h2 ‹_› | exact ft h3 ‹_› | exact h4 ⟨‹_›, ‹_›⟩ | (obtain ⟨q1, q2⟩ := h5 i (by omega); first | exact ft q1 ‹_› | exact absurd q2 ‹_›))]
 replace h17 := qW h17
 refine xJ [27, 28, 29, 30, 31] (sps [.bool true, .bool true] (xJ [34, 35, 36, 37, 38, 39, 40, 41, 42, 43] (sp (.bool true) (zjn (xn true rfl (fun _ => zcr (sp (.bool false) (zjr (t_r (ret1 (.bool false) rfl rfl ⟨_, rfl, ?_, H.base⟩))))) (fun h => absurd h (by decide)))))))
 rw [qY (fun h => by obtain ⟨h1, h2, h3, h4, h5⟩ := h; first | exact ft h1 ‹_› | exact ft h2 ‹_› | exact ft h3 ‹_› | exact h4 ⟨‹_›, ‹_›⟩ | (obtain ⟨q1, q2⟩ := h5 i (by omega); first | exact ft q1 ‹_› | exact absurd q2 ‹_›))]

theorem cloneSS_ok (w : World) (l : List (List Int)) (hl : qB.rep w Fl [.slice al l.length cl] l) (p0 : l.length ≤ 1000000) : Calls Tryz.prog 151 #[.slice al l.length cl] w (Ret (fun v w' => ∃ (ra : Option Addr) (rn : Nat) (rc : Nat) (rx : List Value) (rF : List Nat), v = .slice ra rn rc ∧ (∀ b ∈ rF, b ∈ Fl) ∧ St w w' [rr ra rn rc 22 1 rx] [xN false rF rx l]) w) := by
 refine en Tryz.func151 Tryz.ntmps151 ?_
 have H := (St.start w).arg hl
 have nhl := qx hl
 clear hl
 have N := Fresh.nil w.heap.size
 refine zcr (sp (.slice none 0 0) (zjcc (sp (.slice al l.length cl) (sw (o_eqnil Tryz.underlying27 al l.length cl rfl (zjn (xn (al.isNone) rfl (fun h1 => ?_) (fun h1 => ?_))))))))
 ·skip
  refine zcr (sp (.slice none 0 0) (zjr (t_r ?_)))
  replace H := H.nilRow 22 1
  replace H := H.vw (α := List Int)
  refine ret1 (.slice none 0 0) rfl rfl ⟨_, rfl, ?_, H.base⟩
  obtain rfl := H.nilOf 1 rfl ‹_›
  replace H := H.unfree 0 rfl
  exact ⟨none, 0, 0, [], [], rfl, (by intro b hb; first | (simp at hb; done) | exact id b (by simpa using hb)), H.pick [0] [0]⟩
 refine qK (t_n (zcr (sw (vI H Tryz.underlying27 ti22 fun b2 w3 H => sp (.slice al l.length cl) ?_))))
 replace H := H.boxRow 0 rfl 1 0 rfl (by decide)
 replace H := H.vw (α := List Int)
 refine sw (o_appendFR H 0 rfl 1 rfl Tryz.underlying27 ti22 rfl (by decide) rfl rfl (by unfold maxLen; omega) (by omega) fun a4 c5 w6 us7 G8 H hG9 => ?_)
 replace H := H.repsCat false 1 rfl 0 rfl (by simp)
 refine sp (.slice a4 (0 + l.length) c5) (zjr (ret1 (.slice a4 (0 + l.length) c5) rfl rfl ⟨_, rfl, (⟨a4, 0 + l.length, c5, [] ++ us7, ([] ++ G8), rfl, (by intro b hb; first | (simp at hb; done) | exact hG9 b (by simpa using hb)), H.pick [0] [0]⟩), H.base⟩))

theorem timesIn_ok (w : World) (l : List Int) (m : List Int) (hl : qB.rep w Fl [.slice al l.length cl] l) (hm : qB.rep w Fm [.slice am m.length cm] m) (p0 : l.length ≤ m.length) (p2 : ∀ q, q < l.length → 0 ≤ m[q]! ∧ m[q]! ≤ 1000) : Calls Tryz.prog 203 #[.slice al l.length cl, .slice am m.length cm] w (Ret (fun v w' => v = .int .i64 (vM l m)) w) := by
 refine en Tryz.func203 Tryz.ntmps203 ?_
 have H := ((St.start w).arg hm).arg hl
 have nhl := qx hl
 have nhm := qx hm
 clear hl hm
 have N := Fresh.nil w.heap.size
 refine zcr (sp (.int .i64 0) (zjc (sp (.int .i64 1000) (zjcc (sp (.slice al l.length cl) (oN rfl (sp (.int .i64 0) (zjn (qM ?_)))))))))
 refine xQ (fun m' ρ w1 => ∃ (junk : Env) (most : Int) (k : Nat), ρ = upd (upd (upd (upd (upd junk 1 (.slice am m.length cm)) 5 (.int .i64 most)) 8 (.slice al l.length cl)) 9 (.int .i64 l.length)) 10 (.int .i64 k) ∧ most = jT l m k ∧ ((k : Int) ≤ l.length) ∧ m' = (l.length - (k : Int)).toNat ∧ Fresh w.heap.size [] ∧ St w w1 [] [sF false Fl al cl l, sF false Fm am cm m]) ((l.length - (0 : Int)).toNat) ⟨_, 1000, 0, uE5, (by rfl), (by omega), rfl, N, H⟩ ?_
 clear H N
 rintro m' ρ w2 ⟨junk, most, k, rfl, rfl, i0, rfl, N, H⟩
 refine zcr (sp (.bool (decide ((k : Int) < l.length))) (zjn (xC (cD rfl (fun h3 => ?_) (fun h3 => ?_)))))
 ·skip
  refine qK (t_n (xC (qM (zcr (sp (.int .i64 k) ?_)))))
  obtain ⟨b4, o5, rfl⟩ := H.addr 0 rfl (by omega)
  refine oI rfl rfl (oL rfl (H.jd 0 rfl k (by omega) (by omega)) (sps [.int .i64 k, .int .i64 (l[k]!)] (zjc (sps [.int .i64 (l[k]!), .bool (decide ((l[k]! : Int) > 0))] (zjn (cD rfl (fun h7 => ?_) (fun h7 => ?_)))))))
  ·skip
   refine xH (sps [.int .i64 (jT l m k), .slice am m.length cm, .int .i64 k] ?_)
   obtain ⟨b8, o9, rfl⟩ := H.addr 1 rfl (by omega)
   refine oI rfl rfl (oL rfl (H.jd 1 rfl k (by omega) (by omega)) (sp (.int .i64 (l[k]!)) (sw (o_quo (m[k]!) (l[k]!) rfl rfl (by (have := p2 k (by omega); omega)) (by (have := p2 k (by omega); omega)) (sw (o_min (jT l m k) ((m[k]!) / (l[k]!)) rfl rfl (sp (.int .i64 (min (jT l m k) ((m[k]!) / (l[k]!)))) (xG (b_n (t_n (xH (sw (xX k 1 rfl rfl (by (have := p2 k (by omega); omega)) (sp (.int .i64 (k + 1)) (xG (qR (m' := (l.length - ((k + 1) : Int)).toNat) (by omega) ⟨_, min (jT l m k) ((m[k]!) / (l[k]!)), k + 1, uE5, ?_, ?_, rfl, N, H⟩))))))))))))))))
   · first | exact (timesTo_pos (by omega)).symm | exact (timesTo_skip (by omega)).symm
   · omega
  refine qK (b_n (t_n (xH (sw (xX k 1 rfl rfl (by (have := p2 k (by omega); omega)) (sp (.int .i64 (k + 1)) (xG (qR (m' := (l.length - ((k + 1) : Int)).toNat) (by omega) ⟨_, (jT l m k), k + 1, uE5, ?_, ?_, rfl, N, H⟩))))))))
  · first | exact (timesTo_pos (by omega)).symm | exact (timesTo_skip (by omega)).symm
  · omega
 refine zx4 (zcr (sps [.int .i64 (jT l m k), .int .i64 (jT l m k)] (zjr (ret1 (.int .i64 (jT l m k)) rfl rfl ⟨_, rfl, ?_, H.base⟩))))
 obtain rfl : k = l.length := by omega
 rfl

theorem applicable_ok (w : World) (s : qy) (t : qE) (qU : qB.rep w qP [.slice qo s.qf.length qm] s.qf) (xx : qB.rep w xu [.slice qC s.qg.length qA] s.qg) (xK : qB.rep w xE [.slice qN t.qh.length qL] t.qh) (zn : qB.rep w zf [.slice xh t.ql.length qZ] t.ql) (xA : qB.rep w xw [.slice qG t.qj.length qF] t.qj) (p0 : jG s) (p1 : zt s t) : Calls Tryz.prog 112 #[.agg #[.int .i64 s.qJ, .slice qo s.qf.length qm, .slice qC s.qg.length qA], .agg #[.slice qN t.qh.length qL, .slice xh t.ql.length qZ, .slice qG t.qj.length qF]] w (Ret (fun v w' => ∃ (ra : Option Addr) (rn : Nat) (rc : Nat), v = .slice ra rn rc ∧ Fresh w.heap.size [] ∧ St w w' [rr ra rn rc 2 1 ((appls s t).map (Value.int .i64))] []) w) := by
 refine en Tryz.func112 Tryz.ntmps112 ?_
 have H := (((((St.start w).arg xA).arg zn).arg xK).arg xx).arg qU
 have zJ := qx qU
 have vW := qx xx
 have yJ := qx xK
 have QD := qx zn
 have jB := qx xA
 clear qU xx xK zn xA
 have N := Fresh.nil w.heap.size
 have p2 := p0.2.1
 have p3 := p0.1.2.1
 refine zcr (sw (zY H [.int .i64 s.qJ, .slice qo s.qf.length qm, .slice qC s.qg.length qA] fun b1 w2 H => sw (zY H [.slice qN t.qh.length qL, .slice xh t.ql.length qZ, .slice qG t.qj.length qF] fun b3 w4 H => sp (.slice none 0 0) (zjc (sw (jD [.int .i64 0, .int .i64 0, .int .i64 0, .int .i64 0, .int .i64 0, .int .i64 0] [] (sw (xM H ti166 [.int .i64 0, .int .i64 0, .int .i64 0, .int .i64 0, .int .i64 0, .int .i64 0] fun b5 w6 H => ?_))))))))
 refine sw (zF H 0 [.int .i64 0, .int .i64 0, .int .i64 0, .int .i64 0, .int .i64 0, .int .i64 0] Tryz.sizeOf166 fun w7 H => zjcc (sp (.int .i64 0) (zjn (qM ?_))))
 refine xQ (fun m' ρ w8 => ∃ (junk : Env) (c : Nat) (top : List Int), ρ = upd (upd (upd (upd junk 2 (pp b1 0)) 3 (pp b3 0)) 5 (pp b5 0)) 13 (.int .i64 c) ∧ top = minus c ∧ ((c : Int) ≤ 6) ∧ m' = (6 - (c : Int)).toNat ∧ Fresh w.heap.size [] ∧ St w w8 [.box b5 (top.map (Value.int .i64)) 166, .box b3 [.slice qN t.qh.length qL, .slice xh t.ql.length qZ, .slice qG t.qj.length qF] 38, .box b1 [.int .i64 s.qJ, .slice qo s.qf.length qm, .slice qC s.qg.length qA] 36] [sF false qP qo qm s.qf, sF false xu qC qA s.qg, sF false xE qN qL t.qh, sF false zf xh qZ t.ql, sF false xw qG qF t.qj]) ((6 - (0 : Int)).toNat) ⟨_, 0, [0, 0, 0, 0, 0, 0], uE4, (by rfl), (by omega), rfl, N, H⟩ ?_
 clear H N
 rintro m' ρ w9 ⟨junk, c, top, rfl, rfl, i0, rfl, N, H⟩
 refine zcr (sp (.bool (decide ((c : Int) < 6))) (zjn (xC (cD rfl (fun h10 => ?_) (fun h10 => ?_)))))
 ·skip
  refine qK (t_n (xC (qM (zcr (sps [.int .i64 c, .int .i64 c] (zjn (xH (sp (.int .i64 c) (sw (o_idxArr c Tryz.underlying166 ti2 rfl rfl (by omega) (by omega) (sw (o_storeArr H 0 rfl (-1) Tryz.sizeOf2 rfl rfl (i := c) (by omega) (by simp only [List.length_set, List.length_cons, List.length_nil, minus_len, Xn]; omega) fun w11 H => xG (b_n (t_n (xH (sw (xX c 1 rfl rfl (by omega) (sp (.int .i64 (c + 1)) (xG (qR (m' := (6 - ((c + 1) : Int)).toNat) (by omega) ⟨_, c + 1, ((minus c).set c (-1)), uE4, ?_, ?_, rfl, N, H⟩))))))))))))))))))))
  · exact minus_set (by omega)
  · omega
 refine zx4 (zcc (oF rfl (oL rfl (H.cell 2 rfl rfl) (oN rfl (sp (.int .i64 0) (zjn (qM ?_)))))))
 refine xQ (fun m' ρ w12 => ∃ (junk : Env) (k : Nat) (top_1 : List Int), ρ = upd (upd (upd (upd (upd (upd junk 2 (pp b1 0)) 3 (pp b3 0)) 5 (pp b5 0)) 20 (.slice qC s.qg.length qA)) 21 (.int .i64 s.qg.length)) 22 (.int .i64 k) ∧ top_1 = bests s t (-1) 6 k ∧ ((k : Int) ≤ s.qg.length) ∧ m' = (s.qg.length - (k : Int)).toNat ∧ Fresh w.heap.size [] ∧ St w w12 [.box b5 (top_1.map (Value.int .i64)) 166, .box b3 [.slice qN t.qh.length qL, .slice xh t.ql.length qZ, .slice qG t.qj.length qF] 38, .box b1 [.int .i64 s.qJ, .slice qo s.qf.length qm, .slice qC s.qg.length qA] 36] [sF false qP qo qm s.qf, sF false xu qC qA s.qg, sF false xE qN qL t.qh, sF false zf xh qZ t.ql, sF false xw qG qF t.qj]) ((s.qg.length - (0 : Int)).toNat) ⟨_, 0, (minus c), uE6, (by exact minus_six (by omega) s t), (by omega), rfl, N, H⟩ ?_
 clear H N
 rintro m' ρ w13 ⟨junk, k, top_1, rfl, rfl, i0, rfl, N, H⟩
 refine zcr (sp (.bool (decide ((k : Int) < s.qg.length))) (zjn (xC (cD rfl (fun h14 => ?_) (fun h14 => ?_)))))
 ·skip
  have q := p0.rule (i := k) (by omega)
  have qc := q.1
  have qk := q.cell
  have qr := q.2.1
  have q6 : (s.qg[k]!).qp.toNat < 6 := by omega
  refine qK (t_n (xC (qM (zcr ?_))))
  obtain ⟨b15, o16, rfl⟩ := H.addr 1 rfl (by omega)
  obtain ⟨ae18Need, ce18Need, Fe18Need, ae18Have, ce18Have, Fe18Have, ae18Lack, ce18Lack, Fe18Lack, ae18Here, ce18Here, Fe18Here, ae18Out, ce18Out, Fe18Out, ae18Into, ce18Into, Fe18Into, H⟩ := H.jy 1 rfl k k (by omega) (by omega) (by omega)
  refine oI rfl rfl (sw (xU [.int .i64 ((s.qg[k]!).qp), .int .i64 ((s.qg[k]!).zg), .slice ae18Need (((s.qg[k]!).qV).length) ce18Need, .slice ae18Have (((s.qg[k]!).xg).length) ce18Have, .slice ae18Lack (((s.qg[k]!).xm).length) ce18Lack, .slice ae18Here (((s.qg[k]!).xq).length) ce18Here, .slice ae18Out (((s.qg[k]!).zq).length) ce18Out, .slice ae18Into (((s.qg[k]!).qI).length) ce18Into, .bool ((s.qg[k]!).xO)] Tryz.isAgg121 Tryz.sizeOf121 rfl (qw (H.get 6 rfl) 0 9) ?_))
  refine sw (xM H ti121 [.int .i64 0, .int .i64 0, .slice none 0 0, .slice none 0 0, .slice none 0 0, .slice none 0 0, .slice none 0 0, .slice none 0 0, .bool false] fun b19 w20 H => sw (zF H 0 [.int .i64 ((s.qg[k]!).qp), .int .i64 ((s.qg[k]!).zg), .slice ae18Need (((s.qg[k]!).qV).length) ce18Need, .slice ae18Have (((s.qg[k]!).xg).length) ce18Have, .slice ae18Lack (((s.qg[k]!).xm).length) ce18Lack, .slice ae18Here (((s.qg[k]!).xq).length) ce18Here, .slice ae18Out (((s.qg[k]!).zq).length) ce18Out, .slice ae18Into (((s.qg[k]!).qI).length) ce18Into, .bool ((s.qg[k]!).xO)] Tryz.sizeOf121 fun w21 H => ?_))
  refine zjc (sw (xU [.int .i64 s.qJ, .slice qo s.qf.length qm, .slice (aa b15 o16) s.qg.length qA] Tryz.isAgg36 Tryz.sizeOf36 rfl (qw (H.cells 3 rfl) 0 3) (sw (xU [.slice qN t.qh.length qL, .slice xh t.ql.length qZ, .slice qG t.qj.length qF] Tryz.isAgg38 Tryz.sizeOf38 rfl (qw (H.cells 2 rfl) 0 3) ?_))))
  refine sw (xU [.int .i64 ((s.qg[k]!).qp), .int .i64 ((s.qg[k]!).zg), .slice ae18Need (((s.qg[k]!).qV).length) ce18Need, .slice ae18Have (((s.qg[k]!).xg).length) ce18Have, .slice ae18Lack (((s.qg[k]!).xm).length) ce18Lack, .slice ae18Here (((s.qg[k]!).xq).length) ce18Here, .slice ae18Out (((s.qg[k]!).zq).length) ce18Out, .slice ae18Into (((s.qg[k]!).qI).length) ce18Into, .bool ((s.qg[k]!).xO)] Tryz.isAgg121 Tryz.sizeOf121 rfl (qw (H.cells 0 rfl) 0 9) ?_)
  refine sw (oq (isEnabled_ok _ s t (s.qg[k]!) (H.get 7 rfl).1 (H.get 8 rfl).1 (H.get 9 rfl).1 (H.get 10 rfl).1 (H.get 11 rfl).1 (H.get 0 rfl).1 (H.get 1 rfl).1 (H.get 2 rfl).1 (H.get 3 rfl).1 (H.get 4 rfl).1 (H.get 5 rfl).1 (by first | assumption | omega) (by first | assumption | omega) (by first | assumption | omega)) H fun w23 H => zjn (cP rfl (fun h25 => ?_) (fun h25 => ?_)))
  ·skip
   refine yO rfl H [0, 2, 3] fun H => ?_
   have S := H.jZ [0, 2, 3] [0, 1, 2, 3, 4, 5, 6, 7, 8, 9, 10, 11]
   refine tF 0 rfl rfl S ?_
   refine tL 1 rfl rfl (fun _ h => h.cell 0 rfl rfl) S ?_
   refine tF 2 rfl rfl S ?_
   refine tL 3 rfl rfl (fun _ h => h.cell 0 rfl rfl) S ?_
   refine rt 4 (pp b5 (0 + ((s.qg[k]!).qp : Int).toNat * 1)) (y_idxArr b5 (0) 6 ((s.qg[k]!).qp) Tryz.underlying166 ti2 rfl rfl (by omega) (by omega)) S ?_
   refine tF 6 rfl rfl S ?_
   refine tL 7 rfl rfl (fun _ h => h.cell 0 rfl rfl) S ?_
   refine ro 5 rfl (zl (.int .i64 ((bests s t (-1) 6 k)[((s.qg[k]!).qp).toNat]!)) Tryz.isAgg2 rfl (H.cell 1 rfl (ints_at (iv := (s.qg[k]!).qp) (i := (((s.qg[k]!).qp).toNat)) (by omega) (by simp only [List.length_set, List.length_cons, List.length_nil, minus_len, Xn]; omega))) (⟨H.pick [0, 2, 3] [0, 1, 2, 3, 4, 5, 6, 7, 8, 9, 10, 11], ?_⟩))
   have S := H.jZ [0, 2, 3] [0, 1, 2, 3, 4, 5, 6, 7, 8, 9, 10, 11]
   refine rt 8 (.int .i64 (max ((bests s t (-1) 6 k)[((s.qg[k]!).qp).toNat]!) ((s.qg[k]!).zg))) (y_max ((bests s t (-1) 6 k)[((s.qg[k]!).qp).toNat]!) ((s.qg[k]!).zg) rfl rfl) S ?_
   refine rt 9 (pp b5 (0 + ((s.qg[k]!).qp : Int).toNat * 1)) (y_idxArr b5 (0) 6 ((s.qg[k]!).qp) Tryz.underlying166 ti2 rfl rfl (by omega) (by omega)) S ?_
   refine ro 10 rfl (o_storeArr H 1 rfl (max ((bests s t (-1) 6 k)[((s.qg[k]!).qp).toNat]!) ((s.qg[k]!).zg)) Tryz.sizeOf2 rfl rfl (i := (((s.qg[k]!).qp).toNat)) (by omega) (by simp only [List.length_set, List.length_cons, List.length_nil, minus_len, Xn]; omega) fun w27 H => ⟨H.pick [0, 2, 3] [0, 1, 2, 3, 4, 5, 6, 7, 8, 9, 10, 11], (xy (by kernel_rfl) (b_n (t_n (xH (sw (xX k 1 rfl rfl (by omega) (sp (.int .i64 (k + 1)) (xG ?_))))))))⟩)
   refine qR (m' := (s.qg.length - ((k + 1) : Int)).toNat) (by omega) ⟨_, k + 1, ((bests s t (-1) 6 k).set (((s.qg[k]!).qp).toNat) (max ((bests s t (-1) 6 k)[((s.qg[k]!).qp).toNat]!) ((s.qg[k]!).zg))), uE6, ?_, ?_, rfl, N, H.pick [1, 2, 3] [7, 8, 9, 10, 11]⟩
   · first | exact bests_set ‹_› (by omega) | exact bests_skip ‹_›
   · omega
  refine qK (b_n (t_n (xH (sw (xX k 1 rfl rfl (by omega) (sp (.int .i64 (k + 1)) (xG (qR (m' := (s.qg.length - ((k + 1) : Int)).toNat) (by omega) ⟨_, k + 1, (bests s t (-1) 6 k), uE6, ?_, ?_, rfl, N, H.pick [1, 2, 3] [7, 8, 9, 10, 11]⟩))))))))
  · first | exact bests_set ‹_› (by omega) | exact bests_skip ‹_›
  · omega
 refine zx4 (zcr (sw (vI H Tryz.underlying22 ti2 fun b28 w29 H => sp (.slice (aa b28 0) 0 0) (zjcc (oF rfl (oL rfl (H.cell 3 rfl rfl) (oN rfl (sp (.int .i64 0) (zjn (qM ?_))))))))))
 replace H := H.boxRowI 0 [] 0
 refine xQ (fun m' ρ w30 => ∃ (junk : Env) (zW : Option Addr) (xZ : Nat) (zH : Nat) (out : List Int) (i : Nat), ρ = upd (upd (upd (upd (upd (upd (upd junk 2 (pp b1 0)) 3 (pp b3 0)) 5 (pp b5 0)) 9 (.slice zW xZ zH)) 43 (.slice qC s.qg.length qA)) 44 (.int .i64 s.qg.length)) 45 (.int .i64 i) ∧ out = applL s t i ∧ ((i : Int) ≤ s.qg.length) ∧ m' = (s.qg.length - (i : Int)).toNat ∧ Fresh w.heap.size [] ∧ St w w30 [rr zW xZ zH 2 1 (out.map (Value.int .i64)), .box b5 ((bests s t (-1) 6 k).map (Value.int .i64)) 166, .box b3 [.slice qN t.qh.length qL, .slice xh t.ql.length qZ, .slice qG t.qj.length qF] 38, .box b1 [.int .i64 s.qJ, .slice qo s.qf.length qm, .slice qC s.qg.length qA] 36] [sF false qP qo qm s.qf, sF false xu qC qA s.qg, sF false xE qN qL t.qh, sF false zf xh qZ t.ql, sF false xw qG qF t.qj]) ((s.qg.length - (0 : Int)).toNat) ⟨_, (aa b28 0), 0, 0, ([] : List Int), 0, uE7, (by rfl), (by omega), rfl, N, H⟩ ?_
 clear H N
 rintro m' ρ w31 ⟨junk, zW, xZ, zH, out, i, rfl, rfl, i0, rfl, N, H⟩
 have hn_out := H.rowNI 0 rfl
 have ll := applL_le s t i
 refine zcr (sp (.bool (decide ((i : Int) < s.qg.length))) (zjn (xC (cD rfl (fun h32 => ?_) (fun h32 => ?_)))))
 ·skip
  have q := p0.rule (i := i) (by omega)
  have qc := q.1
  have qk := q.cell
  have qr := q.2.1
  have q6 : (s.qg[i]!).qp.toNat < 6 := by omega
  refine qK (t_n (xC (qM (zcr (sp (.int .i64 i) ?_)))))
  obtain ⟨b33, o34, rfl⟩ := H.addr 1 rfl (by omega)
  obtain ⟨ae36Need, ce36Need, Fe36Need, ae36Have, ce36Have, Fe36Have, ae36Lack, ce36Lack, Fe36Lack, ae36Here, ce36Here, Fe36Here, ae36Out, ce36Out, Fe36Out, ae36Into, ce36Into, Fe36Into, H⟩ := H.jy 1 rfl i i (by omega) (by omega) (by omega)
  refine oI rfl rfl (sw (xU [.int .i64 ((s.qg[i]!).qp), .int .i64 ((s.qg[i]!).zg), .slice ae36Need (((s.qg[i]!).qV).length) ce36Need, .slice ae36Have (((s.qg[i]!).xg).length) ce36Have, .slice ae36Lack (((s.qg[i]!).xm).length) ce36Lack, .slice ae36Here (((s.qg[i]!).xq).length) ce36Here, .slice ae36Out (((s.qg[i]!).zq).length) ce36Out, .slice ae36Into (((s.qg[i]!).qI).length) ce36Into, .bool ((s.qg[i]!).xO)] Tryz.isAgg121 Tryz.sizeOf121 rfl (qw (H.get 6 rfl) 0 9) ?_))
  refine sw (xM H ti121 [.int .i64 0, .int .i64 0, .slice none 0 0, .slice none 0 0, .slice none 0 0, .slice none 0 0, .slice none 0 0, .slice none 0 0, .bool false] fun b37 w38 H => sp (.int .i64 i) ?_)
  refine sw (zF H 0 [.int .i64 ((s.qg[i]!).qp), .int .i64 ((s.qg[i]!).zg), .slice ae36Need (((s.qg[i]!).qV).length) ce36Need, .slice ae36Have (((s.qg[i]!).xg).length) ce36Have, .slice ae36Lack (((s.qg[i]!).xm).length) ce36Lack, .slice ae36Here (((s.qg[i]!).xq).length) ce36Here, .slice ae36Out (((s.qg[i]!).zq).length) ce36Out, .slice ae36Into (((s.qg[i]!).qI).length) ce36Into, .bool ((s.qg[i]!).xO)] Tryz.sizeOf121 fun w39 H => zjn (xC ?_))
  refine vH rfl H fun H => tF 0 rfl rfl H ?_
  refine tL 1 rfl rfl (fun _ h => h.cell 0 rfl rfl) H ?_
  refine tF 2 rfl rfl H ?_
  refine tL 3 rfl rfl (fun _ h => h.cell 0 rfl rfl) H ?_
  refine rt 4 (pp b5 (0 + ((s.qg[i]!).qp : Int).toNat * 1)) (y_idxArr b5 (0) 6 ((s.qg[i]!).qp) Tryz.underlying166 ti2 rfl rfl (by omega) (by omega)) H ?_
  refine tL 5 rfl rfl (fun _ h => h.cell 2 rfl (ints_at (iv := (s.qg[i]!).qp) (i := (((s.qg[i]!).qp).toNat)) (by omega) (by simp only [List.length_set, List.length_cons, List.length_nil, minus_len, Xn]; omega))) H ?_
  refine rtp 6 (.bool (((s.qg[i]!).zg : Int) == ((bests s t (-1) 6 k)[((s.qg[i]!).qp).toNat]!))) H ?_
  refine rtp 7 (.bool (((s.qg[i]!).zg : Int) == ((bests s t (-1) 6 k)[((s.qg[i]!).qp).toNat]!))) H ?_
  cases h41 : (((s.qg[i]!).zg : Int) == ((bests s t (-1) 6 k)[((s.qg[i]!).qp).toNat]!))
  ·skip
   replace h41 := ne_of_beq_false h41
   refine zo [8, 9, 10, 11] 4 (H) (rtp 12 (.bool false) H ?_)
   refine xy (by kernel_rfl) (t_n (xn false rfl (fun h => absurd h (by decide)) (fun _ => qK (b_n (t_n (xH (sw (xX i 1 rfl rfl (by omega) (sp (.int .i64 (i + 1)) (xG (qR (m' := (s.qg.length - ((i + 1) : Int)).toNat) (by omega) ⟨_, zW, xZ, zH, (applL s t i), i + 1, uE7, ?_, ?_, rfl, N, H.pick [1, 2, 3, 4] [7, 8, 9, 10, 11]⟩)))))))))))
   · first | exact applL_yes (appl_yes (n := 6) (z := -1) (k := k) (by omega) (by omega) (by omega) q6 ‹_› ‹_›) | exact applL_no (appl_no (n := 6) (z := -1) (k := k) (by omega) (by omega) (by omega) q6 ‹_›) | exact applL_no (fun h => ‹¬ EnOk _ _ _› h.1)
   · omega
  replace h41 := eq_of_beq h41
  refine rg 8 (.agg #[.int .i64 s.qJ, .slice qo s.qf.length qm, .slice (aa b33 o34) s.qg.length qA]) 57 (Qm (cs := [.int .i64 s.qJ, .slice qo s.qf.length qm, .slice (aa b33 o34) s.qg.length qA]) Tryz.isAgg36 Tryz.sizeOf36 rfl (fun _ h => qw (h.cells 4 rfl) 0 3)) H ?_
  refine rg 9 (.agg #[.slice qN t.qh.length qL, .slice xh t.ql.length qZ, .slice qG t.qj.length qF]) 57 (Qm (cs := [.slice qN t.qh.length qL, .slice xh t.ql.length qZ, .slice qG t.qj.length qF]) Tryz.isAgg38 Tryz.sizeOf38 rfl (fun _ h => qw (h.cells 3 rfl) 0 3)) H ?_
  refine rg 10 (.agg #[.int .i64 ((s.qg[i]!).qp), .int .i64 ((s.qg[i]!).zg), .slice ae36Need (((s.qg[i]!).qV).length) ce36Need, .slice ae36Have (((s.qg[i]!).xg).length) ce36Have, .slice ae36Lack (((s.qg[i]!).xm).length) ce36Lack, .slice ae36Here (((s.qg[i]!).xq).length) ce36Here, .slice ae36Out (((s.qg[i]!).zq).length) ce36Out, .slice ae36Into (((s.qg[i]!).qI).length) ce36Into, .bool ((s.qg[i]!).xO)]) 57 (Qm (cs := [.int .i64 ((s.qg[i]!).qp), .int .i64 ((s.qg[i]!).zg), .slice ae36Need (((s.qg[i]!).qV).length) ce36Need, .slice ae36Have (((s.qg[i]!).xg).length) ce36Have, .slice ae36Lack (((s.qg[i]!).xm).length) ce36Lack, .slice ae36Here (((s.qg[i]!).xq).length) ce36Here, .slice ae36Out (((s.qg[i]!).zq).length) ce36Out, .slice ae36Into (((s.qg[i]!).qI).length) ce36Into, .bool ((s.qg[i]!).xO)]) Tryz.isAgg121 Tryz.sizeOf121 rfl (fun _ h => qw (h.cells 0 rfl) 0 9)) H ?_
  refine vT [11] (by kernel_rfl) (by simp) (r_opG rfl (e := 57) rfl rfl (oq (isEnabled_ok _ s t (s.qg[i]!) (H.get 7 rfl).1 (H.get 8 rfl).1 (H.get 9 rfl).1 (H.get 10 rfl).1 (H.get 11 rfl).1 (H.get 0 rfl).1 (H.get 1 rfl).1 (H.get 2 rfl).1 (H.get 3 rfl).1 (H.get 4 rfl).1 (H.get 5 rfl).1 (by first | assumption | omega) (by first | assumption | omega) (by first | assumption | omega)) H fun w43 H => ⟨H, (rtp 12 (.bool (dec (EnOk s t (s.qg[i]!)))) H ?_)⟩) vU)
  refine xy (by kernel_rfl) (t_n (cP rfl (fun h45 => ?_) (fun h45 => ?_)))
  ·skip
   refine xH (sps [.slice zW xZ zH, .int .i64 i] (sw (zM H Tryz.underlying22 ti2 [.int .i64 i] fun b46 w47 H => sw (zV H 2 rfl 0 rfl Tryz.underlying22 ti2 rfl (by decide) rfl rfl rfl (by simp [Value.oneCell', Value.cells]) (by unfold maxLen; omega) (by omega) fun a48 c49 w50 H => ?_))))
   rw [snocI] at H
   refine sp (.slice a48 (xZ + 1) c49) (xG (b_n (t_n (xH (sw (xX i 1 rfl rfl (by omega) (sp (.int .i64 (i + 1)) (xG (qR (m' := (s.qg.length - ((i + 1) : Int)).toNat) (by omega) ⟨_, a48, xZ + 1, c49, ((applL s t i) ++ [(i : Int)]), i + 1, uE7, ?_, ?_, rfl, N, H.pick [2, 3, 4, 5] [7, 8, 9, 10, 11]⟩)))))))))
   · first | exact applL_yes (appl_yes (n := 6) (z := -1) (k := k) (by omega) (by omega) (by omega) q6 ‹_› ‹_›) | exact applL_no (appl_no (n := 6) (z := -1) (k := k) (by omega) (by omega) (by omega) q6 ‹_›) | exact applL_no (fun h => ‹¬ EnOk _ _ _› h.1)
   · omega
  refine qK (b_n (t_n (xH (sw (xX i 1 rfl rfl (by omega) (sp (.int .i64 (i + 1)) (xG (qR (m' := (s.qg.length - ((i + 1) : Int)).toNat) (by omega) ⟨_, zW, xZ, zH, (applL s t i), i + 1, uE7, ?_, ?_, rfl, N, H.pick [1, 2, 3, 4] [7, 8, 9, 10, 11]⟩))))))))
  · first | exact applL_yes (appl_yes (n := 6) (z := -1) (k := k) (by omega) (by omega) (by omega) q6 ‹_› ‹_›) | exact applL_no (appl_no (n := 6) (z := -1) (k := k) (by omega) (by omega) (by omega) q6 ‹_›) | exact applL_no (fun h => ‹¬ EnOk _ _ _› h.1)
  · omega
 refine zx4 (zcr (sps [.slice zW xZ zH, .slice zW xZ zH] (zjr (ret1 (.slice zW xZ zH) rfl rfl ⟨_, rfl, ?_, H.base⟩))))
 obtain rfl : i = s.qg.length := by omega
 exact ⟨zW, xZ, zH, rfl, N, H.pick [0] []⟩
end
end Go.Proofs.YtgjnaocffdhnbaaGreat
