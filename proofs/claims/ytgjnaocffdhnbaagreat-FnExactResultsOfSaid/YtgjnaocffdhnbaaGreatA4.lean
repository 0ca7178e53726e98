/- Walks and laws, printed by program and by hand: what each function comes to, for all arguments, part 4. -/
import Derived.Test.YtgjnaocffdhnbaaGreatA3
namespace Go.Proofs.YtgjnaocffdhnbaaGreat
set_option linter.unusedVariables false
set_option linter.unusedSimpArgs false
open Go.Proofs.YtgjnaocffdhnbaaGreat.Tot (tot)
open Go.Proofs.YtgjnaocffdhnbaaGreat.Mark (cnt mrk mkd mkd_mark cnt_mark)
section
open Go.Proofs.Tryz
open Go.RowKit
set_option linter.unusedVariables false
set_option linter.unusedSimpArgs false
set_option maxRecDepth 100000
set_option maxHeartbeats 4000000
variable {qB qJ yY Qb yZ Qa XO yB qR xk qK cl cm bs os bt ot ccounts : Nat}
theorem isShell_ok (w:World) (s:qI) {qC:yOA} {qZ:yLN} {qN:yOA} {xG:yLN} (xf:qO.rep w qZ [Sv qC s.qw.length qB] s.qw) (xJ:qO.rep w xG [Sv qN s.qx.length qJ] s.qx):Calls Tryz.prog 138 #[.agg #[yI s.xB,Sv qC s.qw.length qB,Sv qN s.qx.length qJ]] w (Ret (fun v w' =>v=Bv (dec (Qx s))) w):=by
 refine en func138 ntmps138 ?_
 have H:=((St.start w).arg xJ).arg xf
 have vH:=qM xf
 have jw:=qM xJ
 clear xf xJ
 have N:=Fresh.nil w.heap.size
 refine zcr (sw (vU H (yS s qC qB qN qJ) fun b1 w2 H=>sp (Bv false) (zjcc (oF rfl (oL rfl (H.cell 0 rfl rfl) (sw (oq (VX w2 s.xB 1 8) H fun w3 H=>sps [Bv (!(inR s.xB 1 8)),Bv (!(inR s.xB 1 8))] ?_)))))))
 cases h5:(!(inR s.xB 1 8))
 ·skip
  replace h5:=xg h5
  replace h5:=XA.1 h5
  refine qQ 9 rfl rfl (oF rfl (qQ 9 rfl rfl (oL rfl (H.cell 0 rfl rfl) (qQ 9 rfl rfl (sw (oq (sizeI_ok _ s.qw (H.get 0 rfl).1) H fun w6 H=>qQ 9 rfl rfl (sw (oq (VX w6 (s.qw.length:Int) 1 6) H fun w8 H=>qQ 9 rfl rfl (sps [Bv (!(inR (s.qw.length:Int) 1 6)),Bv (!(inR (s.qw.length:Int) 1 6)),Bv (!(inR (s.qw.length:Int) 1 6))] ?_)))))))))
  cases h10:(!(inR (s.qw.length:Int) 1 6))
  ·skip
   replace h10:=xg h10
   replace h10:=XA.1 h10
   refine qQ 16 rfl rfl (oF rfl (qQ 16 rfl rfl (oL rfl (H.cell 0 rfl rfl) (qQ 16 rfl rfl ?_))))
   obtain ⟨b11,o12,rfl⟩:=H.addr 0 rfl qf
   refine oI rfl rfl (qQ 16 rfl rfl (oL rfl (H.jY 0 rfl 0 qf qf) (qQ 16 rfl rfl (sps [Bv ((s.qw[0]! :Int) != (-1)),Bv ((s.qw[0]! :Int) != (-1))] (zjn (xE ((s.qw[0]! :Int) != (-1)) rfl (fun h14=>?_) (fun h14=>?_)))))))
   ·skip
    replace h14:=bne_iff_ne.1 h14
    refine zcr (sp (Bv false) (zjr (t_r (ret1 (Bv false) rfl rfl ⟨_,rfl,?_,H.base⟩))))
    rw [xx (fun h=>by obtain ⟨h1,h2,h3,h4⟩:=h;first | omega | (have:=h4 (c+1) qf qf;rw [← dg qf] at this;omega))]
   replace h14:=xw h14
   refine qW (t_n (zcc (oF rfl (oL rfl (H.cell 0 rfl rfl) (sw (o_tail H 0 rfl 1 underlying22 ti2 rfl qf fun a15 G16 hG17 H=>?_))))))
   have hl18:(s.qw.drop 1).length=s.qw.length - 1:=List.length_drop
   refine oN rfl (sp (yI 0) (zjn (qX ?_)))
   refine zD (fun m' ρ w19=>∃ (xY:Env) (c:Nat),ρ=upd (upd (upd xY 25 (Sv a15 ((s.qw.drop 1).length) (qB - 1))) 26 (yI ((s.qw.drop 1).length))) 27 (yI c)∧((c:Int)≤((s.qw.drop 1).length))∧(FrameTo s (c+1))∧m' =(((s.qw.drop 1).length) - (c:Int)).toNat∧Fresh w.heap.size []∧St w w19 [.box b1 [yI s.xB,Sv (aa b11 o12) s.qw.length qB,Sv qN s.qx.length qJ] 36] [sF false G16 a15 (qB - 1) (s.qw.drop 1),sF false qZ (aa b11 o12) qB s.qw,sF false xG qN qJ s.qx]) ((((s.qw.drop 1).length) - (0:Int)).toNat) ⟨_,0,uE3,qf,(by exact FrameTo.one s),rfl,N,H⟩ ?_
   clear H N
   rintro m' ρ w20 ⟨xY,c,rfl,i0,i1,rfl,N,H⟩
   have dg:=drop_get (l:=s.qw) (k:=c)
   refine zcr (sp (Bv (decide ((c:Int) < ((s.qw.drop 1).length)))) (zjn (xQ (cD rfl (fun h21=>?_) (fun h21=>?_)))))
   ·skip
    refine qW (t_n (xQ (qX (zcr (sp (yI c) ?_)))))
    obtain ⟨b22,o23,rfl⟩:=H.addr 0 rfl qf
    refine oI rfl rfl (oL rfl (H.jY 0 rfl c qf qf) (sps [yI c,yI ((s.qw.drop 1)[c]!)] (zjc (sps [yI ((s.qw.drop 1)[c]!),yI c] (sw (oq (VX w20 ((s.qw.drop 1)[c]!) 0 c) H fun w25 H=>sp (Bv (!(inR ((s.qw.drop 1)[c]!) 0 c))) (zjn (xE (!(inR ((s.qw.drop 1)[c]!) 0 c)) rfl (fun h27=>?_) (fun h27=>?_)))))))))
    ·skip
     replace h27:=xq h27
     replace h27:=Vh h27
     refine zcr (sp (Bv false) (zjr (zr5 (ret1 (Bv false) rfl rfl ⟨_,rfl,?_,H.base⟩))))
     rw [xx (fun h=>by obtain ⟨h1,h2,h3,h4⟩:=h;first | omega | (have:=h4 (c+1) qf qf;rw [← dg qf] at this;omega))]
    replace h27:=xg h27
    replace h27:=XA.1 h27
    refine qW (b_n (t_n (xO (sw (zB c 1 rfl rfl qf (sp (yI (c+1)) (xM (qY (m' :=(((s.qw.drop 1).length) - ((c+1):Int)).toNat) qf ⟨_,c+1,uE3,?_,?_,rfl,N,H⟩))))))))
    · omega
    · exact i1.succ (by rw [← dg qf];omega)
   refine zx4 (zcr (sp (Bv true) (zjr (ret1 (Bv true) rfl rfl ⟨_,rfl,?_,H.base⟩))))
   rw [yH ⟨by omega,by omega,by omega,(show s.qw.length=c+1 by omega)▸i1⟩]
  replace h10:=xq h10
  replace h10:=Vh h10
  refine zk [17,18,19,20,21] (sp (Bv true) (zjn (xE true rfl (fun _=>zcr (sp (Bv false) (zjr (t_r (ret1 (Bv false) rfl rfl ⟨_,rfl,?_,H.base⟩))))) (fun h=>absurd h qj))))
  rw [xx (fun h=>by obtain ⟨h1,h2,h3,h4⟩:=h;first | omega | (have:=h4 (c+1) qf qf;rw [← dg qf] at this;omega))]
 replace h5:=xq h5
 replace h5:=Vh h5
 refine zk [10,11,12,13,14] (sps [Bv true,Bv true] (zk [17,18,19,20,21] (sp (Bv true) (zjn (xE true rfl (fun _=>zcr (sp (Bv false) (zjr (t_r (ret1 (Bv false) rfl rfl ⟨_,rfl,?_,H.base⟩))))) (fun h=>absurd h qj))))))
 rw [xx (fun h=>by obtain ⟨h1,h2,h3,h4⟩:=h;first | omega | (have:=h4 (c+1) qf qf;rw [← dg qf] at this;omega))]

theorem isCell_ok (w:World) (s:qI) (c:Int) {qC:yOA} {qZ:yLN} {qN:yOA} {xG:yLN} (xf:qO.rep w qZ [Sv qC s.qw.length qB] s.qw) (xJ:qO.rep w xG [Sv qN s.qx.length qJ] s.qx):Calls Tryz.prog 173 #[.agg #[yI s.xB,Sv qC s.qw.length qB,Sv qN s.qx.length qJ],yI c] w (Ret (fun v w' =>v=Bv (inR c 0 ((s.qw.length:Int) - 1))) w):=by
 refine en func173 ntmps173 ?_
 have H:=((St.start w).arg xJ).arg xf
 have vH:=qM xf
 have jw:=qM xJ
 clear xf xJ
 have N:=Fresh.nil w.heap.size
 refine zcr (sw (vU H (yS s qC qB qN qJ) fun b1 w2 H=>sp (Bv false) (zjc (sp (yI c) (oF rfl (oL rfl (H.cell 0 rfl rfl) (sw (oq (sizeI_ok _ s.qw (H.get 0 rfl).1) H fun w3 H=>sw (o_sub (s.qw.length:Int) 1 rfl rfl qf (sw (oq (VX w3 c 0 ((s.qw.length:Int) - 1)) H fun w5 H=>sp (Bv (inR c 0 ((s.qw.length:Int) - 1))) (zjr (ret1 (Bv (inR c 0 ((s.qw.length:Int) - 1))) rfl rfl ⟨_,rfl,?_,H.base⟩)))))))))))))
 rfl

theorem lies_ok (w:World) (s:qI) (c:Int) (within:Int) {qC:yOA} {qZ:yLN} {qN:yOA} {xG:yLN} (xf:qO.rep w qZ [Sv qC s.qw.length qB] s.qw) (xJ:qO.rep w xG [Sv qN s.qx.length qJ] s.qx) (p0:Qx s) (p1:CellIn s c):Calls Tryz.prog 174 #[.agg #[yI s.xB,Sv qC s.qw.length qB,Sv qN s.qx.length qJ],yI c,yI within] w (Ret (fun v w' =>v=Bv (dec (Lies s.qw within c))) w):=by
 refine en func174 ntmps174 ?_
 have H:=((St.start w).arg xJ).arg xf
 have vH:=qM xf
 have jw:=qM xJ
 clear xf xJ
 have N:=Fresh.nil w.heap.size
 have p2:=p0.step p1.1 p1.2
 refine zcr (sw (vU H (yS s qC qB qN qJ) fun b1 w2 H=>sp (Bv false) (zjcc (oF rfl (oL rfl (H.cell 0 rfl rfl) (sp (yI c) ?_))))))
 obtain ⟨b3,o4,rfl⟩:=H.addr 0 rfl qf
 refine oI rfl rfl (oL rfl (H.jY 0 rfl c qf qf) (sp (yI (s.qw[c.toNat]!)) (zjn (qX ?_))))
 refine zD (fun m' ρ w6=>∃ (xY:Env) (c_1:Int),ρ=upd (upd (upd xY 1 (yI c_1)) 2 (yI within)) 3 (pp b1 0)∧(-1≤c_1∧c_1≤(s.qw.length:Int) - 1)∧(Lies s.qw within c↔0≤c_1∧(c_1=within∨Lies s.qw within c_1))∧m' =(c_1+1).toNat∧Fresh w.heap.size []∧St w w6 [.box b1 [yI s.xB,Sv (aa b3 o4) s.qw.length qB,Sv qN s.qx.length qJ] 36] [sF false qZ (aa b3 o4) qB s.qw,sF false xG qN qJ s.qx]) (((s.qw[c.toNat]!)+1).toNat) ⟨_,s.qw[c.toNat]!,uE3,qf,(by exact lies_up p0 p1),rfl,N,H⟩ ?_
 clear H N
 rintro m' ρ w7 ⟨xY,c_1,rfl,i0,i1,rfl,N,H⟩
 have up:=fun h=>p0.step (c:=c_1) h i0.2
 refine zcc (sps [yI c_1,Bv (decide ((c_1:Int)≥0))] (zjn (cD rfl (fun h8=>?_) (fun h8=>?_))))
 ·skip
  refine qW (t_n (xQ (qX (zcr (sps [yI c_1,yI within,Bv ((c_1:Int) == within)] (zjn (cE rfl (fun h9=>?_) (fun h9=>?_))))))))
  ·skip
   refine zcr (sp (Bv true) (zjr (zr5 (ret1 (Bv true) rfl rfl ⟨_,rfl,?_,H.base⟩))))
   rw [yH (i1.2 ⟨by omega,.inl ‹_›⟩)]
  refine qW (b_n (t_n (xO (oF rfl (oL rfl (H.cell 0 rfl rfl) (sp (yI c_1) (oI rfl rfl (oL rfl (H.jY 0 rfl c_1 qf qf) (sp (yI (s.qw[c_1.toNat]!)) (xM ?_))))))))))
  have up1:=up qf
  refine qY (m' :=((s.qw[c_1.toNat]!)+1).toNat) qf ⟨_,s.qw[c_1.toNat]!,uE3,?_,?_,rfl,N,H⟩
  · omega
  · exact i1.trans ⟨fun h=>(lies_up p0 ⟨by omega,by omega⟩).1 (h.2.resolve_left ‹_›),fun h=>⟨by omega,.inr ((lies_up p0 ⟨by omega,by omega⟩).2 h)⟩⟩
 refine zx4 (zcr (sp (Bv false) (zjr (ret1 (Bv false) rfl rfl ⟨_,rfl,?_,H.base⟩))))
 rw [xx (fun h=>by have:=(i1.1 h).1;omega)]

theorem isRule_ok (w:World) (s:qI) (r:Xg) {qC:yOA} {qZ:yLN} {qN:yOA} {xG:yLN} {Qd:yOA} {YM:yLN} {Qh:yOA} {YP:yLN} {Qe:yOA} {YN:yLN} {Qg:yOA} {YO:yLN} {XP:yOA} {FrOut:yLN} {yD:yOA} {FrInto:yLN} (xf:qO.rep w qZ [Sv qC s.qw.length qB] s.qw) (xJ:qO.rep w xG [Sv qN s.qx.length qJ] s.qx) (hrNeed:qO.rep w YM [Sv Qd r.xn.length yY] r.xn) (hrHave:qO.rep w YP [Sv Qh r.xF.length Qb] r.xF) (hrLack:qO.rep w YN [Sv Qe r.xI.length yZ] r.xI) (hrHere:qO.rep w YO [Sv Qg r.xK.length Qa] r.xK) (hrOut:qO.rep w FrOut [Sv XP r.ve.length XO] r.ve) (hrInto:qO.rep w FrInto [Sv yD r.qU.length yB] r.qU) (p0:Qx s):Calls Tryz.prog 139 #[.agg #[yI s.xB,Sv qC s.qw.length qB,Sv qN s.qx.length qJ],.agg #[yI r.qG,yI r.zS,Sv Qd r.xn.length yY,Sv Qh r.xF.length Qb,Sv Qe r.xI.length yZ,Sv Qg r.xK.length Qa,Sv XP r.ve.length XO,Sv yD r.qU.length yB,Bv r.zH]] w (Ret (fun v w' =>v=Bv (dec (RuleOk s r))) w):=by
 refine en func139 ntmps139 ?_
 have H:=((((((((St.start w).arg hrInto).arg hrOut).arg hrHere).arg hrLack).arg hrHave).arg hrNeed).arg xJ).arg xf
 have vH:=qM xf
 have jw:=qM xJ
 have nhrNeed:=qM hrNeed
 have nhrHave:=qM hrHave
 have nhrLack:=qM hrLack
 have nhrHere:=qM hrHere
 have nhrOut:=qM hrOut
 have nhrInto:=qM hrInto
 clear xf xJ hrNeed hrHave hrLack hrHere hrOut hrInto
 have N:=Fresh.nil w.heap.size
 refine zcr (sw (vU H (yS s qC qB qN qJ) fun b1 w2 H=>sw (vU H [yI r.qG,yI r.zS,Sv Qd r.xn.length yY,Sv Qh r.xF.length Qb,Sv Qe r.xI.length yZ,Sv Qg r.xK.length Qa,Sv XP r.ve.length XO,Sv yD r.qU.length yB,Bv r.zH] fun b3 w4 H=>sp (Bv false) (zjcc ?_))))
 refine sw (zl (yS s qC qB qN qJ) isAgg36 sizeOf36 rfl (qF (H.cells 1 rfl) 0 3) (oF rfl (oL rfl (H.cell 0 rfl rfl) (sw (oq (isCell_ok _ s r.qG (H.get 0 rfl).1 (H.get 1 rfl).1) H fun w6 H=>sps [Bv (!(inR r.qG 0 ((s.qw.length:Int) - 1))),Bv (!(inR r.qG 0 ((s.qw.length:Int) - 1)))] ?_)))))
 cases h8:(!(inR r.qG 0 ((s.qw.length:Int) - 1)))
 ·skip
  replace h8:=xg h8
  replace h8:=XA.1 h8
  refine qQ 14 rfl rfl (oF rfl (qQ 14 rfl rfl (oL rfl (H.cell 0 rfl rfl) (qQ 14 rfl rfl (sw (oq (VX w6 r.zS 0 9) H fun w9 H=>qQ 14 rfl rfl (sps [Bv (!(inR r.zS 0 9)),Bv (!(inR r.zS 0 9)),Bv (!(inR r.zS 0 9))] ?_)))))))
  cases h11:(!(inR r.zS 0 9))
  ·skip
   replace h11:=xg h11
   replace h11:=XA.1 h11
   refine qQ 20 rfl rfl (oF rfl (qQ 20 rfl rfl (oL rfl (H.cell 0 rfl rfl) (qQ 20 rfl rfl (sp (Bv r.zH) ?_)))))
   cases h12:(r.zH)
   ·skip
    rw [h12] at H
    refine zk [24,25,26] (qQ 20 rfl rfl (sps [Bv false,Bv false,Bv false] (qQ 29 rfl rfl (oF rfl (qQ 29 rfl rfl (oL rfl (H.cell 0 rfl rfl) (qQ 29 rfl rfl (oN rfl (qQ 29 rfl rfl (sps [Bv (decide ((r.qU.length:Int) > 3)),Bv (decide ((r.qU.length:Int) > 3))] (zjn (cD rfl (fun h13=>?_) (fun h13=>?_)))))))))))))
    ·skip
     refine zcr (sp (Bv false) (zjr (t_r (ret1 (Bv false) rfl rfl ⟨_,rfl,?_,H.base⟩))))
     rw [xx (fun h=>by obtain ⟨h1,h2,h3,h4,h5,h6,h7,h8,h9,h10,h11⟩:=h;first | contradiction | omega | exact h3 ⟨‹_›,‹_›⟩ | (obtain ⟨q1,q2,q3,q4,q5⟩:=h11 i qf;first | contradiction | omega | (have:=q5 qf;omega)) | (refine absurd ?_ ‹¬ vI _ _›;rcases (show k=0∨k=1∨k=2∨k=3∨k=4 by omega) with e | e | e | e | e <;> subst e <;> assumption))]
    refine qW (t_n (zcc (oF rfl (oL rfl (H.cell 0 rfl rfl) (oF rfl (oL rfl (H.cell 0 rfl rfl) (oF rfl (oL rfl (H.cell 0 rfl rfl) (oF rfl (oL rfl (H.cell 0 rfl rfl) (oF rfl (oL rfl (H.cell 0 rfl rfl) (sw (o_buildF H underlying27 ti22 [Sv Qd r.xn.length yY,Sv Qh r.xF.length Qb,Sv Qe r.xI.length yZ,Sv Qg r.xK.length Qa,Sv XP r.ve.length XO] rfl (by simp [Value.cells]) rfl qj qj fun b14 w15 H=>oN rfl (sp (yI 0) (zjn (qX ?_)))))))))))))))))
    replace H:=H.boxRow 0 rfl 1 5 rfl qj
    replace H:=H.vT (α:=yLI)
    replace H:=H.YR false 7 rfl 0 rfl qm
    replace H:=H.YR false 7 rfl 0 rfl qm
    replace H:=H.YR false 7 rfl 0 rfl qm
    replace H:=H.YR false 7 rfl 0 rfl qm
    replace H:=H.YR false 7 rfl 0 rfl qm
    refine zD (fun m' ρ w16=>∃ (xY:Env) (k:Nat),ρ=upd (upd (upd (upd (upd xY 2 (pp b1 0)) 3 (pp b3 0)) 45 (Sv (aa b14 0) 5 5)) 46 (yI 5)) 47 (yI k)∧((k:Int)≤5)∧(∀ j,j < k→vI s.xB ([r.xn,r.xF,r.xI,r.xK,r.ve][j]!))∧m' =(5 - (k:Int)).toNat∧Fresh w.heap.size []∧St w w16 [rr (aa b14 0) 5 5 22 1 [Sv Qd r.xn.length yY,Sv Qh r.xF.length Qb,Sv Qe r.xI.length yZ,Sv Qg r.xK.length Qa,Sv XP r.ve.length XO],.box b3 [yI r.qG,yI r.zS,Sv Qd r.xn.length yY,Sv Qh r.xF.length Qb,Sv Qe r.xI.length yZ,Sv Qg r.xK.length Qa,Sv XP r.ve.length XO,Sv yD r.qU.length yB,Bv false] 121,.box b1 (yS s qC qB qN qJ) 36] [zf false (YM++(YP++(YN++(YO++(FrOut++[]))))) [Sv Qd r.xn.length yY,Sv Qh r.xF.length Qb,Sv Qe r.xI.length yZ,Sv Qg r.xK.length Qa,Sv XP r.ve.length XO] [r.xn,r.xF,r.xI,r.xK,r.ve],sF false qZ qC qB s.qw,sF false xG qN qJ s.qx,sF false YM Qd yY r.xn,sF false YP Qh Qb r.xF,sF false YN Qe yZ r.xI,sF false YO Qg Qa r.xK,sF false FrOut XP XO r.ve,sF false FrInto yD yB r.qU]) ((5 - (0:Int)).toNat) ⟨_,0,uE5,qf,(by intro j hj;omega),rfl,N,H.pick [0,1,2] [0,6,7,8,9,10,11,12,13]⟩ ?_
    clear H N
    rintro m' ρ w17 ⟨xY,k,rfl,i0,i1,rfl,N,H⟩
    refine zcr (sp (Bv (decide ((k:Int) < 5))) (zjn (xQ (cD rfl (fun h18=>?_) (fun h18=>?_)))))
    ·skip
     refine qW (t_n (xQ (qX (zcr (oI rfl rfl ?_)))))
     obtain ⟨a19,c20,G21,s22,h23,H⟩:=H.yw 0 rfl 0 rfl (iv:=k) k qf qf
     refine oL rfl (h23) (sp (Sv a19 (([r.xn,r.xF,r.xI,r.xK,r.ve][k]!).length) c20) (zjc (oF rfl (oL rfl (H.cell 2 rfl rfl) (sp (Sv a19 (([r.xn,r.xF,r.xI,r.xK,r.ve][k]!).length) c20) (sw (oq (YV _ s.xB ([r.xn,r.xF,r.xI,r.xK,r.ve][k]!) (H.get 0 rfl).1) H fun w24 H=>sp (Bv (!(dec (vI s.xB ([r.xn,r.xF,r.xI,r.xK,r.ve][k]!))))) (zjn (cQ rfl (fun h26=>?_) (fun h26=>?_))))))))))
     ·skip
      refine zcr (sp (Bv false) (zjr (zr5 (ret1 (Bv false) rfl rfl ⟨_,rfl,?_,H.base⟩))))
      rw [xx (fun h=>by obtain ⟨h1,h2,h3,h4,h5,h6,h7,h8,h9,h10,h11⟩:=h;first | contradiction | omega | exact h3 ⟨‹_›,‹_›⟩ | (obtain ⟨q1,q2,q3,q4,q5⟩:=h11 i qf;first | contradiction | omega | (have:=q5 qf;omega)) | (refine absurd ?_ ‹¬ vI _ _›;rcases (show k=0∨k=1∨k=2∨k=3∨k=4 by omega) with e | e | e | e | e <;> subst e <;> assumption))]
     refine qW (b_n (t_n (xO (sw (zB k 1 rfl rfl qf (sp (yI (k+1)) (xM (qY (m' :=(5 - ((k+1):Int)).toNat) qf ⟨_,k+1,uE5,?_,?_,rfl,N,H.pick [0,1,2] [1,2,3,4,5,6,7,8,9]⟩))))))))
     · omega
     · intro j hj;by_cases e:j=k;(subst e;assumption);exact i1 j qf
    refine zx4 (zcc (oF rfl (oL rfl (H.cell 1 rfl rfl) (oN rfl (sp (yI 0) (zjn (qX ?_)))))))
    have n1:vI s.xB r.xn:=i1 0 qf
    have n2:vI s.xB r.xF:=i1 1 qf
    have n3:vI s.xB r.xI:=i1 2 qf
    have n4:vI s.xB r.xK:=i1 3 qf
    have n5:vI s.xB r.ve:=i1 4 qf
    refine zD (fun m' ρ w27=>∃ (xY:Env) (i:Nat),ρ=upd (upd (upd (upd (upd xY 2 (pp b1 0)) 3 (pp b3 0)) 58 (Sv yD r.qU.length yB)) 59 (yI r.qU.length)) 60 (yI i)∧((i:Int)≤r.qU.length)∧(IntosTo s r i)∧m' =(r.qU.length - (i:Int)).toNat∧Fresh w.heap.size []∧St w w27 [rr (aa b14 0) 5 5 22 1 [Sv Qd r.xn.length yY,Sv Qh r.xF.length Qb,Sv Qe r.xI.length yZ,Sv Qg r.xK.length Qa,Sv XP r.ve.length XO],.box b3 [yI r.qG,yI r.zS,Sv Qd r.xn.length yY,Sv Qh r.xF.length Qb,Sv Qe r.xI.length yZ,Sv Qg r.xK.length Qa,Sv XP r.ve.length XO,Sv yD r.qU.length yB,Bv false] 121,.box b1 (yS s qC qB qN qJ) 36] [zf false (YM++(YP++(YN++(YO++(FrOut++[]))))) [Sv Qd r.xn.length yY,Sv Qh r.xF.length Qb,Sv Qe r.xI.length yZ,Sv Qg r.xK.length Qa,Sv XP r.ve.length XO] [r.xn,r.xF,r.xI,r.xK,r.ve],sF false qZ qC qB s.qw,sF false xG qN qJ s.qx,sF false YM Qd yY r.xn,sF false YP Qh Qb r.xF,sF false YN Qe yZ r.xI,sF false YO Qg Qa r.xK,sF false FrOut XP XO r.ve,sF false FrInto yD yB r.qU]) ((r.qU.length - (0:Int)).toNat) ⟨_,0,uE5,qf,(by exact fun j hj=>by omega),rfl,N,H⟩ ?_
    clear H N
    rintro m' ρ w28 ⟨xY,i,rfl,i0,i2,rfl,N,H⟩
    refine zcr (sp (Bv (decide ((i:Int) < r.qU.length))) (zjn (xQ (cD rfl (fun h29=>?_) (fun h29=>?_)))))
    ·skip
     refine qW (t_n (xQ (qX (zcr (sp (yI i) ?_)))))
     obtain ⟨b30,o31,rfl⟩:=H.addr 8 rfl qf
     obtain ⟨ae33Bag,ce33Bag,Fe33Bag,H⟩:=H.yh 8 rfl i i qf qf qf
     refine oI rfl rfl (sw (zl [yI ((r.qU[i]!).qG),Sv ae33Bag (((r.qU[i]!).jJ).length) ce33Bag] isAgg164 sizeOf164 rfl (qF (H.get 1 rfl) 0 2) (sw (zh H ti164 [yI 0,yN] fun b34 w35 H=>sp (yI i) (sw (zF H 0 [yI ((r.qU[i]!).qG),Sv ae33Bag (((r.qU[i]!).jJ).length) ce33Bag] sizeOf164 fun w36 H=>zjn (xQ ?_)))))))
     refine jh rfl H fun H=>rt 0 (.agg #[yI s.xB,Sv qC s.qw.length qB,Sv qN s.qx.length qJ]) (QL (cs:=(yS s qC qB qN qJ)) isAgg36 sizeOf36 rfl (fun _ h=>qF (h.cells 3 rfl) 0 3)) H ?_
     refine tF 1 rfl rfl H ?_
     refine tL 2 rfl rfl (fun _ h=>h.cell 0 rfl rfl) H ?_
     refine ro 3 rfl (oq (isCell_ok _ s ((r.qU[i]!).qG) (H.get 3 rfl).1 (H.get 4 rfl).1) H fun w39 H=>⟨H,(rtp 4 (Bv (!(inR ((r.qU[i]!).qG) 0 ((s.qw.length:Int) - 1)))) H ?_)⟩)
     refine rtp 5 (Bv (!(inR ((r.qU[i]!).qG) 0 ((s.qw.length:Int) - 1)))) H ?_
     cases h41:(!(inR ((r.qU[i]!).qG) 0 ((s.qw.length:Int) - 1)))
     ·skip
      replace h41:=xg h41
      replace h41:=XA.1 h41
      refine rg 6 (.agg #[yI s.xB,Sv qC s.qw.length qB,Sv qN s.qx.length qJ]) 70 (QL (cs:=(yS s qC qB qN qJ)) isAgg36 sizeOf36 rfl (fun _ h=>qF (h.cells 3 rfl) 0 3)) H ?_
      refine gF 7 rfl rfl H ?_
      refine gL 8 rfl rfl (fun _ h=>h.cell 0 rfl rfl) H ?_
      refine gF 9 rfl rfl H ?_
      refine gL 10 rfl rfl (fun _ h=>h.cell 2 rfl rfl) H ?_
      refine jK [11] qh qm (r_opG rfl (e:=70) rfl rfl (oq (lies_ok _ s ((r.qU[i]!).qG) r.qG (H.get 3 rfl).1 (H.get 4 rfl).1 qg qg) H fun w43 H=>⟨H,(rgp 12 (Bv (!(dec (Lies s.qw r.qG ((r.qU[i]!).qG))))) 70 H ?_)⟩) jL)
      refine rtp 13 (Bv (!(dec (Lies s.qw r.qG ((r.qU[i]!).qG))))) H ?_
      refine rtp 14 (Bv (!(dec (Lies s.qw r.qG ((r.qU[i]!).qG))))) H ?_
      cases h45:(!(dec (Lies s.qw r.qG ((r.qU[i]!).qG))))
      ·skip
       replace h45:=xg h45
       replace h45:=QU h45
       refine gF 15 rfl rfl H ?_
       refine gL 16 rfl rfl (fun _ h=>h.cell 3 rfl rfl) H ?_
       refine gF 17 rfl rfl H ?_
       refine gL 18 rfl rfl (fun _ h=>h.cell 0 rfl rfl) H ?_
       refine jK [19] qh qm (r_opG rfl (e:=79) rfl rfl (oq (YV _ s.xB ((r.qU[i]!).jJ) (H.get 0 rfl).1) H fun w46 H=>⟨H,(rgp 20 (Bv (!(dec (vI s.xB ((r.qU[i]!).jJ))))) 79 H ?_)⟩) jL)
       refine rtp 21 (Bv (!(dec (vI s.xB ((r.qU[i]!).jJ))))) H ?_
       refine rtp 22 (Bv (!(dec (vI s.xB ((r.qU[i]!).jJ))))) H ?_
       cases h48:(!(dec (vI s.xB ((r.qU[i]!).jJ))))
       ·skip
        replace h48:=xg h48
        replace h48:=QU h48
        refine gF 23 rfl rfl H ?_
        refine gL 24 rfl rfl (fun _ h=>h.cell 0 rfl rfl) H ?_
        refine jK [25] qh qm (r_opG rfl (e:=87) rfl rfl ?_ jL)
        have sm:Small ((r.qU[i]!).jJ):=vX (by first | assumption | exact i1 0 qf)
        refine oq (V6 _ ((r.qU[i]!).jJ) (H.get 0 rfl).1 (by first | assumption | exact vX ql | exact QD ql)) H fun w49 H=>⟨H,(rgp 26 (Bv ((Yd ((r.qU[i]!).jJ):Int) == 0)) 87 H ?_)⟩
        refine rtp 27 (Bv ((Yd ((r.qU[i]!).jJ):Int) == 0)) H ?_
        refine rtp 28 (Bv ((Yd ((r.qU[i]!).jJ):Int) == 0)) H ?_
        cases h51:((Yd ((r.qU[i]!).jJ):Int) == 0)
        ·skip
         replace h51:=ne_of_beq_false h51
         refine rgp 29 (yI i) 93 H ?_
         refine rgp 30 (Bv (decide ((i:Int) > 0))) 93 H ?_
         refine rgp 31 (Bv (decide ((i:Int) > 0))) 93 H ?_
         cases h52:(decide ((i:Int) > 0))
         ·skip
          replace h52:=of_decide_eq_false h52
          refine zZ [32,33,34,35,36,37,38,39,40,41] 10 (H) (rgp 42 (Bv false) 93 H ?_)
          refine rtp 43 (Bv false) H ?_
          refine xP qh (t_n (xE false rfl (fun h=>absurd h qj) (fun _=>qW (b_n (t_n (xO (sw (zB i 1 rfl rfl qf (sp (yI (i+1)) (xM (qY (m' :=(r.qU.length - ((i+1):Int)).toNat) qf ⟨_,i+1,uE5,?_,?_,rfl,N,H.pick [1,2,3] [2,3,4,5,6,7,8,9,10]⟩)))))))))))
          · omega
          · exact i2.succ ⟨‹_›,‹_›,‹_›,‹_›,fun hk=>by omega⟩
         replace h52:=of_decide_eq_true h52
         refine gF 32 rfl rfl H ?_
         refine gL 33 rfl rfl (fun _ h=>h.cell 0 rfl rfl) H ?_
         refine gF 34 rfl rfl H ?_
         refine gL 35 rfl rfl (fun _ h=>h.cell 2 rfl rfl) H ?_
         refine rgp 36 (yI i) 96 H ?_
         refine rg 37 (yI (i - 1)) 96 (y_sub i 1 rfl rfl qf) H ?_
         obtain ⟨ae53Bag,ce53Bag,Fe53Bag,H⟩:=H.yh 10 rfl (i - 1) (i - 1) qf qf qf
         have S:=H.yU [0,1,2,3] [2,3,4,5,6,7,8,9,10,11,12]
         refine gI 38 rfl rfl rfl S ?_
         refine gF 39 rfl rfl S ?_
         refine jK [40] qh qm (r_opG rfl (e:=96) rfl rfl (zT (yI ((r.qU[i - 1]!).qG)) isAgg2 rfl (H.xW 1 rfl 0 rfl) (⟨H.pick [0,1,2,3] [2,3,4,5,6,7,8,9,10,11,12],?_⟩)) jL)
         have S:=H.yU [0,1,2,3] [2,3,4,5,6,7,8,9,10,11,12]
         refine rgp 41 (Bv (decide (((r.qU[i]!).qG:Int)≤((r.qU[i - 1]!).qG)))) 96 S ?_
         refine rgp 42 (Bv (decide (((r.qU[i]!).qG:Int)≤((r.qU[i - 1]!).qG)))) 93 S ?_
         refine rtp 43 (Bv (decide (((r.qU[i]!).qG:Int)≤((r.qU[i - 1]!).qG)))) S ?_
         refine xP qh (t_n (cD rfl (fun h54=>?_) (fun h54=>?_)))
         ·skip
          refine zcr (sp (Bv false) (zjr (zr5 (ret1 (Bv false) rfl rfl ⟨_,rfl,?_,H.base⟩))))
          rw [xx (fun h=>by obtain ⟨h1,h2,h3,h4,h5,h6,h7,h8,h9,h10,h11⟩:=h;first | contradiction | omega | exact h3 ⟨‹_›,‹_›⟩ | (obtain ⟨q1,q2,q3,q4,q5⟩:=h11 i qf;first | contradiction | omega | (have:=q5 qf;omega)) | (refine absurd ?_ ‹¬ vI _ _›;rcases (show k=0∨k=1∨k=2∨k=3∨k=4 by omega) with e | e | e | e | e <;> subst e <;> assumption))]
         refine qW (b_n (t_n (xO (sw (zB i 1 rfl rfl qf (sp (yI (i+1)) (xM (qY (m' :=(r.qU.length - ((i+1):Int)).toNat) qf ⟨_,i+1,uE5,?_,?_,rfl,N,H.pick [1,2,3] [4,5,6,7,8,9,10,11,12]⟩))))))))
         · omega
         · exact i2.succ ⟨‹_›,‹_›,‹_›,‹_›,fun hk=>by omega⟩
        replace h51:=eq_of_beq h51
        refine zZ [29,30,31,32,33,34,35,36,37,38,39,40,41,42] 14 (H) (rtp 43 (Bv true) H ?_)
        refine xP qh (t_n (xE true rfl (fun _=>zcr (sp (Bv false) (zjr (zr5 (ret1 (Bv false) rfl rfl ⟨_,rfl,?_,H.base⟩))))) (fun h=>absurd h qj)))
        rw [xx (fun h=>by obtain ⟨h1,h2,h3,h4,h5,h6,h7,h8,h9,h10,h11⟩:=h;first | contradiction | omega | exact h3 ⟨‹_›,‹_›⟩ | (obtain ⟨q1,q2,q3,q4,q5⟩:=h11 i qf;first | contradiction | omega | (have:=q5 qf;omega)) | (refine absurd ?_ ‹¬ vI _ _›;rcases (show k=0∨k=1∨k=2∨k=3∨k=4 by omega) with e | e | e | e | e <;> subst e <;> assumption))]
       replace h48:=xq h48
       replace h48:=vG h48
       refine zZ [23,24,25,26] 4 (H) (rtp 27 (Bv true) H ?_)
       refine rtp 28 (Bv true) H ?_
       refine zZ [29,30,31,32,33,34,35,36,37,38,39,40,41,42] 14 (H) (rtp 43 (Bv true) H ?_)
       refine xP qh (t_n (xE true rfl (fun _=>zcr (sp (Bv false) (zjr (zr5 (ret1 (Bv false) rfl rfl ⟨_,rfl,?_,H.base⟩))))) (fun h=>absurd h qj)))
       rw [xx (fun h=>by obtain ⟨h1,h2,h3,h4,h5,h6,h7,h8,h9,h10,h11⟩:=h;first | contradiction | omega | exact h3 ⟨‹_›,‹_›⟩ | (obtain ⟨q1,q2,q3,q4,q5⟩:=h11 i qf;first | contradiction | omega | (have:=q5 qf;omega)) | (refine absurd ?_ ‹¬ vI _ _›;rcases (show k=0∨k=1∨k=2∨k=3∨k=4 by omega) with e | e | e | e | e <;> subst e <;> assumption))]
      replace h45:=xq h45
      replace h45:=vG h45
      refine zZ [15,16,17,18,19,20] 6 (H) (rtp 21 (Bv true) H ?_)
      refine rtp 22 (Bv true) H ?_
      refine zZ [23,24,25,26] 4 (H) (rtp 27 (Bv true) H ?_)
      refine rtp 28 (Bv true) H ?_
      refine zZ [29,30,31,32,33,34,35,36,37,38,39,40,41,42] 14 (H) (rtp 43 (Bv true) H ?_)
      refine xP qh (t_n (xE true rfl (fun _=>zcr (sp (Bv false) (zjr (zr5 (ret1 (Bv false) rfl rfl ⟨_,rfl,?_,H.base⟩))))) (fun h=>absurd h qj)))
      rw [xx (fun h=>by obtain ⟨h1,h2,h3,h4,h5,h6,h7,h8,h9,h10,h11⟩:=h;first | contradiction | omega | exact h3 ⟨‹_›,‹_›⟩ | (obtain ⟨q1,q2,q3,q4,q5⟩:=h11 i qf;first | contradiction | omega | (have:=q5 qf;omega)) | (refine absurd ?_ ‹¬ vI _ _›;rcases (show k=0∨k=1∨k=2∨k=3∨k=4 by omega) with e | e | e | e | e <;> subst e <;> assumption))]
     replace h41:=xq h41
     replace h41:=Vh h41
     refine zZ [6,7,8,9,10,11,12] 7 (H) (rtp 13 (Bv true) H ?_)
     refine rtp 14 (Bv true) H ?_
     refine zZ [15,16,17,18,19,20] 6 (H) (rtp 21 (Bv true) H ?_)
     refine rtp 22 (Bv true) H ?_
     refine zZ [23,24,25,26] 4 (H) (rtp 27 (Bv true) H ?_)
     refine rtp 28 (Bv true) H ?_
     refine zZ [29,30,31,32,33,34,35,36,37,38,39,40,41,42] 14 (H) (rtp 43 (Bv true) H ?_)
     refine xP qh (t_n (xE true rfl (fun _=>zcr (sp (Bv false) (zjr (zr5 (ret1 (Bv false) rfl rfl ⟨_,rfl,?_,H.base⟩))))) (fun h=>absurd h qj)))
     rw [xx (fun h=>by obtain ⟨h1,h2,h3,h4,h5,h6,h7,h8,h9,h10,h11⟩:=h;first | contradiction | omega | exact h3 ⟨‹_›,‹_›⟩ | (obtain ⟨q1,q2,q3,q4,q5⟩:=h11 i qf;first | contradiction | omega | (have:=q5 qf;omega)) | (refine absurd ?_ ‹¬ vI _ _›;rcases (show k=0∨k=1∨k=2∨k=3∨k=4 by omega) with e | e | e | e | e <;> subst e <;> assumption))]
    refine zx4 (zcr (oF rfl (oL rfl (H.cell 1 rfl rfl) ?_)))
    have sm:Small r.xn:=vX (by first | assumption | exact i1 0 qf)
    refine sw (oq (V6 _ r.xn (H.get 3 rfl).1 (by first | assumption | exact vX ql | exact QD ql)) H fun w55 H=>sps [Bv (decide ((Yd r.xn:Int) > 0)),Bv (decide ((Yd r.xn:Int) > 0))] (zjr (ret1 (Bv (decide ((Yd r.xn:Int) > 0))) rfl rfl ⟨_,rfl,(congrArg Value.bool (dec_eq ?_)),H.base⟩)))
    rw [decide_eq_true_iff]
    exact ⟨fun h=>⟨by omega,by omega,by simp_all,by omega,n1,n2,n3,n4,n5,by omega,(show i=r.qU.length by omega)▸i2⟩,fun h=>by have:=h.2.2.2.2.2.2.2.2.2.1;have:=sum_nonneg n1.1;omega⟩
   rw [h12] at H
   refine qQ 23 rfl rfl (oF rfl (qQ 23 rfl rfl (oL rfl (H.cell 0 rfl rfl) (qQ 23 rfl rfl (sp (Bv ((r.qG:Int) == 0)) (qQ 20 rfl rfl (sps [Bv ((r.qG:Int) == 0),Bv ((r.qG:Int) == 0),Bv ((r.qG:Int) == 0)] ?_)))))))
   cases h57:((r.qG:Int) == 0)
   ·skip
    replace h57:=ne_of_beq_false h57
    refine qQ 29 rfl rfl (oF rfl (qQ 29 rfl rfl (oL rfl (H.cell 0 rfl rfl) (qQ 29 rfl rfl (oN rfl (qQ 29 rfl rfl (sps [Bv (decide ((r.qU.length:Int) > 3)),Bv (decide ((r.qU.length:Int) > 3))] (zjn (cD rfl (fun h58=>?_) (fun h58=>?_))))))))))
    ·skip
     refine zcr (sp (Bv false) (zjr (t_r (ret1 (Bv false) rfl rfl ⟨_,rfl,?_,H.base⟩))))
     rw [xx (fun h=>by obtain ⟨h1,h2,h3,h4,h5,h6,h7,h8,h9,h10,h11⟩:=h;first | contradiction | omega | exact h3 ⟨‹_›,‹_›⟩ | (obtain ⟨q1,q2,q3,q4,q5⟩:=h11 i qf;first | contradiction | omega | (have:=q5 qf;omega)) | (refine absurd ?_ ‹¬ vI _ _›;rcases (show k=0∨k=1∨k=2∨k=3∨k=4 by omega) with e | e | e | e | e <;> subst e <;> assumption))]
    refine qW (t_n (zcc (oF rfl (oL rfl (H.cell 0 rfl rfl) (oF rfl (oL rfl (H.cell 0 rfl rfl) (oF rfl (oL rfl (H.cell 0 rfl rfl) (oF rfl (oL rfl (H.cell 0 rfl rfl) (oF rfl (oL rfl (H.cell 0 rfl rfl) (sw (o_buildF H underlying27 ti22 [Sv Qd r.xn.length yY,Sv Qh r.xF.length Qb,Sv Qe r.xI.length yZ,Sv Qg r.xK.length Qa,Sv XP r.ve.length XO] rfl (by simp [Value.cells]) rfl qj qj fun b59 w60 H=>oN rfl (sp (yI 0) (zjn (qX ?_)))))))))))))))))
    replace H:=H.boxRow 0 rfl 1 5 rfl qj
    replace H:=H.vT (α:=yLI)
    replace H:=H.YR false 7 rfl 0 rfl qm
    replace H:=H.YR false 7 rfl 0 rfl qm
    replace H:=H.YR false 7 rfl 0 rfl qm
    replace H:=H.YR false 7 rfl 0 rfl qm
    replace H:=H.YR false 7 rfl 0 rfl qm
    refine zD (fun m' ρ w61=>∃ (xY:Env) (k:Nat),ρ=upd (upd (upd (upd (upd xY 2 (pp b1 0)) 3 (pp b3 0)) 45 (Sv (aa b59 0) 5 5)) 46 (yI 5)) 47 (yI k)∧((k:Int)≤5)∧(∀ j,j < k→vI s.xB ([r.xn,r.xF,r.xI,r.xK,r.ve][j]!))∧m' =(5 - (k:Int)).toNat∧Fresh w.heap.size []∧St w w61 [rr (aa b59 0) 5 5 22 1 [Sv Qd r.xn.length yY,Sv Qh r.xF.length Qb,Sv Qe r.xI.length yZ,Sv Qg r.xK.length Qa,Sv XP r.ve.length XO],.box b3 [yI r.qG,yI r.zS,Sv Qd r.xn.length yY,Sv Qh r.xF.length Qb,Sv Qe r.xI.length yZ,Sv Qg r.xK.length Qa,Sv XP r.ve.length XO,Sv yD r.qU.length yB,Bv true] 121,.box b1 (yS s qC qB qN qJ) 36] [zf false (YM++(YP++(YN++(YO++(FrOut++[]))))) [Sv Qd r.xn.length yY,Sv Qh r.xF.length Qb,Sv Qe r.xI.length yZ,Sv Qg r.xK.length Qa,Sv XP r.ve.length XO] [r.xn,r.xF,r.xI,r.xK,r.ve],sF false qZ qC qB s.qw,sF false xG qN qJ s.qx,sF false YM Qd yY r.xn,sF false YP Qh Qb r.xF,sF false YN Qe yZ r.xI,sF false YO Qg Qa r.xK,sF false FrOut XP XO r.ve,sF false FrInto yD yB r.qU]) ((5 - (0:Int)).toNat) ⟨_,0,uE5,qf,(by intro j hj;omega),rfl,N,H.pick [0,1,2] [0,6,7,8,9,10,11,12,13]⟩ ?_
    clear H N
    rintro m' ρ w62 ⟨xY,k,rfl,i0,i1,rfl,N,H⟩
    refine zcr (sp (Bv (decide ((k:Int) < 5))) (zjn (xQ (cD rfl (fun h63=>?_) (fun h63=>?_)))))
    ·skip
     refine qW (t_n (xQ (qX (zcr (oI rfl rfl ?_)))))
     obtain ⟨a64,c65,G66,s67,h68,H⟩:=H.yw 0 rfl 0 rfl (iv:=k) k qf qf
     refine oL rfl (h68) (sp (Sv a64 (([r.xn,r.xF,r.xI,r.xK,r.ve][k]!).length) c65) (zjc (oF rfl (oL rfl (H.cell 2 rfl rfl) (sp (Sv a64 (([r.xn,r.xF,r.xI,r.xK,r.ve][k]!).length) c65) (sw (oq (YV _ s.xB ([r.xn,r.xF,r.xI,r.xK,r.ve][k]!) (H.get 0 rfl).1) H fun w69 H=>sp (Bv (!(dec (vI s.xB ([r.xn,r.xF,r.xI,r.xK,r.ve][k]!))))) (zjn (cQ rfl (fun h71=>?_) (fun h71=>?_))))))))))
     ·skip
      refine zcr (sp (Bv false) (zjr (zr5 (ret1 (Bv false) rfl rfl ⟨_,rfl,?_,H.base⟩))))
      rw [xx (fun h=>by obtain ⟨h1,h2,h3,h4,h5,h6,h7,h8,h9,h10,h11⟩:=h;first | contradiction | omega | exact h3 ⟨‹_›,‹_›⟩ | (obtain ⟨q1,q2,q3,q4,q5⟩:=h11 i qf;first | contradiction | omega | (have:=q5 qf;omega)) | (refine absurd ?_ ‹¬ vI _ _›;rcases (show k=0∨k=1∨k=2∨k=3∨k=4 by omega) with e | e | e | e | e <;> subst e <;> assumption))]
     refine qW (b_n (t_n (xO (sw (zB k 1 rfl rfl qf (sp (yI (k+1)) (xM (qY (m' :=(5 - ((k+1):Int)).toNat) qf ⟨_,k+1,uE5,?_,?_,rfl,N,H.pick [0,1,2] [1,2,3,4,5,6,7,8,9]⟩))))))))
     · omega
     · intro j hj;by_cases e:j=k;(subst e;assumption);exact i1 j qf
    refine zx4 (zcc (oF rfl (oL rfl (H.cell 1 rfl rfl) (oN rfl (sp (yI 0) (zjn (qX ?_)))))))
    have n1:vI s.xB r.xn:=i1 0 qf
    have n2:vI s.xB r.xF:=i1 1 qf
    have n3:vI s.xB r.xI:=i1 2 qf
    have n4:vI s.xB r.xK:=i1 3 qf
    have n5:vI s.xB r.ve:=i1 4 qf
    refine zD (fun m' ρ w72=>∃ (xY:Env) (i:Nat),ρ=upd (upd (upd (upd (upd xY 2 (pp b1 0)) 3 (pp b3 0)) 58 (Sv yD r.qU.length yB)) 59 (yI r.qU.length)) 60 (yI i)∧((i:Int)≤r.qU.length)∧(IntosTo s r i)∧m' =(r.qU.length - (i:Int)).toNat∧Fresh w.heap.size []∧St w w72 [rr (aa b59 0) 5 5 22 1 [Sv Qd r.xn.length yY,Sv Qh r.xF.length Qb,Sv Qe r.xI.length yZ,Sv Qg r.xK.length Qa,Sv XP r.ve.length XO],.box b3 [yI r.qG,yI r.zS,Sv Qd r.xn.length yY,Sv Qh r.xF.length Qb,Sv Qe r.xI.length yZ,Sv Qg r.xK.length Qa,Sv XP r.ve.length XO,Sv yD r.qU.length yB,Bv true] 121,.box b1 (yS s qC qB qN qJ) 36] [zf false (YM++(YP++(YN++(YO++(FrOut++[]))))) [Sv Qd r.xn.length yY,Sv Qh r.xF.length Qb,Sv Qe r.xI.length yZ,Sv Qg r.xK.length Qa,Sv XP r.ve.length XO] [r.xn,r.xF,r.xI,r.xK,r.ve],sF false qZ qC qB s.qw,sF false xG qN qJ s.qx,sF false YM Qd yY r.xn,sF false YP Qh Qb r.xF,sF false YN Qe yZ r.xI,sF false YO Qg Qa r.xK,sF false FrOut XP XO r.ve,sF false FrInto yD yB r.qU]) ((r.qU.length - (0:Int)).toNat) ⟨_,0,uE5,qf,(by exact fun j hj=>by omega),rfl,N,H⟩ ?_
    clear H N
    rintro m' ρ w73 ⟨xY,i,rfl,i0,i2,rfl,N,H⟩
    refine zcr (sp (Bv (decide ((i:Int) < r.qU.length))) (zjn (xQ (cD rfl (fun h74=>?_) (fun h74=>?_)))))
    ·skip
     refine qW (t_n (xQ (qX (zcr (sp (yI i) ?_)))))
     obtain ⟨b75,o76,rfl⟩:=H.addr 8 rfl qf
     obtain ⟨ae78Bag,ce78Bag,Fe78Bag,H⟩:=H.yh 8 rfl i i qf qf qf
     refine oI rfl rfl (sw (zl [yI ((r.qU[i]!).qG),Sv ae78Bag (((r.qU[i]!).jJ).length) ce78Bag] isAgg164 sizeOf164 rfl (qF (H.get 1 rfl) 0 2) (sw (zh H ti164 [yI 0,yN] fun b79 w80 H=>sp (yI i) (sw (zF H 0 [yI ((r.qU[i]!).qG),Sv ae78Bag (((r.qU[i]!).jJ).length) ce78Bag] sizeOf164 fun w81 H=>zjn (xQ ?_)))))))
     refine jh rfl H fun H=>rt 0 (.agg #[yI s.xB,Sv qC s.qw.length qB,Sv qN s.qx.length qJ]) (QL (cs:=(yS s qC qB qN qJ)) isAgg36 sizeOf36 rfl (fun _ h=>qF (h.cells 3 rfl) 0 3)) H ?_
     refine tF 1 rfl rfl H ?_
     refine tL 2 rfl rfl (fun _ h=>h.cell 0 rfl rfl) H ?_
     refine ro 3 rfl (oq (isCell_ok _ s ((r.qU[i]!).qG) (H.get 3 rfl).1 (H.get 4 rfl).1) H fun w84 H=>⟨H,(rtp 4 (Bv (!(inR ((r.qU[i]!).qG) 0 ((s.qw.length:Int) - 1)))) H ?_)⟩)
     refine rtp 5 (Bv (!(inR ((r.qU[i]!).qG) 0 ((s.qw.length:Int) - 1)))) H ?_
     cases h86:(!(inR ((r.qU[i]!).qG) 0 ((s.qw.length:Int) - 1)))
     ·skip
      replace h86:=xg h86
      replace h86:=XA.1 h86
      refine rg 6 (.agg #[yI s.xB,Sv qC s.qw.length qB,Sv qN s.qx.length qJ]) 70 (QL (cs:=(yS s qC qB qN qJ)) isAgg36 sizeOf36 rfl (fun _ h=>qF (h.cells 3 rfl) 0 3)) H ?_
      refine gF 7 rfl rfl H ?_
      refine gL 8 rfl rfl (fun _ h=>h.cell 0 rfl rfl) H ?_
      refine gF 9 rfl rfl H ?_
      refine gL 10 rfl rfl (fun _ h=>h.cell 2 rfl rfl) H ?_
      refine jK [11] qh qm (r_opG rfl (e:=70) rfl rfl (oq (lies_ok _ s ((r.qU[i]!).qG) r.qG (H.get 3 rfl).1 (H.get 4 rfl).1 qg qg) H fun w88 H=>⟨H,(rgp 12 (Bv (!(dec (Lies s.qw r.qG ((r.qU[i]!).qG))))) 70 H ?_)⟩) jL)
      refine rtp 13 (Bv (!(dec (Lies s.qw r.qG ((r.qU[i]!).qG))))) H ?_
      refine rtp 14 (Bv (!(dec (Lies s.qw r.qG ((r.qU[i]!).qG))))) H ?_
      cases h90:(!(dec (Lies s.qw r.qG ((r.qU[i]!).qG))))
      ·skip
       replace h90:=xg h90
       replace h90:=QU h90
       refine gF 15 rfl rfl H ?_
       refine gL 16 rfl rfl (fun _ h=>h.cell 3 rfl rfl) H ?_
       refine gF 17 rfl rfl H ?_
       refine gL 18 rfl rfl (fun _ h=>h.cell 0 rfl rfl) H ?_
       refine jK [19] qh qm (r_opG rfl (e:=79) rfl rfl (oq (YV _ s.xB ((r.qU[i]!).jJ) (H.get 0 rfl).1) H fun w91 H=>⟨H,(rgp 20 (Bv (!(dec (vI s.xB ((r.qU[i]!).jJ))))) 79 H ?_)⟩) jL)
       refine rtp 21 (Bv (!(dec (vI s.xB ((r.qU[i]!).jJ))))) H ?_
       refine rtp 22 (Bv (!(dec (vI s.xB ((r.qU[i]!).jJ))))) H ?_
       cases h93:(!(dec (vI s.xB ((r.qU[i]!).jJ))))
       ·skip
        replace h93:=xg h93
        replace h93:=QU h93
        refine gF 23 rfl rfl H ?_
        refine gL 24 rfl rfl (fun _ h=>h.cell 0 rfl rfl) H ?_
        refine jK [25] qh qm (r_opG rfl (e:=87) rfl rfl ?_ jL)
        have sm:Small ((r.qU[i]!).jJ):=vX (by first | assumption | exact i1 0 qf)
        refine oq (V6 _ ((r.qU[i]!).jJ) (H.get 0 rfl).1 (by first | assumption | exact vX ql | exact QD ql)) H fun w94 H=>⟨H,(rgp 26 (Bv ((Yd ((r.qU[i]!).jJ):Int) == 0)) 87 H ?_)⟩
        refine rtp 27 (Bv ((Yd ((r.qU[i]!).jJ):Int) == 0)) H ?_
        refine rtp 28 (Bv ((Yd ((r.qU[i]!).jJ):Int) == 0)) H ?_
        cases h96:((Yd ((r.qU[i]!).jJ):Int) == 0)
        ·skip
         replace h96:=ne_of_beq_false h96
         refine rgp 29 (yI i) 93 H ?_
         refine rgp 30 (Bv (decide ((i:Int) > 0))) 93 H ?_
         refine rgp 31 (Bv (decide ((i:Int) > 0))) 93 H ?_
         cases h97:(decide ((i:Int) > 0))
         ·skip
          replace h97:=of_decide_eq_false h97
          refine zZ [32,33,34,35,36,37,38,39,40,41] 10 (H) (rgp 42 (Bv false) 93 H ?_)
          refine rtp 43 (Bv false) H ?_
          refine xP qh (t_n (xE false rfl (fun h=>absurd h qj) (fun _=>qW (b_n (t_n (xO (sw (zB i 1 rfl rfl qf (sp (yI (i+1)) (xM (qY (m' :=(r.qU.length - ((i+1):Int)).toNat) qf ⟨_,i+1,uE5,?_,?_,rfl,N,H.pick [1,2,3] [2,3,4,5,6,7,8,9,10]⟩)))))))))))
          · omega
          · exact i2.succ ⟨‹_›,‹_›,‹_›,‹_›,fun hk=>by omega⟩
         replace h97:=of_decide_eq_true h97
         refine gF 32 rfl rfl H ?_
         refine gL 33 rfl rfl (fun _ h=>h.cell 0 rfl rfl) H ?_
         refine gF 34 rfl rfl H ?_
         refine gL 35 rfl rfl (fun _ h=>h.cell 2 rfl rfl) H ?_
         refine rgp 36 (yI i) 96 H ?_
         refine rg 37 (yI (i - 1)) 96 (y_sub i 1 rfl rfl qf) H ?_
         obtain ⟨ae98Bag,ce98Bag,Fe98Bag,H⟩:=H.yh 10 rfl (i - 1) (i - 1) qf qf qf
         have S:=H.yU [0,1,2,3] [2,3,4,5,6,7,8,9,10,11,12]
         refine gI 38 rfl rfl rfl S ?_
         refine gF 39 rfl rfl S ?_
         refine jK [40] qh qm (r_opG rfl (e:=96) rfl rfl (zT (yI ((r.qU[i - 1]!).qG)) isAgg2 rfl (H.xW 1 rfl 0 rfl) (⟨H.pick [0,1,2,3] [2,3,4,5,6,7,8,9,10,11,12],?_⟩)) jL)
         have S:=H.yU [0,1,2,3] [2,3,4,5,6,7,8,9,10,11,12]
         refine rgp 41 (Bv (decide (((r.qU[i]!).qG:Int)≤((r.qU[i - 1]!).qG)))) 96 S ?_
         refine rgp 42 (Bv (decide (((r.qU[i]!).qG:Int)≤((r.qU[i - 1]!).qG)))) 93 S ?_
         refine rtp 43 (Bv (decide (((r.qU[i]!).qG:Int)≤((r.qU[i - 1]!).qG)))) S ?_
         refine xP qh (t_n (cD rfl (fun h99=>?_) (fun h99=>?_)))
         ·skip
          refine zcr (sp (Bv false) (zjr (zr5 (ret1 (Bv false) rfl rfl ⟨_,rfl,?_,H.base⟩))))
          rw [xx (fun h=>by obtain ⟨h1,h2,h3,h4,h5,h6,h7,h8,h9,h10,h11⟩:=h;first | contradiction | omega | exact h3 ⟨‹_›,‹_›⟩ | (obtain ⟨q1,q2,q3,q4,q5⟩:=h11 i qf;first | contradiction | omega | (have:=q5 qf;omega)) | (refine absurd ?_ ‹¬ vI _ _›;rcases (show k=0∨k=1∨k=2∨k=3∨k=4 by omega) with e | e | e | e | e <;> subst e <;> assumption))]
         refine qW (b_n (t_n (xO (sw (zB i 1 rfl rfl qf (sp (yI (i+1)) (xM (qY (m' :=(r.qU.length - ((i+1):Int)).toNat) qf ⟨_,i+1,uE5,?_,?_,rfl,N,H.pick [1,2,3] [4,5,6,7,8,9,10,11,12]⟩))))))))
         · omega
         · exact i2.succ ⟨‹_›,‹_›,‹_›,‹_›,fun hk=>by omega⟩
        replace h96:=eq_of_beq h96
        refine zZ [29,30,31,32,33,34,35,36,37,38,39,40,41,42] 14 (H) (rtp 43 (Bv true) H ?_)
        refine xP qh (t_n (xE true rfl (fun _=>zcr (sp (Bv false) (zjr (zr5 (ret1 (Bv false) rfl rfl ⟨_,rfl,?_,H.base⟩))))) (fun h=>absurd h qj)))
        rw [xx (fun h=>by obtain ⟨h1,h2,h3,h4,h5,h6,h7,h8,h9,h10,h11⟩:=h;first | contradiction | omega | exact h3 ⟨‹_›,‹_›⟩ | (obtain ⟨q1,q2,q3,q4,q5⟩:=h11 i qf;first | contradiction | omega | (have:=q5 qf;omega)) | (refine absurd ?_ ‹¬ vI _ _›;rcases (show k=0∨k=1∨k=2∨k=3∨k=4 by omega) with e | e | e | e | e <;> subst e <;> assumption))]
       replace h93:=xq h93
       replace h93:=vG h93
       refine zZ [23,24,25,26] 4 (H) (rtp 27 (Bv true) H ?_)
       refine rtp 28 (Bv true) H ?_
       refine zZ [29,30,31,32,33,34,35,36,37,38,39,40,41,42] 14 (H) (rtp 43 (Bv true) H ?_)
       refine xP qh (t_n (xE true rfl (fun _=>zcr (sp (Bv false) (zjr (zr5 (ret1 (Bv false) rfl rfl ⟨_,rfl,?_,H.base⟩))))) (fun h=>absurd h qj)))
       rw [xx (fun h=>by obtain ⟨h1,h2,h3,h4,h5,h6,h7,h8,h9,h10,h11⟩:=h;first | contradiction | omega | exact h3 ⟨‹_›,‹_›⟩ | (obtain ⟨q1,q2,q3,q4,q5⟩:=h11 i qf;first | contradiction | omega | (have:=q5 qf;omega)) | (refine absurd ?_ ‹¬ vI _ _›;rcases (show k=0∨k=1∨k=2∨k=3∨k=4 by omega) with e | e | e | e | e <;> subst e <;> assumption))]
      replace h90:=xq h90
      replace h90:=vG h90
      refine zZ [15,16,17,18,19,20] 6 (H) (rtp 21 (Bv true) H ?_)
      refine rtp 22 (Bv true) H ?_
      refine zZ [23,24,25,26] 4 (H) (rtp 27 (Bv true) H ?_)
      refine rtp 28 (Bv true) H ?_
      refine zZ [29,30,31,32,33,34,35,36,37,38,39,40,41,42] 14 (H) (rtp 43 (Bv true) H ?_)
      refine xP qh (t_n (xE true rfl (fun _=>zcr (sp (Bv false) (zjr (zr5 (ret1 (Bv false) rfl rfl ⟨_,rfl,?_,H.base⟩))))) (fun h=>absurd h qj)))
      rw [xx (fun h=>by obtain ⟨h1,h2,h3,h4,h5,h6,h7,h8,h9,h10,h11⟩:=h;first | contradiction | omega | exact h3 ⟨‹_›,‹_›⟩ | (obtain ⟨q1,q2,q3,q4,q5⟩:=h11 i qf;first | contradiction | omega | (have:=q5 qf;omega)) | (refine absurd ?_ ‹¬ vI _ _›;rcases (show k=0∨k=1∨k=2∨k=3∨k=4 by omega) with e | e | e | e | e <;> subst e <;> assumption))]
     replace h86:=xq h86
     replace h86:=Vh h86
     refine zZ [6,7,8,9,10,11,12] 7 (H) (rtp 13 (Bv true) H ?_)
     refine rtp 14 (Bv true) H ?_
     refine zZ [15,16,17,18,19,20] 6 (H) (rtp 21 (Bv true) H ?_)
     refine rtp 22 (Bv true) H ?_
     refine zZ [23,24,25,26] 4 (H) (rtp 27 (Bv true) H ?_)
     refine rtp 28 (Bv true) H ?_
     refine zZ [29,30,31,32,33,34,35,36,37,38,39,40,41,42] 14 (H) (rtp 43 (Bv true) H ?_)
     refine xP qh (t_n (xE true rfl (fun _=>zcr (sp (Bv false) (zjr (zr5 (ret1 (Bv false) rfl rfl ⟨_,rfl,?_,H.base⟩))))) (fun h=>absurd h qj)))
     rw [xx (fun h=>by obtain ⟨h1,h2,h3,h4,h5,h6,h7,h8,h9,h10,h11⟩:=h;first | contradiction | omega | exact h3 ⟨‹_›,‹_›⟩ | (obtain ⟨q1,q2,q3,q4,q5⟩:=h11 i qf;first | contradiction | omega | (have:=q5 qf;omega)) | (refine absurd ?_ ‹¬ vI _ _›;rcases (show k=0∨k=1∨k=2∨k=3∨k=4 by omega) with e | e | e | e | e <;> subst e <;> assumption))]
    refine zx4 (zcr (oF rfl (oL rfl (H.cell 1 rfl rfl) ?_)))
    have sm:Small r.xn:=vX (by first | assumption | exact i1 0 qf)
    refine sw (oq (V6 _ r.xn (H.get 3 rfl).1 (by first | assumption | exact vX ql | exact QD ql)) H fun w100 H=>sps [Bv (decide ((Yd r.xn:Int) > 0)),Bv (decide ((Yd r.xn:Int) > 0))] (zjr (ret1 (Bv (decide ((Yd r.xn:Int) > 0))) rfl rfl ⟨_,rfl,(congrArg Value.bool (dec_eq ?_)),H.base⟩)))
    rw [decide_eq_true_iff]
    exact ⟨fun h=>⟨by omega,by omega,by simp_all,by omega,n1,n2,n3,n4,n5,by omega,(show i=r.qU.length by omega)▸i2⟩,fun h=>by have:=h.2.2.2.2.2.2.2.2.2.1;have:=sum_nonneg n1.1;omega⟩
   replace h57:=eq_of_beq h57
   refine zk [30,31,32,33] (sp (Bv true) (zjn (xE true rfl (fun _=>zcr (sp (Bv false) (zjr (t_r (ret1 (Bv false) rfl rfl ⟨_,rfl,?_,H.base⟩))))) (fun h=>absurd h qj))))
   rw [xx (fun h=>by obtain ⟨h1,h2,h3,h4,h5,h6,h7,h8,h9,h10,h11⟩:=h;first | contradiction | omega | exact h3 ⟨‹_›,‹_›⟩ | (obtain ⟨q1,q2,q3,q4,q5⟩:=h11 i qf;first | contradiction | omega | (have:=q5 qf;omega)) | (refine absurd ?_ ‹¬ vI _ _›;rcases (show k=0∨k=1∨k=2∨k=3∨k=4 by omega) with e | e | e | e | e <;> subst e <;> assumption))]
  replace h11:=xq h11
  replace h11:=Vh h11
  refine zk [21,22,23,24,25,26,27] (sps [Bv true,Bv true] (zk [30,31,32,33] (sp (Bv true) (zjn (xE true rfl (fun _=>zcr (sp (Bv false) (zjr (t_r (ret1 (Bv false) rfl rfl ⟨_,rfl,?_,H.base⟩))))) (fun h=>absurd h qj))))))
  rw [xx (fun h=>by obtain ⟨h1,h2,h3,h4,h5,h6,h7,h8,h9,h10,h11⟩:=h;first | contradiction | omega | exact h3 ⟨‹_›,‹_›⟩ | (obtain ⟨q1,q2,q3,q4,q5⟩:=h11 i qf;first | contradiction | omega | (have:=q5 qf;omega)) | (refine absurd ?_ ‹¬ vI _ _›;rcases (show k=0∨k=1∨k=2∨k=3∨k=4 by omega) with e | e | e | e | e <;> subst e <;> assumption))]
 replace h8:=xq h8
 replace h8:=Vh h8
 refine zk [15,16,17,18] (sps [Bv true,Bv true] (zk [21,22,23,24,25,26,27] (sps [Bv true,Bv true] (zk [30,31,32,33] (sp (Bv true) (zjn (xE true rfl (fun _=>zcr (sp (Bv false) (zjr (t_r (ret1 (Bv false) rfl rfl ⟨_,rfl,?_,H.base⟩))))) (fun h=>absurd h qj))))))))
 rw [xx (fun h=>by obtain ⟨h1,h2,h3,h4,h5,h6,h7,h8,h9,h10,h11⟩:=h;first | contradiction | omega | exact h3 ⟨‹_›,‹_›⟩ | (obtain ⟨q1,q2,q3,q4,q5⟩:=h11 i qf;first | contradiction | omega | (have:=q5 qf;omega)) | (refine absurd ?_ ‹¬ vI _ _›;rcases (show k=0∨k=1∨k=2∨k=3∨k=4 by omega) with e | e | e | e | e <;> subst e <;> assumption))]
theorem validSystem_ok (w:World) (s:qI) {qC:yOA} {qZ:yLN} {qN:yOA} {xG:yLN} (xf:qO.rep w qZ [Sv qC s.qw.length qB] s.qw) (xJ:qO.rep w xG [Sv qN s.qx.length qJ] s.qx):Calls Tryz.prog 104 #[.agg #[yI s.xB,Sv qC s.qw.length qB,Sv qN s.qx.length qJ]] w (Ret (fun v w' =>v=Bv (dec (jE s))) w):=by
 refine en func104 ntmps104 ?_
 have H:=((St.start w).arg xJ).arg xf
 have vH:=qM xf
 have jw:=qM xJ
 clear xf xJ
 have N:=Fresh.nil w.heap.size
 have p1:=fun h:Qx s=>h.2.1
 refine zcr (sw (vU H (yS s qC qB qN qJ) fun b1 w2 H=>sp (Bv false) (zjcc (sw (zl (yS s qC qB qN qJ) isAgg36 sizeOf36 rfl (qF (H.cells 0 rfl) 0 3) (sw (oq (isShell_ok _ s (H.get 0 rfl).1 (H.get 1 rfl).1) H fun w4 H=>sps [Bv (!(dec (Qx s))),Bv (!(dec (Qx s)))] ?_)))))))
 cases h6:(!(dec (Qx s)))
 ·skip
  replace h6:=xg h6
  replace h6:=QU h6
  refine qQ 9 rfl rfl (oF rfl (qQ 9 rfl rfl (oL rfl (H.cell 0 rfl rfl) (qQ 9 rfl rfl (oN rfl (qQ 9 rfl rfl (sps [Bv (decide ((s.qx.length:Int) > 16)),Bv (decide ((s.qx.length:Int) > 16))] (zjn (cD rfl (fun h7=>?_) (fun h7=>?_))))))))))
  ·skip
   refine zcr (sp (Bv false) (zjr (t_r (ret1 (Bv false) rfl rfl ⟨_,rfl,?_,H.base⟩))))
   rw [xx (fun h=>by obtain ⟨h1,h2,h3⟩:=h;first | contradiction | omega | (obtain ⟨r1,r2⟩:=h3 k qf;first | contradiction | (have:=Y2 (s:=s) (k:=k+1) q1 q2;omega)))]
  refine qW (t_n (zcr (sw (jF [yI 0,yI 0,yI 0,yI 0,yI 0,yI 0] [] (sw (zh H ti159 [yI 0,yI 0,yI 0,yI 0,yI 0,yI 0] fun b8 w9 H=>sw (zF H 0 [yI 0,yI 0,yI 0,yI 0,yI 0,yI 0] sizeOf159 fun w10 H=>zjcc (oF rfl (oL rfl (H.cell 1 rfl rfl) (oN rfl (sp (yI 0) (zjn (qX ?_)))))))))))))
  have p2:=p1 ‹_›
  refine zD (fun m' ρ w11=>∃ (xY:Env) (k:Nat) (many:yLI),ρ=upd (upd (upd (upd (upd xY 1 (pp b1 0)) 3 (pp b8 0)) 17 (Sv qN s.qx.length qJ)) 18 (yI s.qx.length)) 19 (yI k)∧many=counts6 s k∧((k:Int)≤s.qx.length)∧(RulesTo s k)∧m' =(s.qx.length - (k:Int)).toNat∧Fresh w.heap.size []∧St w w11 [.box b8 (many.map (Value.int .i64)) 159,.box b1 (yS s qC qB qN qJ) 36] [sF false qZ qC qB s.qw,sF false xG qN qJ s.qx]) ((s.qx.length - (0:Int)).toNat) ⟨_,0,[0,0,0,0,0,0],uE5,(by exact counts6_zero s),qf,(by exact fun j hj=>by omega),rfl,N,H⟩ ?_
  clear H N
  rintro m' ρ w12 ⟨xY,k,many,rfl,rfl,i0,i1,rfl,N,H⟩
  refine zcr (sp (Bv (decide ((k:Int) < s.qx.length))) (zjn (xQ (cD rfl (fun h13=>?_) (fun h13=>?_)))))
  ·skip
   refine qW (t_n (xQ (qX (zcr ?_))))
   obtain ⟨b14,o15,rfl⟩:=H.addr 1 rfl qf
   obtain ⟨ae17Need,ce17Need,Fe17Need,ae17Have,ce17Have,Fe17Have,ae17Lack,ce17Lack,Fe17Lack,ae17Here,ce17Here,Fe17Here,ae17Out,ce17Out,Fe17Out,ae17Into,ce17Into,Fe17Into,H⟩:=H.yF 1 rfl k k qf qf qf
   refine oI rfl rfl (sw (zl [yI ((s.qx[k]!).qG),yI ((s.qx[k]!).zS),Sv ae17Need (((s.qx[k]!).xn).length) ce17Need,Sv ae17Have (((s.qx[k]!).xF).length) ce17Have,Sv ae17Lack (((s.qx[k]!).xI).length) ce17Lack,Sv ae17Here (((s.qx[k]!).xK).length) ce17Here,Sv ae17Out (((s.qx[k]!).ve).length) ce17Out,Sv ae17Into (((s.qx[k]!).qU).length) ce17Into,Bv ((s.qx[k]!).zH)] isAgg121 sizeOf121 rfl (qF (H.get 6 rfl) 0 9) ?_))
   refine sw (zh H ti121 [yI 0,yI 0,yN,yN,yN,yN,yN,yN,Bv false] fun b18 w19 H=>sw (zF H 0 [yI ((s.qx[k]!).qG),yI ((s.qx[k]!).zS),Sv ae17Need (((s.qx[k]!).xn).length) ce17Need,Sv ae17Have (((s.qx[k]!).xF).length) ce17Have,Sv ae17Lack (((s.qx[k]!).xI).length) ce17Lack,Sv ae17Here (((s.qx[k]!).xK).length) ce17Here,Sv ae17Out (((s.qx[k]!).ve).length) ce17Out,Sv ae17Into (((s.qx[k]!).qU).length) ce17Into,Bv ((s.qx[k]!).zH)] sizeOf121 fun w20 H=>?_))
   refine zjcc (sw (zl [yI s.xB,Sv qC s.qw.length qB,Sv (aa b14 o15) s.qx.length qJ] isAgg36 sizeOf36 rfl (qF (H.cells 2 rfl) 0 3) ?_))
   refine sw (zl [yI ((s.qx[k]!).qG),yI ((s.qx[k]!).zS),Sv ae17Need (((s.qx[k]!).xn).length) ce17Need,Sv ae17Have (((s.qx[k]!).xF).length) ce17Have,Sv ae17Lack (((s.qx[k]!).xI).length) ce17Lack,Sv ae17Here (((s.qx[k]!).xK).length) ce17Here,Sv ae17Out (((s.qx[k]!).ve).length) ce17Out,Sv ae17Into (((s.qx[k]!).qU).length) ce17Into,Bv ((s.qx[k]!).zH)] isAgg121 sizeOf121 rfl (qF (H.cells 0 rfl) 0 9) ?_)
   refine sw (oq (isRule_ok _ s (s.qx[k]!) (H.get 7 rfl).1 (H.get 8 rfl).1 (H.get 0 rfl).1 (H.get 1 rfl).1 (H.get 2 rfl).1 (H.get 3 rfl).1 (H.get 4 rfl).1 (H.get 5 rfl).1 qg) H fun w22 H=>?_)
   have q:=fun h:RuleOk s (s.qx[k]!)=>(show 0≤(s.qx[k]!).qG∧(s.qx[k]!).qG≤5 from ⟨h.1.1,by have:=h.1.2;omega⟩)
   refine sp (Bv (!(dec (RuleOk s (s.qx[k]!))))) (zjn (cQ rfl (fun h24=>?_) (fun h24=>?_)))
   ·skip
    refine zcr (sp (Bv false) (zjr (t_r (zr5 (ret1 (Bv false) rfl rfl ⟨_,rfl,?_,H.base⟩)))))
    rw [xx (fun h=>by obtain ⟨h1,h2,h3⟩:=h;first | contradiction | omega | (obtain ⟨r1,r2⟩:=h3 k qf;first | contradiction | (have:=Y2 (s:=s) (k:=k+1) q1 q2;omega)))]
   obtain ⟨q1,q2⟩:=q ‹_›
   have q3:=Y2 (s:=s) (k:=k) q1 q2
   have q4:=ofCell_bd s.qx (s.qx[k]!).qG k
   refine qW (t_n (zcr (oF rfl (oL rfl (H.cell 0 rfl rfl) (sw (o_idxArr ((s.qx[k]!).qG) underlying159 ti3 rfl rfl qf qf (oL rfl (H.cell 1 rfl (ints_at (iv:=(s.qx[k]!).qG) (i:=(((s.qx[k]!).qG).toNat)) qf (by simp only [List.length_set,List.length_cons,List.length_nil,counts6_len];omega))) (sw (zB ((counts6 s k)[((s.qx[k]!).qG).toNat]!) 1 rfl rfl qf (sw (o_idxArr ((s.qx[k]!).qG) underlying159 ti3 rfl rfl qf qf ?_)))))))))))
   refine sw (o_storeArr H 1 rfl (((counts6 s k)[((s.qx[k]!).qG).toNat]!)+1) sizeOf3 rfl rfl (i:=(((s.qx[k]!).qG).toNat)) qf (by simp only [List.length_set,List.length_cons,List.length_nil,counts6_len];omega) fun w25 H=>?_)
   rw [counts6_succ q1 q2] at H
   refine zjc (oF rfl (oL rfl (H.cell 0 rfl rfl) (sw (o_idxArr ((s.qx[k]!).qG) underlying159 ti3 rfl rfl qf qf (oL rfl (H.cell 1 rfl (ints_at (iv:=(s.qx[k]!).qG) (i:=(((s.qx[k]!).qG).toNat)) qf (by simp only [List.length_set,List.length_cons,List.length_nil,counts6_len];omega))) (sp (Bv (decide (((counts6 s (k+1))[((s.qx[k]!).qG).toNat]! :Int) > 8))) (zjn (cD rfl (fun h26=>?_) (fun h26=>?_)))))))))
   ·skip
    refine zcr (sp (Bv false) (zjr (zr5 (ret1 (Bv false) rfl rfl ⟨_,rfl,?_,H.base⟩))))
    rw [xx (fun h=>by obtain ⟨h1,h2,h3⟩:=h;first | contradiction | omega | (obtain ⟨r1,r2⟩:=h3 k qf;first | contradiction | (have:=Y2 (s:=s) (k:=k+1) q1 q2;omega)))]
   refine qW (b_n (t_n (xO (sw (zB k 1 rfl rfl qf (sp (yI (k+1)) (xM (qY (m' :=(s.qx.length - ((k+1):Int)).toNat) qf ⟨_,k+1,counts6 s (k+1),uE5,?_,?_,?_,rfl,N,H.pick [1,2] [7,8]⟩))))))))
   · rfl
   · omega
   · exact i1.succ ‹_› (by have:=Y2 (s:=s) (k:=k+1) q1 q2;omega)
  refine zx4 (zcr (sp (Bv true) (zjr (ret1 (Bv true) rfl rfl ⟨_,rfl,?_,H.base⟩))))
  rw [yH ⟨by assumption,by omega,(show s.qx.length=k by omega)▸i1⟩]
 replace h6:=xq h6
 replace h6:=vG h6
 refine zk [10,11,12,13] (sp (Bv true) (zjn (xE true rfl (fun _=>zcr (sp (Bv false) (zjr (t_r (ret1 (Bv false) rfl rfl ⟨_,rfl,?_,H.base⟩))))) (fun h=>absurd h qj))))
 rw [xx (fun h=>by obtain ⟨h1,h2,h3⟩:=h;first | contradiction | omega | (obtain ⟨r1,r2⟩:=h3 k qf;first | contradiction | (have:=Y2 (s:=s) (k:=k+1) q1 q2;omega)))]

theorem validState_ok (w:World) (s:qI) (t:qH) {qC:yOA} {qZ:yLN} {qN:yOA} {xG:yLN} {qV:yOA} {xR:yLN} {xm:yOA} {zC:yLN} {qL:yOA} {xC:yLN} (xf:qO.rep w qZ [Sv qC s.qw.length qB] s.qw) (xJ:qO.rep w xG [Sv qN s.qx.length qJ] s.qx) (zi:qO.rep w xR [Sv qV t.qA.length qR] t.qA) (zM:qO.rep w zC [Sv xm t.qE.length xk] t.qE) (xN:qO.rep w xC [Sv qL t.qy.length qK] t.qy):Calls Tryz.prog 63 #[.agg #[yI s.xB,Sv qC s.qw.length qB,Sv qN s.qx.length qJ],.agg #[Sv qV t.qA.length qR,Sv xm t.qE.length xk,Sv qL t.qy.length qK]] w (Ret (fun v w' =>v=Bv (dec (jE s∧zu s t))) w):=by
 refine en func63 ntmps63 ?_
 have H:=(((((St.start w).arg xN).arg zM).arg zi).arg xJ).arg xf
 have vH:=qM xf
 have jw:=qM xJ
 have Qj:=qM zi
 have Q7:=qM zM
 have jV:=qM xN
 clear xf xJ zi zM xN
 have N:=Fresh.nil w.heap.size
 refine zcr (sw (vU H (yS s qC qB qN qJ) fun b1 w2 H=>sw (vU H (yT t qV qR xm xk qL qK) fun b3 w4 H=>sp (Bv false) (zjcc (sw (zl (yS s qC qB qN qJ) isAgg36 sizeOf36 rfl (qF (H.cells 1 rfl) 0 3) (sw (oq (validSystem_ok _ s (H.get 0 rfl).1 (H.get 1 rfl).1) H fun w6 H=>sps [Bv (!(dec (jE s))),Bv (!(dec (jE s)))] ?_))))))))
 cases h8:(!(dec (jE s)))
 ·skip
  replace h8:=xg h8
  replace h8:=QU h8
  have z1:=(‹jE s›:jE s).1.2.1
  refine qQ 10 rfl rfl (oF rfl (qQ 10 rfl rfl (oL rfl (H.cell 0 rfl rfl) (qQ 10 rfl rfl (oN rfl (qQ 10 rfl rfl (oF rfl (qQ 10 rfl rfl (oL rfl (H.cell 1 rfl rfl) (qQ 10 rfl rfl (oN rfl (qQ 10 rfl rfl (sps [Bv ((t.qA.length:Int) != s.qw.length),Bv ((t.qA.length:Int) != s.qw.length),Bv ((t.qA.length:Int) != s.qw.length)] ?_)))))))))))))
  cases h9:((t.qA.length:Int) != s.qw.length)
  ·skip
   replace h9:=xw h9
   refine qQ 19 rfl rfl (oF rfl (qQ 19 rfl rfl (oL rfl (H.cell 0 rfl rfl) (qQ 19 rfl rfl (oN rfl (qQ 19 rfl rfl (oF rfl (qQ 19 rfl rfl (oL rfl (H.cell 1 rfl rfl) (qQ 19 rfl rfl (oN rfl (qQ 19 rfl rfl (sps [Bv ((t.qE.length:Int) != s.qw.length),Bv ((t.qE.length:Int) != s.qw.length),Bv ((t.qE.length:Int) != s.qw.length)] ?_)))))))))))))
   cases h10:((t.qE.length:Int) != s.qw.length)
   ·skip
    replace h10:=xw h10
    refine qQ 28 rfl rfl (oF rfl (qQ 28 rfl rfl (oL rfl (H.cell 0 rfl rfl) (qQ 28 rfl rfl ?_))))
    obtain ⟨b11,o12,rfl⟩:=H.addr 2 rfl qf
    refine oI rfl rfl (qQ 28 rfl rfl (oL rfl (H.XX 2 rfl 0 qf qf) (qQ 28 rfl rfl (sps [Bv (!(t.qA[0]!)),Bv (!(t.qA[0]!)),Bv (!(t.qA[0]!))] ?_))))
    cases h14:(!(t.qA[0]!))
    ·skip
     replace h14:=xg h14
     refine qQ 35 rfl rfl (oF rfl (qQ 35 rfl rfl (oL rfl (H.cell 1 rfl rfl) (qQ 35 rfl rfl (oF rfl (qQ 35 rfl rfl (oL rfl (H.cell 0 rfl rfl) (qQ 35 rfl rfl (sw (oq (YV _ s.xB t.qy (H.get 4 rfl).1) H fun w15 H=>qQ 35 rfl rfl (sps [Bv (!(dec (vI s.xB t.qy))),Bv (!(dec (vI s.xB t.qy)))] (zjn (cQ rfl (fun h17=>?_) (fun h17=>?_))))))))))))))
     ·skip
      refine zcr (sp (Bv false) (zjr (t_r (ret1 (Bv false) rfl rfl ⟨_,rfl,?_,H.base⟩))))
      rw [xx (fun h=>by obtain ⟨h0,h1,h2,h3,h4,h5⟩:=h;first | contradiction | omega | (simp_all;done) | (obtain ⟨q1,q2⟩:=h5 c qf;first | contradiction | (have:=q2 ql;omega)))]
     refine qW (t_n (zcc (oF rfl (oL rfl (H.cell 0 rfl rfl) (oN rfl (sp (yI 0) (zjn (qX ?_))))))))
     refine zD (fun m' ρ w18=>∃ (xY:Env) (c:Nat),ρ=upd (upd (upd (upd (upd xY 2 (pp b1 0)) 3 (pp b3 0)) 44 (Sv xm t.qE.length xk)) 45 (yI t.qE.length)) 46 (yI c)∧((c:Int)≤t.qE.length)∧(BagsTo s t c)∧m' =(t.qE.length - (c:Int)).toNat∧Fresh w.heap.size []∧St w w18 [.box b3 [Sv (aa b11 o12) t.qA.length qR,Sv xm t.qE.length xk,Sv qL t.qy.length qK] 38,.box b1 (yS s qC qB qN qJ) 36] [sF false qZ qC qB s.qw,sF false xG qN qJ s.qx,sF false xR (aa b11 o12) qR t.qA,sF false zC xm xk t.qE,sF false xC qL qK t.qy]) ((t.qE.length - (0:Int)).toNat) ⟨_,0,uE5,qf,(by exact fun j hj=>by omega),rfl,N,H⟩ ?_
     clear H N
     rintro m' ρ w19 ⟨xY,c,rfl,i0,i1,rfl,N,H⟩
     refine zcr (sp (Bv (decide ((c:Int) < t.qE.length))) (zjn (xQ (cD rfl (fun h20=>?_) (fun h20=>?_)))))
     ·skip
      refine qW (t_n (xQ (qX (zcr (sp (yI c) ?_)))))
      obtain ⟨b21,o22,rfl⟩:=H.addr 3 rfl qf
      obtain ⟨ae24,ce24,Fe24,H⟩:=H.vV 3 rfl c c qf qf qf
      refine oI rfl rfl (oL rfl (H.xW 1 rfl 0 rfl) (sps [yI c,Sv ae24 ((t.qE[c]!).length) ce24] (zjc (oF rfl (oL rfl (H.cell 1 rfl rfl) (sp (Sv ae24 ((t.qE[c]!).length) ce24) (sw (oq (YV _ s.xB (t.qE[c]!) (H.get 0 rfl).1) H fun w25 H=>sps [Bv (!(dec (vI s.xB (t.qE[c]!)))),Bv (!(dec (vI s.xB (t.qE[c]!))))] ?_))))))))
      cases h27:(!(dec (vI s.xB (t.qE[c]!))))
      ·skip
       replace h27:=xg h27
       replace h27:=QU h27
       refine qQ 56 rfl rfl (oF rfl (qQ 56 rfl rfl (oL rfl (H.cell 0 rfl rfl) (qQ 56 rfl rfl (sp (yI c) (qQ 56 rfl rfl (oI rfl rfl (qQ 56 rfl rfl (oL rfl (H.XX 4 rfl c qf qf) (qQ 56 rfl rfl (sp (Bv (!(t.qA[c]!))) (qQ 56 rfl rfl (sp (Bv (!(t.qA[c]!))) ?_)))))))))))))
       cases h28:(!(t.qA[c]!))
       ·skip
        replace h28:=xg h28
        refine zk [64,65,66] (qQ 56 rfl rfl (sps [Bv false,Bv false] (zjn (xE false rfl (fun h=>absurd h qj) (fun _=>qW (b_n (t_n (xO (sw (zB c 1 rfl rfl qf (sp (yI (c+1)) (xM (qY (m' :=(t.qE.length - ((c+1):Int)).toNat) qf ⟨_,c+1,uE5,?_,?_,rfl,N,H.pick [0,1] [2,3,4,5,6]⟩)))))))))))))
        · omega
        · exact i1.succ ‹_› (fun hk=>by first | omega | simp_all)
       replace h28:=xq h28
       refine qQ 63 rfl rfl (sp (Sv ae24 ((t.qE[c]!).length) ce24) (qQ 63 rfl rfl (sw (oq (V6 _ (t.qE[c]!) (H.get 0 rfl).1 (by first | assumption | exact vX ql | exact QD ql)) H fun w29 H=>qQ 63 rfl rfl (sp (Bv (decide ((Yd (t.qE[c]!):Int) > 0))) (qQ 56 rfl rfl (sps [Bv (decide ((Yd (t.qE[c]!):Int) > 0)),Bv (decide ((Yd (t.qE[c]!):Int) > 0))] (zjn (cD rfl (fun h31=>?_) (fun h31=>?_))))))))))
       ·skip
        refine zcr (sp (Bv false) (zjr (zr5 (ret1 (Bv false) rfl rfl ⟨_,rfl,?_,H.base⟩))))
        rw [xx (fun h=>by obtain ⟨h0,h1,h2,h3,h4,h5⟩:=h;first | contradiction | omega | (simp_all;done) | (obtain ⟨q1,q2⟩:=h5 c qf;first | contradiction | (have:=q2 ql;omega)))]
       refine qW (b_n (t_n (xO (sw (zB c 1 rfl rfl qf (sp (yI (c+1)) (xM (qY (m' :=(t.qE.length - ((c+1):Int)).toNat) qf ⟨_,c+1,uE5,?_,?_,rfl,N,H.pick [0,1] [2,3,4,5,6]⟩))))))))
       · omega
       · exact i1.succ ‹_› (fun hk=>by first | omega | simp_all)
      replace h27:=xq h27
      replace h27:=vG h27
      refine zk [57,58,59,60,61,62,63,64,65,66,67] (sp (Bv true) (zjn (xE true rfl (fun _=>zcr (sp (Bv false) (zjr (zr5 (ret1 (Bv false) rfl rfl ⟨_,rfl,?_,H.base⟩))))) (fun h=>absurd h qj))))
      rw [xx (fun h=>by obtain ⟨h0,h1,h2,h3,h4,h5⟩:=h;first | contradiction | omega | (simp_all;done) | (obtain ⟨q1,q2⟩:=h5 c qf;first | contradiction | (have:=q2 ql;omega)))]
     refine zx4 (zcr (sp (Bv true) (zjr (ret1 (Bv true) rfl rfl ⟨_,rfl,?_,H.base⟩))))
     rw [yH ⟨by assumption,by omega,by omega,by first | assumption | simp_all,by assumption,(show t.qE.length=c by omega)▸i1⟩]
    replace h14:=xq h14
    refine zk [36,37,38,39,40,41] (sp (Bv true) (zjn (xE true rfl (fun _=>zcr (sp (Bv false) (zjr (t_r (ret1 (Bv false) rfl rfl ⟨_,rfl,?_,H.base⟩))))) (fun h=>absurd h qj))))
    rw [xx (fun h=>by obtain ⟨h0,h1,h2,h3,h4,h5⟩:=h;first | contradiction | omega | (simp_all;done) | (obtain ⟨q1,q2⟩:=h5 c qf;first | contradiction | (have:=q2 ql;omega)))]
   replace h10:=bne_iff_ne.1 h10
   refine zk [29,30,31,32,33] (sps [Bv true,Bv true] (zk [36,37,38,39,40,41] (sp (Bv true) (zjn (xE true rfl (fun _=>zcr (sp (Bv false) (zjr (t_r (ret1 (Bv false) rfl rfl ⟨_,rfl,?_,H.base⟩))))) (fun h=>absurd h qj))))))
   rw [xx (fun h=>by obtain ⟨h0,h1,h2,h3,h4,h5⟩:=h;first | contradiction | omega | (simp_all;done) | (obtain ⟨q1,q2⟩:=h5 c qf;first | contradiction | (have:=q2 ql;omega)))]
  replace h9:=bne_iff_ne.1 h9
  refine zk [20,21,22,23,24,25,26] (sps [Bv true,Bv true] (zk [29,30,31,32,33] (sps [Bv true,Bv true] (zk [36,37,38,39,40,41] (sp (Bv true) (zjn (xE true rfl (fun _=>zcr (sp (Bv false) (zjr (t_r (ret1 (Bv false) rfl rfl ⟨_,rfl,?_,H.base⟩))))) (fun h=>absurd h qj))))))))
  rw [xx (fun h=>by obtain ⟨h0,h1,h2,h3,h4,h5⟩:=h;first | contradiction | omega | (simp_all;done) | (obtain ⟨q1,q2⟩:=h5 c qf;first | contradiction | (have:=q2 ql;omega)))]
 replace h8:=xq h8
 replace h8:=vG h8
 refine zk [11,12,13,14,15,16,17] (sps [Bv true,Bv true] (zk [20,21,22,23,24,25,26] (sps [Bv true,Bv true] (zk [29,30,31,32,33] (sps [Bv true,Bv true] (zk [36,37,38,39,40,41] (sp (Bv true) (zjn (xE true rfl (fun _=>zcr (sp (Bv false) (zjr (t_r (ret1 (Bv false) rfl rfl ⟨_,rfl,?_,H.base⟩))))) (fun h=>absurd h qj))))))))))
 rw [xx (fun h=>by obtain ⟨h0,h1,h2,h3,h4,h5⟩:=h;first | contradiction | omega | (simp_all;done) | (obtain ⟨q1,q2⟩:=h5 c qf;first | contradiction | (have:=q2 ql;omega)))]

theorem parentNow_ok (w:World) (s:qI) (t:qH) (c:Int) {qC:yOA} {qZ:yLN} {qN:yOA} {xG:yLN} {qV:yOA} {xR:yLN} {xm:yOA} {zC:yLN} {qL:yOA} {xC:yLN} (xf:qO.rep w qZ [Sv qC s.qw.length qB] s.qw) (xJ:qO.rep w xG [Sv qN s.qx.length qJ] s.qx) (zi:qO.rep w xR [Sv qV t.qA.length qR] t.qA) (zM:qO.rep w zC [Sv xm t.qE.length xk] t.qE) (xN:qO.rep w xC [Sv qL t.qy.length qK] t.qy) (p0:Qx s) (p1:CellIn s c) (p2:t.qA.length=s.qw.length):Calls Tryz.prog 188 #[.agg #[yI s.xB,Sv qC s.qw.length qB,Sv qN s.qx.length qJ],.agg #[Sv qV t.qA.length qR,Sv xm t.qE.length xk,Sv qL t.qy.length qK],yI c] w (Ret (fun v w' =>v=yI (xA s t c)) w):=by
 refine en func188 ntmps188 ?_
 have H:=(((((St.start w).arg xN).arg zM).arg zi).arg xJ).arg xf
 have vH:=qM xf
 have jw:=qM xJ
 have Qj:=qM zi
 have Q7:=qM zM
 have jV:=qM xN
 clear xf xJ zi zM xN
 have N:=Fresh.nil w.heap.size
 have p3:=p0.step p1.1 p1.2
 refine zcr (sw (vU H (yS s qC qB qN qJ) fun b1 w2 H=>sw (vU H (yT t qV qR xm xk qL qK) fun b3 w4 H=>sp (yI 0) (zjc (oF rfl (oL rfl (H.cell 1 rfl rfl) (sp (yI c) ?_)))))))
 obtain ⟨b5,o6,rfl⟩:=H.addr 0 rfl qf
 refine oI rfl rfl (oL rfl (H.jY 0 rfl c qf qf) (sp (yI (s.qw[c.toNat]!)) (zjn (xQ (qX ?_)))))
 refine zD (fun m' ρ w8=>∃ (xY:Env) (p:Int) (n:Nat),ρ=upd (upd (upd xY 3 (pp b1 0)) 4 (pp b3 0)) 7 (yI p)∧(-1≤p∧p≤(s.qw.length:Int) - 1)∧(p < n)∧(xA s t c=climb s.qw t.qA n p)∧m' =(p+1).toNat∧Fresh w.heap.size []∧St w w8 [.box b3 (yT t qV qR xm xk qL qK) 38,.box b1 [yI s.xB,Sv (aa b5 o6) s.qw.length qB,Sv qN s.qx.length qJ] 36] [sF false qZ (aa b5 o6) qB s.qw,sF false xG qN qJ s.qx,sF false xR qV qR t.qA,sF false zC xm xk t.qE,sF false xC qL qK t.qy]) (((s.qw[c.toNat]!)+1).toNat) ⟨_,s.qw[c.toNat]!,s.qw.length,uE3,qf,qf,(by rfl),rfl,N,H⟩ ?_
 clear H N
 rintro m' ρ w9 ⟨xY,p,n,rfl,i0,i1,i2,rfl,N,H⟩
 have up:=fun h=>p0.step (c:=p) h i0.2
 refine zcc (sps [yI p,Bv (decide ((p:Int)≥0)),Bv (decide ((p:Int)≥0))] ?_)
 cases h10:(decide ((p:Int)≥0))
 ·skip
  replace h10:=of_decide_eq_false h10
  refine zk [16,17,18,19,20,21] (sp (Bv false) (zjn (xE false rfl (fun h=>absurd h qj) (fun _=>zx4 (zcr (sps [yI p,yI p] (zjr (ret1 (yI p) rfl rfl ⟨_,rfl,?_,H.base⟩))))))))
  rw [i2,climb_end (by first | omega | simp_all)]
 replace h10:=of_decide_eq_true h10
 refine qQ 15 rfl rfl (oF rfl (qQ 15 rfl rfl (oL rfl (H.cell 0 rfl rfl) (qQ 15 rfl rfl (sp (yI p) (qQ 15 rfl rfl ?_))))))
 obtain ⟨b11,o12,rfl⟩:=H.addr 2 rfl qf
 refine oI rfl rfl (qQ 15 rfl rfl (oL rfl (H.XX 2 rfl p qf qf) (qQ 15 rfl rfl (sps [Bv (!(t.qA[p.toNat]!)),Bv (!(t.qA[p.toNat]!))] (zjn (xE (!(t.qA[p.toNat]!)) rfl (fun h14=>?_) (fun h14=>?_)))))))
 ·skip
  replace h14:=xq h14
  refine qW (t_n (qX (xO (oF rfl (oL rfl (H.cell 1 rfl rfl) (sp (yI p) (oI rfl rfl (oL rfl (H.jY 0 rfl p qf qf) (sp (yI (s.qw[p.toNat]!)) (xM (b_n ?_)))))))))))
  have up1:=up qf
  refine qY (m' :=((s.qw[p.toNat]!)+1).toNat) qf ⟨_,s.qw[p.toNat]!,n - 1,uE3,?_,?_,?_,rfl,N,H⟩
  · omega
  · omega
  · exact i2.trans (climb_go qf qf ‹_›)
 replace h14:=xg h14
 refine zx4 (zcr (sps [yI p,yI p] (zjr (ret1 (yI p) rfl rfl ⟨_,rfl,?_,H.base⟩))))
 rw [i2,climb_end (by first | omega | simp_all)]

theorem Yy (w:World) (t:qH) {qV:yOA} {xR:yLN} {xm:yOA} {zC:yLN} {qL:yOA} {xC:yLN} (zi:qO.rep w xR [Sv qV t.qA.length qR] t.qA) (zM:qO.rep w zC [Sv xm t.qE.length xk] t.qE) (xN:qO.rep w xC [Sv qL t.qy.length qK] t.qy) (p0:t.qA.length≤1000000) (p1:t.qy.length≤1000000) (p2:t.qE.length≤1000000) (p3:∀ j,j < t.qE.length→(t.qE[j]!).length≤1000000):Calls Tryz.prog 79 #[.agg #[Sv qV t.qA.length qR,Sv xm t.qE.length xk,Sv qL t.qy.length qK]] w (Ret (fun v w' =>∃ (raAlive:yOA) (rnAlive:Nat) (rcAlive:Nat) (raBags:yOA) (rnBags:Nat) (rcBags:Nat) (rxBags:List Value) (rFBags:yLN) (raAround:yOA) (rnAround:Nat) (rcAround:Nat),v=.agg #[Sv raAlive rnAlive rcAlive,Sv raBags rnBags rcBags,Sv raAround rnAround rcAround]∧Fresh w.heap.size [rFBags]∧St w w' [rr raAlive rnAlive rcAlive 4 1 (t.qA.map (Value.bool)),rr raBags rnBags rcBags 22 1 rxBags,rr raAround rnAround rcAround 2 1 (t.qy.map (Value.int .i64))] [zf true rFBags rxBags t.qE]) w):=by
 refine en func79 ntmps79 ?_
 have H:=(((St.start w).arg xN).arg zM).arg zi
 have Qj:=qM zi
 have Q7:=qM zM
 have jV:=qM xN
 clear zi zM xN
 have N:=Fresh.nil w.heap.size
 refine zcr (sw (vU H (yT t qV qR xm xk qL qK) fun b1 w2 H=>sw (zh H ti38 [yN,yN,yN] fun b3 w4 H=>zjn (xQ ?_))))
 refine c_cut (fun ρ w10=>∃ (xY:Env) (b5:Nat) (ra6:yOA) (rc7:Nat) (a8:yOA) (c9:Nat),ρ=upd (upd (upd xY 1 (pp b1 0)) 2 (pp b3 0)) 3 (pp b5 0)∧Fresh w.heap.size []∧St w w10 [.box b5 [Sv ra6 t.qA.length rc7,yN,Sv a8 t.qy.length c9] 38,rr a8 t.qy.length c9 2 1 (t.qy.map (Value.int .i64)),rr ra6 t.qA.length rc7 4 1 (t.qA.map (Value.bool)),.box b3 [yN,yN,yN] 38,.box b1 (yT t qV qR xm xk qL qK) 38] [sF false xR qV qR t.qA,sF false zC xm xk t.qE,sF false xC qL qK t.qy]) ?_ ?_
 ·skip
  refine jh rfl H fun H=>tF 0 rfl rfl H ?_
  refine tL 1 rfl rfl (fun _ h=>h.cell 1 rfl rfl) H ?_
  refine tF 3 rfl rfl H ?_
  refine tL 4 rfl rfl (fun _ h=>h.cell 1 rfl rfl) H ?_
  refine jK [2,7] qh qm (Qy rfl ?_ (Qy rfl ?_ jL))
  ·skip
   have sz15:=H.base.size
   refine oc (cloneB_ok _ t.qA (H.get 0 rfl).1 qg) ?_
   rintro _ w13 ⟨ra12,rn12,rc12,rfl,M,K⟩ _
   replace H:=H.merge K M
   obtain rfl:=H.rowNB 0 rfl
   refine ⟨H.pick [1,2] [0,1,2],(jK [5,7] qh qm (Qy rfl ?_ (Qy rfl ?_ jL)))⟩
   ·skip
    have sz18:=H.base.size
    refine oc (cloneI_ok _ t.qy (H.get 2 rfl).1 qg) ?_
    rintro v23 w21 r23 x22
    replace H:=H.zJ x22 r23
    obtain ⟨a24,c25,rfl,hc26,hm27⟩:=H.jA 0 rfl
    refine ⟨H.pick [2,3] [0,1,2],(jK [6,7] qh qm (Qy rfl ?_ (Qy rfl ?_ jL)))⟩
    ·skip
     refine jF [Sv ra12 t.qA.length rc12,yN,Sv a24 t.qy.length c25] [(0,Sv ra12 t.qA.length rc12),(2,Sv a24 t.qy.length c25)] (⟨H.pick [2,3] [0,1,2],(ro 7 rfl (zh H ti38 [yN,yN,yN] fun b28 w29 H=>⟨H.pick [3,4] [0,1,2],(ro 8 rfl (zF H 0 [Sv ra12 t.qA.length rc12,yN,Sv a24 t.qy.length c25] sizeOf38 fun w30 H=>⟨H.pick [3,4] [0,1,2],(xP qh ((meet ⟨_,b28,ra12,rc12,a24,c25,uE3,N,H⟩)))⟩))⟩))⟩)
    refine zh H ti38 [yN,yN,yN] fun b31 w32 H=>⟨H.pick [3,4] [0,1,2],(ro 6 rfl (jF [Sv ra12 t.qA.length rc12,yN,Sv a24 t.qy.length c25] [(0,Sv ra12 t.qA.length rc12),(2,Sv a24 t.qy.length c25)] (⟨H.pick [3,4] [0,1,2],(ro 8 rfl (zF H 0 [Sv ra12 t.qA.length rc12,yN,Sv a24 t.qy.length c25] sizeOf38 fun w33 H=>⟨H.pick [3,4] [0,1,2],(xP qh ((meet ⟨_,b31,ra12,rc12,a24,c25,uE3,N,H⟩)))⟩))⟩)))⟩
   refine zh H ti38 [yN,yN,yN] fun b34 w35 H=>⟨H.pick [2,3] [0,1,2],(ro 5 rfl ?_)⟩
   have sz36:=H.base.size
   refine oc (cloneI_ok _ t.qy (H.get 2 rfl).1 qg) ?_
   rintro v41 w39 r41 x40
   replace H:=H.zJ x40 r41
   obtain ⟨a42,c43,rfl,hc44,hm45⟩:=H.jA 0 rfl
   refine ⟨H.pick [3,4] [0,1,2],(ro 6 rfl (jF [Sv ra12 t.qA.length rc12,yN,Sv a42 t.qy.length c43] [(0,Sv ra12 t.qA.length rc12),(2,Sv a42 t.qy.length c43)] (⟨H.pick [3,4] [0,1,2],(ro 8 rfl (zF H 1 [Sv ra12 t.qA.length rc12,yN,Sv a42 t.qy.length c43] sizeOf38 fun w46 H=>⟨H.pick [3,4] [0,1,2],(xP qh ((meet ⟨_,b34,ra12,rc12,a42,c43,uE3,N,H.pick [1,0,2,3,4] [0,1,2]⟩)))⟩))⟩)))⟩
  refine zh H ti38 [yN,yN,yN] fun b47 w48 H=>⟨H.pick [1,2] [0,1,2],(ro 2 rfl ?_)⟩
  have sz52:=H.base.size
  refine oc (cloneB_ok _ t.qA (H.get 0 rfl).1 qg) ?_
  rintro _ w50 ⟨ra49,rn49,rc49,rfl,M,K⟩ _
  replace H:=H.merge K M
  obtain rfl:=H.rowNB 0 rfl
  refine ⟨H.pick [2,3] [0,1,2],(ro 5 rfl ?_)⟩
  have sz55:=H.base.size
  refine oc (cloneI_ok _ t.qy (H.get 2 rfl).1 qg) ?_
  rintro v60 w58 r60 x59
  replace H:=H.zJ x59 r60
  obtain ⟨a61,c62,rfl,hc63,hm64⟩:=H.jA 0 rfl
  refine ⟨H.pick [3,4] [0,1,2],(ro 6 rfl (jF [Sv ra49 t.qA.length rc49,yN,Sv a61 t.qy.length c62] [(0,Sv ra49 t.qA.length rc49),(2,Sv a61 t.qy.length c62)] (⟨H.pick [3,4] [0,1,2],(ro 8 rfl (zF H 2 [Sv ra49 t.qA.length rc49,yN,Sv a61 t.qy.length c62] sizeOf38 fun w65 H=>⟨H.pick [3,4] [0,1,2],(xP qh ((meet ⟨_,b47,ra49,rc49,a61,c62,uE3,N,H.pick [2,0,1,3,4] [0,1,2]⟩)))⟩))⟩)))⟩
 clear H N
 rintro ρ w66 ⟨xY,b5,ra6,rc7,a8,c9,rfl,N,H⟩
 refine t_n (zcc (oF rfl (oL rfl (H.cell 4 rfl rfl) (oN rfl (sp (yI 0) (zjn (qX ?_)))))))
 replace H:=H.nilRow 22 1
 replace H:=H.vT (α:=yLI)
 refine zD (fun m' ρ w67=>∃ (xY:Env) (k:Nat) (yl:yOA) (vK:Nat) (yj:Nat) (out_Bags:yLL) (zW:List Value) (zn:yLN),ρ=upd (upd (upd (upd (upd xY 2 (pp b3 0)) 3 (pp b5 0)) 14 (Sv xm t.qE.length xk)) 15 (yI t.qE.length)) 16 (yI k)∧out_Bags=t.qE.take k∧((k:Int)≤t.qE.length)∧m' =(t.qE.length - (k:Int)).toNat∧Fresh w.heap.size [zn]∧St w w67 [rr yl vK yj 22 1 zW,.box b5 [Sv ra6 t.qA.length rc7,Sv yl vK yj,Sv a8 t.qy.length c9] 38,rr a8 t.qy.length c9 2 1 (t.qy.map (Value.int .i64)),rr ra6 t.qA.length rc7 4 1 (t.qA.map (Value.bool)),.box b3 [yN,yN,yN] 38,.box b1 (yT t qV qR xm xk qL qK) 38] [zf true zn zW out_Bags,sF false xR qV qR t.qA,sF false zC xm xk t.qE,sF false xC qL qK t.qy]) ((t.qE.length - (0:Int)).toNat) ⟨_,0,none,0,0,([]:yLL),[],[],uE5,(by rfl),qf,rfl,N.emp,H⟩ ?_
 clear H N
 rintro m' ρ w68 ⟨xY,k,yl,vK,yj,out_Bags,zW,zn,rfl,rfl,i0,rfl,N,H⟩
 have Y0:=H.zq (α:=yLI) 0 rfl 0 rfl qj
 have p4:=p3 k
 rw [List.length_take_of_le qf] at Y0
 refine zcr (sp (Bv (decide ((k:Int) < t.qE.length))) (zjn (xQ (cD rfl (fun h69=>?_) (fun h69=>?_)))))
 ·skip
  refine qW (t_n (xQ (qX (zcr ?_))))
  obtain ⟨b70,o71,rfl⟩:=H.addr 2 rfl qf
  obtain ⟨ae73,ce73,Fe73,H⟩:=H.vV 2 rfl k k qf qf qf
  refine oI rfl rfl (oL rfl (H.xW 1 rfl 0 rfl) (sp (Sv ae73 ((t.qE[k]!).length) ce73) (zjn ?_)))
  refine c_cut (fun ρ w79=>∃ (xY:Env) (a74:yOA) (c75:Nat) (a76:yOA) (c77:Nat) (G78:yLN),ρ=upd (upd (upd (upd (upd xY 2 (pp b3 0)) 3 (pp b5 0)) 14 (Sv (aa b70 o71) t.qE.length xk)) 15 (yI t.qE.length)) 16 (yI k)∧Fresh w.heap.size [(zn++G78)]∧St w w79 [rr a74 (vK+1) c75 22 1 (zW++[Sv a76 ((t.qE[k]!).length) c77]),.box b5 [Sv ra6 t.qA.length rc7,Sv a74 (vK+1) c75,Sv a8 t.qy.length c9] 38,rr a8 t.qy.length c9 2 1 (t.qy.map (Value.int .i64)),rr ra6 t.qA.length rc7 4 1 (t.qA.map (Value.bool)),.box b3 [yN,yN,yN] 38,.box b1 [Sv qV t.qA.length qR,Sv (aa b70 o71) t.qE.length xk,Sv qL t.qy.length qK] 38] [zf true (zn++G78) (zW++[Sv a76 ((t.qE[k]!).length) c77]) ((t.qE.take k)++[(t.qE[k]!)]),sF true G78 a76 c77 (t.qE[k]!),sF false Fe73 ae73 ce73 (t.qE[k]!),atF b70 (o71+(k:Int).toNat * 1) [Sv ae73 ((t.qE[k]!).length) ce73],sF false xR qV qR t.qA,sF false zC (aa b70 o71) xk t.qE,sF false xC qL qK t.qy]) ?_ ?_
  ·skip
   refine QI rfl H [2,3,4,5] fun H=>?_
   have S:=H.yU [2,3,4,5] [0,1,2,3,4,5]
   refine tF 0 rfl rfl S ?_
   refine rtp 2 (Sv ae73 ((t.qE[k]!).length) ce73) S ?_
   refine jK [1,3] qh qm (Qy rfl ?_ (Qy rfl ?_ jL))
   ·skip
    refine zT (Sv yl vK yj) isAgg27 rfl (H.cell 1 rfl rfl) (⟨H.pick [2,3,4,5] [0,1,2,3,4,5],(ro 3 rfl ?_)⟩)
    have sz81:=H.base.size
    have lt82:=H.ltN (L:=[zn]) [2]
    refine oc (cloneI_ok _ (t.qE[k]!) (H.get 0 rfl).1 qg) ?_
    rintro v86 w84 r86 x85
    replace H:=H.zJ x85 r86
    obtain ⟨a87,c88,rfl,hc89,hm90⟩:=H.jA 0 rfl
    refine ⟨H.pick [3,4,5,6] [0,1,2,3,4,5],(ro 4 rfl (zA H underlying27 ti22 [Sv a87 ((t.qE[k]!).length) c88] fun b91 w92 H=>⟨H.pick [4,5,6,7] [0,1,2,3,4,5],(ro 5 rfl ?_)⟩))⟩
    obtain ⟨G96,N,hn97,H⟩:=H.jb 1 rfl N (H.jU [2])
    refine zG H 2 rfl 0 rfl underlying27 ti22 rfl qj rfl rfl rfl (by simp [Value.oneCell',Value.cells]) qp qf fun a93 c94 w95 H=>?_
    replace H:=H.jd 3 rfl 0 rfl
    replace N:Fresh w.heap.size [(zn++G96)]:=(N.pick [1,0]).join
    refine ⟨H.pick [4,5,6,7] [2,3,4,5,6,7],(tF 6 rfl rfl (H.pick [4,5,6,7] [2,3,4,5,6,7]) ?_)⟩
    refine ro 7 rfl (zO H 3 [Sv ra6 t.qA.length rc7,Sv a93 (vK+1) c94,Sv a8 t.qy.length c9] sizeOf27 fun w98 H=>⟨H.pick [4,5,6,7] [2,3,4,5,6,7],(xP qh ((meet ⟨_,a93,c94,a87,c88,G96,uE5,N,H.pick [2,3,4,5,6,7] [0,1,2,3,5,6,7]⟩)))⟩)
   have sz99:=H.base.size
   have lt100:=H.ltN (L:=[zn]) [2]
   refine oc (cloneI_ok _ (t.qE[k]!) (H.get 0 rfl).1 qg) ?_
   rintro v104 w102 r104 x103
   replace H:=H.zJ x103 r104
   obtain ⟨a105,c106,rfl,hc107,hm108⟩:=H.jA 0 rfl
   refine ⟨H.pick [3,4,5,6] [0,1,2,3,4,5],(jK [1,4] qh qm (Qy rfl ?_ (Qy rfl ?_ jL)))⟩
   ·skip
    refine zT (Sv yl vK yj) isAgg27 rfl (H.cell 2 rfl rfl) (⟨H.pick [3,4,5,6] [0,1,2,3,4,5],(ro 4 rfl (zA H underlying27 ti22 [Sv a105 ((t.qE[k]!).length) c106] fun b109 w110 H=>⟨H.pick [4,5,6,7] [0,1,2,3,4,5],(ro 5 rfl ?_)⟩))⟩)
    obtain ⟨G114,N,hn115,H⟩:=H.jb 1 rfl N (H.jU [2])
    refine zG H 2 rfl 0 rfl underlying27 ti22 rfl qj rfl rfl rfl (by simp [Value.oneCell',Value.cells]) qp qf fun a111 c112 w113 H=>?_
    replace H:=H.jd 3 rfl 0 rfl
    replace N:Fresh w.heap.size [(zn++G114)]:=(N.pick [1,0]).join
    refine ⟨H.pick [4,5,6,7] [2,3,4,5,6,7],(tF 6 rfl rfl (H.pick [4,5,6,7] [2,3,4,5,6,7]) ?_)⟩
    refine ro 7 rfl (zO H 3 [Sv ra6 t.qA.length rc7,Sv a111 (vK+1) c112,Sv a8 t.qy.length c9] sizeOf27 fun w116 H=>⟨H.pick [4,5,6,7] [2,3,4,5,6,7],(xP qh ((meet ⟨_,a111,c112,a105,c106,G114,uE5,N,H.pick [2,3,4,5,6,7] [0,1,2,3,5,6,7]⟩)))⟩)
   refine zA H underlying27 ti22 [Sv a105 ((t.qE[k]!).length) c106] fun b117 w118 H=>⟨H.pick [4,5,6,7] [0,1,2,3,4,5],(ro 1 rfl (zT (Sv yl vK yj) isAgg27 rfl (H.cell 3 rfl rfl) (⟨H.pick [4,5,6,7] [0,1,2,3,4,5],(ro 5 rfl ?_)⟩)))⟩
   obtain ⟨G122,N,hn123,H⟩:=H.jb 1 rfl N (H.jU [2])
   refine zG H 2 rfl 0 rfl underlying27 ti22 rfl qj rfl rfl rfl (by simp [Value.oneCell',Value.cells]) qp qf fun a119 c120 w121 H=>?_
   replace H:=H.jd 3 rfl 0 rfl
   replace N:Fresh w.heap.size [(zn++G122)]:=(N.pick [1,0]).join
   refine ⟨H.pick [4,5,6,7] [2,3,4,5,6,7],(tF 6 rfl rfl (H.pick [4,5,6,7] [2,3,4,5,6,7]) ?_)⟩
   refine ro 7 rfl (zO H 3 [Sv ra6 t.qA.length rc7,Sv a119 (vK+1) c120,Sv a8 t.qy.length c9] sizeOf27 fun w124 H=>⟨H.pick [4,5,6,7] [2,3,4,5,6,7],(xP qh ((meet ⟨_,a119,c120,a105,c106,G122,uE5,N,H.pick [2,3,4,5,6,7] [0,1,2,3,5,6,7]⟩)))⟩)
  clear H N
  rintro ρ w125 ⟨xY,a74,c75,a76,c77,G78,rfl,N,H⟩
  refine b_n (t_n (xO (sw (zB k 1 rfl rfl qf (sp (yI (k+1)) (xM (qY (m' :=(t.qE.length - ((k+1):Int)).toNat) qf ⟨_,k+1,a74,vK+1,c75,((t.qE.take k)++[(t.qE[k]!)]),zW++[Sv a76 ((t.qE[k]!).length) c77],(zn++G78),uE5,?_,?_,rfl,N,H.pick [0,1,2,3,4,5] [0,4,5,6]⟩)))))))
  · exact take_snoc qf
  · omega
 refine zx4 (zcr (sw (zl [Sv ra6 t.qA.length rc7,Sv yl vK yj,Sv a8 t.qy.length c9] isAgg38 sizeOf38 rfl (qF (H.cells 1 rfl) 0 3) (sw (zF H 4 [Sv ra6 t.qA.length rc7,Sv yl vK yj,Sv a8 t.qy.length c9] sizeOf38 fun w126 H=>zjr (retC H 4 rfl rfl isAgg38 sizeOf38 rfl ⟨_,rfl,?_,H.base⟩))))))
 obtain rfl:k=t.qE.length:=by omega
 rw [List.take_length] at H
 exact ⟨ra6,t.qA.length,rc7,yl,vK,yj,zW,zn,a8,t.qy.length,c9,rfl,N,H.pick [3,0,2] [0]⟩
theorem l00Max_ok (w:World) (a:Int) (b:Int):Calls Tryz.prog 119 #[yI a,yI b] w (Ret (fun v w' =>v=yI (max a b)) w):=by
 refine en func119 ntmps119 ?_
 have H:=St.start w
 have N:=Fresh.nil w.heap.size
 refine zcr (sp (yI 0) (zjcc (sps [yI a,yI b,Bv (decide ((a:Int) > b))] (zjn (cD rfl (fun h1=>?_) (fun h1=>?_))))))
 ·skip
  refine zcr (sps [yI a,yI a] (zjr (t_r (ret1 (yI a) rfl rfl ⟨_,rfl,(congrArg (Value.int .i64) ?_),H.base⟩))))
  omega
 refine qW (t_n (zcr (sps [yI b,yI b] (zjr (ret1 (yI b) rfl rfl ⟨_,rfl,(congrArg (Value.int .i64) ?_),H.base⟩)))))
 omega

theorem l01Within_ok (w:World) (l:yLI) (m:yLI) {al:yOA} {Fl:yLN} {am:yOA} {Fm:yLN} (hl:qO.rep w Fl [Sv al l.length cl] l) (hm:qO.rep w Fm [Sv am m.length cm] m) (p0:l.length≤m.length):Calls Tryz.prog 192 #[Sv al l.length cl,Sv am m.length cm] w (Ret (fun v w' =>v=Bv (within l m)) w):=by
 refine en func192 ntmps192 ?_
 have H:=((St.start w).arg hm).arg hl
 have nhl:=qM hl
 have nhm:=qM hm
 clear hl hm
 have N:=Fresh.nil w.heap.size
 refine zcr (sp (Bv false) (zjcc (sp (yI 0) (zjn (qX ?_)))))
 refine zD (fun m' ρ w1=>∃ (xY:Env) (i:Nat),ρ=upd (upd (upd xY 0 (Sv al l.length cl)) 1 (Sv am m.length cm)) 5 (yI i)∧((i:Int)≤l.length)∧(withinTo l m i)∧m' =(l.length - (i:Int)).toNat∧Fresh w.heap.size []∧St w w1 [] [sF false Fl al cl l,sF false Fm am cm m]) ((l.length - (0:Int)).toNat) ⟨_,0,uE3,qf,(by exact withinTo_zero l m),rfl,N,H⟩ ?_
 clear H N
 rintro m' ρ w2 ⟨xY,i,rfl,i0,i1,rfl,N,H⟩
 refine zcc (sps [yI i,Sv al l.length cl] (oN rfl (sp (Bv (decide ((i:Int) < l.length))) (zjn (cD rfl (fun h3=>?_) (fun h3=>?_))))))
 ·skip
  refine qW (t_n (xQ (qX (xQ ?_))))
  refine jh rfl H fun H=>rtp 0 (Sv al l.length cl) H ?_
  refine rtp 1 (yI i) H ?_
  obtain ⟨b5,o6,rfl⟩:=H.addr 0 rfl qf
  refine tI 2 rfl rfl rfl H ?_
  refine tL 3 rfl rfl (fun _ h=>h.yG 0 rfl i qf) H ?_
  refine rtp 4 (Sv am m.length cm) H ?_
  refine rtp 5 (yI i) H ?_
  obtain ⟨b8,o9,rfl⟩:=H.addr 1 rfl qf
  refine tI 6 rfl rfl rfl H ?_
  refine tL 7 rfl rfl (fun _ h=>h.yG 1 rfl i qf) H ?_
  refine rtp 8 (Bv (decide ((l[i]! :Int) > (m[i]!)))) H ?_
  refine xP qh (t_n (cD rfl (fun h11=>?_) (fun h11=>?_)))
  ·skip
   refine zcr (sp (Bv false) (zjr (zr5 (ret1 (Bv false) rfl rfl ⟨_,rfl,?_,H.base⟩))))
   rw [within_no (k:=i) ‹_› qf]
  refine qW (b_n (t_n (xO (sp (yI i) (sw (zB i 1 rfl rfl qf (sp (yI (i+1)) (xM (qY (m' :=(l.length - ((i+1):Int)).toNat) qf ⟨_,i+1,uE3,?_,?_,rfl,N,H⟩)))))))))
  · omega
  · exact withinTo_succ ‹_› qf
 refine zx4 (zcr (sp (Bv true) (zjr (ret1 (Bv true) rfl rfl ⟨_,rfl,?_,H.base⟩))))
 rw [within_yes ‹_› qf]

theorem l01Times_ok (w:World) (l:yLI) (m:yLI) {al:yOA} {Fl:yLN} {am:yOA} {Fm:yLN} (hl:qO.rep w Fl [Sv al l.length cl] l) (hm:qO.rep w Fm [Sv am m.length cm] m) (p0:l.length≤m.length) (p2:∀ k,k < l.length→0≤m[k]! ∧m[k]! ≤1000) (p3:∃ j,j < l.length∧0 < l[j]!):Calls Tryz.prog 199 #[Sv al l.length cl,Sv am m.length cm] w (Ret (fun v w' =>v=yI (jD l m)) w):=by
 refine en func199 ntmps199 ?_
 have H:=((St.start w).arg hm).arg hl
 have nhl:=qM hl
 have nhm:=qM hm
 clear hl hm
 have N:=Fresh.nil w.heap.size
 refine zcr (sp (yI 0) (zjc (sp (yI (-1)) (zjcc (sp (yI 0) (zjn (qX ?_)))))))
 refine zD (fun m' ρ w1=>∃ (xY:Env) (best:Int) (i:Nat),ρ=upd (upd (upd (upd xY 0 (Sv al l.length cl)) 1 (Sv am m.length cm)) 5 (yI best)) 6 (yI i)∧((i:Int)≤l.length)∧(X0 l m i best)∧m' =(l.length - (i:Int)).toNat∧Fresh w.heap.size []∧St w w1 [] [sF false Fl al cl l,sF false Fm am cm m]) ((l.length - (0:Int)).toNat) ⟨_,(-1),0,uE4,qf,(by exact X0.zero l m),rfl,N,H⟩ ?_
 clear H N
 rintro m' ρ w2 ⟨xY,best,i,rfl,i0,i1,rfl,N,H⟩
 refine zcc (sps [yI i,Sv al l.length cl] (oN rfl (sp (Bv (decide ((i:Int) < l.length))) (zjn (cD rfl (fun h3=>?_) (fun h3=>?_))))))
 ·skip
  refine qW (t_n (xQ (qX (xQ ?_))))
  refine jh rfl H fun H=>rtp 0 (Sv al l.length cl) H ?_
  refine rtp 1 (yI i) H ?_
  obtain ⟨b5,o6,rfl⟩:=H.addr 0 rfl qf
  refine tI 2 rfl rfl rfl H ?_
  refine tL 3 rfl rfl (fun _ h=>h.yG 0 rfl i qf) H ?_
  refine rtp 4 (Bv (decide ((l[i]! :Int) > 0))) H ?_
  refine rtp 5 (Bv (decide ((l[i]! :Int) > 0))) H ?_
  cases h8:(decide ((l[i]! :Int) > 0))
  ·skip
   replace h8:=of_decide_eq_false h8
   refine zZ [6,7,8,9,10,11,12,13,14,15,16,17,18,19,20] 15 (H) (rtp 21 (Bv false) H ?_)
   refine xP qh (t_n (xE false rfl (fun h=>absurd h qj) (fun _=>qW (b_n (t_n (xO (sp (yI i) (sw (zB i 1 rfl rfl (by (have:=p2 i qf;omega)) (sp (yI (i+1)) (xM (qY (m' :=(l.length - ((i+1):Int)).toNat) qf ⟨_,best,i+1,uE4,?_,?_,rfl,N,H⟩))))))))))))
   · omega
   · first | exact i1.take (p2 i qf) qf qf (timesTo_bd (fun k hk=>(p2 k hk).1) i qf).1 | exact i1.keep qf | exact i1.keep2 qf qf qf
  replace h8:=of_decide_eq_true h8
  refine rgp 6 (yI best) 18 H ?_
  refine rgp 7 (Bv (decide ((best:Int) < 0))) 18 H ?_
  refine rgp 8 (Bv (decide ((best:Int) < 0))) 18 H ?_
  cases h9:(decide ((best:Int) < 0))
  ·skip
   replace h9:=of_decide_eq_false h9
   refine rgp 9 (Sv am m.length cm) 21 H ?_
   refine rgp 10 (yI i) 21 H ?_
   obtain ⟨b10,o11,rfl⟩:=H.addr 1 rfl qf
   refine gI 11 rfl rfl rfl H ?_
   refine gL 12 rfl rfl (fun _ h=>h.jY 1 rfl i qf qf) H ?_
   refine rgp 13 (Sv (aa b5 o6) l.length cl) 21 H ?_
   refine rgp 14 (yI i) 21 H ?_
   refine gI 15 rfl rfl rfl H ?_
   refine gL 16 rfl rfl (fun _ h=>h.jY 0 rfl i qf qf) H ?_
   refine rg 17 (yI ((m[i]!) / (l[i]!))) 21 (y_quo (m[i]!) (l[i]!) rfl rfl (by (have:=p2 i qf;omega)) (by (have:=p2 i qf;omega))) H ?_
   refine rgp 18 (yI best) 21 H ?_
   refine rgp 19 (Bv (decide (((m[i]!) / (l[i]!):Int) < best))) 21 H ?_
   refine rgp 20 (Bv (decide (((m[i]!) / (l[i]!):Int) < best))) 18 H ?_
   refine rtp 21 (Bv (decide (((m[i]!) / (l[i]!):Int) < best))) H ?_
   refine xP qh (t_n (cD rfl (fun h13=>?_) (fun h13=>?_)))
   ·skip
    refine jh rfl H fun H=>rtp 0 (Sv (aa b10 o11) m.length cm) H ?_
    refine rtp 1 (yI i) H ?_
    refine tI 2 rfl rfl rfl H ?_
    refine tL 3 rfl rfl (fun _ h=>h.yG 1 rfl i qf) H ?_
    refine rtp 4 (Sv (aa b5 o6) l.length cl) H ?_
    refine rtp 5 (yI i) H ?_
    refine tI 6 rfl rfl rfl H ?_
    refine tL 7 rfl rfl (fun _ h=>h.yG 0 rfl i qf) H ?_
    refine rt 8 (yI ((m[i]!) / (l[i]!))) (y_quo (m[i]!) (l[i]!) rfl rfl (by (have:=p2 i qf;omega)) (by (have:=p2 i qf;omega))) H ?_
    refine rtp 9 (yI ((m[i]!) / (l[i]!))) H ?_
    refine xP qh (b_n (t_n (xO (sp (yI i) (sw (zB i 1 rfl rfl (by (have:=p2 i qf;omega)) (sp (yI (i+1)) (xM (qY (m' :=(l.length - ((i+1):Int)).toNat) qf ⟨_,(m[i]!) / (l[i]!),i+1,uE4,?_,?_,rfl,N,H⟩)))))))))
    · omega
    · first | exact i1.take (p2 i qf) qf qf (timesTo_bd (fun k hk=>(p2 k hk).1) i qf).1 | exact i1.keep qf | exact i1.keep2 qf qf qf
   refine qW (b_n (t_n (xO (sp (yI i) (sw (zB i 1 rfl rfl (by (have:=p2 i qf;omega)) (sp (yI (i+1)) (xM (qY (m' :=(l.length - ((i+1):Int)).toNat) qf ⟨_,best,i+1,uE4,?_,?_,rfl,N,H⟩)))))))))
   · omega
   · first | exact i1.take (p2 i qf) qf qf (timesTo_bd (fun k hk=>(p2 k hk).1) i qf).1 | exact i1.keep qf | exact i1.keep2 qf qf qf
  replace h9:=of_decide_eq_true h9
  refine zZ [9,10,11,12,13,14,15,16,17,18,19] 11 (H) (rgp 20 (Bv true) 18 H ?_)
  refine rtp 21 (Bv true) H ?_
  refine xP qh (t_n (xE true rfl (fun _=>?_) (fun h=>absurd h qj)))
  refine jh rfl H fun H=>rtp 0 (Sv am m.length cm) H ?_
  refine rtp 1 (yI i) H ?_
  obtain ⟨b16,o17,rfl⟩:=H.addr 1 rfl qf
  refine tI 2 rfl rfl rfl H ?_
  refine tL 3 rfl rfl (fun _ h=>h.yG 1 rfl i qf) H ?_
  refine rtp 4 (Sv (aa b5 o6) l.length cl) H ?_
  refine rtp 5 (yI i) H ?_
  refine tI 6 rfl rfl rfl H ?_
  refine tL 7 rfl rfl (fun _ h=>h.yG 0 rfl i qf) H ?_
  refine rt 8 (yI ((m[i]!) / (l[i]!))) (y_quo (m[i]!) (l[i]!) rfl rfl (by (have:=p2 i qf;omega)) (by (have:=p2 i qf;omega))) H ?_
  refine rtp 9 (yI ((m[i]!) / (l[i]!))) H ?_
  refine xP qh (b_n (t_n (xO (sp (yI i) (sw (zB i 1 rfl rfl (by (have:=p2 i qf;omega)) (sp (yI (i+1)) (xM (qY (m' :=(l.length - ((i+1):Int)).toNat) qf ⟨_,(m[i]!) / (l[i]!),i+1,uE4,?_,?_,rfl,N,H⟩)))))))))
  · omega
  · first | exact i1.take (p2 i qf) qf qf (timesTo_bd (fun k hk=>(p2 k hk).1) i qf).1 | exact i1.keep qf | exact i1.keep2 qf qf qf
 refine zx4 (zcr (sps [yI best,yI best] (zjr (ret1 (yI best) rfl rfl ⟨_,rfl,?_,H.base⟩))))
 obtain rfl:i=l.length:=by omega
 rw [i1.done p3];rfl

theorem l03Both_ok (w:World) (s:qI) (t:qH) {qC:yOA} {qZ:yLN} {qN:yOA} {xG:yLN} {qV:yOA} {xR:yLN} {xm:yOA} {zC:yLN} {qL:yOA} {xC:yLN} (hs:vN w bs os (yS s qC qB qN qJ)) (xf:qO.rep w qZ [Sv qC s.qw.length qB] s.qw) (xJ:qO.rep w xG [Sv qN s.qx.length qJ] s.qx) (ht:vN w bt ot (yT t qV qR xm xk qL qK)) (zi:qO.rep w xR [Sv qV t.qA.length qR] t.qA) (zM:qO.rep w zC [Sv xm t.qE.length xk] t.qE) (xN:qO.rep w xC [Sv qL t.qy.length qK] t.qy):Calls Tryz.prog 57 #[pp bs os,pp bt ot] w (Ret (fun v w' =>v=Bv (dec (jE s∧zu s t))) w):=by
 refine en func57 ntmps57 ?_
 have H:=(((((((St.start w).arg xN).arg zM).arg zi).V7 ht).arg xJ).arg xf).V7 hs
 have vH:=qM xf
 have jw:=qM xJ
 have Qj:=qM zi
 have Q7:=qM zM
 have jV:=qM xN
 clear hs xf xJ ht zi zM xN
 have N:=Fresh.nil w.heap.size
 refine zcr (sp (Bv false) (zjc (sp (pp bs os) (sw (oq (l02Ok_ok _ s (qF (H.get 0 rfl) 0 3) (H.get 1 rfl).1 (H.get 2 rfl).1) H fun w1 H=>sp (Bv (dec (jE s))) ?_)))))
 cases h3:(dec (jE s))
 ·skip
  replace h3:=vG h3
  refine zk [8,9,10] (sps [Bv false,Bv false] (zjr (ret1 (Bv false) rfl rfl ⟨_,rfl,?_,H.base⟩)))
  rw [xx (fun h=>‹¬ jE s› h.1)]
 replace h3:=QU h3
 refine qQ 7 rfl rfl (sp (pp bs os) (qQ 7 rfl rfl (sp (pp bt ot) (qQ 7 rfl rfl (sw (oq (l02State_ok _ s t (qF (H.get 0 rfl) 0 3) (H.get 1 rfl).1 (H.get 2 rfl).1 (qF (H.get 3 rfl) 0 3) (H.get 4 rfl).1 (H.get 5 rfl).1 (H.get 6 rfl).1 (by first | assumption | exact (And.left (by assumption:jE _)))) H fun w4 H=>sps [Bv (dec (zu s t)),Bv (dec (zu s t))] (zjr (ret1 (Bv (dec (zu s t))) rfl rfl ⟨_,rfl,(congrArg Value.bool (dec_eq ?_)),H.base⟩))))))))
 first | exact ⟨fun h=>⟨‹_›,QU h⟩,fun h=>yH h.2⟩ | (simp_all;done)

theorem l03Enabled_ok (w:World) (s:qI) (t:qH) (r:Xg) {qC:yOA} {qZ:yLN} {qN:yOA} {xG:yLN} {qV:yOA} {xR:yLN} {xm:yOA} {zC:yLN} {qL:yOA} {xC:yLN} {br or:Nat} {Qd:yOA} {YM:yLN} {Qh:yOA} {YP:yLN} {Qe:yOA} {YN:yLN} {Qg:yOA} {YO:yLN} {XP:yOA} {FrOut:yLN} {yD:yOA} {FrInto:yLN} (hs:vN w bs os (yS s qC qB qN qJ)) (xf:qO.rep w qZ [Sv qC s.qw.length qB] s.qw) (xJ:qO.rep w xG [Sv qN s.qx.length qJ] s.qx) (ht:vN w bt ot (yT t qV qR xm xk qL qK)) (zi:qO.rep w xR [Sv qV t.qA.length qR] t.qA) (zM:qO.rep w zC [Sv xm t.qE.length xk] t.qE) (xN:qO.rep w xC [Sv qL t.qy.length qK] t.qy) (hr:vN w br or [yI r.qG,yI r.zS,Sv Qd r.xn.length yY,Sv Qh r.xF.length Qb,Sv Qe r.xI.length yZ,Sv Qg r.xK.length Qa,Sv XP r.ve.length XO,Sv yD r.qU.length yB,Bv r.zH]) (hrNeed:qO.rep w YM [Sv Qd r.xn.length yY] r.xn) (hrHave:qO.rep w YP [Sv Qh r.xF.length Qb] r.xF) (hrLack:qO.rep w YN [Sv Qe r.xI.length yZ] r.xI) (hrHere:qO.rep w YO [Sv Qg r.xK.length Qa] r.xK) (hrOut:qO.rep w FrOut [Sv XP r.ve.length XO] r.ve) (hrInto:qO.rep w FrInto [Sv yD r.qU.length yB] r.qU) (p0:jE s) (p1:zu s t) (p2:RuleOk s r):Calls Tryz.prog 157 #[pp bs os,pp bt ot,pp br or] w (Ret (fun v w' =>v=Bv (dec (EnOk s t r))) w):=by
 refine en func157 ntmps157 ?_
 have H:=((((((((((((((St.start w).arg hrInto).arg hrOut).arg hrHere).arg hrLack).arg hrHave).arg hrNeed).V7 hr).arg xN).arg zM).arg zi).V7 ht).arg xJ).arg xf).V7 hs
 have vH:=qM xf
 have jw:=qM xJ
 have Qj:=qM zi
 have Q7:=qM zM
 have jV:=qM xN
 have nhrNeed:=qM hrNeed
 have nhrHave:=qM hrHave
 have nhrLack:=qM hrLack
 have nhrHere:=qM hrHere
 have nhrOut:=qM hrOut
 have nhrInto:=qM hrInto
 clear hs xf xJ ht zi zM xN hr hrNeed hrHave hrLack hrHere hrOut hrInto
 have N:=Fresh.nil w.heap.size
 have p3:=p2.1
 have p4:=p1.1
 have p5:=p1.2.1
 have p6:=(p1.bagLen (k:=r.qG.toNat) qf).len
 have p7:=p2.2.2.2.2.1.len
 have p8:=p2.2.2.2.2.2.1.len
 have p9:=p2.2.2.2.2.2.2.1.len
 have p10:=vX p2.2.2.2.2.2.2.1
 have p11:=p0.1
 have p12:=p2.2.2.2.2.2.2.2.2.2.2
 refine zcr (sp (Bv false) (zjn (xQ (xQ ?_))))
 refine jh rfl H fun H=>rtp 0 (pp bt ot) H ?_
 refine rtp 1 (pp bt ot) H ?_
 refine tF 2 rfl rfl H ?_
 refine tL 3 rfl rfl (fun _ h=>h.xW 3 rfl 0 rfl) H ?_
 refine rtp 4 (pp br or) H ?_
 refine rtp 5 (pp br or) H ?_
 refine tF 6 rfl rfl H ?_
 refine tL 7 rfl rfl (fun _ h=>h.xW 7 rfl 0 rfl) H ?_
 obtain ⟨b2,o3,rfl⟩:=H.addr 4 rfl qf
 refine tI 8 rfl rfl rfl H ?_
 refine tL 9 rfl rfl (fun _ h=>h.XX 4 rfl r.qG qf qf) H ?_
 refine rtp 10 (Bv (!(t.qA[r.qG.toNat]!))) H ?_
 refine xP qh (t_n (xE (!(t.qA[r.qG.toNat]!)) rfl (fun h5=>?_) (fun h5=>?_)))
 ·skip
  replace h5:=xq h5
  refine zcr (sp (Bv false) (zjr (t_r (ret1 (Bv false) rfl rfl ⟨_,rfl,?_,H.base⟩))))
  rw [xx (fun h=>by obtain ⟨h1,h2,h3,h4,h5⟩:=h;first | exact ft h1 ‹_› | exact ft h2 ‹_› | exact ft h3 ‹_› | exact h4 ⟨‹_›,‹_›⟩ | (obtain ⟨q1,q2⟩:=h5 i qf;first | exact ft q1 ‹_› | exact absurd q2 ‹_›))]
 replace h5:=xg h5
 refine qW (t_n (xQ ?_))
 refine jh rfl H fun H=>rtp 0 (pp bt ot) H ?_
 refine rtp 1 (pp bt ot) H ?_
 refine tF 2 rfl rfl H ?_
 refine tL 3 rfl rfl (fun _ h=>h.xW 3 rfl 1 rfl) H ?_
 refine rtp 4 (pp br or) H ?_
 refine rtp 5 (pp br or) H ?_
 refine tF 6 rfl rfl H ?_
 refine tL 7 rfl rfl (fun _ h=>h.xW 7 rfl 0 rfl) H ?_
 obtain ⟨b7,o8,rfl⟩:=H.addr 5 rfl qf
 obtain ⟨ae10,ce10,Fe10,H⟩:=H.vV 5 rfl r.qG r.qG.toNat qf qf qf
 refine tI 8 rfl rfl rfl (H.pick [] [2,3,4,5,6,7,8,9,10,11,12,13,14,15]) ?_
 refine ro 9 rfl (zT (Sv ae10 ((t.qE[r.qG.toNat]!).length) ce10) isAgg22 rfl (H.xW 1 rfl 0 rfl) (⟨H.pick [] [2,3,4,5,6,7,8,9,10,11,12,13,14,15],(rtp 10 (Sv ae10 ((t.qE[r.qG.toNat]!).length) ce10) (H.pick [] [2,3,4,5,6,7,8,9,10,11,12,13,14,15]) ?_)⟩))
 refine xP qh (t_n (zcc (sps [pp br or,pp br or] (oF rfl (oL rfl (H.xW 9 rfl 2 rfl) (sp (Sv ae10 ((t.qE[r.qG.toNat]!).length) ce10) (sw (oq (l01Within_ok _ r.xn (t.qE[r.qG.toNat]!) (H.get 10 rfl).1 (H.get 0 rfl).1 qg) H fun w12 H=>sps [Bv (!(within r.xn (t.qE[r.qG.toNat]!))),Bv (!(within r.xn (t.qE[r.qG.toNat]!)))] ?_))))))))
 cases h14:(!(within r.xn (t.qE[r.qG.toNat]!)))
 ·skip
  replace h14:=xg h14
  refine qQ 38 rfl rfl (sp (pp br or) (qQ 38 rfl rfl (sp (pp br or) (qQ 38 rfl rfl (oF rfl (qQ 38 rfl rfl (oL rfl (H.xW 9 rfl 3 rfl) (qQ 38 rfl rfl (sp (Sv ae10 ((t.qE[r.qG.toNat]!).length) ce10) (qQ 38 rfl rfl (sw (oq (l01Within_ok _ r.xF (t.qE[r.qG.toNat]!) (H.get 11 rfl).1 (H.get 0 rfl).1 qg) H fun w16 H=>qQ 38 rfl rfl (sps [Bv (!(within r.xF (t.qE[r.qG.toNat]!))),Bv (!(within r.xF (t.qE[r.qG.toNat]!))),Bv (!(within r.xF (t.qE[r.qG.toNat]!)))] ?_)))))))))))))
  cases h18:(!(within r.xF (t.qE[r.qG.toNat]!)))
  ·skip
   replace h18:=xg h18
   refine qQ 47 rfl rfl (sp (pp br or) (qQ 47 rfl rfl (sp (pp br or) (qQ 47 rfl rfl (oF rfl (qQ 47 rfl rfl (oL rfl (H.xW 9 rfl 4 rfl) (qQ 47 rfl rfl (sw (oq (Y7 _ r.xI (H.get 12 rfl).1 (by first | assumption | exact vX ql | exact QD ql)) H fun w19 H=>qQ 47 rfl rfl (sp (Bv (decide ((Yd r.xI:Int) > 0))) (qQ 47 rfl rfl (sp (Bv (decide ((Yd r.xI:Int) > 0))) ?_)))))))))))))
   cases h21:(decide ((Yd r.xI:Int) > 0))
   ·skip
    replace h21:=of_decide_eq_false h21
    refine zk [55,56,57,58,59,60] (qQ 47 rfl rfl (sps [Bv false,Bv false] (zjn (xE false rfl (fun h=>absurd h qj) (fun _=>qW (t_n (zcc (sp (yI 0) (zjn (qX ?_))))))))))
    refine zD (fun m' ρ w22=>∃ (xY:Env) (i:Nat),ρ=upd (upd (upd (upd xY 0 (pp bs os)) 1 (pp bt ot)) 2 (pp br or)) 8 (yI i)∧((i:Int)≤r.qU.length)∧(IntoUp s t r i)∧m' =(r.qU.length - (i:Int)).toNat∧Fresh w.heap.size []∧St w w22 [] [sF false Fe10 ae10 ce10 (t.qE[r.qG.toNat]!),atF b7 (o8+(r.qG:Int).toNat * 1) [Sv ae10 ((t.qE[r.qG.toNat]!).length) ce10],atF bs os (yS s qC qB qN qJ),sF false qZ qC qB s.qw,sF false xG qN qJ s.qx,atF bt ot [Sv (aa b2 o3) t.qA.length qR,Sv (aa b7 o8) t.qE.length xk,Sv qL t.qy.length qK],sF false xR (aa b2 o3) qR t.qA,sF false zC (aa b7 o8) xk t.qE,sF false xC qL qK t.qy,atF br or [yI r.qG,yI r.zS,Sv Qd r.xn.length yY,Sv Qh r.xF.length Qb,Sv Qe r.xI.length yZ,Sv Qg r.xK.length Qa,Sv XP r.ve.length XO,Sv yD r.qU.length yB,Bv r.zH],sF false YM Qd yY r.xn,sF false YP Qh Qb r.xF,sF false YN Qe yZ r.xI,sF false YO Qg Qa r.xK,sF false FrOut XP XO r.ve,sF false FrInto yD yB r.qU]) ((r.qU.length - (0:Int)).toNat) ⟨_,0,uE4,qf,(by exact fun j hj=>by omega),rfl,N,H⟩ ?_
    clear H N
    rintro m' ρ w23 ⟨xY,i,rfl,i0,i1,rfl,N,H⟩
    refine zcc (sps [yI i,pp br or,pp br or] (oF rfl (oL rfl (H.xW 9 rfl 7 rfl) (oN rfl (sp (Bv (decide ((i:Int) < r.qU.length))) (zjn (cD rfl (fun h24=>?_) (fun h24=>?_))))))))
    ·skip
     have q:=(p12 i qf).1
     have q1:=q.1
     have q2:=q.2
     refine qW (t_n (xQ (qX (zcr (sps [pp br or,pp br or] (oF rfl (oL rfl (H.xW 9 rfl 7 rfl) (sp (yI i) ?_))))))))
     obtain ⟨b25,o26,rfl⟩:=H.addr 15 rfl qf
     obtain ⟨ae28Bag,ce28Bag,Fe28Bag,H⟩:=H.yh 15 rfl i i qf qf qf
     refine oI rfl rfl (oF rfl (oL rfl (H.xW 1 rfl 0 rfl) (sp (yI ((r.qU[i]!).qG)) (zjn (xQ ?_)))))
     refine jh rfl H fun H=>rtp 0 (pp bt ot) H ?_
     refine rtp 1 (pp bt ot) H ?_
     refine tF 2 rfl rfl H ?_
     refine tL 3 rfl rfl (fun _ h=>h.xW 7 rfl 0 rfl) H ?_
     refine rtp 4 (yI ((r.qU[i]!).qG)) H ?_
     refine tI 5 rfl rfl rfl H ?_
     refine tL 6 rfl rfl (fun _ h=>h.XX 8 rfl ((r.qU[i]!).qG) qf qf) H ?_
     refine rtp 7 (Bv (!(t.qA[((r.qU[i]!).qG).toNat]!))) H ?_
     refine rtp 8 (Bv (!(t.qA[((r.qU[i]!).qG).toNat]!))) H ?_
     cases h30:(!(t.qA[((r.qU[i]!).qG).toNat]!))
     ·skip
      replace h30:=xg h30
      refine rgp 9 (pp bs os) 88 H ?_
      refine rgp 10 (pp bt ot) 88 H ?_
      refine rgp 11 (yI ((r.qU[i]!).qG)) 88 H ?_
      refine rgp 13 (pp br or) 88 H ?_
      refine rgp 14 (pp br or) 88 H ?_
      refine gF 15 rfl rfl H ?_
      refine gL 16 rfl rfl (fun _ h=>h.xW 11 rfl 0 rfl) H ?_
      refine jK [12] qh qm (r_opG rfl (e:=88) rfl rfl (oq (l02Parent_ok _ s t ((r.qU[i]!).qG) (qF (H.get 4 rfl) 0 3) (H.get 5 rfl).1 (H.get 6 rfl).1 (qF (H.get 7 rfl) 0 3) (H.get 8 rfl).1 (H.get 9 rfl).1 (H.get 10 rfl).1 ql ql ql) H fun w31 H=>⟨H,(rgp 17 (Bv ((xA s t ((r.qU[i]!).qG):Int) != r.qG)) 88 H ?_)⟩) jL)
      refine rtp 18 (Bv ((xA s t ((r.qU[i]!).qG):Int) != r.qG)) H ?_
      refine xP qh (t_n (xE ((xA s t ((r.qU[i]!).qG):Int) != r.qG) rfl (fun h33=>?_) (fun h33=>?_)))
      ·skip
       replace h33:=bne_iff_ne.1 h33
       refine zcr (sp (Bv false) (zjr (zr5 (ret1 (Bv false) rfl rfl ⟨_,rfl,?_,H.base⟩))))
       rw [xx (fun h=>by obtain ⟨h1,h2,h3,h4,h5⟩:=h;first | exact ft h1 ‹_› | exact ft h2 ‹_› | exact ft h3 ‹_› | exact h4 ⟨‹_›,‹_›⟩ | (obtain ⟨q1,q2⟩:=h5 i qf;first | exact ft q1 ‹_› | exact absurd q2 ‹_›))]
      replace h33:=xw h33
      refine qW (b_n (t_n (xO (sp (yI i) (sw (zB i 1 rfl rfl qf (sp (yI (i+1)) (xM (qY (m' :=(r.qU.length - ((i+1):Int)).toNat) qf ⟨_,i+1,uE4,?_,?_,rfl,N,H.pick [] [2,3,4,5,6,7,8,9,10,11,12,13,14,15,16,17]⟩)))))))))
      · omega
      · exact i1.succ ‹_› ‹_›
     replace h30:=xq h30
     refine zZ [9,10,11,12,13,14,15,16,17] 9 (H) (rtp 18 (Bv true) H ?_)
     refine xP qh (t_n (xE true rfl (fun _=>zcr (sp (Bv false) (zjr (zr5 (ret1 (Bv false) rfl rfl ⟨_,rfl,?_,H.base⟩))))) (fun h=>absurd h qj)))
     rw [xx (fun h=>by obtain ⟨h1,h2,h3,h4,h5⟩:=h;first | exact ft h1 ‹_› | exact ft h2 ‹_› | exact ft h3 ‹_› | exact h4 ⟨‹_›,‹_›⟩ | (obtain ⟨q1,q2⟩:=h5 i qf;first | exact ft q1 ‹_› | exact absurd q2 ‹_›))]
    refine zx4 (zcr (sp (Bv true) (zjr (ret1 (Bv true) rfl rfl ⟨_,rfl,?_,H.base⟩))))
    rw [yH ⟨by assumption,by assumption,by assumption,fun ⟨u,v⟩=>by first | omega | exact ft v ‹_›,(show i=r.qU.length by omega)▸i1⟩]
   replace h21:=of_decide_eq_true h21
   refine qQ 54 rfl rfl (sp (pp br or) (qQ 54 rfl rfl (sp (pp br or) (qQ 54 rfl rfl (oF rfl (qQ 54 rfl rfl (oL rfl (H.xW 9 rfl 4 rfl) (qQ 54 rfl rfl (sp (Sv ae10 ((t.qE[r.qG.toNat]!).length) ce10) (qQ 54 rfl rfl (sw (oq (l01Within_ok _ r.xI (t.qE[r.qG.toNat]!) (H.get 12 rfl).1 (H.get 0 rfl).1 qg) H fun w35 H=>qQ 47 rfl rfl (sps [Bv (within r.xI (t.qE[r.qG.toNat]!)),Bv (within r.xI (t.qE[r.qG.toNat]!))] (zjn (xE (within r.xI (t.qE[r.qG.toNat]!)) rfl (fun h37=>?_) (fun h37=>?_))))))))))))))))
   ·skip
    refine zcr (sp (Bv false) (zjr (t_r (ret1 (Bv false) rfl rfl ⟨_,rfl,?_,H.base⟩))))
    rw [xx (fun h=>by obtain ⟨h1,h2,h3,h4,h5⟩:=h;first | exact ft h1 ‹_› | exact ft h2 ‹_› | exact ft h3 ‹_› | exact h4 ⟨‹_›,‹_›⟩ | (obtain ⟨q1,q2⟩:=h5 i qf;first | exact ft q1 ‹_› | exact absurd q2 ‹_›))]
   refine qW (t_n (zcc (sp (yI 0) (zjn (qX ?_)))))
   refine zD (fun m' ρ w38=>∃ (xY:Env) (i:Nat),ρ=upd (upd (upd (upd xY 0 (pp bs os)) 1 (pp bt ot)) 2 (pp br or)) 8 (yI i)∧((i:Int)≤r.qU.length)∧(IntoUp s t r i)∧m' =(r.qU.length - (i:Int)).toNat∧Fresh w.heap.size []∧St w w38 [] [sF false Fe10 ae10 ce10 (t.qE[r.qG.toNat]!),atF b7 (o8+(r.qG:Int).toNat * 1) [Sv ae10 ((t.qE[r.qG.toNat]!).length) ce10],atF bs os (yS s qC qB qN qJ),sF false qZ qC qB s.qw,sF false xG qN qJ s.qx,atF bt ot [Sv (aa b2 o3) t.qA.length qR,Sv (aa b7 o8) t.qE.length xk,Sv qL t.qy.length qK],sF false xR (aa b2 o3) qR t.qA,sF false zC (aa b7 o8) xk t.qE,sF false xC qL qK t.qy,atF br or [yI r.qG,yI r.zS,Sv Qd r.xn.length yY,Sv Qh r.xF.length Qb,Sv Qe r.xI.length yZ,Sv Qg r.xK.length Qa,Sv XP r.ve.length XO,Sv yD r.qU.length yB,Bv r.zH],sF false YM Qd yY r.xn,sF false YP Qh Qb r.xF,sF false YN Qe yZ r.xI,sF false YO Qg Qa r.xK,sF false FrOut XP XO r.ve,sF false FrInto yD yB r.qU]) ((r.qU.length - (0:Int)).toNat) ⟨_,0,uE4,qf,(by exact fun j hj=>by omega),rfl,N,H⟩ ?_
   clear H N
   rintro m' ρ w39 ⟨xY,i,rfl,i0,i1,rfl,N,H⟩
   refine zcc (sps [yI i,pp br or,pp br or] (oF rfl (oL rfl (H.xW 9 rfl 7 rfl) (oN rfl (sp (Bv (decide ((i:Int) < r.qU.length))) (zjn (cD rfl (fun h40=>?_) (fun h40=>?_))))))))
   ·skip
    have q:=(p12 i qf).1
    have q1:=q.1
    have q2:=q.2
    refine qW (t_n (xQ (qX (zcr (sps [pp br or,pp br or] (oF rfl (oL rfl (H.xW 9 rfl 7 rfl) (sp (yI i) ?_))))))))
    obtain ⟨b41,o42,rfl⟩:=H.addr 15 rfl qf
    obtain ⟨ae44Bag,ce44Bag,Fe44Bag,H⟩:=H.yh 15 rfl i i qf qf qf
    refine oI rfl rfl (oF rfl (oL rfl (H.xW 1 rfl 0 rfl) (sp (yI ((r.qU[i]!).qG)) (zjn (xQ ?_)))))
    refine jh rfl H fun H=>rtp 0 (pp bt ot) H ?_
    refine rtp 1 (pp bt ot) H ?_
    refine tF 2 rfl rfl H ?_
    refine tL 3 rfl rfl (fun _ h=>h.xW 7 rfl 0 rfl) H ?_
    refine rtp 4 (yI ((r.qU[i]!).qG)) H ?_
    refine tI 5 rfl rfl rfl H ?_
    refine tL 6 rfl rfl (fun _ h=>h.XX 8 rfl ((r.qU[i]!).qG) qf qf) H ?_
    refine rtp 7 (Bv (!(t.qA[((r.qU[i]!).qG).toNat]!))) H ?_
    refine rtp 8 (Bv (!(t.qA[((r.qU[i]!).qG).toNat]!))) H ?_
    cases h46:(!(t.qA[((r.qU[i]!).qG).toNat]!))
    ·skip
     replace h46:=xg h46
     refine rgp 9 (pp bs os) 88 H ?_
     refine rgp 10 (pp bt ot) 88 H ?_
     refine rgp 11 (yI ((r.qU[i]!).qG)) 88 H ?_
     refine rgp 13 (pp br or) 88 H ?_
     refine rgp 14 (pp br or) 88 H ?_
     refine gF 15 rfl rfl H ?_
     refine gL 16 rfl rfl (fun _ h=>h.xW 11 rfl 0 rfl) H ?_
     refine jK [12] qh qm (r_opG rfl (e:=88) rfl rfl (oq (l02Parent_ok _ s t ((r.qU[i]!).qG) (qF (H.get 4 rfl) 0 3) (H.get 5 rfl).1 (H.get 6 rfl).1 (qF (H.get 7 rfl) 0 3) (H.get 8 rfl).1 (H.get 9 rfl).1 (H.get 10 rfl).1 ql ql ql) H fun w47 H=>⟨H,(rgp 17 (Bv ((xA s t ((r.qU[i]!).qG):Int) != r.qG)) 88 H ?_)⟩) jL)
     refine rtp 18 (Bv ((xA s t ((r.qU[i]!).qG):Int) != r.qG)) H ?_
     refine xP qh (t_n (xE ((xA s t ((r.qU[i]!).qG):Int) != r.qG) rfl (fun h49=>?_) (fun h49=>?_)))
     ·skip
      replace h49:=bne_iff_ne.1 h49
      refine zcr (sp (Bv false) (zjr (zr5 (ret1 (Bv false) rfl rfl ⟨_,rfl,?_,H.base⟩))))
      rw [xx (fun h=>by obtain ⟨h1,h2,h3,h4,h5⟩:=h;first | exact ft h1 ‹_› | exact ft h2 ‹_› | exact ft h3 ‹_› | exact h4 ⟨‹_›,‹_›⟩ | (obtain ⟨q1,q2⟩:=h5 i qf;first | exact ft q1 ‹_› | exact absurd q2 ‹_›))]
     replace h49:=xw h49
     refine qW (b_n (t_n (xO (sp (yI i) (sw (zB i 1 rfl rfl qf (sp (yI (i+1)) (xM (qY (m' :=(r.qU.length - ((i+1):Int)).toNat) qf ⟨_,i+1,uE4,?_,?_,rfl,N,H.pick [] [2,3,4,5,6,7,8,9,10,11,12,13,14,15,16,17]⟩)))))))))
     · omega
     · exact i1.succ ‹_› ‹_›
    replace h46:=xq h46
    refine zZ [9,10,11,12,13,14,15,16,17] 9 (H) (rtp 18 (Bv true) H ?_)
    refine xP qh (t_n (xE true rfl (fun _=>zcr (sp (Bv false) (zjr (zr5 (ret1 (Bv false) rfl rfl ⟨_,rfl,?_,H.base⟩))))) (fun h=>absurd h qj)))
    rw [xx (fun h=>by obtain ⟨h1,h2,h3,h4,h5⟩:=h;first | exact ft h1 ‹_› | exact ft h2 ‹_› | exact ft h3 ‹_› | exact h4 ⟨‹_›,‹_›⟩ | (obtain ⟨q1,q2⟩:=h5 i qf;first | exact ft q1 ‹_› | exact absurd q2 ‹_›))]
   refine zx4 (zcr (sp (Bv true) (zjr (ret1 (Bv true) rfl rfl ⟨_,rfl,?_,H.base⟩))))
   rw [yH ⟨by assumption,by assumption,by assumption,fun ⟨u,v⟩=>by first | omega | exact ft v ‹_›,(show i=r.qU.length by omega)▸i1⟩]
  replace h18:=xq h18
  refine zk [48,49,50,51,52,53,54,55,56,57,58,59,60,61] (sp (Bv true) (zjn (xE true rfl (fun _=>zcr (sp (Bv false) (zjr (t_r (ret1 (Bv false) rfl rfl ⟨_,rfl,?_,H.base⟩))))) (fun h=>absurd h qj))))
  rw [xx (fun h=>by obtain ⟨h1,h2,h3,h4,h5⟩:=h;first | exact ft h1 ‹_› | exact ft h2 ‹_› | exact ft h3 ‹_› | exact h4 ⟨‹_›,‹_›⟩ | (obtain ⟨q1,q2⟩:=h5 i qf;first | exact ft q1 ‹_› | exact absurd q2 ‹_›))]
 replace h14:=xq h14
 refine zk [39,40,41,42,43,44,45] (sps [Bv true,Bv true] (zk [48,49,50,51,52,53,54,55,56,57,58,59,60,61] (sp (Bv true) (zjn (xE true rfl (fun _=>zcr (sp (Bv false) (zjr (t_r (ret1 (Bv false) rfl rfl ⟨_,rfl,?_,H.base⟩))))) (fun h=>absurd h qj))))))
 rw [xx (fun h=>by obtain ⟨h1,h2,h3,h4,h5⟩:=h;first | exact ft h1 ‹_› | exact ft h2 ‹_› | exact ft h3 ‹_› | exact h4 ⟨‹_›,‹_›⟩ | (obtain ⟨q1,q2⟩:=h5 i qf;first | exact ft q1 ‹_› | exact absurd q2 ‹_›))]

theorem l03Applicable_ok (w:World) (s:qI) (t:qH) {qC:yOA} {qZ:yLN} {qN:yOA} {xG:yLN} {qV:yOA} {xR:yLN} {xm:yOA} {zC:yLN} {qL:yOA} {xC:yLN} (hs:vN w bs os (yS s qC qB qN qJ)) (xf:qO.rep w qZ [Sv qC s.qw.length qB] s.qw) (xJ:qO.rep w xG [Sv qN s.qx.length qJ] s.qx) (ht:vN w bt ot (yT t qV qR xm xk qL qK)) (zi:qO.rep w xR [Sv qV t.qA.length qR] t.qA) (zM:qO.rep w zC [Sv xm t.qE.length xk] t.qE) (xN:qO.rep w xC [Sv qL t.qy.length qK] t.qy) (p0:jE s) (p1:zu s t):Calls Tryz.prog 127 #[pp bs os,pp bt ot] w (Ret (fun v w' =>∃ (ra:yOA) (rn:Nat) (rc:Nat),v=Sv ra rn rc∧Fresh w.heap.size []∧St w w' [rr ra rn rc 4 1 ((appl s t).map (Value.bool))] []) w):=by
 refine en func127 ntmps127 ?_
 have H:=(((((((St.start w).arg xN).arg zM).arg zi).V7 ht).arg xJ).arg xf).V7 hs
 have vH:=qM xf
 have jw:=qM xJ
 have Qj:=qM zi
 have Q7:=qM zM
 have jV:=qM xN
 clear hs xf xJ ht zi zM xN
 have N:=Fresh.nil w.heap.size
 have p2:=p0.2.1
 have p3:=p0.1.2.1
 refine zcr (sp yN (zjc (sps [pp bs os,pp bs os] (oF rfl (oL rfl (H.xW 0 rfl 1 rfl) (oN rfl (sw (Vg H underlying22 ti2 s.qw.length rfl rfl qf qf qf fun b1 w2 H=>sp (Sv (aa b1 0) s.qw.length s.qw.length) (zjc (sw (vP H underlying26 ti4 fun b3 w4 H=>sp (Sv (aa b3 0) 0 0) (zjcc (sp (yI 0) (zjn (qX ?_)))))))))))))))
 replace H:=H.boxRowB 0 [] 0
 refine zD (fun m' ρ w5=>∃ (xY:Env) (zX:yOA) (xX:Nat) (zK:Nat) (out:List Bool) (i:Nat) (best:yLI),ρ=upd (upd (upd (upd (upd xY 0 (pp bs os)) 1 (pp bt ot)) 5 (Sv (aa b1 0) s.qw.length s.qw.length)) 6 (Sv zX xX zK)) 7 (yI i)∧out=applB s t 0 i∧best=bests s t 0 s.qw.length i∧((i:Int)≤s.qx.length)∧m' =(s.qx.length - (i:Int)).toNat∧Fresh w.heap.size []∧St w w5 [rr zX xX zK 4 1 (out.map (Value.bool)),rr (aa b1 0) s.qw.length s.qw.length 2 1 (best.map (Value.int .i64))] [atF bs os (yS s qC qB qN qJ),sF false qZ qC qB s.qw,sF false xG qN qJ s.qx,atF bt ot (yT t qV qR xm xk qL qK),sF false xR qV qR t.qA,sF false zC xm xk t.qE,sF false xC qL qK t.qy]) ((s.qx.length - (0:Int)).toNat) ⟨_,(aa b3 0),0,0,([]:List Bool),0,(List.replicate s.qw.length (0:Int)),uE5,(by rfl),(by exact bests_zero s t 0 _),qf,rfl,N,H⟩ ?_
 clear H N
 rintro m' ρ w6 ⟨xY,zX,xX,zK,out,i,best,rfl,rfl,rfl,i0,rfl,N,H⟩
 have hn_out:=H.rowNB 0 rfl
 have hn_best:=H.YX 1 rfl
 have bl:=Vu s t 0 s.qw.length i
 have al:=applB_len s t 0 i
 refine zcc (sps [yI i,pp bs os,pp bs os] (oF rfl (oL rfl (H.xW 0 rfl 2 rfl) (oN rfl (sp (Bv (decide ((i:Int) < s.qx.length))) (zjn (cD rfl (fun h7=>?_) (fun h7=>?_))))))))
 ·skip
  have q:=p0.rule (i:=i) qf
  have qc:=q.1
  have qk:=q.cell
  have qr:=q.2.1
  refine qW (t_n (xQ (qX (zcr (sps [pp bs os,pp bs os] (oF rfl (oL rfl (H.xW 0 rfl 2 rfl) (sp (yI i) ?_))))))))
  obtain ⟨b8,o9,rfl⟩:=H.addr 2 rfl qf
  obtain ⟨ae11Need,ce11Need,Fe11Need,ae11Have,ce11Have,Fe11Have,ae11Lack,ce11Lack,Fe11Lack,ae11Here,ce11Here,Fe11Here,ae11Out,ce11Out,Fe11Out,ae11Into,ce11Into,Fe11Into,H⟩:=H.yF 2 rfl i i qf qf qf
  refine oI rfl rfl (sp (pp b8 (o9+(i:Int).toNat * 9)) (zjc (sps [pp bs os,pp bt ot,pp b8 (o9+(i:Int).toNat * 9)] (sw (oq (l03Enabled_ok _ s t (s.qx[i]!) (qF (H.get 7 rfl) 0 3) (H.get 8 rfl).1 (H.get 9 rfl).1 (qF (H.get 10 rfl) 0 3) (H.get 11 rfl).1 (H.get 12 rfl).1 (H.get 13 rfl).1 (qF (H.get 6 rfl) 0 9) (H.get 0 rfl).1 (H.get 1 rfl).1 (H.get 2 rfl).1 (H.get 3 rfl).1 (H.get 4 rfl).1 (H.get 5 rfl).1 qg qg qg) H fun w13 H=>?_)))))
  refine sp (Bv (dec (EnOk s t (s.qx[i]!)))) (zjc (sps [Sv zX xX zK,Bv (dec (EnOk s t (s.qx[i]!)))] (sw (zA H underlying26 ti4 [Bv (dec (EnOk s t (s.qx[i]!)))] fun b15 w16 H=>sw (zG H 1 rfl 0 rfl underlying26 ti4 rfl qj rfl rfl rfl (by simp [Value.oneCell',Value.cells]) qp qf fun a17 c18 w19 H=>?_)))))
  rw [snocB] at H
  refine sp (Sv a17 (xX+1) c18) (zjc (sp (Bv (dec (EnOk s t (s.qx[i]!)))) (zjn (cP rfl (fun h20=>?_) (fun h20=>?_)))))
  ·skip
   refine QI rfl H [0,1] fun H=>?_
   have S:=H.yU [0,1] [0,1,2,3,4,5,6,7,8,9,10,11,12,13]
   refine rtp 0 (Sv (aa b1 0) s.qw.length s.qw.length) S ?_
   refine rtp 1 (pp b8 (o9+(i:Int).toNat * 9)) S ?_
   refine rtp 2 (pp b8 (o9+(i:Int).toNat * 9)) S ?_
   refine tF 3 rfl rfl S ?_
   refine tL 4 rfl rfl (fun _ h=>h.xW 6 rfl 0 rfl) S ?_
   refine rtp 5 (Sv (aa b1 0) s.qw.length s.qw.length) S ?_
   refine rtp 6 (pp b8 (o9+(i:Int).toNat * 9)) S ?_
   refine rtp 7 (pp b8 (o9+(i:Int).toNat * 9)) S ?_
   refine tF 8 rfl rfl S ?_
   refine tL 9 rfl rfl (fun _ h=>h.xW 6 rfl 0 rfl) S ?_
   refine tI 10 rfl rfl rfl S ?_
   refine rtp 12 (pp b8 (o9+(i:Int).toNat * 9)) S ?_
   refine rtp 13 (pp b8 (o9+(i:Int).toNat * 9)) S ?_
   refine tF 14 rfl rfl S ?_
   refine tL 15 rfl rfl (fun _ h=>h.xW 6 rfl 1 rfl) S ?_
   refine ro 11 rfl (zT (yI ((bests s t 0 s.qw.length i)[((s.qx[i]!).qG).toNat]!)) isAgg2 rfl (H.rowInt 2 rfl (iv:=(s.qx[i]!).qG) (i:=(((s.qx[i]!).qG).toNat)) qf qf) (⟨H.pick [0,1] [0,1,2,3,4,5,6,7,8,9,10,11,12,13],(ro 16 rfl (oq (l00Max_ok w19.drew ((bests s t 0 s.qw.length i)[((s.qx[i]!).qG).toNat]!) ((s.qx[i]!).zS)) H fun w23 H=>⟨H.pick [0,1] [0,1,2,3,4,5,6,7,8,9,10,11,12,13],(tI 17 rfl rfl rfl (H.pick [0,1] [0,1,2,3,4,5,6,7,8,9,10,11,12,13]) ?_)⟩))⟩))
   refine ro 18 rfl (o_storeInt H 2 rfl (max ((bests s t 0 s.qw.length i)[((s.qx[i]!).qG).toNat]!) ((s.qx[i]!).zS)) sizeOf2 rfl rfl (i:=(((s.qx[i]!).qG).toNat)) qf qf fun w25 H=>⟨H.pick [0,1] [0,1,2,3,4,5,6,7,8,9,10,11,12,13],(xP qh (b_n (t_n (xO (sp (yI i) (sw (zB i 1 rfl rfl qf (sp (yI (i+1)) (xM ?_)))))))))⟩)
   refine qY (m' :=(s.qx.length - ((i+1):Int)).toNat) qf ⟨_,a17,xX+1,c18,((applB s t 0 i)++[dec (EnOk s t (s.qx[i]!))]),i+1,((bests s t 0 s.qw.length i).set (((s.qx[i]!).qG).toNat) (max ((bests s t 0 s.qw.length i)[((s.qx[i]!).qG).toNat]!) ((s.qx[i]!).zS))),uE5,?_,?_,?_,rfl,N,H.pick [1,2] [7,8,9,10,11,12,13]⟩
   · exact applB_snoc s t i
   · first | exact bests_set ‹_› qf | exact bests_skip ‹_›
   · omega
  refine qW (b_n (t_n (xO (sp (yI i) (sw (zB i 1 rfl rfl qf (sp (yI (i+1)) (xM (qY (m' :=(s.qx.length - ((i+1):Int)).toNat) qf ⟨_,a17,xX+1,c18,((applB s t 0 i)++[dec (EnOk s t (s.qx[i]!))]),i+1,(bests s t 0 s.qw.length i),uE5,?_,?_,?_,rfl,N,H.pick [1,2] [7,8,9,10,11,12,13]⟩)))))))))
  · exact applB_snoc s t i
  · first | exact bests_set ‹_› qf | exact bests_skip ‹_›
  · omega
 refine zx4 (zcc (sp (yI 0) (zjn (qX ?_))))
 refine zD (fun m' ρ w26=>∃ (xY:Env) (i_1:Nat) (out_1:List Bool),ρ=upd (upd (upd (upd xY 0 (pp bs os)) 5 (Sv (aa b1 0) s.qw.length s.qw.length)) 6 (Sv zX xX zK)) 10 (yI i_1)∧out_1=applB s t i_1 s.qx.length∧((i_1:Int)≤s.qx.length)∧m' =(s.qx.length - (i_1:Int)).toNat∧Fresh w.heap.size []∧St w w26 [rr zX xX zK 4 1 (out_1.map (Value.bool)),rr (aa b1 0) s.qw.length s.qw.length 2 1 ((bests s t 0 s.qw.length i).map (Value.int .i64))] [atF bs os (yS s qC qB qN qJ),sF false qZ qC qB s.qw,sF false xG qN qJ s.qx]) ((s.qx.length - (0:Int)).toNat) ⟨_,0,(applB s t 0 i),uE4,(by rw [show i=s.qx.length by omega]),qf,rfl,N,H.pick [0,1] [0,1,2]⟩ ?_
 clear H N
 rintro m' ρ w27 ⟨xY,i_1,out_1,rfl,rfl,i0,rfl,N,H⟩
 have hn_out:=H.rowNB 0 rfl
 have bl:=Vu s t 0 s.qw.length i
 have al:=applB_len s t i_1 s.qx.length
 refine zcc (sps [yI i_1,pp bs os,pp bs os] (oF rfl (oL rfl (H.xW 0 rfl 2 rfl) (oN rfl (sp (Bv (decide ((i_1:Int) < s.qx.length))) (zjn (cD rfl (fun h28=>?_) (fun h28=>?_))))))))
 ·skip
  have q:=p0.rule (i:=i_1) qf
  have qc:=q.1
  have qk:=q.cell
  have qr:=q.2.1
  refine qW (t_n (xQ (qX ?_)))
  refine QI rfl H [1] fun H=>?_
  have S:=H.yU [1] [0,1,2]
  refine rtp 0 (Sv zX xX zK) S ?_
  refine rtp 1 (yI i_1) S ?_
  refine rtp 2 (Sv zX xX zK) S ?_
  refine rtp 3 (yI i_1) S ?_
  obtain ⟨b30,rfl⟩:=H.Qn 0 rfl qf
  refine tI 4 rfl rfl rfl (H.pick [1] [0,1,2]) ?_
  refine ro 5 rfl (zT (Bv ((applB s t i_1 s.qx.length)[i_1]!)) isAgg4 rfl (H.rowBool 0 rfl (iv:=i_1) (i:=i_1) qf qf) (⟨H.pick [1] [0,1,2],(rtp 6 (Bv ((applB s t i_1 s.qx.length)[i_1]!)) (H.pick [1] [0,1,2]) ?_)⟩))
  cases h31:((applB s t i_1 s.qx.length)[i_1]!)
  ·skip
   refine zZ [7,8,9,10,11,12,13,14,15,16,17,18,19,20,21,22,23,24,25,26] 20 (H.pick [1] [0,1,2]) ?_
   have S:=H.yU [1] [0,1,2]
   refine rtp 27 (Bv false) S ?_
   refine tI 28 rfl rfl rfl S ?_
   refine ro 29 rfl (Xo H 0 rfl false sizeOf4 rfl rfl (i:=i_1) qf qf fun w32 H=>⟨H.pick [1] [0,1,2],(xP qh (b_n (t_n (xO (sp (yI i_1) (sw (zB i_1 1 rfl rfl qf (sp (yI (i_1+1)) (xM (qY (m' :=(s.qx.length - ((i_1+1):Int)).toNat) qf ⟨_,i_1+1,((applB s t i_1 s.qx.length).set i_1 false),uE4,?_,?_,rfl,N,H⟩))))))))))⟩)
   · first | exact applB_set qf (applB_step0 (m:=s.qx.length) qf ‹_›) | exact applB_set qf (applB_step1 (m:=s.qx.length) (n:=s.qw.length) (z:=0) (i:=i) qf ‹_› rfl qf qf qf)
   · omega
  have S:=H.yU [1] [0,1,2]
  refine rgp 7 (pp bs os) 75 S ?_
  refine rgp 8 (pp bs os) 75 S ?_
  refine gF 9 rfl rfl S ?_
  refine gL 10 rfl rfl (fun _ h=>h.xW 0 rfl 2 rfl) S ?_
  refine rgp 11 (yI i_1) 75 S ?_
  obtain ⟨b33,o34,rfl⟩:=H.addr 2 rfl qf
  obtain ⟨ae36Need,ce36Need,Fe36Need,ae36Have,ce36Have,Fe36Have,ae36Lack,ce36Lack,Fe36Lack,ae36Here,ce36Here,Fe36Here,ae36Out,ce36Out,Fe36Out,ae36Into,ce36Into,Fe36Into,H⟩:=H.yF 2 rfl i_1 i_1 qf qf qf
  have S:=H.yU [1] [7,8,9]
  refine gI 12 rfl rfl rfl S ?_
  refine gF 13 rfl rfl S ?_
  refine rgp 15 (Sv (aa b1 0) s.qw.length s.qw.length) 75 S ?_
  refine rgp 16 (pp bs os) 75 S ?_
  refine rgp 17 (pp bs os) 75 S ?_
  refine gF 18 rfl rfl S ?_
  refine gL 19 rfl rfl (fun _ h=>h.xW 0 rfl 2 rfl) S ?_
  refine rgp 20 (yI i_1) 75 S ?_
  refine gI 21 rfl rfl rfl S ?_
  refine gF 22 rfl rfl S ?_
  refine jK [14,23] qh qm (r_opG rfl (e:=75) rfl rfl ?_ (r_opG rfl (e:=75) rfl rfl ?_ jL))
  ·skip
   refine zT (yI ((s.qx[i_1]!).zS)) isAgg2 rfl (H.xW 6 rfl 1 rfl) (⟨H.pick [1] [7,8,9],(jK [23] qh qm (r_opG rfl (e:=75) rfl rfl (zT (yI ((s.qx[i_1]!).qG)) isAgg2 rfl (H.xW 6 rfl 0 rfl) (⟨H.pick [1] [7,8,9],?_⟩)) jL))⟩)
   have S:=H.yU [1] [7,8,9]
   refine gI 24 rfl rfl rfl S ?_
   refine gL 25 rfl rfl (fun _ h=>h.rowInt 0 rfl (iv:=(s.qx[i_1]!).qG) (i:=(((s.qx[i_1]!).qG).toNat)) qf qf) S ?_
   refine rgp 26 (Bv (((s.qx[i_1]!).zS:Int) == ((bests s t 0 s.qw.length i)[((s.qx[i_1]!).qG).toNat]!))) 75 S ?_
   refine rtp 27 (Bv (((s.qx[i_1]!).zS:Int) == ((bests s t 0 s.qw.length i)[((s.qx[i_1]!).qG).toNat]!))) S ?_
   refine tI 28 rfl rfl rfl S ?_
   refine ro 29 rfl (Xo H 0 rfl (((s.qx[i_1]!).zS:Int) == ((bests s t 0 s.qw.length i)[((s.qx[i_1]!).qG).toNat]!)) sizeOf4 rfl rfl (i:=i_1) qf qf fun w37 H=>⟨H.pick [1] [7,8,9],(xP qh (b_n (t_n (xO (sp (yI i_1) (sw (zB i_1 1 rfl rfl qf (sp (yI (i_1+1)) (xM (qY (m' :=(s.qx.length - ((i_1+1):Int)).toNat) qf ⟨_,i_1+1,((applB s t i_1 s.qx.length).set i_1 (((s.qx[i_1]!).zS:Int) == ((bests s t 0 s.qw.length i)[((s.qx[i_1]!).qG).toNat]!))),uE4,?_,?_,rfl,N,H.pick [0,1] [7,8,9]⟩))))))))))⟩)
   · first | exact applB_set qf (applB_step0 (m:=s.qx.length) qf ‹_›) | exact applB_set qf (applB_step1 (m:=s.qx.length) (n:=s.qw.length) (z:=0) (i:=i) qf ‹_› rfl qf qf qf)
   · omega
  refine zT (yI ((s.qx[i_1]!).qG)) isAgg2 rfl (H.xW 6 rfl 0 rfl) (⟨H.pick [1] [7,8,9],?_⟩)
  have S:=H.yU [1] [7,8,9]
  refine gI 24 rfl rfl rfl S ?_
  refine gL 25 rfl rfl (fun _ h=>h.rowInt 0 rfl (iv:=(s.qx[i_1]!).qG) (i:=(((s.qx[i_1]!).qG).toNat)) qf qf) S ?_
  refine jK [14] qh qm (r_opG rfl (e:=75) rfl rfl (zT (yI ((s.qx[i_1]!).zS)) isAgg2 rfl (H.xW 6 rfl 1 rfl) (⟨H.pick [1] [7,8,9],?_⟩)) jL)
  have S:=H.yU [1] [7,8,9]
  refine rgp 26 (Bv (((s.qx[i_1]!).zS:Int) == ((bests s t 0 s.qw.length i)[((s.qx[i_1]!).qG).toNat]!))) 75 S ?_
  refine rtp 27 (Bv (((s.qx[i_1]!).zS:Int) == ((bests s t 0 s.qw.length i)[((s.qx[i_1]!).qG).toNat]!))) S ?_
  refine tI 28 rfl rfl rfl S ?_
  refine ro 29 rfl (Xo H 0 rfl (((s.qx[i_1]!).zS:Int) == ((bests s t 0 s.qw.length i)[((s.qx[i_1]!).qG).toNat]!)) sizeOf4 rfl rfl (i:=i_1) qf qf fun w38 H=>⟨H.pick [1] [7,8,9],(xP qh (b_n (t_n (xO (sp (yI i_1) (sw (zB i_1 1 rfl rfl qf (sp (yI (i_1+1)) (xM (qY (m' :=(s.qx.length - ((i_1+1):Int)).toNat) qf ⟨_,i_1+1,((applB s t i_1 s.qx.length).set i_1 (((s.qx[i_1]!).zS:Int) == ((bests s t 0 s.qw.length i)[((s.qx[i_1]!).qG).toNat]!))),uE4,?_,?_,rfl,N,H.pick [0,1] [7,8,9]⟩))))))))))⟩)
  · first | exact applB_set qf (applB_step0 (m:=s.qx.length) qf ‹_›) | exact applB_set qf (applB_step1 (m:=s.qx.length) (n:=s.qw.length) (z:=0) (i:=i) qf ‹_› rfl qf qf qf)
  · omega
 refine zx4 (zcr (sps [Sv zX xX zK,Sv zX xX zK] (zjr (ret1 (Sv zX xX zK) rfl rfl ⟨_,rfl,?_,H.base⟩))))
 obtain rfl:i_1=s.qx.length:=by omega
 exact ⟨zX,xX,zK,rfl,N,H.pick [0] []⟩

theorem l03Halted_ok (w:World) (s:qI) (t:qH) {qC:yOA} {qZ:yLN} {qN:yOA} {xG:yLN} {qV:yOA} {xR:yLN} {xm:yOA} {zC:yLN} {qL:yOA} {xC:yLN} (hs:vN w bs os (yS s qC qB qN qJ)) (xf:qO.rep w qZ [Sv qC s.qw.length qB] s.qw) (xJ:qO.rep w xG [Sv qN s.qx.length qJ] s.qx) (ht:vN w bt ot (yT t qV qR xm xk qL qK)) (zi:qO.rep w xR [Sv qV t.qA.length qR] t.qA) (zM:qO.rep w zC [Sv xm t.qE.length xk] t.qE) (xN:qO.rep w xC [Sv qL t.qy.length qK] t.qy) (p0:jE s) (p1:zu s t):Calls Tryz.prog 90 #[pp bs os,pp bt ot] w (Ret (fun v w' =>v=Bv (dec (Halted s t))) w):=by
 refine en func90 ntmps90 ?_
 have H:=(((((((St.start w).arg xN).arg zM).arg zi).V7 ht).arg xJ).arg xf).V7 hs
 have vH:=qM xf
 have jw:=qM xJ
 have Qj:=qM zi
 have Q7:=qM zM
 have jV:=qM xN
 clear hs xf xJ ht zi zM xN
 have N:=Fresh.nil w.heap.size
 have p2:=p0.2.1
 refine zcr (sp (Bv false) (zjc (sps [pp bs os,pp bt ot] ?_)))
 have sz4:=H.base.size
 refine sw (oc (l03Applicable_ok _ s t (qF (H.get 0 rfl) 0 3) (H.get 1 rfl).1 (H.get 2 rfl).1 (qF (H.get 3 rfl) 0 3) (H.get 4 rfl).1 (H.get 5 rfl).1 (H.get 6 rfl).1 qg qg) ?_)
 rintro _ w2 ⟨ra1,rn1,rc1,rfl,M,K⟩ _
 replace H:=H.merge K M
 obtain rfl:=H.rowNB 0 rfl
 have al:=appl_len s t
 refine sp (Sv ra1 ((appl s t).length) rc1) (zjcc (sp (yI 0) (zjn (qX ?_))))
 refine zD (fun m' ρ w7=>∃ (xY:Env) (i:Nat),ρ=upd (upd xY 5 (Sv ra1 ((appl s t).length) rc1)) 6 (yI i)∧((i:Int)≤((appl s t).length))∧(HaltTo s t i)∧m' =(((appl s t).length) - (i:Int)).toNat∧Fresh w.heap.size []∧St w w7 [rr ra1 ((appl s t).length) rc1 4 1 ((appl s t).map (Value.bool))] []) ((((appl s t).length) - (0:Int)).toNat) ⟨_,0,uE2,qf,(by exact fun j hj=>by omega),rfl,N,H.pick [0] []⟩ ?_
 clear H N
 rintro m' ρ w8 ⟨xY,i,rfl,i0,i1,rfl,N,H⟩
 refine zcc (sps [yI i,Sv ra1 ((appl s t).length) rc1] (oN rfl (sp (Bv (decide ((i:Int) < ((appl s t).length)))) (zjn (cD rfl (fun h9=>?_) (fun h9=>?_))))))
 ·skip
  refine qW (t_n (xQ (qX (zcr (sps [Sv ra1 ((appl s t).length) rc1,yI i] ?_)))))
  obtain ⟨b10,rfl⟩:=H.Qn 0 rfl qf
  refine oI rfl rfl (oL rfl (H.rowBool 0 rfl (iv:=i) (i:=i) qf qf) (zjn (xE ((appl s t)[i]!) rfl (fun h11=>?_) (fun h11=>?_))))
  ·skip
   refine zcr (sp (Bv false) (zjr (zr5 (ret1 (Bv false) rfl rfl ⟨_,rfl,?_,H.base⟩))))
   rw [xx (fun h=>h i qf (Xt qf ‹_›))]
  refine qW (b_n (t_n (xO (sp (yI i) (sw (zB i 1 rfl rfl qf (sp (yI (i+1)) (xM (qY (m' :=(((appl s t).length) - ((i+1):Int)).toNat) qf ⟨_,i+1,uE2,?_,?_,rfl,N,H⟩)))))))))
  · omega
  · exact i1.succ (QP qf ‹_›)
 refine zx4 (zcr (sp (Bv true) (zjr (ret1 (Bv true) rfl rfl ⟨_,rfl,?_,H.base⟩))))
 obtain rfl:i=s.qx.length:=by omega
 rw [yH i1]

theorem l03Rest_ok (w:World) (s:qI) (t:qH) (counts:yLI) {qC:yOA} {qZ:yLN} {qN:yOA} {xG:yLN} {qV:yOA} {xR:yLN} {xm:yOA} {zC:yLN} {qL:yOA} {xC:yLN} {acounts:yOA} {Fcounts:yLN} (hs:vN w bs os (yS s qC qB qN qJ)) (xf:qO.rep w qZ [Sv qC s.qw.length qB] s.qw) (xJ:qO.rep w xG [Sv qN s.qx.length qJ] s.qx) (ht:vN w bt ot (yT t qV qR xm xk qL qK)) (zi:qO.rep w xR [Sv qV t.qA.length qR] t.qA) (zM:qO.rep w zC [Sv xm t.qE.length xk] t.qE) (xN:qO.rep w xC [Sv qL t.qy.length qK] t.qy) (hcounts:qO.rep w Fcounts [Sv acounts counts.length ccounts] counts) (p0:jE s) (p1:zu s t) (p2:CntOk s counts):Calls Tryz.prog 180 #[pp bs os,pp bt ot,Sv acounts counts.length ccounts] w (Ret (fun v w' =>∃ (ra0:yOA) (rn0:Nat) (rc0:Nat) (rx0:List Value) (rF0:yLN),v=.tuple #[Sv ra0 rn0 rc0,Bv (dec (IsCh s t counts))]∧Fresh w.heap.size [rF0]∧St w w' [rr ra0 rn0 rc0 22 1 rx0] [zf true rF0 rx0 (Qz s t counts (Q9 (BadAt s t counts) counts.length))]) w):=by
 refine en func180 ntmps180 ?_
 have H:=((((((((St.start w).arg hcounts).arg xN).arg zM).arg zi).V7 ht).arg xJ).arg xf).V7 hs
 have vH:=qM xf
 have jw:=qM xJ
 have Qj:=qM zi
 have Q7:=qM zM
 have jV:=qM xN
 have nhcounts:=qM hcounts
 clear hs xf xJ ht zi zM xN hcounts
 have N:=Fresh.nil w.heap.size
 have p3:=p0.2.1
 have p6:=p2.1
 have p7:=p1.2.1
 have p8:=kinds_le p0
 have p9:=p0.1.2.1
 have p11:jr s=s.qw.length:=rfl
 refine zcr (sps [yN,Bv false] (zjc (sps [pp bs os,pp bt ot] ?_)))
 have sz4:=H.base.size
 refine sw (oc (l03Applicable_ok _ s t (qF (H.get 0 rfl) 0 3) (H.get 1 rfl).1 (H.get 2 rfl).1 (qF (H.get 3 rfl) 0 3) (H.get 4 rfl).1 (H.get 5 rfl).1 (H.get 6 rfl).1 qg qg) ?_)
 rintro _ w2 ⟨ra1,rn1,rc1,rfl,M,K⟩ _
 replace H:=H.merge K M
 obtain rfl:=H.rowNB 0 rfl
 have al:=appl_len s t
 refine sp (Sv ra1 ((appl s t).length) rc1) (zjc (sw (vP H underlying27 ti22 fun b7 w8 H=>sp (Sv (aa b7 0) 0 0) (zjcc (sp (yI 0) (zjn (qX ?_)))))))
 replace H:=H.boxRow 0 rfl 1 0 rfl qj
 replace H:=H.vT (α:=yLI)
 refine zD (fun m' ρ w9=>∃ (xY:Env) (VJ:yOA) (QQ:Nat) (XH:Nat) (rest:yLL) (x_rest:List Value) (F_rest:yLN) (c:Nat),ρ=upd (upd (upd (upd (upd (upd xY 0 (pp bs os)) 1 (pp bt ot)) 2 (Sv acounts counts.length ccounts)) 8 (Sv ra1 ((appl s t).length) rc1)) 9 (Sv VJ QQ XH)) 10 (yI c)∧rest=t.qE.take c∧((c:Int)≤t.qE.length)∧m' =(t.qE.length - (c:Int)).toNat∧Fresh w.heap.size [F_rest]∧St w w9 [rr VJ QQ XH 22 1 x_rest,rr ra1 ((appl s t).length) rc1 4 1 ((appl s t).map (Value.bool))] [zf true F_rest x_rest rest,atF bs os (yS s qC qB qN qJ),sF false qZ qC qB s.qw,sF false xG qN qJ s.qx,atF bt ot (yT t qV qR xm xk qL qK),sF false xR qV qR t.qA,sF false zC xm xk t.qE,sF false xC qL qK t.qy,sF false Fcounts acounts ccounts counts]) ((t.qE.length - (0:Int)).toNat) ⟨_,(aa b7 0),0,0,([]:yLL),[],[],0,uE6,(by rfl),qf,rfl,N.emp,H⟩ ?_
 clear H N
 rintro m' ρ w10 ⟨xY,VJ,QQ,XH,rest,x_rest,F_rest,c,rfl,rfl,i0,rfl,N,H⟩
 have hn_rest:=H.zq (α:=yLI) 0 rfl 0 rfl qj
 have p4:=(p1.bagLen (k:=c))
 rw [List.length_take_of_le qf] at hn_rest
 refine zcc (sps [yI c,pp bt ot,pp bt ot] (oF rfl (oL rfl (H.xW 4 rfl 1 rfl) (oN rfl (sp (Bv (decide ((c:Int) < t.qE.length))) (zjn (cD rfl (fun h11=>?_) (fun h11=>?_))))))))
 ·skip
  refine qW (t_n (xQ (qX (xO (sps [Sv VJ QQ XH,pp bt ot,pp bt ot] (oF rfl (oL rfl (H.xW 4 rfl 1 rfl) (sp (yI c) ?_))))))))
  obtain ⟨b12,o13,rfl⟩:=H.addr 6 rfl qf
  obtain ⟨ae15,ce15,Fe15,H⟩:=H.vV 6 rfl c c qf qf qf
  refine oI rfl rfl (oL rfl (H.xW 1 rfl 0 rfl) ?_)
  have p5:=(p1.bagLen (k:=c) qf).len
  have sz16:=H.base.size
  have lt17:=H.ltN (L:=[F_rest]) [2]
  refine sw (oc (Vt _ (t.qE[c]!) (H.get 0 rfl).1 qg) ?_)
  rintro v21 w19 r21 x20
  replace H:=H.zJ x20 r21
  obtain ⟨a22,c23,rfl,hc24,hm25⟩:=H.jA 0 rfl
  refine sw (zA H underlying27 ti22 [Sv a22 ((t.qE[c]!).length) c23] fun b26 w27 H=>?_)
  obtain ⟨G31,N,hn32,H⟩:=H.jb 1 rfl N (H.jU [2])
  refine sw (zG H 2 rfl 0 rfl underlying27 ti22 rfl qj rfl rfl rfl (by simp [Value.oneCell',Value.cells]) qp qf fun a28 c29 w30 H=>?_)
  replace H:=H.jd 3 rfl 0 rfl
  replace N:Fresh w.heap.size [(F_rest++G31)]:=(N.pick [1,0]).join
  refine sp (Sv a28 (QQ+1) c29) (xM (b_n (t_n (xO (sp (yI c) (sw (zB c 1 rfl rfl qf (sp (yI (c+1)) (xM (qY (m' :=(t.qE.length - ((c+1):Int)).toNat) qf ⟨_,a28,QQ+1,c29,((t.qE.take c)++[(t.qE[c]!)]),x_rest++[Sv a22 ((t.qE[c]!).length) c23],(F_rest++G31),c+1,uE6,?_,?_,rfl,N,H.pick [2,3] [0,5,6,7,8,9,10,11,12]⟩))))))))))
  · exact take_snoc qf
  · omega
 refine zx4 (zcc (sp (yI 0) (zjn (qX ?_))))
 refine zD (fun m' ρ w33=>∃ (xY:Env) (i:Nat) (rest_1:yLL) (x_rest_1:List Value) (YS:yLN),ρ=upd (upd (upd (upd (upd xY 0 (pp bs os)) 2 (Sv acounts counts.length ccounts)) 8 (Sv ra1 ((appl s t).length) rc1)) 9 (Sv VJ QQ XH)) 11 (yI i)∧rest_1=Qz s t counts i∧((i:Int)≤counts.length)∧(GoodTo s t counts i)∧m' =(counts.length - (i:Int)).toNat∧Fresh w.heap.size [YS]∧St w w33 [rr VJ QQ XH 22 1 x_rest_1,rr ra1 ((appl s t).length) rc1 4 1 ((appl s t).map (Value.bool))] [zf true YS x_rest_1 rest_1,atF bs os (yS s qC qB qN qJ),sF false qZ qC qB s.qw,sF false xG qN qJ s.qx,sF false Fcounts acounts ccounts counts]) ((counts.length - (0:Int)).toNat) ⟨_,0,(t.qE.take c),x_rest,F_rest,uE5,(by rw [List.take_of_length_le qf];rfl),qf,(by exact fun j hj=>by omega),rfl,N,H.pick [0,1] [0,1,2,3,8]⟩ ?_
 clear H N
 rintro m' ρ w34 ⟨xY,i,rest_1,x_rest_1,YS,rfl,rfl,i0,i1,rfl,N,H⟩
 have hn_rest:=H.zq (α:=yLI) 0 rfl 0 rfl qj
 have rl:=restR_len (s:=s) (t:=t) (counts:=counts) i
 refine zcc (sps [yI i,Sv acounts counts.length ccounts] (oN rfl (sp (Bv (decide ((i:Int) < counts.length))) (zjn (cD rfl (fun h35=>?_) (fun h35=>?_))))))
 ·skip
  have q:=p0.rule (i:=i) qf
  have qc:=q.1
  have qk:=q.cell
  have qr:=q.2.1
  have b1:=q.2.2.2.2.1
  have p10:=p2.bd (i:=i) qf
  refine qW (t_n (xQ (qX (zcc (sps [Sv acounts counts.length ccounts,yI i] ?_)))))
  obtain ⟨b36,o37,rfl⟩:=H.addr 4 rfl qf
  refine oI rfl rfl (oL rfl (H.jY 4 rfl i qf qf) (sps [Bv (decide ((counts[i]! :Int) > 0)),Bv (decide ((counts[i]! :Int) > 0))] ?_))
  cases h39:(decide ((counts[i]! :Int) > 0))
  ·skip
   replace h39:=of_decide_eq_false h39
   refine zk [51,52,53,54,55] (sp (Bv false) (zjn (xE false rfl (fun h=>absurd h qj) (fun _=>qW (t_n (zcr (sps [pp bs os,pp bs os] (oF rfl (oL rfl (H.xW 1 rfl 2 rfl) (sp (yI i) ?_))))))))))
   obtain ⟨b40,o41,rfl⟩:=H.addr 3 rfl qf
   obtain ⟨ae43Need,ce43Need,Fe43Need,ae43Have,ce43Have,Fe43Have,ae43Lack,ce43Lack,Fe43Lack,ae43Here,ce43Here,Fe43Here,ae43Out,ce43Out,Fe43Out,ae43Into,ce43Into,Fe43Into,H⟩:=H.yF 3 rfl i i qf qf qf
   refine oI rfl rfl (oF rfl (oL rfl (H.xW 6 rfl 0 rfl) (sp (yI ((s.qx[i]!).qG)) (zjn ?_))))
   refine QI rfl H [1] fun H=>?_
   have S:=H.yU [1] [0,1,2,3,4,5,6,7,8,9,10,11]
   refine rtp 0 (Sv VJ QQ XH) S ?_
   refine rtp 1 (yI ((s.qx[i]!).qG)) S ?_
   refine rtp 2 (Sv VJ QQ XH) S ?_
   refine rtp 3 (yI ((s.qx[i]!).qG)) S ?_
   obtain ⟨b45,rfl⟩:=H.Qn 0 rfl qf
   have S:=H.yU [1] [0,1,2,3,4,5,6,7,8,9,10,11]
   refine tI 4 rfl rfl rfl S ?_
   refine rtp 6 (pp bs os) S ?_
   refine rtp 7 (pp bs os) S ?_
   refine tF 8 rfl rfl S ?_
   refine tL 9 rfl rfl (fun _ h=>h.xW 8 rfl 2 rfl) S ?_
   refine rtp 10 (yI i) S ?_
   refine tI 11 rfl rfl rfl S ?_
   refine tF 12 rfl rfl S ?_
   refine tL 13 rfl rfl (fun _ h=>h.xW 6 rfl 2 rfl) S ?_
   refine rtp 14 (Sv (aa b36 o37) counts.length ccounts) S ?_
   refine rtp 15 (yI i) S ?_
   refine tI 16 rfl rfl rfl S ?_
   refine tL 17 rfl rfl (fun _ h=>h.yG 11 rfl i qf) S ?_
   refine rt 18 (yI (-(counts[i]!))) (y_neg (counts[i]!) rfl qf) S ?_
   refine ro 5 rfl ?_
   obtain ⟨a46,c47,G48,s49,h50,H⟩:=H.yw 0 rfl 7 rfl (iv:=(s.qx[i]!).qG) (((s.qx[i]!).qG).toNat) qf qf
   refine zT (Sv a46 (((Qz s t counts i)[((s.qx[i]!).qG).toNat]!).length) c47) isAgg22 rfl (h50) (⟨H.pick [1] [1,2,3,4,5,6,7,8,9,10,11,12],(ro 19 rfl ?_)⟩)
   obtain ⟨u1,u2⟩:=restR_row (c:=(s.qx[i]!).qG.toNat) p0 p1 p2 (show i≤_ by omega) qk
   have u3:=b1.len
   have u4:=b1.Qq (t:= -(counts[i]!)) qf
   have sz51:=H.base.size
   have lt52:=H.ltN (L:=[YS]) [8]
   refine oc (Vx _ ((Qz s t counts i)[((s.qx[i]!).qG).toNat]!) ((s.qx[i]!).xn) (-(counts[i]!)) (H.get 0 rfl).1 (H.get 1 rfl).1 qg qg qg) ?_
   rintro v56 w54 r56 x55
   replace H:=H.zJ x55 r56
   obtain ⟨a57,c58,rfl,hc59,hm60⟩:=H.jA 0 rfl
   refine ⟨H.pick [2] [1,2,3,4,5,6,7,8,9,10,11,12],(tI 20 rfl rfl rfl (H.pick [2] [1,2,3,4,5,6,7,8,9,10,11,12]) ?_)⟩
   refine ro 21 rfl ?_
   obtain ⟨G62,N,hn63,H⟩:=H.jb 0 rfl N (H.jU [8])
   refine jX true H 1 rfl 9 rfl (Sv a57 ((ji ((Qz s t counts i)[((s.qx[i]!).qG).toNat]!) ((s.qx[i]!).xn) (-(counts[i]!))).length) c58) 0 rfl rfl sizeOf22 rfl rfl (i:=(((s.qx[i]!).qG).toNat)) qf qf qm fun w61 xs64 F65 hs66 H=>?_
   replace N:Fresh w.heap.size [F65]:=(N.pick [1,0]).repl hs66
   refine ⟨H.pick [2] [3,4,5,6,7,8,9,10,11,12,13,14],(xP qh (b_n (t_n (xO (sp (yI i) (sw (zB i 1 rfl rfl qf (sp (yI (i+1)) (xM (qY (m' :=(counts.length - ((i+1):Int)).toNat) qf ⟨_,i+1,((Qz s t counts i).set (((s.qx[i]!).qG).toNat) (ji ((Qz s t counts i)[((s.qx[i]!).qG).toNat]!) ((s.qx[i]!).xn) (-(counts[i]!)))),xs64,F65,uE5,?_,?_,?_,rfl,N,H.pick [1,2] [0,11,12,13,14]⟩))))))))))⟩
   · rfl
   · omega
   · exact i1.succ (fun h=>by obtain ⟨u,v⟩:=h;first | omega | exact v (Xt qf ‹_›))
  replace h39:=of_decide_eq_true h39
  refine qQ 50 rfl rfl (sp (Sv ra1 ((appl s t).length) rc1) (qQ 50 rfl rfl (sp (yI i) (qQ 50 rfl rfl ?_))))
  obtain ⟨b67,rfl⟩:=H.Qn 1 rfl qf
  refine oI rfl rfl (qQ 50 rfl rfl (oL rfl (H.rowBool 1 rfl (iv:=i) (i:=i) qf qf) (qQ 50 rfl rfl (sps [Bv (!((appl s t)[i]!)),Bv (!((appl s t)[i]!))] (zjn (xE (!((appl s t)[i]!)) rfl (fun h68=>?_) (fun h68=>?_)))))))
  ·skip
   replace h68:=xq h68
   refine zcr (sps [Sv VJ QQ XH,Sv VJ QQ XH,Bv false] (zjr (t_r (zr5 (ret2 (Sv VJ QQ XH) (Bv false) rfl rfl rfl ⟨_,rfl,?_,H.base⟩)))))
   rw [stop_first (k:=i) i1 qf ⟨by omega,QP qf ‹_›⟩,xx (fun h=>h.1 i qf ⟨by omega,QP qf ‹_›⟩)]
   exact ⟨VJ,QQ,XH,x_rest_1,YS,rfl,N,H.pick [0] [0]⟩
  replace h68:=xg h68
  refine qW (t_n (zcr (sps [pp bs os,pp bs os] (oF rfl (oL rfl (H.xW 1 rfl 2 rfl) (sp (yI i) ?_))))))
  obtain ⟨b69,o70,rfl⟩:=H.addr 3 rfl qf
  obtain ⟨ae72Need,ce72Need,Fe72Need,ae72Have,ce72Have,Fe72Have,ae72Lack,ce72Lack,Fe72Lack,ae72Here,ce72Here,Fe72Here,ae72Out,ce72Out,Fe72Out,ae72Into,ce72Into,Fe72Into,H⟩:=H.yF 3 rfl i i qf qf qf
  refine oI rfl rfl (oF rfl (oL rfl (H.xW 6 rfl 0 rfl) (sp (yI ((s.qx[i]!).qG)) (zjn ?_))))
  refine QI rfl H [1] fun H=>?_
  have S:=H.yU [1] [0,1,2,3,4,5,6,7,8,9,10,11]
  refine rtp 0 (Sv VJ QQ XH) S ?_
  refine rtp 1 (yI ((s.qx[i]!).qG)) S ?_
  refine rtp 2 (Sv VJ QQ XH) S ?_
  refine rtp 3 (yI ((s.qx[i]!).qG)) S ?_
  obtain ⟨b74,rfl⟩:=H.Qn 0 rfl qf
  have S:=H.yU [1] [0,1,2,3,4,5,6,7,8,9,10,11]
  refine tI 4 rfl rfl rfl S ?_
  refine rtp 6 (pp bs os) S ?_
  refine rtp 7 (pp bs os) S ?_
  refine tF 8 rfl rfl S ?_
  refine tL 9 rfl rfl (fun _ h=>h.xW 8 rfl 2 rfl) S ?_
  refine rtp 10 (yI i) S ?_
  refine tI 11 rfl rfl rfl S ?_
  refine tF 12 rfl rfl S ?_
  refine tL 13 rfl rfl (fun _ h=>h.xW 6 rfl 2 rfl) S ?_
  refine rtp 14 (Sv (aa b36 o37) counts.length ccounts) S ?_
  refine rtp 15 (yI i) S ?_
  refine tI 16 rfl rfl rfl S ?_
  refine tL 17 rfl rfl (fun _ h=>h.yG 11 rfl i qf) S ?_
  refine rt 18 (yI (-(counts[i]!))) (y_neg (counts[i]!) rfl qf) S ?_
  refine ro 5 rfl ?_
  obtain ⟨a75,c76,G77,s78,h79,H⟩:=H.yw 0 rfl 7 rfl (iv:=(s.qx[i]!).qG) (((s.qx[i]!).qG).toNat) qf qf
  refine zT (Sv a75 (((Qz s t counts i)[((s.qx[i]!).qG).toNat]!).length) c76) isAgg22 rfl (h79) (⟨H.pick [1] [1,2,3,4,5,6,7,8,9,10,11,12],(ro 19 rfl ?_)⟩)
  obtain ⟨u1,u2⟩:=restR_row (c:=(s.qx[i]!).qG.toNat) p0 p1 p2 (show i≤_ by omega) qk
  have u3:=b1.len
  have u4:=b1.Qq (t:= -(counts[i]!)) qf
  have sz80:=H.base.size
  have lt81:=H.ltN (L:=[YS]) [8]
  refine oc (Vx _ ((Qz s t counts i)[((s.qx[i]!).qG).toNat]!) ((s.qx[i]!).xn) (-(counts[i]!)) (H.get 0 rfl).1 (H.get 1 rfl).1 qg qg qg) ?_
  rintro v85 w83 r85 x84
  replace H:=H.zJ x84 r85
  obtain ⟨a86,c87,rfl,hc88,hm89⟩:=H.jA 0 rfl
  refine ⟨H.pick [2] [1,2,3,4,5,6,7,8,9,10,11,12],(tI 20 rfl rfl rfl (H.pick [2] [1,2,3,4,5,6,7,8,9,10,11,12]) ?_)⟩
  refine ro 21 rfl ?_
  obtain ⟨G91,N,hn92,H⟩:=H.jb 0 rfl N (H.jU [8])
  refine jX true H 1 rfl 9 rfl (Sv a86 ((ji ((Qz s t counts i)[((s.qx[i]!).qG).toNat]!) ((s.qx[i]!).xn) (-(counts[i]!))).length) c87) 0 rfl rfl sizeOf22 rfl rfl (i:=(((s.qx[i]!).qG).toNat)) qf qf qm fun w90 xs93 F94 hs95 H=>?_
  replace N:Fresh w.heap.size [F94]:=(N.pick [1,0]).repl hs95
  refine ⟨H.pick [2] [3,4,5,6,7,8,9,10,11,12,13,14],(xP qh (b_n (t_n (xO (sp (yI i) (sw (zB i 1 rfl rfl qf (sp (yI (i+1)) (xM (qY (m' :=(counts.length - ((i+1):Int)).toNat) qf ⟨_,i+1,((Qz s t counts i).set (((s.qx[i]!).qG).toNat) (ji ((Qz s t counts i)[((s.qx[i]!).qG).toNat]!) ((s.qx[i]!).xn) (-(counts[i]!)))),xs93,F94,uE5,?_,?_,?_,rfl,N,H.pick [1,2] [0,11,12,13,14]⟩))))))))))⟩
  · rfl
  · omega
  · exact i1.succ (fun h=>by obtain ⟨u,v⟩:=h;first | omega | exact v (Xt qf ‹_›))
 refine zx4 (zcc (sp (yI 0) (zjn (qX ?_))))
 refine zD (fun m' ρ w96=>∃ (xY:Env) (c_1:Nat),ρ=upd (upd xY 9 (Sv VJ QQ XH)) 13 (yI c_1)∧((c_1:Int)≤QQ)∧(NonNeg (Qz s t counts i) c_1)∧m' =(QQ - (c_1:Int)).toNat∧Fresh w.heap.size [YS]∧St w w96 [rr VJ QQ XH 22 1 x_rest_1,rr ra1 ((appl s t).length) rc1 4 1 ((appl s t).map (Value.bool))] [zf true YS x_rest_1 (Qz s t counts i)]) ((QQ - (0:Int)).toNat) ⟨_,0,uE2,qf,(by exact fun j hj=>by omega),rfl,N,H.pick [0,1] [0]⟩ ?_
 clear H N
 rintro m' ρ w97 ⟨xY,c_1,rfl,i0,i2,rfl,N,H⟩
 refine zcc (sps [yI c_1,Sv VJ QQ XH] (oN rfl (sp (Bv (decide ((c_1:Int) < QQ))) (zjn (cD rfl (fun h98=>?_) (fun h98=>?_))))))
 ·skip
  have r1:=(restR_row (c:=c_1) p0 p1 p2 (show i≤_ by omega) (show c_1 < jr s by omega)).1
  refine qW (t_n (xQ (qX (zcr (sp (yI 0) (zjn (qX ?_)))))))
  refine zD (fun m' ρ w99=>∃ (xY:Env) (k:Nat),ρ=upd (upd (upd xY 9 (Sv VJ QQ XH)) 13 (yI c_1)) 14 (yI k)∧((k:Int)≤(((Qz s t counts i)[c_1]!).length))∧(∀ j,j < k→0≤((Qz s t counts i)[c_1]!)[j]!)∧m' =((((Qz s t counts i)[c_1]!).length) - (k:Int)).toNat∧Fresh w.heap.size [YS]∧St w w99 [rr VJ QQ XH 22 1 x_rest_1,rr ra1 ((appl s t).length) rc1 4 1 ((appl s t).map (Value.bool))] [zf true YS x_rest_1 (Qz s t counts i)]) (((((Qz s t counts i)[c_1]!).length) - (0:Int)).toNat) ⟨_,0,uE3,qf,(by exact fun j hj=>by omega),rfl,N,H⟩ ?_
  clear H N
  rintro m' ρ w100 ⟨xY,k,rfl,i0,i3,rfl,N,H⟩
  refine zcc (sps [yI k,Sv VJ QQ XH,yI c_1] ?_)
  obtain ⟨b101,rfl⟩:=H.Qn 0 rfl qf
  refine oI rfl rfl ?_
  obtain ⟨a102,c103,G104,s105,h106,H⟩:=H.yw 0 rfl 0 rfl (iv:=c_1) c_1 qf qf
  refine oL rfl (h106) (oN rfl (sp (Bv (decide ((k:Int) < (((Qz s t counts i)[c_1]!).length)))) (zjn (cD rfl (fun h107=>?_) (fun h107=>?_)))))
  ·skip
   refine qW (t_n (xQ (qX (zcr (sps [Sv (aa b101 0) QQ XH,yI c_1] (oI rfl rfl ?_))))))
   obtain ⟨a108,c109,G110,s111,h112,H⟩:=H.yw 0 rfl 1 rfl (iv:=c_1) c_1 qf qf
   refine oL rfl (h112) (sp (yI k) ?_)
   obtain ⟨b113,o114,rfl⟩:=H.addr 0 rfl qf
   refine oI rfl rfl (oL rfl (H.jY 0 rfl k qf qf) (sp (Bv (decide ((((Qz s t counts i)[c_1]!)[k]! :Int) < 0))) (zjn (cD rfl (fun h116=>?_) (fun h116=>?_)))))
   ·skip
    refine zcr (sps [Sv (aa b101 0) QQ XH,Sv (aa b101 0) QQ XH,Bv false] (zjr (b_r (t_r (t_r (b_r (zr5 (ret2 (Sv (aa b101 0) QQ XH) (Bv false) rfl rfl rfl ⟨_,rfl,?_,H.base⟩))))))))
    obtain rfl:i=counts.length:=by omega
    rw [stop_none (n:=counts.length) i1,xx (fun h=>by have:=h.2 c_1 qf k qf;omega)]
    exact ⟨(aa b101 0),QQ,XH,x_rest_1,YS,rfl,N,H.pick [0] [2]⟩
   refine qW (b_n (t_n (xO (sp (yI k) (sw (zB k 1 rfl rfl qf (sp (yI (k+1)) (xM (qY (m' :=((((Qz s t counts i)[c_1]!).length) - ((k+1):Int)).toNat) qf ⟨_,k+1,uE3,?_,?_,rfl,N,H.pick [0,1] [2]⟩)))))))))
   · omega
   · exact fun j hj=>by (by_cases e:j=k;(subst e;omega);exact i3 j qf)
  refine c_exit (t_x (t_x (b_x (b_n (t_n (xO (sp (yI c_1) (sw (zB c_1 1 rfl rfl qf (sp (yI (c_1+1)) (xM (qY (m' :=(QQ - ((c_1+1):Int)).toNat) qf ⟨_,c_1+1,uE2,?_,?_,rfl,N,H.pick [0,1] [1]⟩))))))))))))
  · omega
  · exact i2.succ (fun j hj=>i3 j qf)
 refine zx4 (zcr (sps [Sv VJ QQ XH,Sv VJ QQ XH,Bv true] (zjr (ret2 (Sv VJ QQ XH) (Bv true) rfl rfl rfl ⟨_,rfl,?_,H.base⟩))))
 obtain rfl:i=counts.length:=by omega
 rw [stop_none (n:=counts.length) i1,yH ⟨i1,(show c_1=t.qE.length by omega)▸i2⟩]
 exact ⟨VJ,QQ,XH,x_rest_1,YS,rfl,N,H.pick [0] [0]⟩
theorem l03Step_ok (w:World) (s:qI) (t:qH) (counts:yLI) {qC:yOA} {qZ:yLN} {qN:yOA} {xG:yLN} {qV:yOA} {xR:yLN} {xm:yOA} {zC:yLN} {qL:yOA} {xC:yLN} {acounts:yOA} {Fcounts:yLN} (hs:vN w bs os (yS s qC qB qN qJ)) (xf:qO.rep w qZ [Sv qC s.qw.length qB] s.qw) (xJ:qO.rep w xG [Sv qN s.qx.length qJ] s.qx) (ht:vN w bt ot (yT t qV qR xm xk qL qK)) (zi:qO.rep w xR [Sv qV t.qA.length qR] t.qA) (zM:qO.rep w zC [Sv xm t.qE.length xk] t.qE) (xN:qO.rep w xC [Sv qL t.qy.length qK] t.qy) (hcounts:qO.rep w Fcounts [Sv acounts counts.length ccounts] counts) (p0:jE s) (p1:zu s t) (p2:CntOk s counts):Calls Tryz.prog 144 #[pp bs os,pp bt ot,Sv acounts counts.length ccounts] w (Ret (fun v w' =>∃ (ra0Alive:yOA) (rn0Alive:Nat) (rc0Alive:Nat) (ra0Bags:yOA) (rn0Bags:Nat) (rc0Bags:Nat) (rx0Bags:List Value) (rF0Bags:yLN) (ra0Around:yOA) (rn0Around:Nat) (rc0Around:Nat),v=.tuple #[.agg #[Sv ra0Alive rn0Alive rc0Alive,Sv ra0Bags rn0Bags rc0Bags,Sv ra0Around rn0Around rc0Around],yI ((zI s t counts).2)]∧Fresh w.heap.size [rF0Bags]∧St w w' [rr ra0Alive rn0Alive rc0Alive 4 1 ((((zI s t counts).1).qA).map (Value.bool)),rr ra0Bags rn0Bags rc0Bags 22 1 rx0Bags,rr ra0Around rn0Around rc0Around 2 1 ((((zI s t counts).1).qy).map (Value.int .i64))] [zf true rF0Bags rx0Bags (((zI s t counts).1).qE)]) w):=by
 refine en func144 ntmps144 ?_
 have H:=((((((((St.start w).arg hcounts).arg xN).arg zM).arg zi).V7 ht).arg xJ).arg xf).V7 hs
 have vH:=qM xf
 have jw:=qM xJ
 have Qj:=qM zi
 have Q7:=qM zM
 have jV:=qM xN
 have nhcounts:=qM hcounts
 clear hs xf xJ ht zi zM xN hcounts
 have N:=Fresh.nil w.heap.size
 have p3:=p0.2.1
 have p6:=p2.1
 have p7:=p1.2.1
 have p8:=kinds_le p0
 have p9:=p0.1.2.1
 have p11:jr s=s.qw.length:=rfl
 have p12:=p1.1
 have p15:=p0.1
 have p16:=p0.1.1
 obtain ⟨q7,q8,q9,q10⟩:=p1.sizes p0.1
 have q13:=fun k hk=>Nat.le_trans (q10 k hk) (by decide:8≤1000000)
 have p14:=restR_len (s:=s) (t:=t) (counts:=counts)
 refine zcr (sw (zh H ti38 [yN,yN,yN] fun b1 w2 H=>sp (yI 0) (zjc (sps [pp bs os,pp bt ot,Sv acounts counts.length ccounts] ?_))))
 have sz6:=H.base.size
 refine sw (oc (l03Rest_ok _ s t counts (qF (H.get 0 rfl) 0 3) (H.get 1 rfl).1 (H.get 2 rfl).1 (qF (H.get 3 rfl) 0 3) (H.get 4 rfl).1 (H.get 5 rfl).1 (H.get 6 rfl).1 (H.get 7 rfl).1 qg qg qg) ?_)
 rintro _ w4 ⟨ra3a,rn3a,rc3a,rx3a,rF3a,rfl,M,K⟩ _
 replace N:=N.merge sz6 qm M
 replace H:=H.merge K M
 obtain rfl:=H.zq (α:=yLI) 0 rfl 0 rfl qj
 refine sps [.tuple #[Sv ra3a ((Qz s t counts (Q9 (BadAt s t counts) counts.length)).length) rc3a,Bv (dec (IsCh s t counts))],Sv ra3a ((Qz s t counts (Q9 (BadAt s t counts) counts.length)).length) rc3a,Bv (dec (IsCh s t counts)),Sv ra3a ((Qz s t counts (Q9 (BadAt s t counts) counts.length)).length) rc3a,Bv (dec (IsCh s t counts))] (zjcc (sps [Bv (dec (IsCh s t counts)),Bv (!(dec (IsCh s t counts)))] (zjn (cQ rfl (fun h9=>?_) (fun h9=>?_)))))
 ·skip
  refine zcr (sw (jF [yN,yN,yN] [] (sw (zF H 1 [yN,yN,yN] sizeOf38 fun w10 H=>sp (yI 4) (zjr (t_r ?_))))))
  replace H:=H.nilRowB 4
  replace H:=H.nilRow 22 1
  replace H:=H.vT (α:=yLI)
  replace H:=H.nilRowI 2
  refine retC2 H 4 rfl (yI 4) rfl isAgg38 sizeOf38 rfl rfl ⟨_,rfl,?_,H.base⟩
  rw [stepBy_no ‹_›]
  exact ⟨none,0,0,none,0,0,[],[],none,0,0,rfl,(N.emp.pick [0]),H.pick [2,1,0] [0]⟩
 have st:=stop_none (n:=counts.length) (P:=BadAt s t counts) (‹IsCh s t counts›).1
 have r1:=restR_len (s:=s) (t:=t) (counts:=counts) (Q9 (BadAt s t counts) counts.length)
 refine qW (t_n (zcr (sp (pp bt ot) ?_)))
 have sz14:=H.base.size
 have lt15:=H.ltN (L:=[rF3a]) [0]
 refine sw (oc (l02Own_ok _ t (qF (H.get 4 rfl) 0 3) (H.get 5 rfl).1 (H.get 6 rfl).1 (H.get 7 rfl).1 qg qg qg qg) ?_)
 rintro _ w12 ⟨Qs,rn11Alive,Qr,ra11Bags,rn11Bags,rc11Bags,YQ,yR,ra11Around,rn11Around,rc11Around,rfl,M,K⟩ _
 replace N:=N.merge sz14 lt15 M
 replace H:=H.merge K M
 obtain rfl:=H.rowNB 0 rfl
 obtain rfl:=H.zq (α:=yLI) 1 rfl 0 rfl qj
 obtain rfl:=H.YX 2 rfl
 refine sw (zh H ti38 [yN,yN,yN] fun b19 w20 H=>sw (zF H 0 (yT t Qs Qr ra11Bags rc11Bags ra11Around rc11Around) sizeOf38 fun w21 H=>zjc (sp (Sv ra3a ((Qz s t counts (Q9 (BadAt s t counts) counts.length)).length) rc3a) (oF rfl (sw (zO H 0 [Sv Qs t.qA.length Qr,Sv ra3a ((Qz s t counts (Q9 (BadAt s t counts) counts.length)).length) rc3a,Sv ra11Around t.qy.length rc11Around] sizeOf27 fun w22 H=>zjcc (sp (yI 0) ?_)))))))
 refine zjn (qX ?_)
 refine zD (fun m' ρ w23=>∃ (xY:Env) (i:Nat) (jg:yOA) (je:Nat) (jf:Nat) (out_Around:yLI) (rest:yLL) (x_rest:List Value) (F_rest:yLN),ρ=upd (upd (upd (upd (upd (upd xY 0 (pp bs os)) 1 (pp bt ot)) 2 (Sv acounts counts.length ccounts)) 6 (pp b1 0)) 10 (pp b19 0)) 11 (yI i)∧((i:Int)≤counts.length)∧(Ent (s.qw.length+1) (QY s) (fun p q=>base0 s t p q+needS s counts s.qx.length p q+putS s t counts i p q) (20000000+6000000 * i) (rest++[out_Around]))∧(rest.length=s.qw.length)∧m' =(counts.length - (i:Int)).toNat∧Fresh w.heap.size [yR,F_rest]∧St w w23 [.box b19 [Sv Qs t.qA.length Qr,Sv ra3a ((Qz s t counts (Q9 (BadAt s t counts) counts.length)).length) rc3a,Sv jg je jf] 38,rr Qs t.qA.length Qr 4 1 (t.qA.map (Value.bool)),rr ra11Bags t.qE.length rc11Bags 22 1 YQ,rr jg je jf 2 1 (out_Around.map (Value.int .i64)),rr ra3a ((Qz s t counts (Q9 (BadAt s t counts) counts.length)).length) rc3a 22 1 x_rest,.box b1 [yN,yN,yN] 38] [zf true yR YQ t.qE,zf true F_rest x_rest rest,atF bs os (yS s qC qB qN qJ),sF false qZ qC qB s.qw,sF false xG qN qJ s.qx,atF bt ot (yT t qV qR xm xk qL qK),sF false xR qV qR t.qA,sF false zC xm xk t.qE,sF false xC qL qK t.qy,sF false Fcounts acounts ccounts counts]) ((counts.length - (0:Int)).toNat) ⟨_,0,ra11Around,t.qy.length,rc11Around,t.qy,Qz s t counts (Q9 (BadAt s t counts) counts.length),rx3a,rF3a,uE6,qf,(by rw [st,p6];exact (rest_ent p0 p1 p2).to (fun _ _=>rfl) qf),qf,rfl,N,H⟩ ?_
 clear H N
 rintro m' ρ w24 ⟨xY,i,jg,je,jf,out_Around,rest,x_rest,F_rest,rfl,i0,E_rest,z_rest,rfl,N,H⟩
 have hn_out_Around:=H.YX 3 rfl
 have hn_rest:=H.zq (α:=yLI) 4 rfl 1 rfl qj
 refine zcc (sps [yI i,Sv acounts counts.length ccounts] (oN rfl (sp (Bv (decide ((i:Int) < counts.length))) (zjn (cD rfl (fun h25=>?_) (fun h25=>?_))))))
 ·skip
  have q:=p0.rule (i:=i) qf
  have qc:=q.1
  have qk:=q.cell
  have qr:=q.2.1
  have bn1:=q.2.2.2.2.1
  have bn2:=q.2.2.2.2.2.2.2.1
  have bn3:=q.2.2.2.2.2.2.2.2.1
  have ln1:=bn1.len
  have ln2:=bn2.len
  have ln3:=bn3.len
  have p10:=p2.bd (i:=i) qf
  have qn:=q.2.2.2.1
  refine qW (t_n (xQ (qX (zcr (sps [pp bs os,pp bs os] (oF rfl (oL rfl (H.xW 2 rfl 2 rfl) (sp (yI i) ?_))))))))
  obtain ⟨b26,o27,rfl⟩:=H.addr 4 rfl qf
  obtain ⟨ae29Need,ce29Need,Fe29Need,ae29Have,ce29Have,Fe29Have,ae29Lack,ce29Lack,Fe29Lack,ae29Here,ce29Here,Fe29Here,ae29Out,ce29Out,Fe29Out,ae29Into,ce29Into,Fe29Into,H⟩:=H.yF 4 rfl i i qf qf qf
  refine oI rfl rfl (sp (pp b26 (o27+(i:Int).toNat * 9)) (zjcc (sps [Sv acounts counts.length ccounts,yI i] ?_)))
  obtain ⟨b30,o31,rfl⟩:=H.addr 16 rfl qf
  refine oI rfl rfl (oL rfl (H.jY 16 rfl i qf qf) (sp (Bv ((counts[i]! :Int) == 0)) (zjn (cE rfl (fun h33=>?_) (fun h33=>?_)))))
  ·skip
   refine c_exit (t_x (b_x (t_n (xO (sp (yI i) (sw (zB i 1 rfl rfl qf (sp (yI (i+1)) (xM (qY (m' :=(counts.length - ((i+1):Int)).toNat) qf ⟨_,i+1,jg,je,jf,out_Around,rest,x_rest,F_rest,uE6,?_,?_,?_,rfl,N,H.pick [0,1,2,3,4,5] [7,8,9,10,11,12,13,14,15,16]⟩))))))))))
   · omega
   · first | exact E_rest.to (fun p q=>by simp only [putS_skip (s:=s) (t:=t) (counts:=counts) (i:=i) ‹_›]) qf | exact E_out_Bags.to (fun p q=>by rw [show k=((s.qx[i]!).qU).length by omega];simp only [putS,putF];omega) qf
   · omega
  refine qW (t_n (xQ ?_))
  refine QI rfl H [0,1,2,3,5] fun H=>?_
  have S:=H.yU [0,1,2,3,5] [0,1,2,3,4,5,6,7,8,9,10,11,12,13,14,15,16]
  refine tF 0 rfl rfl S ?_
  refine tL 1 rfl rfl (fun _ h=>h.cell 0 rfl rfl) S ?_
  refine rtp 2 (pp b26 (o27+(i:Int).toNat * 9)) S ?_
  refine rtp 3 (pp b26 (o27+(i:Int).toNat * 9)) S ?_
  refine tF 4 rfl rfl S ?_
  refine tL 5 rfl rfl (fun _ h=>h.xW 6 rfl 0 rfl) S ?_
  refine tF 6 rfl rfl S ?_
  refine tL 7 rfl rfl (fun _ h=>h.cell 0 rfl rfl) S ?_
  refine rtp 8 (pp b26 (o27+(i:Int).toNat * 9)) S ?_
  refine rtp 9 (pp b26 (o27+(i:Int).toNat * 9)) S ?_
  refine tF 10 rfl rfl S ?_
  refine tL 11 rfl rfl (fun _ h=>h.xW 6 rfl 0 rfl) S ?_
  obtain ⟨b35,rfl⟩:=H.Qn 4 rfl qf
  have S:=H.yU [0,1,2,3,5] [0,1,2,3,4,5,6,7,8,9,10,11,12,13,14,15,16]
  refine tI 12 rfl rfl rfl S ?_
  refine rtp 14 (pp b26 (o27+(i:Int).toNat * 9)) S ?_
  refine rtp 15 (pp b26 (o27+(i:Int).toNat * 9)) S ?_
  refine tF 16 rfl rfl S ?_
  refine tL 17 rfl rfl (fun _ h=>h.xW 6 rfl 5 rfl) S ?_
  refine rtp 18 (Sv (aa b30 o31) counts.length ccounts) S ?_
  refine rtp 19 (yI i) S ?_
  refine tI 20 rfl rfl rfl S ?_
  refine tL 21 rfl rfl (fun _ h=>h.yG 16 rfl i qf) S ?_
  refine ro 13 rfl ?_
  obtain ⟨a36,c37,G38,s39,h40,H⟩:=H.yw 4 rfl 8 rfl (iv:=(s.qx[i]!).qG) (((s.qx[i]!).qG).toNat) qf qf
  refine zT (Sv a36 ((rest[((s.qx[i]!).qG).toNat]!).length) c37) isAgg22 rfl (h40) (⟨H.pick [0,1,2,3,5] [1,2,3,4,5,6,7,8,9,10,11,12,13,14,15,16,17],(ro 22 rfl ?_)⟩)
  obtain ⟨u1,u2⟩:=Ent.rowL E_rest (c:=((s.qx[i]!).qG).toNat) qf qf qf qf
  have u4:=(by first | exact bn2.Qq qf | exact bn3.Qq qf | exact bn4.Qq qf:SmallT ((s.qx[i]!).xK) (counts[i]!))
  have sz41:=H.base.size
  have lt42:=H.ltN (L:=[yR,F_rest]) [8,9]
  refine oc (Vx _ (rest[((s.qx[i]!).qG).toNat]!) ((s.qx[i]!).xK) (counts[i]!) (H.get 0 rfl).1 (H.get 4 rfl).1 qg qg qg) ?_
  rintro v46 w44 r46 x45
  replace H:=H.zJ x45 r46
  obtain ⟨a47,c48,rfl,hc49,hm50⟩:=H.jA 0 rfl
  refine ⟨H.pick [1,2,3,4,6] [1,2,3,4,5,6,7,8,9,10,11,12,13,14,15,16,17],(tI 23 rfl rfl rfl (H.pick [1,2,3,4,6] [1,2,3,4,5,6,7,8,9,10,11,12,13,14,15,16,17]) ?_)⟩
  refine ro 24 rfl ?_
  obtain ⟨G52,N,hn53,H⟩:=H.jb 0 rfl N (H.jU [8,9])
  refine jX true H 5 rfl 10 rfl (Sv a47 ((ji (rest[((s.qx[i]!).qG).toNat]!) ((s.qx[i]!).xK) (counts[i]!)).length) c48) 0 rfl rfl sizeOf22 rfl rfl (i:=(((s.qx[i]!).qG).toNat)) qf qf qm fun w51 xs54 F55 hs56 H=>?_
  replace N:Fresh w.heap.size [F55,yR]:=(N.pick [2,0,1]).repl hs56
  refine ⟨H.pick [1,2,3,4,6] [3,4,5,6,7,8,9,10,11,12,13,14,15,16,17,18,19],(xP qh (t_n (zcc (sps [pp b26 (o27+(i:Int).toNat * 9),pp b26 (o27+(i:Int).toNat * 9)] (oF rfl (oL rfl (H.xW 9 rfl 0 rfl) (sp (Bv (((s.qx[i]!).qG:Int) == 0)) (zjn (cE rfl (fun h57=>?_) (fun h57=>?_))))))))))⟩
  ·skip
   obtain ⟨bg58,e_bg58⟩:∃ z,z=(rest.set (((s.qx[i]!).qG).toNat) (ji (rest[((s.qx[i]!).qG).toNat]!) ((s.qx[i]!).xK) (counts[i]!))):=⟨_,rfl⟩
   rw [← e_bg58] at H
   have E_bg58:=Ent.addL (D:=1000000) E_rest e_bg58 qf qf (by first | exact bn2.mul qf | exact bn3.mul qf | exact bn4.mul qf) qf
   have z_bg58:bg58.length=s.qw.length:=by rw [e_bg58,List.length_set];omega
   have E_cur:=E_bg58
   refine QI rfl H [0,2,3,4,5,6] fun H=>?_
   have S:=H.yU [0,2,3,4,5,6] [0,1,2,3,4,5,6,7,8,9,10,11,12,13,14,15,16,17,18,19]
   refine tF 0 rfl rfl S ?_
   refine rtp 2 (pp b26 (o27+(i:Int).toNat * 9)) S ?_
   refine rtp 3 (pp b26 (o27+(i:Int).toNat * 9)) S ?_
   refine tF 4 rfl rfl S ?_
   refine tL 5 rfl rfl (fun _ h=>h.xW 9 rfl 6 rfl) S ?_
   refine rtp 6 (Sv (aa b30 o31) counts.length ccounts) S ?_
   refine rtp 7 (yI i) S ?_
   refine tI 8 rfl rfl rfl S ?_
   refine tL 9 rfl rfl (fun _ h=>h.yG 19 rfl i qf) S ?_
   refine ro 1 rfl (zT (Sv jg je jf) isAgg22 rfl (H.cell 1 rfl rfl) (⟨H.pick [0,2,3,4,5,6] [0,1,2,3,4,5,6,7,8,9,10,11,12,13,14,15,16,17,18,19],(ro 10 rfl ?_)⟩))
   obtain ⟨G60,hn61,h62⟩:=H.rowIsI 4 rfl
   obtain ⟨u1,u2⟩:=Ent.rowN E_bg58 qf qf qf
   have u4:=(by first | exact bn2.Qq qf | exact bn3.Qq qf | exact bn4.Qq qf:SmallT ((s.qx[i]!).ve) (counts[i]!))
   have sz63:=H.base.size
   have lt64:=H.ltN (L:=[F55,yR]) [0,10]
   refine oc (args_eq (by rw [← hn61]) (Vx _ out_Around ((s.qx[i]!).ve) (counts[i]!) (hn61▸h62) (H.get 7 rfl).1 qg qg qg)) ?_
   rintro v68 w66 r68 x67
   replace H:=H.zJ x67 r68
   obtain ⟨a69,c70,rfl,hc71,hm72⟩:=H.jA 0 rfl
   refine ⟨H.pick [1,3,4,5,6,7] [0,1,2,3,4,5,6,7,8,9,10,11,12,13,14,15,16,17,18,19],(tF 11 rfl rfl (H.pick [1,3,4,5,6,7] [0,1,2,3,4,5,6,7,8,9,10,11,12,13,14,15,16,17,18,19]) ?_)⟩
   refine ro 12 rfl (zO H 2 [Sv Qs t.qA.length Qr,Sv (aa b35 0) ((Qz s t counts (Q9 (BadAt s t counts) counts.length)).length) rc3a,Sv a69 ((ji out_Around ((s.qx[i]!).ve) (counts[i]!)).length) c70] sizeOf22 fun w73 H=>⟨H.pick [1,3,4,5,6,7] [0,1,2,3,4,5,6,7,8,9,10,11,12,13,14,15,16,17,18,19],(xP qh (t_n (zcr (sp (yI 0) (zjn (qX ?_))))))⟩)
   replace E_bg58:=Ent.addN (D:=1000000) (a' :=ji out_Around ((s.qx[i]!).ve) (counts[i]!)) E_bg58 rfl qf (by first | exact bn2.mul qf | exact bn3.mul qf | exact bn4.mul qf) qf
   have E_cur:=E_bg58
   refine zD (fun m' ρ w74=>∃ (xY:Env) (k:Nat) (out_Bags:yLL) (zW:List Value) (zn:yLN),ρ=upd (upd (upd (upd (upd (upd (upd (upd xY 0 (pp bs os)) 1 (pp bt ot)) 2 (Sv (aa b30 o31) counts.length ccounts)) 6 (pp b1 0)) 10 (pp b19 0)) 11 (yI i)) 12 (pp b26 (o27+(i:Int).toNat * 9))) 14 (yI k)∧((k:Int)≤(((s.qx[i]!).qU).length))∧(Ent (s.qw.length+1) (QY s) (fun p q=>base0 s t p q+needS s counts s.qx.length p q+putS s t counts i p q+at' p (s.qx[i]!).qG.toNat (counts[i]! * ((s.qx[i]!).xK)[q]!)+at' p (outPl s t (s.qx[i]!)) (counts[i]! * ((s.qx[i]!).ve)[q]!)+intoF (s.qx[i]!) (counts[i]!) k p q) (22000000+6000000 * i+1000000 * k) (out_Bags++[ji out_Around ((s.qx[i]!).ve) (counts[i]!)]))∧(out_Bags.length=s.qw.length)∧m' =((((s.qx[i]!).qU).length) - (k:Int)).toNat∧Fresh w.heap.size [yR,zn]∧St w w74 [rr a69 ((ji out_Around ((s.qx[i]!).ve) (counts[i]!)).length) c70 2 1 ((ji out_Around ((s.qx[i]!).ve) (counts[i]!)).map (Value.int .i64)),.box b19 [Sv Qs t.qA.length Qr,Sv (aa b35 0) ((Qz s t counts (Q9 (BadAt s t counts) counts.length)).length) rc3a,Sv a69 ((ji out_Around ((s.qx[i]!).ve) (counts[i]!)).length) c70] 38,rr Qs t.qA.length Qr 4 1 (t.qA.map (Value.bool)),rr ra11Bags t.qE.length rc11Bags 22 1 YQ,rr jg je jf 2 1 (out_Around.map (Value.int .i64)),rr (aa b35 0) ((Qz s t counts (Q9 (BadAt s t counts) counts.length)).length) rc3a 22 1 zW,.box b1 [yN,yN,yN] 38] [zf true zn zW out_Bags,sF false Fe29Need ae29Need ce29Need ((s.qx[i]!).xn),sF false Fe29Have ae29Have ce29Have ((s.qx[i]!).xF),sF false Fe29Lack ae29Lack ce29Lack ((s.qx[i]!).xI),sF false Fe29Here ae29Here ce29Here ((s.qx[i]!).xK),sF false Fe29Out ae29Out ce29Out ((s.qx[i]!).ve),sF false Fe29Into ae29Into ce29Into ((s.qx[i]!).qU),atF b26 (o27+(i:Int).toNat * 9) [yI ((s.qx[i]!).qG),yI ((s.qx[i]!).zS),Sv ae29Need (((s.qx[i]!).xn).length) ce29Need,Sv ae29Have (((s.qx[i]!).xF).length) ce29Have,Sv ae29Lack (((s.qx[i]!).xI).length) ce29Lack,Sv ae29Here (((s.qx[i]!).xK).length) ce29Here,Sv ae29Out (((s.qx[i]!).ve).length) ce29Out,Sv ae29Into (((s.qx[i]!).qU).length) ce29Into,Bv ((s.qx[i]!).zH)],zf true yR YQ t.qE,atF bs os [yI s.xB,Sv qC s.qw.length qB,Sv (aa b26 o27) s.qx.length qJ],sF false qZ qC qB s.qw,sF false xG (aa b26 o27) qJ s.qx,atF bt ot (yT t qV qR xm xk qL qK),sF false xR qV qR t.qA,sF false zC xm xk t.qE,sF false xC qL qK t.qy,sF false Fcounts (aa b30 o31) ccounts counts]) (((((s.qx[i]!).qU).length) - (0:Int)).toNat) ⟨_,0,bg58,xs54,F55,uE8,qf,(by exact E_cur.to (fun p q=>by first | (simp only [intoF,outPl_root (s:=s) (t:=t) (r:=s.qx[i]!) ‹_›,jr];omega) | (simp only [intoF,outPl_up (s:=s) (t:=t) (r:=s.qx[i]!) ‹_›];omega)) qf),qf,rfl,(N.pick [1,0]),H.pick [0,2,3,4,5,6,7] [0,3,4,5,6,7,8,9,10,12,13,14,15,16,17,18,19]⟩ ?_
   clear H N
   rintro m' ρ w75 ⟨xY,k,out_Bags,zW,zn,rfl,i0,E_out_Bags,z_out_Bags,rfl,N,H⟩
   have Y0:=H.zq (α:=yLI) 5 rfl 0 rfl qj
   refine zcc (sps [yI k,pp b26 (o27+(i:Int).toNat * 9),pp b26 (o27+(i:Int).toNat * 9)] (oF rfl (oL rfl (H.xW 7 rfl 7 rfl) (oN rfl (sp (Bv (decide ((k:Int) < (((s.qx[i]!).qU).length)))) (zjn (cD rfl (fun h76=>?_) (fun h76=>?_))))))))
   ·skip
    have qi:=q.2.2.2.2.2.2.2.2.2.2 k qf
    have qi1:=qi.1
    have bn4:=qi.2.2.1
    have ln4:=bn4.len
    refine qW (t_n (xQ (qX (zcr (sps [pp b26 (o27+(i:Int).toNat * 9),pp b26 (o27+(i:Int).toNat * 9)] (oF rfl (oL rfl (H.xW 7 rfl 7 rfl) (sp (yI k) ?_))))))))
    obtain ⟨b77,o78,rfl⟩:=H.addr 6 rfl qf
    obtain ⟨ae80Bag,ce80Bag,Fe80Bag,H⟩:=H.yh 6 rfl k k qf qf qf
    refine oI rfl rfl (oF rfl (oL rfl (H.xW 1 rfl 0 rfl) (sp (yI ((((s.qx[i]!).qU)[k]!).qG)) (zjn ?_))))
    refine QI rfl H [0,1,2,3,4,6] fun H=>?_
    have S:=H.yU [0,1,2,3,4,6] [0,1,2,3,4,5,6,7,8,9,10,11,12,13,14,15,16,17,18]
    refine tF 0 rfl rfl S ?_
    refine tL 1 rfl rfl (fun _ h=>h.cell 1 rfl rfl) S ?_
    refine rtp 2 (yI ((((s.qx[i]!).qU)[k]!).qG)) S ?_
    refine tF 3 rfl rfl S ?_
    refine tL 4 rfl rfl (fun _ h=>h.cell 1 rfl rfl) S ?_
    refine rtp 5 (yI ((((s.qx[i]!).qU)[k]!).qG)) S ?_
    refine tI 6 rfl rfl rfl S ?_
    refine rtp 8 (pp b26 (o27+(i:Int).toNat * 9)) S ?_
    refine rtp 9 (pp b26 (o27+(i:Int).toNat * 9)) S ?_
    refine tF 10 rfl rfl S ?_
    refine tL 11 rfl rfl (fun _ h=>h.xW 9 rfl 7 rfl) S ?_
    refine rtp 12 (yI k) S ?_
    refine tI 13 rfl rfl rfl S ?_
    refine tF 14 rfl rfl S ?_
    refine tL 15 rfl rfl (fun _ h=>h.xW 1 rfl 1 rfl) S ?_
    refine rtp 16 (Sv (aa b30 o31) counts.length ccounts) S ?_
    refine rtp 17 (yI i) S ?_
    refine tI 18 rfl rfl rfl S ?_
    refine tL 19 rfl rfl (fun _ h=>h.yG 18 rfl i qf) S ?_
    refine ro 7 rfl ?_
    obtain ⟨a82,c83,G84,s85,h86,H⟩:=H.yw 5 rfl 2 rfl (iv:=(((s.qx[i]!).qU)[k]!).qG) (((((s.qx[i]!).qU)[k]!).qG).toNat) qf qf
    refine zT (Sv a82 ((out_Bags[((((s.qx[i]!).qU)[k]!).qG).toNat]!).length) c83) isAgg22 rfl (h86) (⟨H.pick [0,1,2,3,4,6] [1,2,3,4,5,6,7,8,9,10,11,12,13,14,15,16,17,18,19],(ro 20 rfl ?_)⟩)
    obtain ⟨u1,u2⟩:=Ent.rowL E_out_Bags (c:=((((s.qx[i]!).qU)[k]!).qG).toNat) qf qf qf qf
    have u4:=(by first | exact bn2.Qq qf | exact bn3.Qq qf | exact bn4.Qq qf:SmallT ((((s.qx[i]!).qU)[k]!).jJ) (counts[i]!))
    have sz87:=H.base.size
    have lt88:=H.ltN (L:=[yR,zn]) [11,3]
    refine oc (Vx _ (out_Bags[((((s.qx[i]!).qU)[k]!).qG).toNat]!) ((((s.qx[i]!).qU)[k]!).jJ) (counts[i]!) (H.get 0 rfl).1 (H.get 1 rfl).1 qg qg qg) ?_
    rintro v92 w90 r92 x91
    replace H:=H.zJ x91 r92
    obtain ⟨a93,c94,rfl,hc95,hm96⟩:=H.jA 0 rfl
    refine ⟨H.pick [1,2,3,4,5,7] [1,2,3,4,5,6,7,8,9,10,11,12,13,14,15,16,17,18,19],(tI 21 rfl rfl rfl (H.pick [1,2,3,4,5,7] [1,2,3,4,5,6,7,8,9,10,11,12,13,14,15,16,17,18,19]) ?_)⟩
    refine ro 22 rfl ?_
    obtain ⟨G98,N,hn99,H⟩:=H.jb 0 rfl N (H.jU [11,3])
    refine jX true H 6 rfl 4 rfl (Sv a93 ((ji (out_Bags[((((s.qx[i]!).qU)[k]!).qG).toNat]!) ((((s.qx[i]!).qU)[k]!).jJ) (counts[i]!)).length) c94) 0 rfl rfl sizeOf22 rfl rfl (i:=(((((s.qx[i]!).qU)[k]!).qG).toNat)) qf qf qm fun w97 xs100 F101 hs102 H=>?_
    replace N:Fresh w.heap.size [F101,yR]:=(N.pick [2,0,1]).repl hs102
    refine ⟨H.pick [1,2,3,4,5,7] [3,4,5,6,7,8,9,10,11,12,13,14,15,16,17,18,19,20,21],(xP qh (b_n (t_n (xO (sp (yI k) (sw (zB k 1 rfl rfl qf (sp (yI (k+1)) (xM ?_)))))))))⟩
    obtain ⟨bg103,e_bg103⟩:∃ z,z=(out_Bags.set (((((s.qx[i]!).qU)[k]!).qG).toNat) (ji (out_Bags[((((s.qx[i]!).qU)[k]!).qG).toNat]!) ((((s.qx[i]!).qU)[k]!).jJ) (counts[i]!))):=⟨_,rfl⟩
    rw [← e_bg103] at H
    have E_bg103:=Ent.addL (D:=1000000) E_out_Bags e_bg103 qf qf (by first | exact bn2.mul qf | exact bn3.mul qf | exact bn4.mul qf) qf
    have z_bg103:bg103.length=s.qw.length:=by rw [e_bg103,List.length_set];omega
    have E_cur:=E_bg103
    refine qY (m' :=((((s.qx[i]!).qU).length) - ((k+1):Int)).toNat) qf ⟨_,k+1,bg103,xs100,F101,uE8,?_,?_,?_,rfl,(N.pick [1,0]),H.pick [1,2,3,4,5,6,7] [0,6,7,8,9,10,11,12,13,14,15,16,17,18,19,20,21]⟩
    · omega
    · exact E_cur.to (fun p q=>by simp only [intoF];omega) qf
    · omega
   refine c_exit (t_x (t_x (b_x (b_n (t_n (xO (sp (yI i) (sw (zB i 1 rfl rfl qf (sp (yI (i+1)) (xM (qY (m' :=(counts.length - ((i+1):Int)).toNat) qf ⟨_,i+1,a69,(ji out_Around ((s.qx[i]!).ve) (counts[i]!)).length,c70,ji out_Around ((s.qx[i]!).ve) (counts[i]!),out_Bags,zW,zn,uE6,?_,?_,?_,rfl,N,H.pick [1,2,3,0,5,6] [8,0,9,10,11,12,13,14,15,16]⟩))))))))))))
   · omega
   · first | exact E_rest.to (fun p q=>by simp only [putS_skip (s:=s) (t:=t) (counts:=counts) (i:=i) ‹_›]) qf | exact E_out_Bags.to (fun p q=>by rw [show k=((s.qx[i]!).qU).length by omega];simp only [putS,putF];omega) qf
   · omega
  obtain ⟨bg104,e_bg104⟩:∃ z,z=(rest.set (((s.qx[i]!).qG).toNat) (ji (rest[((s.qx[i]!).qG).toNat]!) ((s.qx[i]!).xK) (counts[i]!))):=⟨_,rfl⟩
  rw [← e_bg104] at H
  have E_bg104:=Ent.addL (D:=1000000) E_rest e_bg104 qf qf (by first | exact bn2.mul qf | exact bn3.mul qf | exact bn4.mul qf) qf
  have z_bg104:bg104.length=s.qw.length:=by rw [e_bg104,List.length_set];omega
  have E_cur:=E_bg104
  refine zcr (sps [pp bs os,pp bt ot,pp b26 (o27+(i:Int).toNat * 9),pp b26 (o27+(i:Int).toNat * 9)] (oF rfl (oL rfl (H.xW 9 rfl 0 rfl) (sw (oq (l02Parent_ok _ s t ((s.qx[i]!).qG) (qF (H.get 12 rfl) 0 3) (H.get 13 rfl).1 (H.get 14 rfl).1 (qF (H.get 15 rfl) 0 3) (H.get 16 rfl).1 (H.get 17 rfl).1 (H.get 18 rfl).1 ql ql ql) H fun w105 H=>?_)))))
  have pin:=Y6 (s:=s) (t:=t) (c:=((s.qx[i]!).qG)) p0.1 p1.2.2.1 qf qf
  refine sp (yI (xA s t ((s.qx[i]!).qG))) (zjn ?_)
  refine QI rfl H [0,1,2,3,4,6] fun H=>?_
  have S:=H.yU [0,1,2,3,4,6] [0,1,2,3,4,5,6,7,8,9,10,11,12,13,14,15,16,17,18,19]
  refine tF 0 rfl rfl S ?_
  refine tL 1 rfl rfl (fun _ h=>h.cell 1 rfl rfl) S ?_
  refine rtp 2 (yI (xA s t ((s.qx[i]!).qG))) S ?_
  refine tF 3 rfl rfl S ?_
  refine tL 4 rfl rfl (fun _ h=>h.cell 1 rfl rfl) S ?_
  refine rtp 5 (yI (xA s t ((s.qx[i]!).qG))) S ?_
  refine tI 6 rfl rfl rfl S ?_
  refine rtp 8 (pp b26 (o27+(i:Int).toNat * 9)) S ?_
  refine rtp 9 (pp b26 (o27+(i:Int).toNat * 9)) S ?_
  refine tF 10 rfl rfl S ?_
  refine tL 11 rfl rfl (fun _ h=>h.xW 9 rfl 6 rfl) S ?_
  refine rtp 12 (Sv (aa b30 o31) counts.length ccounts) S ?_
  refine rtp 13 (yI i) S ?_
  refine tI 14 rfl rfl rfl S ?_
  refine tL 15 rfl rfl (fun _ h=>h.yG 19 rfl i qf) S ?_
  refine ro 7 rfl ?_
  obtain ⟨a108,c109,G110,s111,h112,H⟩:=H.yw 5 rfl 0 rfl (iv:=xA s t ((s.qx[i]!).qG)) ((xA s t ((s.qx[i]!).qG)).toNat) qf qf
  refine zT (Sv a108 ((bg104[(xA s t ((s.qx[i]!).qG)).toNat]!).length) c109) isAgg22 rfl (h112) (⟨H.pick [0,1,2,3,4,6] [1,2,3,4,5,6,7,8,9,10,11,12,13,14,15,16,17,18,19,20],(ro 16 rfl ?_)⟩)
  obtain ⟨u1,u2⟩:=Ent.rowL E_bg104 (c:=(xA s t ((s.qx[i]!).qG)).toNat) qf qf qf qf
  have u4:=(by first | exact bn2.Qq qf | exact bn3.Qq qf | exact bn4.Qq qf:SmallT ((s.qx[i]!).ve) (counts[i]!))
  have sz113:=H.base.size
  have lt114:=H.ltN (L:=[F55,yR]) [1,11]
  refine oc (Vx _ (bg104[(xA s t ((s.qx[i]!).qG)).toNat]!) ((s.qx[i]!).ve) (counts[i]!) (H.get 0 rfl).1 (H.get 8 rfl).1 qg qg qg) ?_
  rintro v118 w116 r118 x117
  replace H:=H.zJ x117 r118
  obtain ⟨a119,c120,rfl,hc121,hm122⟩:=H.jA 0 rfl
  refine ⟨H.pick [1,2,3,4,5,7] [1,2,3,4,5,6,7,8,9,10,11,12,13,14,15,16,17,18,19,20],(tI 17 rfl rfl rfl (H.pick [1,2,3,4,5,7] [1,2,3,4,5,6,7,8,9,10,11,12,13,14,15,16,17,18,19,20]) ?_)⟩
  refine ro 18 rfl ?_
  obtain ⟨G124,N,hn125,H⟩:=H.jb 0 rfl N (H.jU [1,11])
  refine jX true H 6 rfl 2 rfl (Sv a119 ((ji (bg104[(xA s t ((s.qx[i]!).qG)).toNat]!) ((s.qx[i]!).ve) (counts[i]!)).length) c120) 0 rfl rfl sizeOf22 rfl rfl (i:=((xA s t ((s.qx[i]!).qG)).toNat)) qf qf qm fun w123 xs126 F127 hs128 H=>?_
  replace N:Fresh w.heap.size [F127,yR]:=(N.pick [1,0,2]).repl hs128
  refine ⟨H.pick [1,2,3,4,5,7] [3,4,5,6,7,8,9,10,11,12,13,14,15,16,17,18,19,20,21,22],(xP qh (t_n (zcr (sp (yI 0) (zjn (qX ?_))))))⟩
  obtain ⟨bg129,e_bg129⟩:∃ z,z=(bg104.set ((xA s t ((s.qx[i]!).qG)).toNat) (ji (bg104[(xA s t ((s.qx[i]!).qG)).toNat]!) ((s.qx[i]!).ve) (counts[i]!))):=⟨_,rfl⟩
  rw [← e_bg129] at H
  have E_bg129:=Ent.addL (D:=1000000) E_bg104 e_bg129 qf qf (by first | exact bn2.mul qf | exact bn3.mul qf | exact bn4.mul qf) qf
  have z_bg129:bg129.length=s.qw.length:=by rw [e_bg129,List.length_set];omega
  have E_cur:=E_bg129
  refine zD (fun m' ρ w130=>∃ (xY:Env) (k:Nat) (out_Bags:yLL) (zW:List Value) (zn:yLN),ρ=upd (upd (upd (upd (upd (upd (upd (upd xY 0 (pp bs os)) 1 (pp bt ot)) 2 (Sv (aa b30 o31) counts.length ccounts)) 6 (pp b1 0)) 10 (pp b19 0)) 11 (yI i)) 12 (pp b26 (o27+(i:Int).toNat * 9))) 14 (yI k)∧((k:Int)≤(((s.qx[i]!).qU).length))∧(Ent (s.qw.length+1) (QY s) (fun p q=>base0 s t p q+needS s counts s.qx.length p q+putS s t counts i p q+at' p (s.qx[i]!).qG.toNat (counts[i]! * ((s.qx[i]!).xK)[q]!)+at' p (outPl s t (s.qx[i]!)) (counts[i]! * ((s.qx[i]!).ve)[q]!)+intoF (s.qx[i]!) (counts[i]!) k p q) (22000000+6000000 * i+1000000 * k) (out_Bags++[out_Around]))∧(out_Bags.length=s.qw.length)∧m' =((((s.qx[i]!).qU).length) - (k:Int)).toNat∧Fresh w.heap.size [yR,zn]∧St w w130 [.box b19 [Sv Qs t.qA.length Qr,Sv (aa b35 0) ((Qz s t counts (Q9 (BadAt s t counts) counts.length)).length) rc3a,Sv jg je jf] 38,rr Qs t.qA.length Qr 4 1 (t.qA.map (Value.bool)),rr ra11Bags t.qE.length rc11Bags 22 1 YQ,rr jg je jf 2 1 (out_Around.map (Value.int .i64)),rr (aa b35 0) ((Qz s t counts (Q9 (BadAt s t counts) counts.length)).length) rc3a 22 1 zW,.box b1 [yN,yN,yN] 38] [zf true zn zW out_Bags,sF false Fe29Need ae29Need ce29Need ((s.qx[i]!).xn),sF false Fe29Have ae29Have ce29Have ((s.qx[i]!).xF),sF false Fe29Lack ae29Lack ce29Lack ((s.qx[i]!).xI),sF false Fe29Here ae29Here ce29Here ((s.qx[i]!).xK),sF false Fe29Out ae29Out ce29Out ((s.qx[i]!).ve),sF false Fe29Into ae29Into ce29Into ((s.qx[i]!).qU),atF b26 (o27+(i:Int).toNat * 9) [yI ((s.qx[i]!).qG),yI ((s.qx[i]!).zS),Sv ae29Need (((s.qx[i]!).xn).length) ce29Need,Sv ae29Have (((s.qx[i]!).xF).length) ce29Have,Sv ae29Lack (((s.qx[i]!).xI).length) ce29Lack,Sv ae29Here (((s.qx[i]!).xK).length) ce29Here,Sv ae29Out (((s.qx[i]!).ve).length) ce29Out,Sv ae29Into (((s.qx[i]!).qU).length) ce29Into,Bv ((s.qx[i]!).zH)],zf true yR YQ t.qE,atF bs os [yI s.xB,Sv qC s.qw.length qB,Sv (aa b26 o27) s.qx.length qJ],sF false qZ qC qB s.qw,sF false xG (aa b26 o27) qJ s.qx,atF bt ot (yT t qV qR xm xk qL qK),sF false xR qV qR t.qA,sF false zC xm xk t.qE,sF false xC qL qK t.qy,sF false Fcounts (aa b30 o31) ccounts counts]) (((((s.qx[i]!).qU).length) - (0:Int)).toNat) ⟨_,0,bg129,xs126,F127,uE8,qf,(by exact E_cur.to (fun p q=>by first | (simp only [intoF,outPl_root (s:=s) (t:=t) (r:=s.qx[i]!) ‹_›,jr];omega) | (simp only [intoF,outPl_up (s:=s) (t:=t) (r:=s.qx[i]!) ‹_›];omega)) qf),qf,rfl,(N.pick [1,0]),H.pick [2,3,4,5,6,7] [0,6,7,8,9,10,11,12,13,15,16,17,18,19,20,21,22]⟩ ?_
  clear H N
  rintro m' ρ w131 ⟨xY,k,out_Bags,zW,zn,rfl,i0,E_out_Bags,z_out_Bags,rfl,N,H⟩
  have Y0:=H.zq (α:=yLI) 4 rfl 0 rfl qj
  refine zcc (sps [yI k,pp b26 (o27+(i:Int).toNat * 9),pp b26 (o27+(i:Int).toNat * 9)] (oF rfl (oL rfl (H.xW 7 rfl 7 rfl) (oN rfl (sp (Bv (decide ((k:Int) < (((s.qx[i]!).qU).length)))) (zjn (cD rfl (fun h132=>?_) (fun h132=>?_))))))))
  ·skip
   have qi:=q.2.2.2.2.2.2.2.2.2.2 k qf
   have qi1:=qi.1
   have bn4:=qi.2.2.1
   have ln4:=bn4.len
   refine qW (t_n (xQ (qX (zcr (sps [pp b26 (o27+(i:Int).toNat * 9),pp b26 (o27+(i:Int).toNat * 9)] (oF rfl (oL rfl (H.xW 7 rfl 7 rfl) (sp (yI k) ?_))))))))
   obtain ⟨b133,o134,rfl⟩:=H.addr 6 rfl qf
   obtain ⟨ae136Bag,ce136Bag,Fe136Bag,H⟩:=H.yh 6 rfl k k qf qf qf
   refine oI rfl rfl (oF rfl (oL rfl (H.xW 1 rfl 0 rfl) (sp (yI ((((s.qx[i]!).qU)[k]!).qG)) (zjn ?_))))
   refine QI rfl H [0,1,2,3,5] fun H=>?_
   have S:=H.yU [0,1,2,3,5] [0,1,2,3,4,5,6,7,8,9,10,11,12,13,14,15,16,17,18]
   refine tF 0 rfl rfl S ?_
   refine tL 1 rfl rfl (fun _ h=>h.cell 0 rfl rfl) S ?_
   refine rtp 2 (yI ((((s.qx[i]!).qU)[k]!).qG)) S ?_
   refine tF 3 rfl rfl S ?_
   refine tL 4 rfl rfl (fun _ h=>h.cell 0 rfl rfl) S ?_
   refine rtp 5 (yI ((((s.qx[i]!).qU)[k]!).qG)) S ?_
   refine tI 6 rfl rfl rfl S ?_
   refine rtp 8 (pp b26 (o27+(i:Int).toNat * 9)) S ?_
   refine rtp 9 (pp b26 (o27+(i:Int).toNat * 9)) S ?_
   refine tF 10 rfl rfl S ?_
   refine tL 11 rfl rfl (fun _ h=>h.xW 9 rfl 7 rfl) S ?_
   refine rtp 12 (yI k) S ?_
   refine tI 13 rfl rfl rfl S ?_
   refine tF 14 rfl rfl S ?_
   refine tL 15 rfl rfl (fun _ h=>h.xW 1 rfl 1 rfl) S ?_
   refine rtp 16 (Sv (aa b30 o31) counts.length ccounts) S ?_
   refine rtp 17 (yI i) S ?_
   refine tI 18 rfl rfl rfl S ?_
   refine tL 19 rfl rfl (fun _ h=>h.yG 18 rfl i qf) S ?_
   refine ro 7 rfl ?_
   obtain ⟨a138,c139,G140,s141,h142,H⟩:=H.yw 4 rfl 2 rfl (iv:=(((s.qx[i]!).qU)[k]!).qG) (((((s.qx[i]!).qU)[k]!).qG).toNat) qf qf
   refine zT (Sv a138 ((out_Bags[((((s.qx[i]!).qU)[k]!).qG).toNat]!).length) c139) isAgg22 rfl (h142) (⟨H.pick [0,1,2,3,5] [1,2,3,4,5,6,7,8,9,10,11,12,13,14,15,16,17,18,19],(ro 20 rfl ?_)⟩)
   obtain ⟨u1,u2⟩:=Ent.rowL E_out_Bags (c:=((((s.qx[i]!).qU)[k]!).qG).toNat) qf qf qf qf
   have u4:=(by first | exact bn2.Qq qf | exact bn3.Qq qf | exact bn4.Qq qf:SmallT ((((s.qx[i]!).qU)[k]!).jJ) (counts[i]!))
   have sz143:=H.base.size
   have lt144:=H.ltN (L:=[yR,zn]) [11,3]
   refine oc (Vx _ (out_Bags[((((s.qx[i]!).qU)[k]!).qG).toNat]!) ((((s.qx[i]!).qU)[k]!).jJ) (counts[i]!) (H.get 0 rfl).1 (H.get 1 rfl).1 qg qg qg) ?_
   rintro v148 w146 r148 x147
   replace H:=H.zJ x147 r148
   obtain ⟨a149,c150,rfl,hc151,hm152⟩:=H.jA 0 rfl
   refine ⟨H.pick [1,2,3,4,6] [1,2,3,4,5,6,7,8,9,10,11,12,13,14,15,16,17,18,19],(tI 21 rfl rfl rfl (H.pick [1,2,3,4,6] [1,2,3,4,5,6,7,8,9,10,11,12,13,14,15,16,17,18,19]) ?_)⟩
   refine ro 22 rfl ?_
   obtain ⟨G154,N,hn155,H⟩:=H.jb 0 rfl N (H.jU [11,3])
   refine jX true H 5 rfl 4 rfl (Sv a149 ((ji (out_Bags[((((s.qx[i]!).qU)[k]!).qG).toNat]!) ((((s.qx[i]!).qU)[k]!).jJ) (counts[i]!)).length) c150) 0 rfl rfl sizeOf22 rfl rfl (i:=(((((s.qx[i]!).qU)[k]!).qG).toNat)) qf qf qm fun w153 xs156 F157 hs158 H=>?_
   replace N:Fresh w.heap.size [F157,yR]:=(N.pick [2,0,1]).repl hs158
   refine ⟨H.pick [1,2,3,4,6] [3,4,5,6,7,8,9,10,11,12,13,14,15,16,17,18,19,20,21],(xP qh (b_n (t_n (xO (sp (yI k) (sw (zB k 1 rfl rfl qf (sp (yI (k+1)) (xM ?_)))))))))⟩
   obtain ⟨bg159,e_bg159⟩:∃ z,z=(out_Bags.set (((((s.qx[i]!).qU)[k]!).qG).toNat) (ji (out_Bags[((((s.qx[i]!).qU)[k]!).qG).toNat]!) ((((s.qx[i]!).qU)[k]!).jJ) (counts[i]!))):=⟨_,rfl⟩
   rw [← e_bg159] at H
   have E_bg159:=Ent.addL (D:=1000000) E_out_Bags e_bg159 qf qf (by first | exact bn2.mul qf | exact bn3.mul qf | exact bn4.mul qf) qf
   have z_bg159:bg159.length=s.qw.length:=by rw [e_bg159,List.length_set];omega
   have E_cur:=E_bg159
   refine qY (m' :=((((s.qx[i]!).qU).length) - ((k+1):Int)).toNat) qf ⟨_,k+1,bg159,xs156,F157,uE8,?_,?_,?_,rfl,(N.pick [1,0]),H.pick [1,2,3,4,5,6] [0,6,7,8,9,10,11,12,13,14,15,16,17,18,19,20,21]⟩
   · omega
   · exact E_cur.to (fun p q=>by simp only [intoF];omega) qf
   · omega
  refine c_exit (t_x (t_x (b_x (b_n (t_n (xO (sp (yI i) (sw (zB i 1 rfl rfl qf (sp (yI (i+1)) (xM (qY (m' :=(counts.length - ((i+1):Int)).toNat) qf ⟨_,i+1,jg,je,jf,out_Around,out_Bags,zW,zn,uE6,?_,?_,?_,rfl,N,H.pick [0,1,2,3,4,5] [8,0,9,10,11,12,13,14,15,16]⟩))))))))))))
  · omega
  · first | exact E_rest.to (fun p q=>by simp only [putS_skip (s:=s) (t:=t) (counts:=counts) (i:=i) ‹_›]) qf | exact E_out_Bags.to (fun p q=>by rw [show k=((s.qx[i]!).qU).length by omega];simp only [putS,putF];omega) qf
  · omega
 refine zx4 (zcc (sps [pp bs os,pp bs os] (oF rfl (oL rfl (H.xW 2 rfl 1 rfl) (oN rfl (sw (o_sub s.qw.length 1 rfl rfl qf (sp (yI (s.qw.length - 1)) (zjn (qX ?_))))))))))
 obtain rfl:i=s.qx.length:=by omega
 have hl:=stepped_live (counts:=counts) p1 (E_rest.to (g:=fun p k=>base0 s t p k+allS s t counts s.qx.length p k) (fun p k=>by rw [allS_eq];omega) (Int.le_refl _)) qf
 obtain ⟨s1,s2⟩:=step_tab2 qf E_rest
 subst s1 s2
 refine zD (fun m' ρ w160=>∃ (xY:Env) (c:Int) (out_Alive:List Bool) (out_Bags:yLL) (zW:List Value) (zn:yLN) (j:Nat),ρ=upd (upd (upd (upd (upd xY 0 (pp bs os)) 2 (Sv acounts counts.length ccounts)) 6 (pp b1 0)) 10 (pp b19 0)) 16 (yI c)∧out_Alive=(xu s counts (xy s t counts) j).qA∧out_Bags=(xu s counts (xy s t counts) j).qE∧(c=(s.qw.length:Int) - 1 - j)∧(j+1≤s.qw.length)∧m' =(c:Int).toNat∧Fresh w.heap.size [yR,zn]∧St w w160 [.box b19 [Sv Qs t.qA.length Qr,Sv ra3a ((Qz s t counts (Q9 (BadAt s t counts) counts.length)).length) rc3a,Sv jg je jf] 38,rr Qs t.qA.length Qr 4 1 (out_Alive.map (Value.bool)),rr ra11Bags t.qE.length rc11Bags 22 1 YQ,rr jg je jf 2 1 (((xy s t counts).qy).map (Value.int .i64)),rr ra3a ((Qz s t counts (Q9 (BadAt s t counts) counts.length)).length) rc3a 22 1 zW,.box b1 [yN,yN,yN] 38] [zf true yR YQ t.qE,zf true zn zW out_Bags,atF bs os (yS s qC qB qN qJ),sF false qZ qC qB s.qw,sF false xG qN qJ s.qx,sF false Fcounts acounts ccounts counts]) (((s.qw.length - 1):Int).toNat) ⟨_,s.qw.length - 1,t.qA,(xy s t counts).qE,x_rest,F_rest,0,uE5,(by rfl),(by rfl),qf,qf,rfl,N,H.pick [0,1,2,3,4,5] [0,1,2,3,4,9]⟩ ?_
 clear H N
 rintro m' ρ w161 ⟨xY,c,out_Alive,out_Bags,zW,zn,j,rfl,rfl,rfl,ic,jc,rfl,N,H⟩
 have hn_out_Alive:=H.rowNB 1 rfl
 have Y0:=H.zq (α:=yLI) 4 rfl 1 rfl qj
 have L:=meltDown_live (counts:=counts) p0 hl j qf
 have L1:=L.alive
 have L2:=L.root
 have L3:=L.bags.1
 rw [← QV s counts (xy s t counts) j] at H
 refine zcc (sps [yI c,Bv (decide ((c:Int) > 0))] (zjn (cD rfl (fun h162=>?_) (fun h162=>?_))))
 ·skip
  have cin:CellIn s c:=⟨by omega,by omega⟩
  refine qW (t_n (xQ (qX (zcr (sp (Bv false) (zjcc (sp (yI 0) (zjn (qX ?_)))))))))
  refine zD (fun m' ρ w163=>∃ (xY:Env) (melts:Bool) (i_1:Nat),ρ=upd (upd (upd (upd (upd (upd (upd xY 0 (pp bs os)) 2 (Sv acounts counts.length ccounts)) 6 (pp b1 0)) 10 (pp b19 0)) 16 (yI c)) 17 (Bv melts)) 18 (yI i_1)∧melts=dec (XB s counts c i_1)∧((i_1:Int)≤counts.length)∧m' =(counts.length - (i_1:Int)).toNat∧Fresh w.heap.size [yR,zn]∧St w w163 [.box b19 [Sv Qs t.qA.length Qr,Sv ra3a ((Qz s t counts (Q9 (BadAt s t counts) counts.length)).length) rc3a,Sv jg je jf] 38,rr Qs t.qA.length Qr 4 1 (((xu s counts (xy s t counts) j).qA).map (Value.bool)),rr ra11Bags t.qE.length rc11Bags 22 1 YQ,rr jg je jf 2 1 (((xu s counts (xy s t counts) j).qy).map (Value.int .i64)),rr ra3a ((Qz s t counts (Q9 (BadAt s t counts) counts.length)).length) rc3a 22 1 zW,.box b1 [yN,yN,yN] 38] [zf true yR YQ t.qE,zf true zn zW ((xu s counts (xy s t counts) j).qE),atF bs os (yS s qC qB qN qJ),sF false qZ qC qB s.qw,sF false xG qN qJ s.qx,sF false Fcounts acounts ccounts counts]) ((counts.length - (0:Int)).toNat) ⟨_,false,0,uE7,(by exact (xx (melts_zero _ _ _)).symm),qf,rfl,N,H⟩ ?_
  clear H N
  rintro m' ρ w164 ⟨xY,melts,i_1,rfl,rfl,i0,rfl,N,H⟩
  refine zcc (sps [yI i_1,Sv acounts counts.length ccounts] (oN rfl (sp (Bv (decide ((i_1:Int) < counts.length))) (zjn (cD rfl (fun h165=>?_) (fun h165=>?_))))))
  ·skip
   refine qW (t_n (xQ (qX (xO (sps [Bv (dec (XB s counts c i_1)),Bv (dec (XB s counts c i_1))] ?_)))))
   cases h166:((dec (XB s counts c i_1)))
   ·skip
    refine qQ 172 rfl rfl (sp (Sv acounts counts.length ccounts) (qQ 172 rfl rfl (sp (yI i_1) (qQ 172 rfl rfl ?_))))
    obtain ⟨b167,o168,rfl⟩:=H.addr 5 rfl qf
    refine oI rfl rfl (qQ 172 rfl rfl (oL rfl (H.jY 5 rfl i_1 qf qf) (qQ 172 rfl rfl (sp (Bv (decide ((counts[i_1]! :Int) > 0))) (qQ 172 rfl rfl (sp (Bv (decide ((counts[i_1]! :Int) > 0))) ?_))))))
    cases h170:(decide ((counts[i_1]! :Int) > 0))
    ·skip
     replace h170:=of_decide_eq_false h170
     refine zk [179,180,181,182,183,184,185,186] (qQ 172 rfl rfl (sp (Bv false) (qQ 172 rfl rfl (sp (Bv false) (zk [189,190,191,192,193,194,195,196,197,198] (qQ 172 rfl rfl (sps [Bv false,Bv false,Bv false] (xM (b_n (t_n (xO (sp (yI i_1) (sw (zB i_1 1 rfl rfl qf (sp (yI (i_1+1)) (xM (qY (m' :=(counts.length - ((i_1+1):Int)).toNat) qf ⟨_,false,i_1+1,uE7,?_,?_,rfl,N,H⟩)))))))))))))))))
     · first | exact melts_1 ‹_› | exact melts_2 ‹_› qf | exact melts_3 ‹_› ‹_› | exact melts_4 ‹_› qf ‹_›
     · omega
    replace h170:=of_decide_eq_true h170
    refine qQ 178 rfl rfl (sp (pp bs os) (qQ 178 rfl rfl (sp (pp bs os) (qQ 178 rfl rfl (oF rfl (qQ 178 rfl rfl (oL rfl (H.xW 2 rfl 2 rfl) (qQ 178 rfl rfl (sp (yI i_1) (qQ 178 rfl rfl ?_))))))))))
    obtain ⟨b171,o172,rfl⟩:=H.addr 4 rfl qf
    obtain ⟨ae174Need,ce174Need,Fe174Need,ae174Have,ce174Have,Fe174Have,ae174Lack,ce174Lack,Fe174Lack,ae174Here,ce174Here,Fe174Here,ae174Out,ce174Out,Fe174Out,ae174Into,ce174Into,Fe174Into,H⟩:=H.yF 4 rfl i_1 i_1 qf qf qf
    refine oI rfl rfl (qQ 178 rfl rfl (oF rfl (qQ 178 rfl rfl (oL rfl (H.xW 6 rfl 8 rfl) (qQ 172 rfl rfl (sp (Bv ((s.qx[i_1]!).zH)) (qQ 172 rfl rfl (sp (Bv ((s.qx[i_1]!).zH)) ?_))))))))
    cases h175:((s.qx[i_1]!).zH)
    ·skip
     rw [h175] at H
     refine zk [189,190,191,192,193,194,195,196,197,198] (qQ 172 rfl rfl (sps [Bv false,Bv false,Bv false] (xM (b_n (t_n (xO (sp (yI i_1) (sw (zB i_1 1 rfl rfl qf (sp (yI (i_1+1)) (xM (qY (m' :=(counts.length - ((i_1+1):Int)).toNat) qf ⟨_,false,i_1+1,uE7,?_,?_,rfl,N,H.pick [0,1,2,3,4,5] [7,8,9,10,11,12]⟩))))))))))))
     · first | exact melts_1 ‹_› | exact melts_2 ‹_› qf | exact melts_3 ‹_› ‹_› | exact melts_4 ‹_› qf ‹_›
     · omega
    rw [h175] at H
    refine qQ 188 rfl rfl (sp (pp bs os) (qQ 188 rfl rfl (sp (pp bs os) (qQ 188 rfl rfl (oF rfl (qQ 188 rfl rfl (oL rfl (H.xW 9 rfl 2 rfl) (qQ 188 rfl rfl (sp (yI i_1) (qQ 188 rfl rfl (oI rfl rfl (qQ 188 rfl rfl (oF rfl (qQ 188 rfl rfl (oL rfl (H.xW 6 rfl 0 rfl) (qQ 188 rfl rfl (sp (yI c) (qQ 188 rfl rfl (sp (Bv (((s.qx[i_1]!).qG:Int) == c)) (qQ 172 rfl rfl (sps [Bv (((s.qx[i_1]!).qG:Int) == c),Bv (((s.qx[i_1]!).qG:Int) == c),Bv (((s.qx[i_1]!).qG:Int) == c)] (xM (b_n (t_n (xO (sp (yI i_1) ?_))))))))))))))))))))))))))
    refine sw (zB i_1 1 rfl rfl qf (sp (yI (i_1+1)) (xM (qY (m' :=(counts.length - ((i_1+1):Int)).toNat) qf ⟨_,((s.qx[i_1]!).qG:Int) == c,i_1+1,uE7,?_,?_,rfl,N,H.pick [0,1,2,3,4,5] [7,8,9,10,11,12]⟩))))
    · first | exact melts_1 ‹_› | exact melts_2 ‹_› qf | exact melts_3 ‹_› ‹_› | exact melts_4 ‹_› qf ‹_›
    · omega
   refine zk [173,174,175,176,177,178,179,180,181,182,183,184,185,186,187,188,189,190,191,192,193,194,195,196,197,198,199] (sps [Bv true,Bv true] (xM (b_n (t_n (xO (sp (yI i_1) (sw (zB i_1 1 rfl rfl qf (sp (yI (i_1+1)) (xM (qY (m' :=(counts.length - ((i_1+1):Int)).toNat) qf ⟨_,true,i_1+1,uE7,?_,?_,rfl,N,H⟩)))))))))))
   · first | exact melts_1 ‹_› | exact melts_2 ‹_› qf | exact melts_3 ‹_› ‹_› | exact melts_4 ‹_› qf ‹_›
   · omega
  refine zx4 (zcr (sp (Bv (dec (XB s counts c i_1))) (zjn (xE ((dec (XB s counts c i_1))) rfl (fun h176=>?_) (fun h176=>?_)))))
  ·skip
   refine xO (sps [pp bs os,yI c] (sw (vJ #[pp bs os,pp b19 0,yI c] rfl rfl call183 (en func183 ntmps183 ?_))))
   refine zcr (sps [pp bs os,pp b19 0,yI c] ?_)
   obtain ⟨G177,hn178,h179⟩:=H.rowIsB 1 rfl
   obtain ⟨G180,hn181,h182⟩:=H.rowIsR (α:=yLI) 4 rfl 1 rfl qj
   obtain ⟨G183,hn184,h185⟩:=H.rowIsI 3 rfl
   refine sw (oq (l02Parent_ok _ s (xu s counts (xy s t counts) j) c (qF (H.get 2 rfl) 0 3) (H.get 3 rfl).1 (H.get 4 rfl).1 (by have hz:=(qF (H.cells 0 rfl) 0 3);rw [hn178,hn181,hn184] at hz;exact hz) (hn178▸h179) (hn181▸h182) (hn184▸h185) ql ql ql) H fun w186 H=>?_)
   have pin:=Y6 (s:=s) (t:=(xu s counts (xy s t counts) j)) (c:=c) p0.1 L2 qf qf
   refine sp (yI (xA s (xu s counts (xy s t counts) j) c)) (zjn (xQ ?_))
   obtain ⟨b188,rfl⟩:=H.Qn 4 rfl qf
   refine c_cut (fun ρ w191=>∃ (xY:Env) (xs189:List Value) (F190:yLN),ρ=upd (upd (upd xY 0 (pp bs os)) 1 (pp b19 0)) 2 (yI c)∧Fresh w.heap.size [F190,yR]∧St w w191 [.box b19 [Sv Qs t.qA.length Qr,Sv (aa b188 0) ((Qz s t counts (Q9 (BadAt s t counts) counts.length)).length) rc3a,Sv jg je jf] 38,rr Qs t.qA.length Qr 4 1 (((xu s counts (xy s t counts) j).qA).map (Value.bool)),rr ra11Bags t.qE.length rc11Bags 22 1 YQ,rr jg je jf 2 1 (((xu s counts (xy s t counts) j).qy).map (Value.int .i64)),rr (aa b188 0) ((Qz s t counts (Q9 (BadAt s t counts) counts.length)).length) rc3a 22 1 xs189,.box b1 [yN,yN,yN] 38] [zf true F190 xs189 (((xu s counts (xy s t counts) j).qE).set ((xA s (xu s counts (xy s t counts) j) c).toNat) (ji (((xu s counts (xy s t counts) j).qE)[(xA s (xu s counts (xy s t counts) j) c).toNat]!) (((xu s counts (xy s t counts) j).qE)[c.toNat]!) 1)),zf true yR YQ t.qE,atF bs os (yS s qC qB qN qJ),sF false qZ qC qB s.qw,sF false xG qN qJ s.qx,sF false Fcounts acounts ccounts counts]) ?_ ?_
   ·skip
    refine QI rfl H [0,1,2,3,5] fun H=>?_
    have S:=H.yU [0,1,2,3,5] [0,1,2,3,4,5]
    refine rtp 0 (pp b19 0) S ?_
    refine rtp 1 (pp b19 0) S ?_
    refine tF 2 rfl rfl S ?_
    refine tL 3 rfl rfl (fun _ h=>h.cell 0 rfl rfl) S ?_
    refine rtp 4 (yI (xA s (xu s counts (xy s t counts) j) c)) S ?_
    refine rtp 5 (pp b19 0) S ?_
    refine rtp 6 (pp b19 0) S ?_
    refine tF 7 rfl rfl S ?_
    refine tL 8 rfl rfl (fun _ h=>h.cell 0 rfl rfl) S ?_
    refine rtp 9 (yI (xA s (xu s counts (xy s t counts) j) c)) S ?_
    refine tI 10 rfl rfl rfl S ?_
    refine rtp 12 (pp b19 0) S ?_
    refine rtp 13 (pp b19 0) S ?_
    refine tF 14 rfl rfl S ?_
    refine tL 15 rfl rfl (fun _ h=>h.cell 0 rfl rfl) S ?_
    refine rtp 16 (yI c) S ?_
    refine tI 17 rfl rfl rfl S ?_
    refine jK [11,18] qh qm (Qy rfl ?_ (Qy rfl ?_ jL))
    ·skip
     obtain ⟨a193,c194,G195,s196,h197,H⟩:=H.yw 4 rfl 1 rfl (iv:=xA s (xu s counts (xy s t counts) j) c) ((xA s (xu s counts (xy s t counts) j) c).toNat) qf qf
     refine zT (Sv a193 ((((xu s counts (xy s t counts) j).qE)[(xA s (xu s counts (xy s t counts) j) c).toNat]!).length) c194) isAgg22 rfl (h197) (⟨H.pick [0,1,2,3,5] [1,2,3,4,5,6],(ro 18 rfl ?_)⟩)
     obtain ⟨a198,c199,G200,s201,h202,H⟩:=H.yw 4 rfl 2 rfl (iv:=c) c.toNat qf qf
     refine zT (Sv a198 ((((xu s counts (xy s t counts) j).qE)[c.toNat]!).length) c199) isAgg22 rfl (h202) (⟨H.pick [0,1,2,3,5] [2,3,4,5,6,7],(ro 19 rfl ?_)⟩)
     obtain ⟨u1,u2,u4⟩:=L.rows p0 (bnd_le qf) (p:=(xA s (xu s counts (xy s t counts) j) c).toNat) (c:=c.toNat) qf qf
     have sz203:=H.base.size
     have lt204:=H.ltN (L:=[yR,zn]) [2,3]
     refine oc (Vx _ (((xu s counts (xy s t counts) j).qE)[(xA s (xu s counts (xy s t counts) j) c).toNat]!) (((xu s counts (xy s t counts) j).qE)[c.toNat]!) 1 (H.get 1 rfl).1 (H.get 0 rfl).1 qg qg qg) ?_
     rintro v208 w206 r208 x207
     replace H:=H.zJ x207 r208
     obtain ⟨a209,c210,rfl,hc211,hm212⟩:=H.jA 0 rfl
     refine ⟨H.pick [1,2,3,4,6] [2,3,4,5,6,7],(tI 20 rfl rfl rfl (H.pick [1,2,3,4,6] [2,3,4,5,6,7]) ?_)⟩
     refine ro 21 rfl ?_
     obtain ⟨G214,N,hn215,H⟩:=H.jb 0 rfl N (H.jU [2,3])
     refine jX true H 5 rfl 4 rfl (Sv a209 ((ji (((xu s counts (xy s t counts) j).qE)[(xA s (xu s counts (xy s t counts) j) c).toNat]!) (((xu s counts (xy s t counts) j).qE)[c.toNat]!) 1).length) c210) 0 rfl rfl sizeOf22 rfl rfl (i:=((xA s (xu s counts (xy s t counts) j) c).toNat)) qf qf qm fun w213 xs216 F217 hs218 H=>?_
     replace N:Fresh w.heap.size [F217,yR]:=(N.pick [2,0,1]).repl hs218
     refine ⟨H.pick [1,2,3,4,6] [4,5,6,7,8,9],(xP qh ((meet ⟨_,xs216,F217,uE3,N,H.pick [1,2,3,4,5,6] [0,4,6,7,8,9]⟩)))⟩
    obtain ⟨a219,c220,G221,s222,h223,H⟩:=H.yw 4 rfl 1 rfl (iv:=c) c.toNat qf qf
    refine zT (Sv a219 ((((xu s counts (xy s t counts) j).qE)[c.toNat]!).length) c220) isAgg22 rfl (h223) (⟨H.pick [0,1,2,3,5] [1,2,3,4,5,6],(ro 11 rfl ?_)⟩)
    obtain ⟨a224,c225,G226,s227,h228,H⟩:=H.yw 4 rfl 2 rfl (iv:=xA s (xu s counts (xy s t counts) j) c) ((xA s (xu s counts (xy s t counts) j) c).toNat) qf qf
    refine zT (Sv a224 ((((xu s counts (xy s t counts) j).qE)[(xA s (xu s counts (xy s t counts) j) c).toNat]!).length) c225) isAgg22 rfl (h228) (⟨H.pick [0,1,2,3,5] [2,3,4,5,6,7],(ro 19 rfl ?_)⟩)
    obtain ⟨u1,u2,u4⟩:=L.rows p0 (bnd_le qf) (p:=(xA s (xu s counts (xy s t counts) j) c).toNat) (c:=c.toNat) qf qf
    have sz229:=H.base.size
    have lt230:=H.ltN (L:=[yR,zn]) [2,3]
    refine oc (Vx _ (((xu s counts (xy s t counts) j).qE)[(xA s (xu s counts (xy s t counts) j) c).toNat]!) (((xu s counts (xy s t counts) j).qE)[c.toNat]!) 1 (H.get 0 rfl).1 (H.get 1 rfl).1 qg qg qg) ?_
    rintro v234 w232 r234 x233
    replace H:=H.zJ x233 r234
    obtain ⟨a235,c236,rfl,hc237,hm238⟩:=H.jA 0 rfl
    refine ⟨H.pick [1,2,3,4,6] [2,3,4,5,6,7],(tI 20 rfl rfl rfl (H.pick [1,2,3,4,6] [2,3,4,5,6,7]) ?_)⟩
    refine ro 21 rfl ?_
    obtain ⟨G240,N,hn241,H⟩:=H.jb 0 rfl N (H.jU [2,3])
    refine jX true H 5 rfl 4 rfl (Sv a235 ((ji (((xu s counts (xy s t counts) j).qE)[(xA s (xu s counts (xy s t counts) j) c).toNat]!) (((xu s counts (xy s t counts) j).qE)[c.toNat]!) 1).length) c236) 0 rfl rfl sizeOf22 rfl rfl (i:=((xA s (xu s counts (xy s t counts) j) c).toNat)) qf qf qm fun w239 xs242 F243 hs244 H=>?_
    replace N:Fresh w.heap.size [F243,yR]:=(N.pick [2,0,1]).repl hs244
    refine ⟨H.pick [1,2,3,4,6] [4,5,6,7,8,9],(xP qh ((meet ⟨_,xs242,F243,uE3,N,H.pick [1,2,3,4,5,6] [0,4,6,7,8,9]⟩)))⟩
   clear H N
   rintro ρ w245 ⟨xY,xs189,F190,rfl,N,H⟩
   refine t_n (xQ ?_)
   refine QI rfl H [0,1,2,3,5] fun H=>?_
   have S:=H.yU [0,1,2,3,5] [0,1,2,3,4,5]
   refine rtp 0 (pp b19 0) S ?_
   refine rtp 1 (pp b19 0) S ?_
   refine tF 2 rfl rfl S ?_
   refine tL 3 rfl rfl (fun _ h=>h.cell 0 rfl rfl) S ?_
   refine rtp 4 (yI c) S ?_
   refine rtp 5 (pp bs os) S ?_
   refine rtp 6 (pp bs os) S ?_
   refine tF 7 rfl rfl S ?_
   refine tL 8 rfl rfl (fun _ h=>h.xW 2 rfl 0 rfl) S ?_
   refine ro 9 rfl (Vg H underlying22 ti2 s.xB.toNat rfl rfl qf qf qf fun b247 w248 H=>⟨H.pick [1,2,3,4,6] [0,1,2,3,4,5],(tI 10 rfl rfl rfl (H.pick [1,2,3,4,6] [0,1,2,3,4,5]) ?_)⟩)
   refine ro 11 rfl ?_
   obtain ⟨G250,N,hn251,H⟩:=H.jb 0 rfl N (H.jU [0,1])
   refine jX true H 5 rfl 1 rfl (Sv (aa b247 0) s.xB.toNat s.xB.toNat) 0 rfl rfl sizeOf22 rfl rfl (i:=c.toNat) qf qf qm fun w249 xs252 F253 hs254 H=>?_
   replace N:Fresh w.heap.size [F253,yR]:=(N.pick [1,0,2]).repl hs254
   refine ⟨H.pick [1,2,3,4,6] [2,3,4,5,6,7],(xP qh (t_n (xO (sps [pp b19 0,pp b19 0] (oF rfl (oL rfl (H.cell 1 rfl rfl) (sp (yI c) ?_)))))))⟩
   obtain ⟨b255,rfl⟩:=H.Qn 2 rfl qf
   refine oI rfl rfl (sw (Xo H 2 rfl false sizeOf4 rfl rfl (i:=c.toNat) qf qf fun w256 H=>xM (ret0 rfl ⟨_,rfl,?_⟩)))
   replace H:=H.erases [0]
   dsimp only [vS,List.eraseIdx] at H
   refine xM (b_n (t_n (xO (sp (yI c) (sw (o_sub c 1 rfl rfl qf (sp (yI (c - 1)) (xM ?_))))))))
   rw [QV] at H
   refine qY (m' :=((c - 1):Int).toNat) qf ⟨_,c - 1,(((xu s counts (xy s t counts) j).qA).set c.toNat false),((((xu s counts (xy s t counts) j).qE).set ((xA s (xu s counts (xy s t counts) j) c).toNat) (ji (((xu s counts (xy s t counts) j).qE)[(xA s (xu s counts (xy s t counts) j) c).toNat]!) (((xu s counts (xy s t counts) j).qE)[c.toNat]!) 1)).set c.toNat (List.replicate s.xB.toNat (0:Int))),xs252,F253,j+1,uE5,?_,?_,?_,?_,rfl,(N.pick [1,0]),H.pick [0,1,2,3,4,5] [3,0,4,5,6,7]⟩
   · first | (rw [Xd (c:=c) (i:=i_1) ‹_› qf ic];done) | (rw [Xd (c:=c) (i:=i_1) ‹_› qf ic];rfl) | rw [meltDown_no' (c:=c) (i:=i_1) ‹_› qf ic]
   · first | (rw [Xd (c:=c) (i:=i_1) ‹_› qf ic];done) | (rw [Xd (c:=c) (i:=i_1) ‹_› qf ic];rfl) | rw [meltDown_no' (c:=c) (i:=i_1) ‹_› qf ic]
   · omega
   · omega
  refine qW (b_n (t_n (xO (sp (yI c) (sw (o_sub c 1 rfl rfl qf (sp (yI (c - 1)) (xM ?_))))))))
  rw [QV] at H
  refine qY (m' :=((c - 1):Int).toNat) qf ⟨_,c - 1,((xu s counts (xy s t counts) j).qA),((xu s counts (xy s t counts) j).qE),zW,zn,j+1,uE5,?_,?_,?_,?_,rfl,N,H⟩
  · first | (rw [Xd (c:=c) (i:=i_1) ‹_› qf ic];done) | (rw [Xd (c:=c) (i:=i_1) ‹_› qf ic];rfl) | rw [meltDown_no' (c:=c) (i:=i_1) ‹_› qf ic]
  · first | (rw [Xd (c:=c) (i:=i_1) ‹_› qf ic];done) | (rw [Xd (c:=c) (i:=i_1) ‹_› qf ic];rfl) | rw [meltDown_no' (c:=c) (i:=i_1) ‹_› qf ic]
  · omega
  · omega
 refine zx4 (zcr (sp (pp bs os) (sw (vJ #[pp bs os,pp b19 0] rfl rfl call184 (en func184 ntmps184 ?_)))))
 refine zcr (sw (zh H ti38 [yN,yN,yN] fun b257 w258 H=>sp (yI 0) (zjcc (sps [pp bs os,pp b19 0] ?_))))
 obtain ⟨G259,hn260,h261⟩:=H.rowIsB 2 rfl
 obtain ⟨G262,hn263,h264⟩:=H.rowIsR (α:=yLI) 5 rfl 1 rfl qj
 obtain ⟨G265,hn266,h267⟩:=H.rowIsI 4 rfl
 refine sw (oq (l02State_ok _ s (xu s counts (xy s t counts) j) (qF (H.get 2 rfl) 0 3) (H.get 3 rfl).1 (H.get 4 rfl).1 (by have hz:=(qF (H.cells 1 rfl) 0 3);rw [hn260,hn263,hn266] at hz;exact hz) (hn260▸h261) (hn263▸h264) (hn266▸h267) (by first | assumption | exact (And.left (by assumption:jE _)))) H fun w268 H=>sp (Bv (!(dec (zu s (xu s counts (xy s t counts) j))))) (zjn (cQ rfl (fun h270=>?_) (fun h270=>?_))))
 ·skip
  refine zcr (sw (jF [yN,yN,yN] [] (sw (zF H 0 [yN,yN,yN] sizeOf38 fun w271 H=>sp (yI 3) (zjr (t_r (retC2 H 0 rfl (yI 3) rfl isAgg38 sizeOf38 rfl rfl ⟨_,rfl,?_⟩)))))))
  replace H:=H.erases [0]
  dsimp only [vS,List.eraseIdx] at H
  refine sps [.agg #[yN,yN,yN],yI 3] (sw (zF H 5 [yN,yN,yN] sizeOf38 fun w272 H=>sp (yI 3) (zjr ?_)))
  replace H:=H.nilRowB 4
  replace H:=H.nilRow 22 1
  replace H:=H.vT (α:=yLI)
  replace H:=H.nilRowI 2
  refine retC2 H 8 rfl (yI 3) rfl isAgg38 sizeOf38 rfl rfl ⟨_,rfl,?_,H.base⟩
  rw [stepBy_yes ‹_›,stepRes,show jr s - 1=j by omega,told_no ‹_›]
  exact ⟨none,0,0,none,0,0,[],[],none,0,0,rfl,(N.emp.pick [0]),H.pick [2,1,0] [0]⟩
 refine qW (t_n (zcr (sps [pp b19 0,pp b19 0] (sw (zl [Sv Qs t.qA.length Qr,Sv ra3a ((Qz s t counts (Q9 (BadAt s t counts) counts.length)).length) rc3a,Sv jg je jf] isAgg38 sizeOf38 rfl (qF (H.cells 1 rfl) 0 3) (sw (zF H 0 [Sv Qs t.qA.length Qr,Sv ra3a ((Qz s t counts (Q9 (BadAt s t counts) counts.length)).length) rc3a,Sv jg je jf] sizeOf38 fun w273 H=>sp (yI 0) (zjr ?_))))))))
 refine retC2 H 0 rfl (yI 0) rfl isAgg38 sizeOf38 rfl rfl ⟨_,rfl,?_⟩
 replace H:=H.erases [0]
 dsimp only [vS,List.eraseIdx] at H
 refine sps [.agg #[Sv Qs t.qA.length Qr,Sv ra3a ((Qz s t counts (Q9 (BadAt s t counts) counts.length)).length) rc3a,Sv jg je jf],yI 0] (sw (zF H 5 [Sv Qs t.qA.length Qr,Sv ra3a ((Qz s t counts (Q9 (BadAt s t counts) counts.length)).length) rc3a,Sv jg je jf] sizeOf38 fun w274 H=>sp (yI 0) (zjr (retC2 H 5 rfl (yI 0) rfl isAgg38 sizeOf38 rfl rfl ⟨_,rfl,?_,H.base⟩))))
 rw [stepBy_yes ‹_›,stepRes,show jr s - 1=j by omega,told_yes ‹_›]
 exact ⟨Qs,t.qA.length,Qr,ra3a,(Qz s t counts (Q9 (BadAt s t counts) counts.length)).length,rc3a,zW,zn,jg,je,jf,rfl,(N.pick [1]),H.pick [1,4,3] [1]⟩
theorem isEnabled_ok (w:World) (s:qI) (t:qH) (r:Xg) {qC:yOA} {qZ:yLN} {qN:yOA} {xG:yLN} {qV:yOA} {xR:yLN} {xm:yOA} {zC:yLN} {qL:yOA} {xC:yLN} {Qd:yOA} {YM:yLN} {Qh:yOA} {YP:yLN} {Qe:yOA} {YN:yLN} {Qg:yOA} {YO:yLN} {XP:yOA} {FrOut:yLN} {yD:yOA} {FrInto:yLN} (xf:qO.rep w qZ [Sv qC s.qw.length qB] s.qw) (xJ:qO.rep w xG [Sv qN s.qx.length qJ] s.qx) (zi:qO.rep w xR [Sv qV t.qA.length qR] t.qA) (zM:qO.rep w zC [Sv xm t.qE.length xk] t.qE) (xN:qO.rep w xC [Sv qL t.qy.length qK] t.qy) (hrNeed:qO.rep w YM [Sv Qd r.xn.length yY] r.xn) (hrHave:qO.rep w YP [Sv Qh r.xF.length Qb] r.xF) (hrLack:qO.rep w YN [Sv Qe r.xI.length yZ] r.xI) (hrHere:qO.rep w YO [Sv Qg r.xK.length Qa] r.xK) (hrOut:qO.rep w FrOut [Sv XP r.ve.length XO] r.ve) (hrInto:qO.rep w FrInto [Sv yD r.qU.length yB] r.qU) (p0:jE s) (p1:zu s t) (p2:RuleOk s r):Calls Tryz.prog 145 #[.agg #[yI s.xB,Sv qC s.qw.length qB,Sv qN s.qx.length qJ],.agg #[Sv qV t.qA.length qR,Sv xm t.qE.length xk,Sv qL t.qy.length qK],.agg #[yI r.qG,yI r.zS,Sv Qd r.xn.length yY,Sv Qh r.xF.length Qb,Sv Qe r.xI.length yZ,Sv Qg r.xK.length Qa,Sv XP r.ve.length XO,Sv yD r.qU.length yB,Bv r.zH]] w (Ret (fun v w' =>v=Bv (dec (EnOk s t r))) w):=by
 refine en func145 ntmps145 ?_
 have H:=(((((((((((St.start w).arg hrInto).arg hrOut).arg hrHere).arg hrLack).arg hrHave).arg hrNeed).arg xN).arg zM).arg zi).arg xJ).arg xf
 have vH:=qM xf
 have jw:=qM xJ
 have Qj:=qM zi
 have Q7:=qM zM
 have jV:=qM xN
 have nhrNeed:=qM hrNeed
 have nhrHave:=qM hrHave
 have nhrLack:=qM hrLack
 have nhrHere:=qM hrHere
 have nhrOut:=qM hrOut
 have nhrInto:=qM hrInto
 clear xf xJ zi zM xN hrNeed hrHave hrLack hrHere hrOut hrInto
 have N:=Fresh.nil w.heap.size
 have p3:=p2.1
 have p4:=p1.1
 have p5:=p1.2.1
 have p6:=(p1.bagLen (k:=r.qG.toNat) qf).len
 have p7:=p2.2.2.2.2.1.len
 have p8:=p2.2.2.2.2.2.1.len
 have p9:=p2.2.2.2.2.2.2.1.len
 have p10:=vX p2.2.2.2.2.2.2.1
 have p11:=p0.1
 have p12:=p2.2.2.2.2.2.2.2.2.2.2
 have p13:=kinds_le p0
 refine zcr (sw (vU H (yS s qC qB qN qJ) fun b1 w2 H=>sw (vU H (yT t qV qR xm xk qL qK) fun b3 w4 H=>sw (vU H [yI r.qG,yI r.zS,Sv Qd r.xn.length yY,Sv Qh r.xF.length Qb,Sv Qe r.xI.length yZ,Sv Qg r.xK.length Qa,Sv XP r.ve.length XO,Sv yD r.qU.length yB,Bv r.zH] fun b5 w6 H=>sp (Bv false) (zjcc (oF rfl ?_))))))
 refine oL rfl (H.cell 1 rfl rfl) (oF rfl (oL rfl (H.cell 0 rfl rfl) ?_))
 obtain ⟨b7,o8,rfl⟩:=H.addr 2 rfl qf
 refine oI rfl rfl (oL rfl (H.XX 2 rfl r.qG qf qf) (sp (Bv (!(t.qA[r.qG.toNat]!))) (zjn (xE (!(t.qA[r.qG.toNat]!)) rfl (fun h10=>?_) (fun h10=>?_)))))
 ·skip
  replace h10:=xq h10
  refine zcr (sp (Bv false) (zjr (t_r (ret1 (Bv false) rfl rfl ⟨_,rfl,?_,H.base⟩))))
  rw [xx (fun h=>by obtain ⟨h1,h2,h3,h4,h5⟩:=h;first | exact ft h1 ‹_› | exact ft h2 ‹_› | exact ft h3 ‹_› | exact h4 ⟨‹_›,‹_›⟩ | (obtain ⟨q1,q2⟩:=h5 i qf;first | exact ft q1 ‹_› | exact absurd q2 ‹_›))]
 replace h10:=xg h10
 refine qW (t_n (zcr (oF rfl (oL rfl (H.cell 1 rfl rfl) (oF rfl (oL rfl (H.cell 0 rfl rfl) ?_))))))
 obtain ⟨b11,o12,rfl⟩:=H.addr 3 rfl qf
 obtain ⟨ae14,ce14,Fe14,H⟩:=H.vV 3 rfl r.qG r.qG.toNat qf qf qf
 refine oI rfl rfl (oL rfl (H.xW 1 rfl 0 rfl) (sp (Sv ae14 ((t.qE[r.qG.toNat]!).length) ce14) (zjcc (oF rfl (oL rfl (H.cell 0 rfl rfl) (sp (Sv ae14 ((t.qE[r.qG.toNat]!).length) ce14) (sw (oq (isWithin_ok _ r.xn (t.qE[r.qG.toNat]!) (H.get 7 rfl).1 (H.get 0 rfl).1 qg qg) H fun w15 H=>sps [Bv (!(within r.xn (t.qE[r.qG.toNat]!))),Bv (!(within r.xn (t.qE[r.qG.toNat]!)))] ?_))))))))
 cases h17:(!(within r.xn (t.qE[r.qG.toNat]!)))
 ·skip
  replace h17:=xg h17
  refine qQ 26 rfl rfl (oF rfl (qQ 26 rfl rfl (oL rfl (H.cell 0 rfl rfl) (qQ 26 rfl rfl (sp (Sv ae14 ((t.qE[r.qG.toNat]!).length) ce14) (qQ 26 rfl rfl (sw (oq (isWithin_ok _ r.xF (t.qE[r.qG.toNat]!) (H.get 8 rfl).1 (H.get 0 rfl).1 qg qg) H fun w18 H=>qQ 26 rfl rfl (sps [Bv (!(within r.xF (t.qE[r.qG.toNat]!))),Bv (!(within r.xF (t.qE[r.qG.toNat]!))),Bv (!(within r.xF (t.qE[r.qG.toNat]!)))] ?_)))))))))
  cases h20:(!(within r.xF (t.qE[r.qG.toNat]!)))
  ·skip
   replace h20:=xg h20
   refine qQ 33 rfl rfl (oF rfl (qQ 33 rfl rfl (oL rfl (H.cell 0 rfl rfl) (qQ 33 rfl rfl (sw (oq (V6 _ r.xI (H.get 9 rfl).1 (by first | assumption | exact vX ql | exact QD ql)) H fun w21 H=>qQ 33 rfl rfl (sp (Bv (decide ((Yd r.xI:Int) > 0))) (qQ 33 rfl rfl (sp (Bv (decide ((Yd r.xI:Int) > 0))) ?_)))))))))
   cases h23:(decide ((Yd r.xI:Int) > 0))
   ·skip
    replace h23:=of_decide_eq_false h23
    refine zk [39,40,41,42] (qQ 33 rfl rfl (sps [Bv false,Bv false] (zjn (xE false rfl (fun h=>absurd h qj) (fun _=>qW (t_n (zcr (oF rfl (oL rfl (H.cell 0 rfl rfl) (sp (.func (.func 187) #[] #[pp b3 0,pp b1 0,pp b5 0]) (sw (vJ #[Sv yD r.qU.length yB,.func (.func 187) #[] #[pp b3 0,pp b1 0,pp b5 0]] rfl rfl call186 (en func186 ntmps186 ?_)))))))))))))
    refine zcr (sp (Bv false) (zjc (sps [Sv yD r.qU.length yB,.func (.func 187) #[] #[pp b3 0,pp b1 0,pp b5 0]] (sw (vJ #[Sv yD r.qU.length yB,.func (.func 187) #[] #[pp b3 0,pp b1 0,pp b5 0]] rfl rfl call207 (en func207 ntmps207 ?_))))))
    refine zcr (sp (yI 0) (zjcc (sp (Sv yD r.qU.length yB) (oN rfl (sp (yI 0) (zjn (qX ?_)))))))
    refine zD (fun m' ρ w24=>∃ (xY:Env) (i:Nat),ρ=upd (upd (upd (upd xY 0 (Sv yD r.qU.length yB)) 1 (.func (.func 187) #[] #[pp b3 0,pp b1 0,pp b5 0])) 7 (yI r.qU.length)) 8 (yI i)∧((i:Int)≤r.qU.length)∧(IntoUp s t r i)∧m' =(r.qU.length - (i:Int)).toNat∧Fresh w.heap.size []∧St w w24 [.box b5 [yI r.qG,yI r.zS,Sv Qd r.xn.length yY,Sv Qh r.xF.length Qb,Sv Qe r.xI.length yZ,Sv Qg r.xK.length Qa,Sv XP r.ve.length XO,Sv yD r.qU.length yB,Bv r.zH] 121,.box b3 [Sv (aa b7 o8) t.qA.length qR,Sv (aa b11 o12) t.qE.length xk,Sv qL t.qy.length qK] 38,.box b1 (yS s qC qB qN qJ) 36] [sF false Fe14 ae14 ce14 (t.qE[r.qG.toNat]!),atF b11 (o12+(r.qG:Int).toNat * 1) [Sv ae14 ((t.qE[r.qG.toNat]!).length) ce14],sF false qZ qC qB s.qw,sF false xG qN qJ s.qx,sF false xR (aa b7 o8) qR t.qA,sF false zC (aa b11 o12) xk t.qE,sF false xC qL qK t.qy,sF false YM Qd yY r.xn,sF false YP Qh Qb r.xF,sF false YN Qe yZ r.xI,sF false YO Qg Qa r.xK,sF false FrOut XP XO r.ve,sF false FrInto yD yB r.qU]) ((r.qU.length - (0:Int)).toNat) ⟨_,0,uE4,qf,(by exact fun j hj=>by omega),rfl,N,H⟩ ?_
    clear H N
    rintro m' ρ w25 ⟨xY,i,rfl,i0,i1,rfl,N,H⟩
    refine zcr (sp (Bv (decide ((i:Int) < r.qU.length))) (zjn (xQ (cD rfl (fun h26=>?_) (fun h26=>?_)))))
    ·skip
     have q:=(p12 i qf).1
     have q1:=q.1
     have q2:=q.2
     refine qW (t_n (xQ (qX (zcr (sps [yI i,yI i] (zjc (sps [.func (.func 187) #[] #[pp b3 0,pp b1 0,pp b5 0],Sv yD r.qU.length yB,yI i] ?_)))))))
     obtain ⟨b27,o28,rfl⟩:=H.addr 12 rfl qf
     obtain ⟨ae30Bag,ce30Bag,Fe30Bag,H⟩:=H.yh 12 rfl i i qf qf qf
     refine oI rfl rfl (sw (zl [yI ((r.qU[i]!).qG),Sv ae30Bag (((r.qU[i]!).jJ).length) ce30Bag] isAgg164 sizeOf164 rfl (qF (H.get 1 rfl) 0 2) (sw (vJ #[.agg #[yI ((r.qU[i]!).qG),Sv ae30Bag (((r.qU[i]!).jJ).length) ce30Bag],pp b3 0,pp b1 0,pp b5 0] rfl rfl call187 (en func187 ntmps187 ?_)))))
     refine zcr (sw (vU H [yI ((r.qU[i]!).qG),Sv ae30Bag (((r.qU[i]!).jJ).length) ce30Bag] fun b31 w32 H=>sp (Bv false) (zjn (xQ ?_))))
     refine jh rfl H fun H=>tF 0 rfl rfl H ?_
     refine tL 1 rfl rfl (fun _ h=>h.cell 2 rfl rfl) H ?_
     refine tF 2 rfl rfl H ?_
     refine tL 3 rfl rfl (fun _ h=>h.cell 0 rfl rfl) H ?_
     refine tI 4 rfl rfl rfl H ?_
     refine tL 5 rfl rfl (fun _ h=>h.XX 6 rfl ((r.qU[i]!).qG) qf qf) H ?_
     refine rtp 6 (Bv (!(t.qA[((r.qU[i]!).qG).toNat]!))) H ?_
     refine rtp 7 (Bv (!(t.qA[((r.qU[i]!).qG).toNat]!))) H ?_
     cases h34:(!(t.qA[((r.qU[i]!).qG).toNat]!))
     ·skip
      replace h34:=xg h34
      refine rg 8 (.agg #[yI s.xB,Sv qC s.qw.length qB,Sv qN s.qx.length qJ]) 13 (QL (cs:=(yS s qC qB qN qJ)) isAgg36 sizeOf36 rfl (fun _ h=>qF (h.cells 3 rfl) 0 3)) H ?_
      refine rg 9 (.agg #[Sv (aa b7 o8) t.qA.length qR,Sv (aa b11 o12) t.qE.length xk,Sv qL t.qy.length qK]) 13 (QL (cs:=[Sv (aa b7 o8) t.qA.length qR,Sv (aa b11 o12) t.qE.length xk,Sv qL t.qy.length qK]) isAgg38 sizeOf38 rfl (fun _ h=>qF (h.cells 2 rfl) 0 3)) H ?_
      refine gF 10 rfl rfl H ?_
      refine gL 11 rfl rfl (fun _ h=>h.cell 0 rfl rfl) H ?_
      refine gF 13 rfl rfl H ?_
      refine gL 14 rfl rfl (fun _ h=>h.cell 1 rfl rfl) H ?_
      refine jK [12] qh qm (r_opG rfl (e:=13) rfl rfl (oq (parentNow_ok _ s t ((r.qU[i]!).qG) (H.get 4 rfl).1 (H.get 5 rfl).1 (H.get 6 rfl).1 (H.get 7 rfl).1 (H.get 8 rfl).1 qg qg qg) H fun w36 H=>⟨H,(rgp 15 (Bv ((xA s t ((r.qU[i]!).qG):Int) != r.qG)) 13 H ?_)⟩) jL)
      refine rtp 16 (Bv ((xA s t ((r.qU[i]!).qG):Int) != r.qG)) H ?_
      refine rtp 17 (Bv ((xA s t ((r.qU[i]!).qG):Int) != r.qG)) H ?_
      refine xP qh (t_n (c_ret (ret1 (Bv ((xA s t ((r.qU[i]!).qG):Int) != r.qG)) rfl rfl ⟨_,rfl,?_⟩)))
      replace H:=H.erases [0]
      dsimp only [vS,List.eraseIdx] at H
      refine zjn (xE ((xA s t ((r.qU[i]!).qG):Int) != r.qG) rfl (fun h38=>?_) (fun h38=>?_))
      ·skip
       replace h38:=bne_iff_ne.1 h38
       refine zcr (sps [yI i,yI i] (zjr (zr5 (ret1 (yI i) rfl rfl ⟨_,rfl,(sw (o_pure (Bv true) (by show some (Value.bool (decide ((i:Int)≥0)))=some (Value.bool true);rw [decide_eq_true qf]) (sp (Bv true) (zjr (ret1 (Bv true) rfl rfl ⟨_,rfl,(sps [Bv false,Bv false] (zjr (ret1 (Bv false) rfl rfl ⟨_,rfl,?_,H.base⟩)))⟩)))))⟩))))
       rw [xx (fun h=>by obtain ⟨h1,h2,h3,h4,h5⟩:=h;first | exact ft h1 ‹_› | exact ft h2 ‹_› | exact ft h3 ‹_› | exact h4 ⟨‹_›,‹_›⟩ | (obtain ⟨q1,q2⟩:=h5 i qf;first | exact ft q1 ‹_› | exact absurd q2 ‹_›))]
      replace h38:=xw h38
      refine qW (b_n (t_n (xO (sw (zB i 1 rfl rfl qf (sp (yI (i+1)) (xM (qY (m' :=(r.qU.length - ((i+1):Int)).toNat) qf ⟨_,i+1,uE4,?_,?_,rfl,N,H.pick [0,1,2] [2,3,4,5,6,7,8,9,10,11,12,13,14]⟩))))))))
      · omega
      · exact i1.succ ‹_› ‹_›
     replace h34:=xq h34
     refine zZ [8,9,10,11,12,13,14,15] 8 (H) (rtp 16 (Bv true) H ?_)
     refine rtp 17 (Bv true) H ?_
     refine xP qh (t_n (c_ret (ret1 (Bv true) rfl rfl ⟨_,rfl,?_⟩)))
     replace H:=H.erases [0]
     dsimp only [vS,List.eraseIdx] at H
     refine zjn (xE true rfl (fun _=>zcr (sps [yI i,yI i] (zjr (zr5 (ret1 (yI i) rfl rfl ⟨_,rfl,(sw (o_pure (Bv true) (by show some (Value.bool (decide ((i:Int)≥0)))=some (Value.bool true);rw [decide_eq_true qf]) (sp (Bv true) (zjr (ret1 (Bv true) rfl rfl ⟨_,rfl,(sps [Bv false,Bv false] (zjr (ret1 (Bv false) rfl rfl ⟨_,rfl,?_,H.base⟩)))⟩)))))⟩))))) (fun h=>absurd h qj))
     rw [xx (fun h=>by obtain ⟨h1,h2,h3,h4,h5⟩:=h;first | exact ft h1 ‹_› | exact ft h2 ‹_› | exact ft h3 ‹_› | exact h4 ⟨‹_›,‹_›⟩ | (obtain ⟨q1,q2⟩:=h5 i qf;first | exact ft q1 ‹_› | exact absurd q2 ‹_›))]
    refine zx4 (zcr (sp (yI (-1)) (zjr (ret1 (yI (-1)) rfl rfl ⟨_,rfl,(sps [Bv false,Bv false] (zjr (ret1 (Bv false) rfl rfl ⟨_,rfl,(sps [Bv true,Bv true] (zjr (ret1 (Bv true) rfl rfl ⟨_,rfl,?_,H.base⟩)))⟩)))⟩))))
    rw [yH ⟨by assumption,by assumption,by assumption,fun ⟨u,v⟩=>by first | omega | exact ft v ‹_›,(show i=r.qU.length by omega)▸i1⟩]
   replace h23:=of_decide_eq_true h23
   refine qQ 38 rfl rfl (oF rfl (qQ 38 rfl rfl (oL rfl (H.cell 0 rfl rfl) (qQ 38 rfl rfl (sp (Sv ae14 ((t.qE[r.qG.toNat]!).length) ce14) (qQ 38 rfl rfl (sw (oq (isWithin_ok _ r.xI (t.qE[r.qG.toNat]!) (H.get 9 rfl).1 (H.get 0 rfl).1 qg qg) H fun w39 H=>qQ 33 rfl rfl (sps [Bv (within r.xI (t.qE[r.qG.toNat]!)),Bv (within r.xI (t.qE[r.qG.toNat]!))] (zjn (xE (within r.xI (t.qE[r.qG.toNat]!)) rfl (fun h41=>?_) (fun h41=>?_))))))))))))
   ·skip
    refine zcr (sp (Bv false) (zjr (t_r (ret1 (Bv false) rfl rfl ⟨_,rfl,?_,H.base⟩))))
    rw [xx (fun h=>by obtain ⟨h1,h2,h3,h4,h5⟩:=h;first | exact ft h1 ‹_› | exact ft h2 ‹_› | exact ft h3 ‹_› | exact h4 ⟨‹_›,‹_›⟩ | (obtain ⟨q1,q2⟩:=h5 i qf;first | exact ft q1 ‹_› | exact absurd q2 ‹_›))]
   refine qW (t_n (zcr (oF rfl (oL rfl (H.cell 0 rfl rfl) (sp (.func (.func 187) #[] #[pp b3 0,pp b1 0,pp b5 0]) (sw (vJ #[Sv yD r.qU.length yB,.func (.func 187) #[] #[pp b3 0,pp b1 0,pp b5 0]] rfl rfl call186 (en func186 ntmps186 ?_))))))))
   refine zcr (sp (Bv false) (zjc (sps [Sv yD r.qU.length yB,.func (.func 187) #[] #[pp b3 0,pp b1 0,pp b5 0]] (sw (vJ #[Sv yD r.qU.length yB,.func (.func 187) #[] #[pp b3 0,pp b1 0,pp b5 0]] rfl rfl call207 (en func207 ntmps207 ?_))))))
   refine zcr (sp (yI 0) (zjcc (sp (Sv yD r.qU.length yB) (oN rfl (sp (yI 0) (zjn (qX ?_)))))))
   refine zD (fun m' ρ w42=>∃ (xY:Env) (i:Nat),ρ=upd (upd (upd (upd xY 0 (Sv yD r.qU.length yB)) 1 (.func (.func 187) #[] #[pp b3 0,pp b1 0,pp b5 0])) 7 (yI r.qU.length)) 8 (yI i)∧((i:Int)≤r.qU.length)∧(IntoUp s t r i)∧m' =(r.qU.length - (i:Int)).toNat∧Fresh w.heap.size []∧St w w42 [.box b5 [yI r.qG,yI r.zS,Sv Qd r.xn.length yY,Sv Qh r.xF.length Qb,Sv Qe r.xI.length yZ,Sv Qg r.xK.length Qa,Sv XP r.ve.length XO,Sv yD r.qU.length yB,Bv r.zH] 121,.box b3 [Sv (aa b7 o8) t.qA.length qR,Sv (aa b11 o12) t.qE.length xk,Sv qL t.qy.length qK] 38,.box b1 (yS s qC qB qN qJ) 36] [sF false Fe14 ae14 ce14 (t.qE[r.qG.toNat]!),atF b11 (o12+(r.qG:Int).toNat * 1) [Sv ae14 ((t.qE[r.qG.toNat]!).length) ce14],sF false qZ qC qB s.qw,sF false xG qN qJ s.qx,sF false xR (aa b7 o8) qR t.qA,sF false zC (aa b11 o12) xk t.qE,sF false xC qL qK t.qy,sF false YM Qd yY r.xn,sF false YP Qh Qb r.xF,sF false YN Qe yZ r.xI,sF false YO Qg Qa r.xK,sF false FrOut XP XO r.ve,sF false FrInto yD yB r.qU]) ((r.qU.length - (0:Int)).toNat) ⟨_,0,uE4,qf,(by exact fun j hj=>by omega),rfl,N,H⟩ ?_
   clear H N
   rintro m' ρ w43 ⟨xY,i,rfl,i0,i1,rfl,N,H⟩
   refine zcr (sp (Bv (decide ((i:Int) < r.qU.length))) (zjn (xQ (cD rfl (fun h44=>?_) (fun h44=>?_)))))
   ·skip
    have q:=(p12 i qf).1
    have q1:=q.1
    have q2:=q.2
    refine qW (t_n (xQ (qX (zcr (sps [yI i,yI i] (zjc (sps [.func (.func 187) #[] #[pp b3 0,pp b1 0,pp b5 0],Sv yD r.qU.length yB,yI i] ?_)))))))
    obtain ⟨b45,o46,rfl⟩:=H.addr 12 rfl qf
    obtain ⟨ae48Bag,ce48Bag,Fe48Bag,H⟩:=H.yh 12 rfl i i qf qf qf
    refine oI rfl rfl (sw (zl [yI ((r.qU[i]!).qG),Sv ae48Bag (((r.qU[i]!).jJ).length) ce48Bag] isAgg164 sizeOf164 rfl (qF (H.get 1 rfl) 0 2) (sw (vJ #[.agg #[yI ((r.qU[i]!).qG),Sv ae48Bag (((r.qU[i]!).jJ).length) ce48Bag],pp b3 0,pp b1 0,pp b5 0] rfl rfl call187 (en func187 ntmps187 ?_)))))
    refine zcr (sw (vU H [yI ((r.qU[i]!).qG),Sv ae48Bag (((r.qU[i]!).jJ).length) ce48Bag] fun b49 w50 H=>sp (Bv false) (zjn (xQ ?_))))
    refine jh rfl H fun H=>tF 0 rfl rfl H ?_
    refine tL 1 rfl rfl (fun _ h=>h.cell 2 rfl rfl) H ?_
    refine tF 2 rfl rfl H ?_
    refine tL 3 rfl rfl (fun _ h=>h.cell 0 rfl rfl) H ?_
    refine tI 4 rfl rfl rfl H ?_
    refine tL 5 rfl rfl (fun _ h=>h.XX 6 rfl ((r.qU[i]!).qG) qf qf) H ?_
    refine rtp 6 (Bv (!(t.qA[((r.qU[i]!).qG).toNat]!))) H ?_
    refine rtp 7 (Bv (!(t.qA[((r.qU[i]!).qG).toNat]!))) H ?_
    cases h52:(!(t.qA[((r.qU[i]!).qG).toNat]!))
    ·skip
     replace h52:=xg h52
     refine rg 8 (.agg #[yI s.xB,Sv qC s.qw.length qB,Sv qN s.qx.length qJ]) 13 (QL (cs:=(yS s qC qB qN qJ)) isAgg36 sizeOf36 rfl (fun _ h=>qF (h.cells 3 rfl) 0 3)) H ?_
     refine rg 9 (.agg #[Sv (aa b7 o8) t.qA.length qR,Sv (aa b11 o12) t.qE.length xk,Sv qL t.qy.length qK]) 13 (QL (cs:=[Sv (aa b7 o8) t.qA.length qR,Sv (aa b11 o12) t.qE.length xk,Sv qL t.qy.length qK]) isAgg38 sizeOf38 rfl (fun _ h=>qF (h.cells 2 rfl) 0 3)) H ?_
     refine gF 10 rfl rfl H ?_
     refine gL 11 rfl rfl (fun _ h=>h.cell 0 rfl rfl) H ?_
     refine gF 13 rfl rfl H ?_
     refine gL 14 rfl rfl (fun _ h=>h.cell 1 rfl rfl) H ?_
     refine jK [12] qh qm (r_opG rfl (e:=13) rfl rfl (oq (parentNow_ok _ s t ((r.qU[i]!).qG) (H.get 4 rfl).1 (H.get 5 rfl).1 (H.get 6 rfl).1 (H.get 7 rfl).1 (H.get 8 rfl).1 qg qg qg) H fun w54 H=>⟨H,(rgp 15 (Bv ((xA s t ((r.qU[i]!).qG):Int) != r.qG)) 13 H ?_)⟩) jL)
     refine rtp 16 (Bv ((xA s t ((r.qU[i]!).qG):Int) != r.qG)) H ?_
     refine rtp 17 (Bv ((xA s t ((r.qU[i]!).qG):Int) != r.qG)) H ?_
     refine xP qh (t_n (c_ret (ret1 (Bv ((xA s t ((r.qU[i]!).qG):Int) != r.qG)) rfl rfl ⟨_,rfl,?_⟩)))
     replace H:=H.erases [0]
     dsimp only [vS,List.eraseIdx] at H
     refine zjn (xE ((xA s t ((r.qU[i]!).qG):Int) != r.qG) rfl (fun h56=>?_) (fun h56=>?_))
     ·skip
      replace h56:=bne_iff_ne.1 h56
      refine zcr (sps [yI i,yI i] (zjr (zr5 (ret1 (yI i) rfl rfl ⟨_,rfl,(sw (o_pure (Bv true) (by show some (Value.bool (decide ((i:Int)≥0)))=some (Value.bool true);rw [decide_eq_true qf]) (sp (Bv true) (zjr (ret1 (Bv true) rfl rfl ⟨_,rfl,(sps [Bv false,Bv false] (zjr (ret1 (Bv false) rfl rfl ⟨_,rfl,?_,H.base⟩)))⟩)))))⟩))))
      rw [xx (fun h=>by obtain ⟨h1,h2,h3,h4,h5⟩:=h;first | exact ft h1 ‹_› | exact ft h2 ‹_› | exact ft h3 ‹_› | exact h4 ⟨‹_›,‹_›⟩ | (obtain ⟨q1,q2⟩:=h5 i qf;first | exact ft q1 ‹_› | exact absurd q2 ‹_›))]
     replace h56:=xw h56
     refine qW (b_n (t_n (xO (sw (zB i 1 rfl rfl qf (sp (yI (i+1)) (xM (qY (m' :=(r.qU.length - ((i+1):Int)).toNat) qf ⟨_,i+1,uE4,?_,?_,rfl,N,H.pick [0,1,2] [2,3,4,5,6,7,8,9,10,11,12,13,14]⟩))))))))
     · omega
     · exact i1.succ ‹_› ‹_›
    replace h52:=xq h52
    refine zZ [8,9,10,11,12,13,14,15] 8 (H) (rtp 16 (Bv true) H ?_)
    refine rtp 17 (Bv true) H ?_
    refine xP qh (t_n (c_ret (ret1 (Bv true) rfl rfl ⟨_,rfl,?_⟩)))
    replace H:=H.erases [0]
    dsimp only [vS,List.eraseIdx] at H
    refine zjn (xE true rfl (fun _=>zcr (sps [yI i,yI i] (zjr (zr5 (ret1 (yI i) rfl rfl ⟨_,rfl,(sw (o_pure (Bv true) (by show some (Value.bool (decide ((i:Int)≥0)))=some (Value.bool true);rw [decide_eq_true qf]) (sp (Bv true) (zjr (ret1 (Bv true) rfl rfl ⟨_,rfl,(sps [Bv false,Bv false] (zjr (ret1 (Bv false) rfl rfl ⟨_,rfl,?_,H.base⟩)))⟩)))))⟩))))) (fun h=>absurd h qj))
    rw [xx (fun h=>by obtain ⟨h1,h2,h3,h4,h5⟩:=h;first | exact ft h1 ‹_› | exact ft h2 ‹_› | exact ft h3 ‹_› | exact h4 ⟨‹_›,‹_›⟩ | (obtain ⟨q1,q2⟩:=h5 i qf;first | exact ft q1 ‹_› | exact absurd q2 ‹_›))]
   refine zx4 (zcr (sp (yI (-1)) (zjr (ret1 (yI (-1)) rfl rfl ⟨_,rfl,(sps [Bv false,Bv false] (zjr (ret1 (Bv false) rfl rfl ⟨_,rfl,(sps [Bv true,Bv true] (zjr (ret1 (Bv true) rfl rfl ⟨_,rfl,?_,H.base⟩)))⟩)))⟩))))
   rw [yH ⟨by assumption,by assumption,by assumption,fun ⟨u,v⟩=>by first | omega | exact ft v ‹_›,(show i=r.qU.length by omega)▸i1⟩]
  replace h20:=xq h20
  refine zk [34,35,36,37,38,39,40,41,42,43] (sp (Bv true) (zjn (xE true rfl (fun _=>zcr (sp (Bv false) (zjr (t_r (ret1 (Bv false) rfl rfl ⟨_,rfl,?_,H.base⟩))))) (fun h=>absurd h qj))))
  rw [xx (fun h=>by obtain ⟨h1,h2,h3,h4,h5⟩:=h;first | exact ft h1 ‹_› | exact ft h2 ‹_› | exact ft h3 ‹_› | exact h4 ⟨‹_›,‹_›⟩ | (obtain ⟨q1,q2⟩:=h5 i qf;first | exact ft q1 ‹_› | exact absurd q2 ‹_›))]
 replace h17:=xq h17
 refine zk [27,28,29,30,31] (sps [Bv true,Bv true] (zk [34,35,36,37,38,39,40,41,42,43] (sp (Bv true) (zjn (xE true rfl (fun _=>zcr (sp (Bv false) (zjr (t_r (ret1 (Bv false) rfl rfl ⟨_,rfl,?_,H.base⟩))))) (fun h=>absurd h qj))))))
 rw [xx (fun h=>by obtain ⟨h1,h2,h3,h4,h5⟩:=h;first | exact ft h1 ‹_› | exact ft h2 ‹_› | exact ft h3 ‹_› | exact h4 ⟨‹_›,‹_›⟩ | (obtain ⟨q1,q2⟩:=h5 i qf;first | exact ft q1 ‹_› | exact absurd q2 ‹_›))]

theorem cloneSS_ok (w:World) (l:yLL) {al:yOA} {Fl:yLN} (hl:qO.rep w Fl [Sv al l.length cl] l) (p0:l.length≤1000000):Calls Tryz.prog 151 #[Sv al l.length cl] w (Ret (fun v w' =>∃ (ra:yOA) (rn:Nat) (rc:Nat) (rx:List Value) (rF:yLN),v=Sv ra rn rc∧(∀ b∈rF,b∈Fl)∧St w w' [rr ra rn rc 22 1 rx] [zf false rF rx l]) w):=by
 refine en func151 ntmps151 ?_
 have H:=(St.start w).arg hl
 have nhl:=qM hl
 clear hl
 have N:=Fresh.nil w.heap.size
 refine zcr (sp yN (zjcc (sp (Sv al l.length cl) (sw (o_eqnil underlying27 al l.length cl rfl (zjn (xE (al.isNone) rfl (fun h1=>?_) (fun h1=>?_))))))))
 ·skip
  refine zcr (sp yN (zjr (t_r ?_)))
  replace H:=H.nilRow 22 1
  replace H:=H.vT (α:=yLI)
  refine ret1 yN rfl rfl ⟨_,rfl,?_,H.base⟩
  obtain rfl:=H.nilOf 1 rfl ‹_›
  replace H:=H.unfree 0 rfl
  exact ⟨none,0,0,[],[],rfl,(by intro b hb;first | (simp at hb;done) | exact id b (by simpa using hb)),H.pick [0] [0]⟩
 refine qW (t_n (zcr (sw (vP H underlying27 ti22 fun b2 w3 H=>sp (Sv al l.length cl) ?_))))
 replace H:=H.boxRow 0 rfl 1 0 rfl qj
 replace H:=H.vT (α:=yLI)
 refine sw (o_appendFR H 0 rfl 1 rfl underlying27 ti22 rfl qj rfl rfl qp qf fun a4 c5 w6 us7 G8 H hG9=>?_)
 replace H:=H.repsCat false 1 rfl 0 rfl qm
 refine sp (Sv a4 (0+l.length) c5) (zjr (ret1 (Sv a4 (0+l.length) c5) rfl rfl ⟨_,rfl,(⟨a4,0+l.length,c5,[]++us7,([]++G8),rfl,(by intro b hb;first | (simp at hb;done) | exact hG9 b (by simpa using hb)),H.pick [0] [0]⟩),H.base⟩))

theorem timesIn_ok (w:World) (l:yLI) (m:yLI) {al:yOA} {Fl:yLN} {am:yOA} {Fm:yLN} (hl:qO.rep w Fl [Sv al l.length cl] l) (hm:qO.rep w Fm [Sv am m.length cm] m) (p0:l.length≤m.length) (p2:∀ q,q < l.length→0≤m[q]! ∧m[q]! ≤1000):Calls Tryz.prog 203 #[Sv al l.length cl,Sv am m.length cm] w (Ret (fun v w' =>v=yI (jD l m)) w):=by
 refine en func203 ntmps203 ?_
 have H:=((St.start w).arg hm).arg hl
 have nhl:=qM hl
 have nhm:=qM hm
 clear hl hm
 have N:=Fresh.nil w.heap.size
 refine zcr (sp (yI 0) (zjc (sp (yI 1000) (zjcc (sp (Sv al l.length cl) (oN rfl (sp (yI 0) (zjn (qX ?_)))))))))
 refine zD (fun m' ρ w1=>∃ (xY:Env) (most:Int) (k:Nat),ρ=upd (upd (upd (upd (upd xY 1 (Sv am m.length cm)) 5 (yI most)) 8 (Sv al l.length cl)) 9 (yI l.length)) 10 (yI k)∧most=Qm l m k∧((k:Int)≤l.length)∧m' =(l.length - (k:Int)).toNat∧Fresh w.heap.size []∧St w w1 [] [sF false Fl al cl l,sF false Fm am cm m]) ((l.length - (0:Int)).toNat) ⟨_,1000,0,uE5,(by rfl),qf,rfl,N,H⟩ ?_
 clear H N
 rintro m' ρ w2 ⟨xY,most,k,rfl,rfl,i0,rfl,N,H⟩
 refine zcr (sp (Bv (decide ((k:Int) < l.length))) (zjn (xQ (cD rfl (fun h3=>?_) (fun h3=>?_)))))
 ·skip
  refine qW (t_n (xQ (qX (zcr (sp (yI k) ?_)))))
  obtain ⟨b4,o5,rfl⟩:=H.addr 0 rfl qf
  refine oI rfl rfl (oL rfl (H.jY 0 rfl k qf qf) (sps [yI k,yI (l[k]!)] (zjc (sps [yI (l[k]!),Bv (decide ((l[k]! :Int) > 0))] (zjn (cD rfl (fun h7=>?_) (fun h7=>?_)))))))
  ·skip
   refine xO (sps [yI (Qm l m k),Sv am m.length cm,yI k] ?_)
   obtain ⟨b8,o9,rfl⟩:=H.addr 1 rfl qf
   refine oI rfl rfl (oL rfl (H.jY 1 rfl k qf qf) (sp (yI (l[k]!)) (sw (o_quo (m[k]!) (l[k]!) rfl rfl (by (have:=p2 k qf;omega)) (by (have:=p2 k qf;omega)) (sw (o_min (Qm l m k) ((m[k]!) / (l[k]!)) rfl rfl (sp (yI (min (Qm l m k) ((m[k]!) / (l[k]!)))) (xM (b_n (t_n (xO (sw (zB k 1 rfl rfl (by (have:=p2 k qf;omega)) (sp (yI (k+1)) (xM (qY (m' :=(l.length - ((k+1):Int)).toNat) qf ⟨_,min (Qm l m k) ((m[k]!) / (l[k]!)),k+1,uE5,?_,?_,rfl,N,H⟩))))))))))))))))
   · first | exact (timesTo_pos qf).symm | exact (timesTo_skip qf).symm
   · omega
  refine qW (b_n (t_n (xO (sw (zB k 1 rfl rfl (by (have:=p2 k qf;omega)) (sp (yI (k+1)) (xM (qY (m' :=(l.length - ((k+1):Int)).toNat) qf ⟨_,(Qm l m k),k+1,uE5,?_,?_,rfl,N,H⟩))))))))
  · first | exact (timesTo_pos qf).symm | exact (timesTo_skip qf).symm
  · omega
 refine zx4 (zcr (sps [yI (Qm l m k),yI (Qm l m k)] (zjr (ret1 (yI (Qm l m k)) rfl rfl ⟨_,rfl,?_,H.base⟩))))
 obtain rfl:k=l.length:=by omega
 rfl

theorem applicable_ok (w:World) (s:qI) (t:qH) {qC:yOA} {qZ:yLN} {qN:yOA} {xG:yLN} {qV:yOA} {xR:yLN} {xm:yOA} {zC:yLN} {qL:yOA} {xC:yLN} (xf:qO.rep w qZ [Sv qC s.qw.length qB] s.qw) (xJ:qO.rep w xG [Sv qN s.qx.length qJ] s.qx) (zi:qO.rep w xR [Sv qV t.qA.length qR] t.qA) (zM:qO.rep w zC [Sv xm t.qE.length xk] t.qE) (xN:qO.rep w xC [Sv qL t.qy.length qK] t.qy) (p0:jE s) (p1:zu s t):Calls Tryz.prog 112 #[.agg #[yI s.xB,Sv qC s.qw.length qB,Sv qN s.qx.length qJ],.agg #[Sv qV t.qA.length qR,Sv xm t.qE.length xk,Sv qL t.qy.length qK]] w (Ret (fun v w' =>∃ (ra:yOA) (rn:Nat) (rc:Nat),v=Sv ra rn rc∧Fresh w.heap.size []∧St w w' [rr ra rn rc 2 1 ((appls s t).map (Value.int .i64))] []) w):=by
 refine en func112 ntmps112 ?_
 have H:=(((((St.start w).arg xN).arg zM).arg zi).arg xJ).arg xf
 have vH:=qM xf
 have jw:=qM xJ
 have Qj:=qM zi
 have Q7:=qM zM
 have jV:=qM xN
 clear xf xJ zi zM xN
 have N:=Fresh.nil w.heap.size
 have p2:=p0.2.1
 have p3:=p0.1.2.1
 refine zcr (sw (vU H (yS s qC qB qN qJ) fun b1 w2 H=>sw (vU H (yT t qV qR xm xk qL qK) fun b3 w4 H=>sp yN (zjc (sw (jF [yI 0,yI 0,yI 0,yI 0,yI 0,yI 0] [] (sw (zh H ti166 [yI 0,yI 0,yI 0,yI 0,yI 0,yI 0] fun b5 w6 H=>?_))))))))
 refine sw (zF H 0 [yI 0,yI 0,yI 0,yI 0,yI 0,yI 0] sizeOf166 fun w7 H=>zjcc (sp (yI 0) (zjn (qX ?_))))
 refine zD (fun m' ρ w8=>∃ (xY:Env) (c:Nat) (top:yLI),ρ=upd (upd (upd (upd xY 2 (pp b1 0)) 3 (pp b3 0)) 5 (pp b5 0)) 13 (yI c)∧top=minus c∧((c:Int)≤6)∧m' =(6 - (c:Int)).toNat∧Fresh w.heap.size []∧St w w8 [.box b5 (top.map (Value.int .i64)) 166,.box b3 (yT t qV qR xm xk qL qK) 38,.box b1 (yS s qC qB qN qJ) 36] [sF false qZ qC qB s.qw,sF false xG qN qJ s.qx,sF false xR qV qR t.qA,sF false zC xm xk t.qE,sF false xC qL qK t.qy]) ((6 - (0:Int)).toNat) ⟨_,0,[0,0,0,0,0,0],uE4,(by rfl),qf,rfl,N,H⟩ ?_
 clear H N
 rintro m' ρ w9 ⟨xY,c,top,rfl,rfl,i0,rfl,N,H⟩
 refine zcr (sp (Bv (decide ((c:Int) < 6))) (zjn (xQ (cD rfl (fun h10=>?_) (fun h10=>?_)))))
 ·skip
  refine qW (t_n (xQ (qX (zcr (sps [yI c,yI c] (zjn (xO (sp (yI c) (sw (o_idxArr c underlying166 ti2 rfl rfl qf qf (sw (o_storeArr H 0 rfl (-1) sizeOf2 rfl rfl (i:=c) qf (by simp only [List.length_set,List.length_cons,List.length_nil,minus_len,Vu];omega) fun w11 H=>xM (b_n (t_n (xO (sw (zB c 1 rfl rfl qf (sp (yI (c+1)) (xM (qY (m' :=(6 - ((c+1):Int)).toNat) qf ⟨_,c+1,((minus c).set c (-1)),uE4,?_,?_,rfl,N,H⟩))))))))))))))))))))
  · exact minus_set qf
  · omega
 refine zx4 (zcc (oF rfl (oL rfl (H.cell 2 rfl rfl) (oN rfl (sp (yI 0) (zjn (qX ?_)))))))
 refine zD (fun m' ρ w12=>∃ (xY:Env) (k:Nat) (top_1:yLI),ρ=upd (upd (upd (upd (upd (upd xY 2 (pp b1 0)) 3 (pp b3 0)) 5 (pp b5 0)) 20 (Sv qN s.qx.length qJ)) 21 (yI s.qx.length)) 22 (yI k)∧top_1=bests s t (-1) 6 k∧((k:Int)≤s.qx.length)∧m' =(s.qx.length - (k:Int)).toNat∧Fresh w.heap.size []∧St w w12 [.box b5 (top_1.map (Value.int .i64)) 166,.box b3 (yT t qV qR xm xk qL qK) 38,.box b1 (yS s qC qB qN qJ) 36] [sF false qZ qC qB s.qw,sF false xG qN qJ s.qx,sF false xR qV qR t.qA,sF false zC xm xk t.qE,sF false xC qL qK t.qy]) ((s.qx.length - (0:Int)).toNat) ⟨_,0,(minus c),uE6,(by exact minus_six qf s t),qf,rfl,N,H⟩ ?_
 clear H N
 rintro m' ρ w13 ⟨xY,k,top_1,rfl,rfl,i0,rfl,N,H⟩
 refine zcr (sp (Bv (decide ((k:Int) < s.qx.length))) (zjn (xQ (cD rfl (fun h14=>?_) (fun h14=>?_)))))
 ·skip
  have q:=p0.rule (i:=k) qf
  have qc:=q.1
  have qk:=q.cell
  have qr:=q.2.1
  have q6:(s.qx[k]!).qG.toNat < 6:=by omega
  refine qW (t_n (xQ (qX (zcr ?_))))
  obtain ⟨b15,o16,rfl⟩:=H.addr 1 rfl qf
  obtain ⟨ae18Need,ce18Need,Fe18Need,ae18Have,ce18Have,Fe18Have,ae18Lack,ce18Lack,Fe18Lack,ae18Here,ce18Here,Fe18Here,ae18Out,ce18Out,Fe18Out,ae18Into,ce18Into,Fe18Into,H⟩:=H.yF 1 rfl k k qf qf qf
  refine oI rfl rfl (sw (zl [yI ((s.qx[k]!).qG),yI ((s.qx[k]!).zS),Sv ae18Need (((s.qx[k]!).xn).length) ce18Need,Sv ae18Have (((s.qx[k]!).xF).length) ce18Have,Sv ae18Lack (((s.qx[k]!).xI).length) ce18Lack,Sv ae18Here (((s.qx[k]!).xK).length) ce18Here,Sv ae18Out (((s.qx[k]!).ve).length) ce18Out,Sv ae18Into (((s.qx[k]!).qU).length) ce18Into,Bv ((s.qx[k]!).zH)] isAgg121 sizeOf121 rfl (qF (H.get 6 rfl) 0 9) ?_))
  refine sw (zh H ti121 [yI 0,yI 0,yN,yN,yN,yN,yN,yN,Bv false] fun b19 w20 H=>sw (zF H 0 [yI ((s.qx[k]!).qG),yI ((s.qx[k]!).zS),Sv ae18Need (((s.qx[k]!).xn).length) ce18Need,Sv ae18Have (((s.qx[k]!).xF).length) ce18Have,Sv ae18Lack (((s.qx[k]!).xI).length) ce18Lack,Sv ae18Here (((s.qx[k]!).xK).length) ce18Here,Sv ae18Out (((s.qx[k]!).ve).length) ce18Out,Sv ae18Into (((s.qx[k]!).qU).length) ce18Into,Bv ((s.qx[k]!).zH)] sizeOf121 fun w21 H=>?_))
  refine zjc (sw (zl [yI s.xB,Sv qC s.qw.length qB,Sv (aa b15 o16) s.qx.length qJ] isAgg36 sizeOf36 rfl (qF (H.cells 3 rfl) 0 3) (sw (zl (yT t qV qR xm xk qL qK) isAgg38 sizeOf38 rfl (qF (H.cells 2 rfl) 0 3) ?_))))
  refine sw (zl [yI ((s.qx[k]!).qG),yI ((s.qx[k]!).zS),Sv ae18Need (((s.qx[k]!).xn).length) ce18Need,Sv ae18Have (((s.qx[k]!).xF).length) ce18Have,Sv ae18Lack (((s.qx[k]!).xI).length) ce18Lack,Sv ae18Here (((s.qx[k]!).xK).length) ce18Here,Sv ae18Out (((s.qx[k]!).ve).length) ce18Out,Sv ae18Into (((s.qx[k]!).qU).length) ce18Into,Bv ((s.qx[k]!).zH)] isAgg121 sizeOf121 rfl (qF (H.cells 0 rfl) 0 9) ?_)
  refine sw (oq (isEnabled_ok _ s t (s.qx[k]!) (H.get 7 rfl).1 (H.get 8 rfl).1 (H.get 9 rfl).1 (H.get 10 rfl).1 (H.get 11 rfl).1 (H.get 0 rfl).1 (H.get 1 rfl).1 (H.get 2 rfl).1 (H.get 3 rfl).1 (H.get 4 rfl).1 (H.get 5 rfl).1 qg qg qg) H fun w23 H=>zjn (cP rfl (fun h25=>?_) (fun h25=>?_)))
  ·skip
   refine QI rfl H [0,2,3] fun H=>?_
   have S:=H.yU [0,2,3] [0,1,2,3,4,5,6,7,8,9,10,11]
   refine tF 0 rfl rfl S ?_
   refine tL 1 rfl rfl (fun _ h=>h.cell 0 rfl rfl) S ?_
   refine tF 2 rfl rfl S ?_
   refine tL 3 rfl rfl (fun _ h=>h.cell 0 rfl rfl) S ?_
   refine rt 4 (pp b5 (0+((s.qx[k]!).qG:Int).toNat * 1)) (y_idxArr b5 (0) 6 ((s.qx[k]!).qG) underlying166 ti2 rfl rfl qf qf) S ?_
   refine tF 6 rfl rfl S ?_
   refine tL 7 rfl rfl (fun _ h=>h.cell 0 rfl rfl) S ?_
   refine ro 5 rfl (zT (yI ((bests s t (-1) 6 k)[((s.qx[k]!).qG).toNat]!)) isAgg2 rfl (H.cell 1 rfl (ints_at (iv:=(s.qx[k]!).qG) (i:=(((s.qx[k]!).qG).toNat)) qf (by simp only [List.length_set,List.length_cons,List.length_nil,minus_len,Vu];omega))) (⟨H.pick [0,2,3] [0,1,2,3,4,5,6,7,8,9,10,11],?_⟩))
   have S:=H.yU [0,2,3] [0,1,2,3,4,5,6,7,8,9,10,11]
   refine rt 8 (yI (max ((bests s t (-1) 6 k)[((s.qx[k]!).qG).toNat]!) ((s.qx[k]!).zS))) (y_max ((bests s t (-1) 6 k)[((s.qx[k]!).qG).toNat]!) ((s.qx[k]!).zS) rfl rfl) S ?_
   refine rt 9 (pp b5 (0+((s.qx[k]!).qG:Int).toNat * 1)) (y_idxArr b5 (0) 6 ((s.qx[k]!).qG) underlying166 ti2 rfl rfl qf qf) S ?_
   refine ro 10 rfl (o_storeArr H 1 rfl (max ((bests s t (-1) 6 k)[((s.qx[k]!).qG).toNat]!) ((s.qx[k]!).zS)) sizeOf2 rfl rfl (i:=(((s.qx[k]!).qG).toNat)) qf (by simp only [List.length_set,List.length_cons,List.length_nil,minus_len,Vu];omega) fun w27 H=>⟨H.pick [0,2,3] [0,1,2,3,4,5,6,7,8,9,10,11],(xP qh (b_n (t_n (xO (sw (zB k 1 rfl rfl qf (sp (yI (k+1)) (xM ?_))))))))⟩)
   refine qY (m' :=(s.qx.length - ((k+1):Int)).toNat) qf ⟨_,k+1,((bests s t (-1) 6 k).set (((s.qx[k]!).qG).toNat) (max ((bests s t (-1) 6 k)[((s.qx[k]!).qG).toNat]!) ((s.qx[k]!).zS))),uE6,?_,?_,rfl,N,H.pick [1,2,3] [7,8,9,10,11]⟩
   · first | exact bests_set ‹_› qf | exact bests_skip ‹_›
   · omega
  refine qW (b_n (t_n (xO (sw (zB k 1 rfl rfl qf (sp (yI (k+1)) (xM (qY (m' :=(s.qx.length - ((k+1):Int)).toNat) qf ⟨_,k+1,(bests s t (-1) 6 k),uE6,?_,?_,rfl,N,H.pick [1,2,3] [7,8,9,10,11]⟩))))))))
  · first | exact bests_set ‹_› qf | exact bests_skip ‹_›
  · omega
 refine zx4 (zcr (sw (vP H underlying22 ti2 fun b28 w29 H=>sp (Sv (aa b28 0) 0 0) (zjcc (oF rfl (oL rfl (H.cell 3 rfl rfl) (oN rfl (sp (yI 0) (zjn (qX ?_))))))))))
 replace H:=H.boxRowI 0 [] 0
 refine zD (fun m' ρ w30=>∃ (xY:Env) (zX:yOA) (xX:Nat) (zK:Nat) (out:yLI) (i:Nat),ρ=upd (upd (upd (upd (upd (upd (upd xY 2 (pp b1 0)) 3 (pp b3 0)) 5 (pp b5 0)) 9 (Sv zX xX zK)) 43 (Sv qN s.qx.length qJ)) 44 (yI s.qx.length)) 45 (yI i)∧out=applL s t i∧((i:Int)≤s.qx.length)∧m' =(s.qx.length - (i:Int)).toNat∧Fresh w.heap.size []∧St w w30 [rr zX xX zK 2 1 (out.map (Value.int .i64)),.box b5 ((bests s t (-1) 6 k).map (Value.int .i64)) 166,.box b3 (yT t qV qR xm xk qL qK) 38,.box b1 (yS s qC qB qN qJ) 36] [sF false qZ qC qB s.qw,sF false xG qN qJ s.qx,sF false xR qV qR t.qA,sF false zC xm xk t.qE,sF false xC qL qK t.qy]) ((s.qx.length - (0:Int)).toNat) ⟨_,(aa b28 0),0,0,([]:yLI),0,uE7,(by rfl),qf,rfl,N,H⟩ ?_
 clear H N
 rintro m' ρ w31 ⟨xY,zX,xX,zK,out,i,rfl,rfl,i0,rfl,N,H⟩
 have hn_out:=H.YX 0 rfl
 have ll:=applL_le s t i
 refine zcr (sp (Bv (decide ((i:Int) < s.qx.length))) (zjn (xQ (cD rfl (fun h32=>?_) (fun h32=>?_)))))
 ·skip
  have q:=p0.rule (i:=i) qf
  have qc:=q.1
  have qk:=q.cell
  have qr:=q.2.1
  have q6:(s.qx[i]!).qG.toNat < 6:=by omega
  refine qW (t_n (xQ (qX (zcr (sp (yI i) ?_)))))
  obtain ⟨b33,o34,rfl⟩:=H.addr 1 rfl qf
  obtain ⟨ae36Need,ce36Need,Fe36Need,ae36Have,ce36Have,Fe36Have,ae36Lack,ce36Lack,Fe36Lack,ae36Here,ce36Here,Fe36Here,ae36Out,ce36Out,Fe36Out,ae36Into,ce36Into,Fe36Into,H⟩:=H.yF 1 rfl i i qf qf qf
  refine oI rfl rfl (sw (zl [yI ((s.qx[i]!).qG),yI ((s.qx[i]!).zS),Sv ae36Need (((s.qx[i]!).xn).length) ce36Need,Sv ae36Have (((s.qx[i]!).xF).length) ce36Have,Sv ae36Lack (((s.qx[i]!).xI).length) ce36Lack,Sv ae36Here (((s.qx[i]!).xK).length) ce36Here,Sv ae36Out (((s.qx[i]!).ve).length) ce36Out,Sv ae36Into (((s.qx[i]!).qU).length) ce36Into,Bv ((s.qx[i]!).zH)] isAgg121 sizeOf121 rfl (qF (H.get 6 rfl) 0 9) ?_))
  refine sw (zh H ti121 [yI 0,yI 0,yN,yN,yN,yN,yN,yN,Bv false] fun b37 w38 H=>sp (yI i) ?_)
  refine sw (zF H 0 [yI ((s.qx[i]!).qG),yI ((s.qx[i]!).zS),Sv ae36Need (((s.qx[i]!).xn).length) ce36Need,Sv ae36Have (((s.qx[i]!).xF).length) ce36Have,Sv ae36Lack (((s.qx[i]!).xI).length) ce36Lack,Sv ae36Here (((s.qx[i]!).xK).length) ce36Here,Sv ae36Out (((s.qx[i]!).ve).length) ce36Out,Sv ae36Into (((s.qx[i]!).qU).length) ce36Into,Bv ((s.qx[i]!).zH)] sizeOf121 fun w39 H=>zjn (xQ ?_))
  refine jh rfl H fun H=>tF 0 rfl rfl H ?_
  refine tL 1 rfl rfl (fun _ h=>h.cell 0 rfl rfl) H ?_
  refine tF 2 rfl rfl H ?_
  refine tL 3 rfl rfl (fun _ h=>h.cell 0 rfl rfl) H ?_
  refine rt 4 (pp b5 (0+((s.qx[i]!).qG:Int).toNat * 1)) (y_idxArr b5 (0) 6 ((s.qx[i]!).qG) underlying166 ti2 rfl rfl qf qf) H ?_
  refine tL 5 rfl rfl (fun _ h=>h.cell 2 rfl (ints_at (iv:=(s.qx[i]!).qG) (i:=(((s.qx[i]!).qG).toNat)) qf (by simp only [List.length_set,List.length_cons,List.length_nil,minus_len,Vu];omega))) H ?_
  refine rtp 6 (Bv (((s.qx[i]!).zS:Int) == ((bests s t (-1) 6 k)[((s.qx[i]!).qG).toNat]!))) H ?_
  refine rtp 7 (Bv (((s.qx[i]!).zS:Int) == ((bests s t (-1) 6 k)[((s.qx[i]!).qG).toNat]!))) H ?_
  cases h41:(((s.qx[i]!).zS:Int) == ((bests s t (-1) 6 k)[((s.qx[i]!).qG).toNat]!))
  ·skip
   replace h41:=ne_of_beq_false h41
   refine zZ [8,9,10,11] 4 (H) (rtp 12 (Bv false) H ?_)
   refine xP qh (t_n (xE false rfl (fun h=>absurd h qj) (fun _=>qW (b_n (t_n (xO (sw (zB i 1 rfl rfl qf (sp (yI (i+1)) (xM (qY (m' :=(s.qx.length - ((i+1):Int)).toNat) qf ⟨_,zX,xX,zK,(applL s t i),i+1,uE7,?_,?_,rfl,N,H.pick [1,2,3,4] [7,8,9,10,11]⟩)))))))))))
   · first | exact applL_yes (appl_yes (n:=6) (z:= -1) (k:=k) qf qf qf q6 ‹_› ‹_›) | exact applL_no (appl_no (n:=6) (z:= -1) (k:=k) qf qf qf q6 ‹_›) | exact applL_no (fun h=>‹¬ EnOk _ _ _› h.1)
   · omega
  replace h41:=eq_of_beq h41
  refine rg 8 (.agg #[yI s.xB,Sv qC s.qw.length qB,Sv (aa b33 o34) s.qx.length qJ]) 57 (QL (cs:=[yI s.xB,Sv qC s.qw.length qB,Sv (aa b33 o34) s.qx.length qJ]) isAgg36 sizeOf36 rfl (fun _ h=>qF (h.cells 4 rfl) 0 3)) H ?_
  refine rg 9 (.agg #[Sv qV t.qA.length qR,Sv xm t.qE.length xk,Sv qL t.qy.length qK]) 57 (QL (cs:=(yT t qV qR xm xk qL qK)) isAgg38 sizeOf38 rfl (fun _ h=>qF (h.cells 3 rfl) 0 3)) H ?_
  refine rg 10 (.agg #[yI ((s.qx[i]!).qG),yI ((s.qx[i]!).zS),Sv ae36Need (((s.qx[i]!).xn).length) ce36Need,Sv ae36Have (((s.qx[i]!).xF).length) ce36Have,Sv ae36Lack (((s.qx[i]!).xI).length) ce36Lack,Sv ae36Here (((s.qx[i]!).xK).length) ce36Here,Sv ae36Out (((s.qx[i]!).ve).length) ce36Out,Sv ae36Into (((s.qx[i]!).qU).length) ce36Into,Bv ((s.qx[i]!).zH)]) 57 (QL (cs:=[yI ((s.qx[i]!).qG),yI ((s.qx[i]!).zS),Sv ae36Need (((s.qx[i]!).xn).length) ce36Need,Sv ae36Have (((s.qx[i]!).xF).length) ce36Have,Sv ae36Lack (((s.qx[i]!).xI).length) ce36Lack,Sv ae36Here (((s.qx[i]!).xK).length) ce36Here,Sv ae36Out (((s.qx[i]!).ve).length) ce36Out,Sv ae36Into (((s.qx[i]!).qU).length) ce36Into,Bv ((s.qx[i]!).zH)]) isAgg121 sizeOf121 rfl (fun _ h=>qF (h.cells 0 rfl) 0 9)) H ?_
  refine jK [11] qh qm (r_opG rfl (e:=57) rfl rfl (oq (isEnabled_ok _ s t (s.qx[i]!) (H.get 7 rfl).1 (H.get 8 rfl).1 (H.get 9 rfl).1 (H.get 10 rfl).1 (H.get 11 rfl).1 (H.get 0 rfl).1 (H.get 1 rfl).1 (H.get 2 rfl).1 (H.get 3 rfl).1 (H.get 4 rfl).1 (H.get 5 rfl).1 qg qg qg) H fun w43 H=>⟨H,(rtp 12 (Bv (dec (EnOk s t (s.qx[i]!)))) H ?_)⟩) jL)
  refine xP qh (t_n (cP rfl (fun h45=>?_) (fun h45=>?_)))
  ·skip
   refine xO (sps [Sv zX xX zK,yI i] (sw (zA H underlying22 ti2 [yI i] fun b46 w47 H=>sw (zG H 2 rfl 0 rfl underlying22 ti2 rfl qj rfl rfl rfl (by simp [Value.oneCell',Value.cells]) qp qf fun a48 c49 w50 H=>?_))))
   rw [snocI] at H
   refine sp (Sv a48 (xX+1) c49) (xM (b_n (t_n (xO (sw (zB i 1 rfl rfl qf (sp (yI (i+1)) (xM (qY (m' :=(s.qx.length - ((i+1):Int)).toNat) qf ⟨_,a48,xX+1,c49,((applL s t i)++[(i:Int)]),i+1,uE7,?_,?_,rfl,N,H.pick [2,3,4,5] [7,8,9,10,11]⟩)))))))))
   · first | exact applL_yes (appl_yes (n:=6) (z:= -1) (k:=k) qf qf qf q6 ‹_› ‹_›) | exact applL_no (appl_no (n:=6) (z:= -1) (k:=k) qf qf qf q6 ‹_›) | exact applL_no (fun h=>‹¬ EnOk _ _ _› h.1)
   · omega
  refine qW (b_n (t_n (xO (sw (zB i 1 rfl rfl qf (sp (yI (i+1)) (xM (qY (m' :=(s.qx.length - ((i+1):Int)).toNat) qf ⟨_,zX,xX,zK,(applL s t i),i+1,uE7,?_,?_,rfl,N,H.pick [1,2,3,4] [7,8,9,10,11]⟩))))))))
  · first | exact applL_yes (appl_yes (n:=6) (z:= -1) (k:=k) qf qf qf q6 ‹_› ‹_›) | exact applL_no (appl_no (n:=6) (z:= -1) (k:=k) qf qf qf q6 ‹_›) | exact applL_no (fun h=>‹¬ EnOk _ _ _› h.1)
  · omega
 refine zx4 (zcr (sps [Sv zX xX zK,Sv zX xX zK] (zjr (ret1 (Sv zX xX zK) rfl rfl ⟨_,rfl,?_,H.base⟩))))
 obtain rfl:i=s.qx.length:=by omega
 exact ⟨zX,xX,zK,rfl,N,H.pick [0] []⟩
end
end Go.Proofs.YtgjnaocffdhnbaaGreat
