/- Walks and laws, printed by program and by hand: what each function comes to, for all arguments, part 3. -/
import Derived.Test.YtfekhnffbngoaabGreatA2
namespace Go.Proofs.YtfekhnffbngoaabGreat
set_option linter.unusedVariables false
set_option linter.unusedSimpArgs false
open Go.Proofs.YtfekhnffbngoaabGreat.Tot (tot)
open Go.Proofs.YtfekhnffbngoaabGreat.Mark (cnt mrk mkd mkd_mark cnt_mark)
section
open Go.Proofs.Tryz
open Go.RowKit
set_option linter.unusedVariables false
set_option linter.unusedSimpArgs false
set_option maxRecDepth 100000
set_option maxHeartbeats 4000000
variable {qC qH zY vg zZ ve jM zT xe xG qX cl : Nat}
theorem isShell_ok (w:World) (s:qG) {qE:yOA} {qV:yLN} {qI:yOA} {xx:yLN} (qP:qW.rep w qV [.slice qE s.qA.length qC] s.qA) (xm:qW.rep w xx [.slice qI s.qB.length qH] s.qB):Calls Tryz.prog 69 #[.agg #[yI s.qQ,.slice qE s.qA.length qC,.slice qI s.qB.length qH]] w (Ret (fun v w' =>v=.bool (dec (zN s))) w):=by
 refine en func69 ntmps69 ?_
 have H:=((St.start w).arg xm).arg qP
 have zt:=qU qP
 have vF:=qU xm
 clear qP xm
 have N:=Fresh.nil w.heap.size
 refine zcr (sw (vK H (yS s qE qC qI qH) fun b1 w2 H=>sp (.bool false) (zjcc (oF rfl (oL rfl (H.cell 0 rfl rfl) (sw (oq (QQ w2 s.qQ 1 8) H fun w3 H=>sps [.bool (!(inR s.qQ 1 8)),.bool (!(inR s.qQ 1 8))] ?_)))))))
 cases h5:(!(inR s.qQ 1 8))
 ·skip
  replace h5:=xf h5
  replace h5:=yQ.1 h5
  refine qO 9 rfl rfl (oF rfl (qO 9 rfl rfl (oL rfl (H.cell 0 rfl rfl) (qO 9 rfl rfl (sw (oq (sizeI_ok _ s.qA (H.get 0 rfl).1) H fun w6 H=>qO 9 rfl rfl (sw (oq (QQ w6 (s.qA.length:Int) 1 6) H fun w8 H=>qO 9 rfl rfl (sps [.bool (!(inR (s.qA.length:Int) 1 6)),.bool (!(inR (s.qA.length:Int) 1 6)),.bool (!(inR (s.qA.length:Int) 1 6))] ?_)))))))))
  cases h10:(!(inR (s.qA.length:Int) 1 6))
  ·skip
   replace h10:=xf h10
   replace h10:=yQ.1 h10
   refine qO 16 rfl rfl (oF rfl (qO 16 rfl rfl (oL rfl (H.cell 0 rfl rfl) (qO 16 rfl rfl ?_))))
   obtain ⟨b11,o12,rfl⟩:=H.addr 0 rfl qf
   refine oI rfl rfl (qO 16 rfl rfl (oL rfl (H.ji 0 rfl 0 qf qf) (qO 16 rfl rfl (sps [.bool ((s.qA[0]! :Int) != (-1)),.bool ((s.qA[0]! :Int) != (-1))] (zjn (xI ((s.qA[0]! :Int) != (-1)) rfl (fun h14=>?_) (fun h14=>?_)))))))
   ·skip
    replace h14:=bne_iff_ne.1 h14
    refine zcr (sp (.bool false) (zjr (t_r (ret1 (.bool false) rfl rfl ⟨_,rfl,?_,H.base⟩))))
    rw [qZ (fun h=>by obtain ⟨h1,h2,h3,h4⟩:=h;first | omega | (have:=h4 (c+1) qf qf;rw [← dg qf] at this;omega))]
   replace h14:=vW h14
   refine xh (t_n (zcc (oF rfl (oL rfl (H.cell 0 rfl rfl) (sw (o_tail H 0 rfl 1 underlying24 ti2 rfl qf fun a15 G16 hG17 H=>?_))))))
   have hl18:(s.qA.drop 1).length=s.qA.length - 1:=List.length_drop
   refine oN rfl (sp (yI 0) (zjn (xg ?_)))
   refine zH (fun m' ρ w19=>∃ (xU:Env) (c:Nat),ρ=upd (upd (upd xU 25 (.slice a15 ((s.qA.drop 1).length) (qC - 1))) 26 (yI ((s.qA.drop 1).length))) 27 (yI c)∧((c:Int)≤((s.qA.drop 1).length))∧(FrameTo s (c+1))∧m' =(((s.qA.drop 1).length) - (c:Int)).toNat∧Fresh w.heap.size []∧St w w19 [.box b1 [yI s.qQ,.slice (aa b11 o12) s.qA.length qC,.slice qI s.qB.length qH] 27] [sF false G16 a15 (qC - 1) (s.qA.drop 1),sF false qV (aa b11 o12) qC s.qA,sF false xx qI qH s.qB]) ((((s.qA.drop 1).length) - (0:Int)).toNat) ⟨_,0,uE3,qf,(by exact FrameTo.one s),rfl,N,H⟩ ?_
   clear H N
   rintro m' ρ w20 ⟨xU,c,rfl,i0,i1,rfl,N,H⟩
   have dg:=drop_get (l:=s.qA) (k:=c)
   refine zcr (sp (.bool (decide ((c:Int) < ((s.qA.drop 1).length)))) (zjn (x8 (cD rfl (fun h21=>?_) (fun h21=>?_)))))
   ·skip
    refine xh (t_n (x8 (xg (zcr (sp (yI c) ?_)))))
    obtain ⟨b22,o23,rfl⟩:=H.addr 0 rfl qf
    refine oI rfl rfl (oL rfl (H.ji 0 rfl c qf qf) (sps [yI c,yI ((s.qA.drop 1)[c]!)] (zjc (sps [yI ((s.qA.drop 1)[c]!),yI c] (sw (oq (QQ w20 ((s.qA.drop 1)[c]!) 0 c) H fun w25 H=>sp (.bool (!(inR ((s.qA.drop 1)[c]!) 0 c))) (zjn (xI (!(inR ((s.qA.drop 1)[c]!) 0 c)) rfl (fun h27=>?_) (fun h27=>?_)))))))))
    ·skip
     replace h27:=xw h27
     replace h27:=Qy h27
     refine zcr (sp (.bool false) (zjr (zr5 (ret1 (.bool false) rfl rfl ⟨_,rfl,?_,H.base⟩))))
     rw [qZ (fun h=>by obtain ⟨h1,h2,h3,h4⟩:=h;first | omega | (have:=h4 (c+1) qf qf;rw [← dg qf] at this;omega))]
    replace h27:=xf h27
    replace h27:=yQ.1 h27
    refine xh (b_n (t_n (xZ (sw (zB c 1 rfl rfl qf (sp (yI (c+1)) (zi (xq (m' :=(((s.qA.drop 1).length) - ((c+1):Int)).toNat) qf ⟨_,c+1,uE3,?_,?_,rfl,N,H⟩))))))))
    · omega
    · exact i1.succ (by rw [← dg qf];omega)
   refine zx4 (zcr (sp (.bool true) (zjr (ret1 (.bool true) rfl rfl ⟨_,rfl,?_,H.base⟩))))
   rw [jL ⟨by omega,by omega,by omega,(show s.qA.length=c+1 by omega)▸i1⟩]
  replace h10:=xw h10
  replace h10:=Qy h10
  refine xO [17,18,19,20,21] (sp (.bool true) (zjn (xI true rfl (fun _=>zcr (sp (.bool false) (zjr (t_r (ret1 (.bool false) rfl rfl ⟨_,rfl,?_,H.base⟩))))) (fun h=>absurd h qj))))
  rw [qZ (fun h=>by obtain ⟨h1,h2,h3,h4⟩:=h;first | omega | (have:=h4 (c+1) qf qf;rw [← dg qf] at this;omega))]
 replace h5:=xw h5
 replace h5:=Qy h5
 refine xO [10,11,12,13,14] (sps [.bool true,.bool true] (xO [17,18,19,20,21] (sp (.bool true) (zjn (xI true rfl (fun _=>zcr (sp (.bool false) (zjr (t_r (ret1 (.bool false) rfl rfl ⟨_,rfl,?_,H.base⟩))))) (fun h=>absurd h qj))))))
 rw [qZ (fun h=>by obtain ⟨h1,h2,h3,h4⟩:=h;first | omega | (have:=h4 (c+1) qf qf;rw [← dg qf] at this;omega))]

theorem isCell_ok (w:World) (s:qG) (c:Int) {qE:yOA} {qV:yLN} {qI:yOA} {xx:yLN} (qP:qW.rep w qV [.slice qE s.qA.length qC] s.qA) (xm:qW.rep w xx [.slice qI s.qB.length qH] s.qB):Calls Tryz.prog 94 #[.agg #[yI s.qQ,.slice qE s.qA.length qC,.slice qI s.qB.length qH],yI c] w (Ret (fun v w' =>v=.bool (inR c 0 ((s.qA.length:Int) - 1))) w):=by
 refine en func94 ntmps94 ?_
 have H:=((St.start w).arg xm).arg qP
 have zt:=qU qP
 have vF:=qU xm
 clear qP xm
 have N:=Fresh.nil w.heap.size
 refine zcr (sw (vK H (yS s qE qC qI qH) fun b1 w2 H=>sp (.bool false) (zjc (sp (yI c) (oF rfl (oL rfl (H.cell 0 rfl rfl) (sw (oq (sizeI_ok _ s.qA (H.get 0 rfl).1) H fun w3 H=>sw (o_sub (s.qA.length:Int) 1 rfl rfl qf (sw (oq (QQ w3 c 0 ((s.qA.length:Int) - 1)) H fun w5 H=>sp (.bool (inR c 0 ((s.qA.length:Int) - 1))) (zjr (ret1 (.bool (inR c 0 ((s.qA.length:Int) - 1))) rfl rfl ⟨_,rfl,?_,H.base⟩)))))))))))))
 rfl

theorem lies_ok (w:World) (s:qG) (c:Int) (within:Int) {qE:yOA} {qV:yLN} {qI:yOA} {xx:yLN} (qP:qW.rep w qV [.slice qE s.qA.length qC] s.qA) (xm:qW.rep w xx [.slice qI s.qB.length qH] s.qB) (p0:zN s) (p1:y8 s c):Calls Tryz.prog 95 #[.agg #[yI s.qQ,.slice qE s.qA.length qC,.slice qI s.qB.length qH],yI c,yI within] w (Ret (fun v w' =>v=.bool (dec (Lies s.qA within c))) w):=by
 refine en func95 ntmps95 ?_
 have H:=((St.start w).arg xm).arg qP
 have zt:=qU qP
 have vF:=qU xm
 clear qP xm
 have N:=Fresh.nil w.heap.size
 have p2:=p0.step p1.1 p1.2
 refine zcr (sw (vK H (yS s qE qC qI qH) fun b1 w2 H=>sp (.bool false) (zjcc (oF rfl (oL rfl (H.cell 0 rfl rfl) (sp (yI c) ?_))))))
 obtain ⟨b3,o4,rfl⟩:=H.addr 0 rfl qf
 refine oI rfl rfl (oL rfl (H.ji 0 rfl c qf qf) (sp (yI (s.qA[c.toNat]!)) (zjn (xg ?_))))
 refine zH (fun m' ρ w6=>∃ (xU:Env) (c_1:Int),ρ=upd (upd (upd xU 1 (yI c_1)) 2 (yI within)) 3 (pp b1 0)∧(-1≤c_1∧c_1≤(s.qA.length:Int) - 1)∧(Lies s.qA within c↔0≤c_1∧(c_1=within∨Lies s.qA within c_1))∧m' =(c_1+1).toNat∧Fresh w.heap.size []∧St w w6 [.box b1 [yI s.qQ,.slice (aa b3 o4) s.qA.length qC,.slice qI s.qB.length qH] 27] [sF false qV (aa b3 o4) qC s.qA,sF false xx qI qH s.qB]) (((s.qA[c.toNat]!)+1).toNat) ⟨_,s.qA[c.toNat]!,uE3,qf,(by exact lies_up p0 p1),rfl,N,H⟩ ?_
 clear H N
 rintro m' ρ w7 ⟨xU,c_1,rfl,i0,i1,rfl,N,H⟩
 have up:=fun h=>p0.step (c:=c_1) h i0.2
 refine zcc (sps [yI c_1,.bool (decide ((c_1:Int)≥0))] (zjn (cD rfl (fun h8=>?_) (fun h8=>?_))))
 ·skip
  refine xh (t_n (x8 (xg (zcr (sps [yI c_1,yI within,.bool ((c_1:Int) == within)] (zjn (cE rfl (fun h9=>?_) (fun h9=>?_))))))))
  ·skip
   refine zcr (sp (.bool true) (zjr (zr5 (ret1 (.bool true) rfl rfl ⟨_,rfl,?_,H.base⟩))))
   rw [jL (i1.2 ⟨by omega,.inl ‹_›⟩)]
  refine xh (b_n (t_n (xZ (oF rfl (oL rfl (H.cell 0 rfl rfl) (sp (yI c_1) (oI rfl rfl (oL rfl (H.ji 0 rfl c_1 qf qf) (sp (yI (s.qA[c_1.toNat]!)) (zi ?_))))))))))
  have up1:=up qf
  refine xq (m' :=((s.qA[c_1.toNat]!)+1).toNat) qf ⟨_,s.qA[c_1.toNat]!,uE3,?_,?_,rfl,N,H⟩
  · omega
  · exact i1.trans ⟨fun h=>(lies_up p0 ⟨by omega,by omega⟩).1 (h.2.resolve_left ‹_›),fun h=>⟨by omega,.inr ((lies_up p0 ⟨by omega,by omega⟩).2 h)⟩⟩
 refine zx4 (zcr (sp (.bool false) (zjr (ret1 (.bool false) rfl rfl ⟨_,rfl,?_,H.base⟩))))
 rw [qZ (fun h=>by have:=(i1.1 h).1;omega)]

theorem isRule_ok (w:World) (s:qG) (r:zK) {qE:yOA} {qV:yLN} {qI:yOA} {xx:yLN} {vk:yOA} {yL:yLN} {vC:yOA} {yP:yLN} {vw:yOA} {yM:yLN} {vz:yOA} {yO:yLN} {jO:yOA} {Xz:yLN} {zV:yOA} {Qh:yLN} (qP:qW.rep w qV [.slice qE s.qA.length qC] s.qA) (xm:qW.rep w xx [.slice qI s.qB.length qH] s.qB) (hrNeed:qW.rep w yL [.slice vk r.xu.length zY] r.xu) (hrHave:qW.rep w yP [.slice vC r.xM.length vg] r.xM) (hrLack:qW.rep w yM [.slice vw r.xK.length zZ] r.xK) (hrHere:qW.rep w yO [.slice vz r.xF.length ve] r.xF) (hrOut:qW.rep w Xz [.slice jO r.zI.length jM] r.zI) (hrInto:qW.rep w Qh [.slice zV r.qL.length zT] r.qL) (p0:zN s):Calls Tryz.prog 70 #[.agg #[yI s.qQ,.slice qE s.qA.length qC,.slice qI s.qB.length qH],.agg #[yI r.qF,yI r.zM,.slice vk r.xu.length zY,.slice vC r.xM.length vg,.slice vw r.xK.length zZ,.slice vz r.xF.length ve,.slice jO r.zI.length jM,.slice zV r.qL.length zT,.bool r.xR]] w (Ret (fun v w' =>v=.bool (dec (RuleOk s r))) w):=by
 refine en func70 ntmps70 ?_
 have H:=((((((((St.start w).arg hrInto).arg hrOut).arg hrHere).arg hrLack).arg hrHave).arg hrNeed).arg xm).arg qP
 have zt:=qU qP
 have vF:=qU xm
 have nhrNeed:=qU hrNeed
 have nhrHave:=qU hrHave
 have nhrLack:=qU hrLack
 have nhrHere:=qU hrHere
 have nhrOut:=qU hrOut
 have nhrInto:=qU hrInto
 clear qP xm hrNeed hrHave hrLack hrHere hrOut hrInto
 have N:=Fresh.nil w.heap.size
 refine zcr (sw (vK H (yS s qE qC qI qH) fun b1 w2 H=>sw (vK H [yI r.qF,yI r.zM,.slice vk r.xu.length zY,.slice vC r.xM.length vg,.slice vw r.xK.length zZ,.slice vz r.xF.length ve,.slice jO r.zI.length jM,.slice zV r.qL.length zT,.bool r.xR] fun b3 w4 H=>sp (.bool false) (zjcc ?_))))
 refine sw (xW (yS s qE qC qI qH) isAgg27 sizeOf27 rfl (qK (H.cells 1 rfl) 0 3) (oF rfl (oL rfl (H.cell 0 rfl rfl) (sw (oq (isCell_ok _ s r.qF (H.get 0 rfl).1 (H.get 1 rfl).1) H fun w6 H=>sps [.bool (!(inR r.qF 0 ((s.qA.length:Int) - 1))),.bool (!(inR r.qF 0 ((s.qA.length:Int) - 1)))] ?_)))))
 cases h8:(!(inR r.qF 0 ((s.qA.length:Int) - 1)))
 ·skip
  replace h8:=xf h8
  replace h8:=yQ.1 h8
  refine qO 14 rfl rfl (oF rfl (qO 14 rfl rfl (oL rfl (H.cell 0 rfl rfl) (qO 14 rfl rfl (sw (oq (QQ w6 r.zM 0 9) H fun w9 H=>qO 14 rfl rfl (sps [.bool (!(inR r.zM 0 9)),.bool (!(inR r.zM 0 9)),.bool (!(inR r.zM 0 9))] ?_)))))))
  cases h11:(!(inR r.zM 0 9))
  ·skip
   replace h11:=xf h11
   replace h11:=yQ.1 h11
   refine qO 20 rfl rfl (oF rfl (qO 20 rfl rfl (oL rfl (H.cell 0 rfl rfl) (qO 20 rfl rfl (sp (.bool r.xR) ?_)))))
   cases h12:(r.xR)
   ·skip
    rw [h12] at H
    refine xO [24,25,26] (qO 20 rfl rfl (sps [.bool false,.bool false,.bool false] (qO 29 rfl rfl (oF rfl (qO 29 rfl rfl (oL rfl (H.cell 0 rfl rfl) (qO 29 rfl rfl (oN rfl (qO 29 rfl rfl (sps [.bool (decide ((r.qL.length:Int) > 3)),.bool (decide ((r.qL.length:Int) > 3))] (zjn (cD rfl (fun h13=>?_) (fun h13=>?_)))))))))))))
    ·skip
     refine zcr (sp (.bool false) (zjr (t_r (ret1 (.bool false) rfl rfl ⟨_,rfl,?_,H.base⟩))))
     rw [qZ (fun h=>by obtain ⟨h1,h2,h3,h4,h5,h6,h7,h8,h9,h10,h11⟩:=h;first | contradiction | omega | exact h3 ⟨‹_›,‹_›⟩ | (obtain ⟨q1,q2,q3,q4,q5⟩:=h11 i qf;first | contradiction | omega | (have:=q5 qf;omega)) | (refine absurd ?_ ‹¬ zy _ _›;rcases (show k=0∨k=1∨k=2∨k=3∨k=4 by omega) with e | e | e | e | e <;> subst e <;> assumption))]
    refine xh (t_n (zcc (oF rfl (oL rfl (H.cell 0 rfl rfl) (oF rfl (oL rfl (H.cell 0 rfl rfl) (oF rfl (oL rfl (H.cell 0 rfl rfl) (oF rfl (oL rfl (H.cell 0 rfl rfl) (oF rfl (oL rfl (H.cell 0 rfl rfl) (sw (o_buildF H underlying29 ti24 [.slice vk r.xu.length zY,.slice vC r.xM.length vg,.slice vw r.xK.length zZ,.slice vz r.xF.length ve,.slice jO r.zI.length jM] rfl (by simp [Value.cells]) rfl qj qj fun b14 w15 H=>oN rfl (sp (yI 0) (zjn (xg ?_)))))))))))))))))
    replace H:=H.boxRow 0 rfl 1 5 rfl qj
    replace H:=H.QD (α:=yLI)
    replace H:=H.repsCons false 7 rfl 0 rfl qm
    replace H:=H.repsCons false 7 rfl 0 rfl qm
    replace H:=H.repsCons false 7 rfl 0 rfl qm
    replace H:=H.repsCons false 7 rfl 0 rfl qm
    replace H:=H.repsCons false 7 rfl 0 rfl qm
    refine zH (fun m' ρ w16=>∃ (xU:Env) (k:Nat),ρ=upd (upd (upd (upd (upd xU 2 (pp b1 0)) 3 (pp b3 0)) 45 (.slice (aa b14 0) 5 5)) 46 (yI 5)) 47 (yI k)∧((k:Int)≤5)∧(∀ j,j < k→zy s.qQ ([r.xu,r.xM,r.xK,r.xF,r.zI][j]!))∧m' =(5 - (k:Int)).toNat∧Fresh w.heap.size []∧St w w16 [rr (aa b14 0) 5 5 24 1 [.slice vk r.xu.length zY,.slice vC r.xM.length vg,.slice vw r.xK.length zZ,.slice vz r.xF.length ve,.slice jO r.zI.length jM],.box b3 [yI r.qF,yI r.zM,.slice vk r.xu.length zY,.slice vC r.xM.length vg,.slice vw r.xK.length zZ,.slice vz r.xF.length ve,.slice jO r.zI.length jM,.slice zV r.qL.length zT,.bool false] 49,.box b1 (yS s qE qC qI qH) 27] [xB false (yL++(yP++(yM++(yO++(Xz++[]))))) [.slice vk r.xu.length zY,.slice vC r.xM.length vg,.slice vw r.xK.length zZ,.slice vz r.xF.length ve,.slice jO r.zI.length jM] [r.xu,r.xM,r.xK,r.xF,r.zI],sF false qV qE qC s.qA,sF false xx qI qH s.qB,sF false yL vk zY r.xu,sF false yP vC vg r.xM,sF false yM vw zZ r.xK,sF false yO vz ve r.xF,sF false Xz jO jM r.zI,sF false Qh zV zT r.qL]) ((5 - (0:Int)).toNat) ⟨_,0,uE5,qf,(by intro j hj;omega),rfl,N,H.pick [0,1,2] [0,6,7,8,9,10,11,12,13]⟩ ?_
    clear H N
    rintro m' ρ w17 ⟨xU,k,rfl,i0,i1,rfl,N,H⟩
    refine zcr (sp (.bool (decide ((k:Int) < 5))) (zjn (x8 (cD rfl (fun h18=>?_) (fun h18=>?_)))))
    ·skip
     refine xh (t_n (x8 (xg (zcr (oI rfl rfl ?_)))))
     obtain ⟨a19,c20,G21,s22,h23,H⟩:=H.QC 0 rfl 0 rfl (iv:=k) k qf qf
     refine oL rfl (h23) (sp (.slice a19 (([r.xu,r.xM,r.xK,r.xF,r.zI][k]!).length) c20) (zjc (oF rfl (oL rfl (H.cell 2 rfl rfl) (sp (.slice a19 (([r.xu,r.xM,r.xK,r.xF,r.zI][k]!).length) c20) (sw (oq (validBag_ok _ s.qQ ([r.xu,r.xM,r.xK,r.xF,r.zI][k]!) (H.get 0 rfl).1) H fun w24 H=>sp (.bool (!(dec (zy s.qQ ([r.xu,r.xM,r.xK,r.xF,r.zI][k]!))))) (zjn (cQ rfl (fun h26=>?_) (fun h26=>?_))))))))))
     ·skip
      refine zcr (sp (.bool false) (zjr (zr5 (ret1 (.bool false) rfl rfl ⟨_,rfl,?_,H.base⟩))))
      rw [qZ (fun h=>by obtain ⟨h1,h2,h3,h4,h5,h6,h7,h8,h9,h10,h11⟩:=h;first | contradiction | omega | exact h3 ⟨‹_›,‹_›⟩ | (obtain ⟨q1,q2,q3,q4,q5⟩:=h11 i qf;first | contradiction | omega | (have:=q5 qf;omega)) | (refine absurd ?_ ‹¬ zy _ _›;rcases (show k=0∨k=1∨k=2∨k=3∨k=4 by omega) with e | e | e | e | e <;> subst e <;> assumption))]
     refine xh (b_n (t_n (xZ (sw (zB k 1 rfl rfl qf (sp (yI (k+1)) (zi (xq (m' :=(5 - ((k+1):Int)).toNat) qf ⟨_,k+1,uE5,?_,?_,rfl,N,H.pick [0,1,2] [1,2,3,4,5,6,7,8,9]⟩))))))))
     · omega
     · intro j hj;by_cases e:j=k;(subst e;assumption);exact i1 j qf
    refine zx4 (zcc (oF rfl (oL rfl (H.cell 1 rfl rfl) (oN rfl (sp (yI 0) (zjn (xg ?_)))))))
    have n1:zy s.qQ r.xu:=i1 0 qf
    have n2:zy s.qQ r.xM:=i1 1 qf
    have n3:zy s.qQ r.xK:=i1 2 qf
    have n4:zy s.qQ r.xF:=i1 3 qf
    have n5:zy s.qQ r.zI:=i1 4 qf
    refine zH (fun m' ρ w27=>∃ (xU:Env) (i:Nat),ρ=upd (upd (upd (upd (upd xU 2 (pp b1 0)) 3 (pp b3 0)) 58 (.slice zV r.qL.length zT)) 59 (yI r.qL.length)) 60 (yI i)∧((i:Int)≤r.qL.length)∧(IntosTo s r i)∧m' =(r.qL.length - (i:Int)).toNat∧Fresh w.heap.size []∧St w w27 [rr (aa b14 0) 5 5 24 1 [.slice vk r.xu.length zY,.slice vC r.xM.length vg,.slice vw r.xK.length zZ,.slice vz r.xF.length ve,.slice jO r.zI.length jM],.box b3 [yI r.qF,yI r.zM,.slice vk r.xu.length zY,.slice vC r.xM.length vg,.slice vw r.xK.length zZ,.slice vz r.xF.length ve,.slice jO r.zI.length jM,.slice zV r.qL.length zT,.bool false] 49,.box b1 (yS s qE qC qI qH) 27] [xB false (yL++(yP++(yM++(yO++(Xz++[]))))) [.slice vk r.xu.length zY,.slice vC r.xM.length vg,.slice vw r.xK.length zZ,.slice vz r.xF.length ve,.slice jO r.zI.length jM] [r.xu,r.xM,r.xK,r.xF,r.zI],sF false qV qE qC s.qA,sF false xx qI qH s.qB,sF false yL vk zY r.xu,sF false yP vC vg r.xM,sF false yM vw zZ r.xK,sF false yO vz ve r.xF,sF false Xz jO jM r.zI,sF false Qh zV zT r.qL]) ((r.qL.length - (0:Int)).toNat) ⟨_,0,uE5,qf,qx,rfl,N,H⟩ ?_
    clear H N
    rintro m' ρ w28 ⟨xU,i,rfl,i0,i2,rfl,N,H⟩
    refine zcr (sp (.bool (decide ((i:Int) < r.qL.length))) (zjn (x8 (cD rfl (fun h29=>?_) (fun h29=>?_)))))
    ·skip
     refine xh (t_n (x8 (xg (zcr (sp (yI i) ?_)))))
     obtain ⟨b30,o31,rfl⟩:=H.addr 8 rfl qf
     obtain ⟨ae33Bag,ce33Bag,Fe33Bag,H⟩:=H.yt 8 rfl i i qf qf qf
     refine oI rfl rfl (sw (xW [yI ((r.qL[i]!).qF),.slice ae33Bag (((r.qL[i]!).jR).length) ce33Bag] isAgg111 sizeOf111 rfl (qK (H.get 1 rfl) 0 2) (sw (x9 H ti111 [yI 0,yN] fun b34 w35 H=>sp (yI i) (sw (xP H 0 [yI ((r.qL[i]!).qF),.slice ae33Bag (((r.qL[i]!).jR).length) ce33Bag] sizeOf111 fun w36 H=>zjn (x8 ?_)))))))
     refine yf rfl H fun H=>rt 0 (.agg #[yI s.qQ,.slice qE s.qA.length qC,.slice qI s.qB.length qH]) (yh (cs:=(yS s qE qC qI qH)) isAgg27 sizeOf27 rfl (fun _ h=>qK (h.cells 3 rfl) 0 3)) H ?_
     refine tF 1 rfl rfl H ?_
     refine tL 2 rfl rfl (fun _ h=>h.cell 0 rfl rfl) H ?_
     refine ro 3 rfl (oq (isCell_ok _ s ((r.qL[i]!).qF) (H.get 3 rfl).1 (H.get 4 rfl).1) H fun w39 H=>⟨H,(rtp 4 (.bool (!(inR ((r.qL[i]!).qF) 0 ((s.qA.length:Int) - 1)))) H ?_)⟩)
     refine rtp 5 (.bool (!(inR ((r.qL[i]!).qF) 0 ((s.qA.length:Int) - 1)))) H ?_
     cases h41:(!(inR ((r.qL[i]!).qF) 0 ((s.qA.length:Int) - 1)))
     ·skip
      replace h41:=xf h41
      replace h41:=yQ.1 h41
      refine rg 6 (.agg #[yI s.qQ,.slice qE s.qA.length qC,.slice qI s.qB.length qH]) 70 (yh (cs:=(yS s qE qC qI qH)) isAgg27 sizeOf27 rfl (fun _ h=>qK (h.cells 3 rfl) 0 3)) H ?_
      refine gF 7 rfl rfl H ?_
      refine gL 8 rfl rfl (fun _ h=>h.cell 0 rfl rfl) H ?_
      refine gF 9 rfl rfl H ?_
      refine gL 10 rfl rfl (fun _ h=>h.cell 2 rfl rfl) H ?_
      refine jd [11] qh qm (r_opG rfl (e:=70) rfl rfl (oq (lies_ok _ s ((r.qL[i]!).qF) r.qF (H.get 3 rfl).1 (H.get 4 rfl).1 qg qg) H fun w43 H=>⟨H,(rgp 12 (.bool (!(dec (Lies s.qA r.qF ((r.qL[i]!).qF))))) 70 H ?_)⟩) je)
      refine rtp 13 (.bool (!(dec (Lies s.qA r.qF ((r.qL[i]!).qF))))) H ?_
      refine rtp 14 (.bool (!(dec (Lies s.qA r.qF ((r.qL[i]!).qF))))) H ?_
      cases h45:(!(dec (Lies s.qA r.qF ((r.qL[i]!).qF))))
      ·skip
       replace h45:=xf h45
       replace h45:=jJ h45
       refine gF 15 rfl rfl H ?_
       refine gL 16 rfl rfl (fun _ h=>h.cell 3 rfl rfl) H ?_
       refine gF 17 rfl rfl H ?_
       refine gL 18 rfl rfl (fun _ h=>h.cell 0 rfl rfl) H ?_
       refine jd [19] qh qm (r_opG rfl (e:=79) rfl rfl (oq (validBag_ok _ s.qQ ((r.qL[i]!).jR) (H.get 0 rfl).1) H fun w46 H=>⟨H,(rgp 20 (.bool (!(dec (zy s.qQ ((r.qL[i]!).jR))))) 79 H ?_)⟩) je)
       refine rtp 21 (.bool (!(dec (zy s.qQ ((r.qL[i]!).jR))))) H ?_
       refine rtp 22 (.bool (!(dec (zy s.qQ ((r.qL[i]!).jR))))) H ?_
       cases h48:(!(dec (zy s.qQ ((r.qL[i]!).jR))))
       ·skip
        replace h48:=xf h48
        replace h48:=jJ h48
        refine gF 23 rfl rfl H ?_
        refine gL 24 rfl rfl (fun _ h=>h.cell 0 rfl rfl) H ?_
        refine jd [25] qh qm (r_opG rfl (e:=87) rfl rfl ?_ je)
        have sm:Small ((r.qL[i]!).jR):=vY (by first | assumption | exact i1 0 qf)
        refine oq (bagSize_ok _ ((r.qL[i]!).jR) (H.get 0 rfl).1 (by first | assumption | exact vY ql | exact yY ql)) H fun w49 H=>⟨H,(rgp 26 (.bool ((Xc ((r.qL[i]!).jR):Int) == 0)) 87 H ?_)⟩
        refine rtp 27 (.bool ((Xc ((r.qL[i]!).jR):Int) == 0)) H ?_
        refine rtp 28 (.bool ((Xc ((r.qL[i]!).jR):Int) == 0)) H ?_
        cases h51:((Xc ((r.qL[i]!).jR):Int) == 0)
        ·skip
         replace h51:=ne_of_beq_false h51
         refine rgp 29 (yI i) 93 H ?_
         refine rgp 30 (.bool (decide ((i:Int) > 0))) 93 H ?_
         refine rgp 31 (.bool (decide ((i:Int) > 0))) 93 H ?_
         cases h52:(decide ((i:Int) > 0))
         ·skip
          replace h52:=of_decide_eq_false h52
          refine zD [32,33,34,35,36,37,38,39,40,41] 10 (H) (rgp 42 (.bool false) 93 H ?_)
          refine rtp 43 (.bool false) H ?_
          refine xH qh (t_n (xI false rfl (fun h=>absurd h qj) (fun _=>xh (b_n (t_n (xZ (sw (zB i 1 rfl rfl qf (sp (yI (i+1)) (zi (xq (m' :=(r.qL.length - ((i+1):Int)).toNat) qf ⟨_,i+1,uE5,?_,?_,rfl,N,H.pick [1,2,3] [2,3,4,5,6,7,8,9,10]⟩)))))))))))
          · omega
          · exact i2.succ ⟨‹_›,‹_›,‹_›,‹_›,fun hk=>by omega⟩
         replace h52:=of_decide_eq_true h52
         refine gF 32 rfl rfl H ?_
         refine gL 33 rfl rfl (fun _ h=>h.cell 0 rfl rfl) H ?_
         refine gF 34 rfl rfl H ?_
         refine gL 35 rfl rfl (fun _ h=>h.cell 2 rfl rfl) H ?_
         refine rgp 36 (yI i) 96 H ?_
         refine rg 37 (yI (i - 1)) 96 (y_sub i 1 rfl rfl qf) H ?_
         obtain ⟨ae53Bag,ce53Bag,Fe53Bag,H⟩:=H.yt 10 rfl (i - 1) (i - 1) qf qf qf
         have S:=H.jm [0,1,2,3] [2,3,4,5,6,7,8,9,10,11,12]
         refine gI 38 rfl rfl rfl S ?_
         refine gF 39 rfl rfl S ?_
         refine jd [40] qh qm (r_opG rfl (e:=96) rfl rfl (xX (yI ((r.qL[i - 1]!).qF)) isAgg2 rfl (H.zh 1 rfl 0 rfl) (⟨H.pick [0,1,2,3] [2,3,4,5,6,7,8,9,10,11,12],?_⟩)) je)
         have S:=H.jm [0,1,2,3] [2,3,4,5,6,7,8,9,10,11,12]
         refine rgp 41 (.bool (decide (((r.qL[i]!).qF:Int)≤((r.qL[i - 1]!).qF)))) 96 S ?_
         refine rgp 42 (.bool (decide (((r.qL[i]!).qF:Int)≤((r.qL[i - 1]!).qF)))) 93 S ?_
         refine rtp 43 (.bool (decide (((r.qL[i]!).qF:Int)≤((r.qL[i - 1]!).qF)))) S ?_
         refine xH qh (t_n (cD rfl (fun h54=>?_) (fun h54=>?_)))
         ·skip
          refine zcr (sp (.bool false) (zjr (zr5 (ret1 (.bool false) rfl rfl ⟨_,rfl,?_,H.base⟩))))
          rw [qZ (fun h=>by obtain ⟨h1,h2,h3,h4,h5,h6,h7,h8,h9,h10,h11⟩:=h;first | contradiction | omega | exact h3 ⟨‹_›,‹_›⟩ | (obtain ⟨q1,q2,q3,q4,q5⟩:=h11 i qf;first | contradiction | omega | (have:=q5 qf;omega)) | (refine absurd ?_ ‹¬ zy _ _›;rcases (show k=0∨k=1∨k=2∨k=3∨k=4 by omega) with e | e | e | e | e <;> subst e <;> assumption))]
         refine xh (b_n (t_n (xZ (sw (zB i 1 rfl rfl qf (sp (yI (i+1)) (zi (xq (m' :=(r.qL.length - ((i+1):Int)).toNat) qf ⟨_,i+1,uE5,?_,?_,rfl,N,H.pick [1,2,3] [4,5,6,7,8,9,10,11,12]⟩))))))))
         · omega
         · exact i2.succ ⟨‹_›,‹_›,‹_›,‹_›,fun hk=>by omega⟩
        replace h51:=eq_of_beq h51
        refine zD [29,30,31,32,33,34,35,36,37,38,39,40,41,42] 14 (H) (rtp 43 (.bool true) H ?_)
        refine xH qh (t_n (xI true rfl (fun _=>zcr (sp (.bool false) (zjr (zr5 (ret1 (.bool false) rfl rfl ⟨_,rfl,?_,H.base⟩))))) (fun h=>absurd h qj)))
        rw [qZ (fun h=>by obtain ⟨h1,h2,h3,h4,h5,h6,h7,h8,h9,h10,h11⟩:=h;first | contradiction | omega | exact h3 ⟨‹_›,‹_›⟩ | (obtain ⟨q1,q2,q3,q4,q5⟩:=h11 i qf;first | contradiction | omega | (have:=q5 qf;omega)) | (refine absurd ?_ ‹¬ zy _ _›;rcases (show k=0∨k=1∨k=2∨k=3∨k=4 by omega) with e | e | e | e | e <;> subst e <;> assumption))]
       replace h48:=xw h48
       replace h48:=zo h48
       refine zD [23,24,25,26] 4 (H) (rtp 27 (.bool true) H ?_)
       refine rtp 28 (.bool true) H ?_
       refine zD [29,30,31,32,33,34,35,36,37,38,39,40,41,42] 14 (H) (rtp 43 (.bool true) H ?_)
       refine xH qh (t_n (xI true rfl (fun _=>zcr (sp (.bool false) (zjr (zr5 (ret1 (.bool false) rfl rfl ⟨_,rfl,?_,H.base⟩))))) (fun h=>absurd h qj)))
       rw [qZ (fun h=>by obtain ⟨h1,h2,h3,h4,h5,h6,h7,h8,h9,h10,h11⟩:=h;first | contradiction | omega | exact h3 ⟨‹_›,‹_›⟩ | (obtain ⟨q1,q2,q3,q4,q5⟩:=h11 i qf;first | contradiction | omega | (have:=q5 qf;omega)) | (refine absurd ?_ ‹¬ zy _ _›;rcases (show k=0∨k=1∨k=2∨k=3∨k=4 by omega) with e | e | e | e | e <;> subst e <;> assumption))]
      replace h45:=xw h45
      replace h45:=zo h45
      refine zD [15,16,17,18,19,20] 6 (H) (rtp 21 (.bool true) H ?_)
      refine rtp 22 (.bool true) H ?_
      refine zD [23,24,25,26] 4 (H) (rtp 27 (.bool true) H ?_)
      refine rtp 28 (.bool true) H ?_
      refine zD [29,30,31,32,33,34,35,36,37,38,39,40,41,42] 14 (H) (rtp 43 (.bool true) H ?_)
      refine xH qh (t_n (xI true rfl (fun _=>zcr (sp (.bool false) (zjr (zr5 (ret1 (.bool false) rfl rfl ⟨_,rfl,?_,H.base⟩))))) (fun h=>absurd h qj)))
      rw [qZ (fun h=>by obtain ⟨h1,h2,h3,h4,h5,h6,h7,h8,h9,h10,h11⟩:=h;first | contradiction | omega | exact h3 ⟨‹_›,‹_›⟩ | (obtain ⟨q1,q2,q3,q4,q5⟩:=h11 i qf;first | contradiction | omega | (have:=q5 qf;omega)) | (refine absurd ?_ ‹¬ zy _ _›;rcases (show k=0∨k=1∨k=2∨k=3∨k=4 by omega) with e | e | e | e | e <;> subst e <;> assumption))]
     replace h41:=xw h41
     replace h41:=Qy h41
     refine zD [6,7,8,9,10,11,12] 7 (H) (rtp 13 (.bool true) H ?_)
     refine rtp 14 (.bool true) H ?_
     refine zD [15,16,17,18,19,20] 6 (H) (rtp 21 (.bool true) H ?_)
     refine rtp 22 (.bool true) H ?_
     refine zD [23,24,25,26] 4 (H) (rtp 27 (.bool true) H ?_)
     refine rtp 28 (.bool true) H ?_
     refine zD [29,30,31,32,33,34,35,36,37,38,39,40,41,42] 14 (H) (rtp 43 (.bool true) H ?_)
     refine xH qh (t_n (xI true rfl (fun _=>zcr (sp (.bool false) (zjr (zr5 (ret1 (.bool false) rfl rfl ⟨_,rfl,?_,H.base⟩))))) (fun h=>absurd h qj)))
     rw [qZ (fun h=>by obtain ⟨h1,h2,h3,h4,h5,h6,h7,h8,h9,h10,h11⟩:=h;first | contradiction | omega | exact h3 ⟨‹_›,‹_›⟩ | (obtain ⟨q1,q2,q3,q4,q5⟩:=h11 i qf;first | contradiction | omega | (have:=q5 qf;omega)) | (refine absurd ?_ ‹¬ zy _ _›;rcases (show k=0∨k=1∨k=2∨k=3∨k=4 by omega) with e | e | e | e | e <;> subst e <;> assumption))]
    refine zx4 (zcr (oF rfl (oL rfl (H.cell 1 rfl rfl) ?_)))
    have sm:Small r.xu:=vY (by first | assumption | exact i1 0 qf)
    refine sw (oq (bagSize_ok _ r.xu (H.get 3 rfl).1 (by first | assumption | exact vY ql | exact yY ql)) H fun w55 H=>sps [.bool (decide ((Xc r.xu:Int) > 0)),.bool (decide ((Xc r.xu:Int) > 0))] (zjr (ret1 (.bool (decide ((Xc r.xu:Int) > 0))) rfl rfl ⟨_,rfl,(congrArg Value.bool (dec_eq ?_)),H.base⟩)))
    rw [decide_eq_true_iff]
    exact ⟨fun h=>⟨by omega,by omega,by simp_all,by omega,n1,n2,n3,n4,n5,by omega,(show i=r.qL.length by omega)▸i2⟩,fun h=>by have:=h.2.2.2.2.2.2.2.2.2.1;have:=sum_nonneg n1.1;omega⟩
   rw [h12] at H
   refine qO 23 rfl rfl (oF rfl (qO 23 rfl rfl (oL rfl (H.cell 0 rfl rfl) (qO 23 rfl rfl (sp (.bool ((r.qF:Int) == 0)) (qO 20 rfl rfl (sps [.bool ((r.qF:Int) == 0),.bool ((r.qF:Int) == 0),.bool ((r.qF:Int) == 0)] ?_)))))))
   cases h57:((r.qF:Int) == 0)
   ·skip
    replace h57:=ne_of_beq_false h57
    refine qO 29 rfl rfl (oF rfl (qO 29 rfl rfl (oL rfl (H.cell 0 rfl rfl) (qO 29 rfl rfl (oN rfl (qO 29 rfl rfl (sps [.bool (decide ((r.qL.length:Int) > 3)),.bool (decide ((r.qL.length:Int) > 3))] (zjn (cD rfl (fun h58=>?_) (fun h58=>?_))))))))))
    ·skip
     refine zcr (sp (.bool false) (zjr (t_r (ret1 (.bool false) rfl rfl ⟨_,rfl,?_,H.base⟩))))
     rw [qZ (fun h=>by obtain ⟨h1,h2,h3,h4,h5,h6,h7,h8,h9,h10,h11⟩:=h;first | contradiction | omega | exact h3 ⟨‹_›,‹_›⟩ | (obtain ⟨q1,q2,q3,q4,q5⟩:=h11 i qf;first | contradiction | omega | (have:=q5 qf;omega)) | (refine absurd ?_ ‹¬ zy _ _›;rcases (show k=0∨k=1∨k=2∨k=3∨k=4 by omega) with e | e | e | e | e <;> subst e <;> assumption))]
    refine xh (t_n (zcc (oF rfl (oL rfl (H.cell 0 rfl rfl) (oF rfl (oL rfl (H.cell 0 rfl rfl) (oF rfl (oL rfl (H.cell 0 rfl rfl) (oF rfl (oL rfl (H.cell 0 rfl rfl) (oF rfl (oL rfl (H.cell 0 rfl rfl) (sw (o_buildF H underlying29 ti24 [.slice vk r.xu.length zY,.slice vC r.xM.length vg,.slice vw r.xK.length zZ,.slice vz r.xF.length ve,.slice jO r.zI.length jM] rfl (by simp [Value.cells]) rfl qj qj fun b59 w60 H=>oN rfl (sp (yI 0) (zjn (xg ?_)))))))))))))))))
    replace H:=H.boxRow 0 rfl 1 5 rfl qj
    replace H:=H.QD (α:=yLI)
    replace H:=H.repsCons false 7 rfl 0 rfl qm
    replace H:=H.repsCons false 7 rfl 0 rfl qm
    replace H:=H.repsCons false 7 rfl 0 rfl qm
    replace H:=H.repsCons false 7 rfl 0 rfl qm
    replace H:=H.repsCons false 7 rfl 0 rfl qm
    refine zH (fun m' ρ w61=>∃ (xU:Env) (k:Nat),ρ=upd (upd (upd (upd (upd xU 2 (pp b1 0)) 3 (pp b3 0)) 45 (.slice (aa b59 0) 5 5)) 46 (yI 5)) 47 (yI k)∧((k:Int)≤5)∧(∀ j,j < k→zy s.qQ ([r.xu,r.xM,r.xK,r.xF,r.zI][j]!))∧m' =(5 - (k:Int)).toNat∧Fresh w.heap.size []∧St w w61 [rr (aa b59 0) 5 5 24 1 [.slice vk r.xu.length zY,.slice vC r.xM.length vg,.slice vw r.xK.length zZ,.slice vz r.xF.length ve,.slice jO r.zI.length jM],.box b3 [yI r.qF,yI r.zM,.slice vk r.xu.length zY,.slice vC r.xM.length vg,.slice vw r.xK.length zZ,.slice vz r.xF.length ve,.slice jO r.zI.length jM,.slice zV r.qL.length zT,.bool true] 49,.box b1 (yS s qE qC qI qH) 27] [xB false (yL++(yP++(yM++(yO++(Xz++[]))))) [.slice vk r.xu.length zY,.slice vC r.xM.length vg,.slice vw r.xK.length zZ,.slice vz r.xF.length ve,.slice jO r.zI.length jM] [r.xu,r.xM,r.xK,r.xF,r.zI],sF false qV qE qC s.qA,sF false xx qI qH s.qB,sF false yL vk zY r.xu,sF false yP vC vg r.xM,sF false yM vw zZ r.xK,sF false yO vz ve r.xF,sF false Xz jO jM r.zI,sF false Qh zV zT r.qL]) ((5 - (0:Int)).toNat) ⟨_,0,uE5,qf,(by intro j hj;omega),rfl,N,H.pick [0,1,2] [0,6,7,8,9,10,11,12,13]⟩ ?_
    clear H N
    rintro m' ρ w62 ⟨xU,k,rfl,i0,i1,rfl,N,H⟩
    refine zcr (sp (.bool (decide ((k:Int) < 5))) (zjn (x8 (cD rfl (fun h63=>?_) (fun h63=>?_)))))
    ·skip
     refine xh (t_n (x8 (xg (zcr (oI rfl rfl ?_)))))
     obtain ⟨a64,c65,G66,s67,h68,H⟩:=H.QC 0 rfl 0 rfl (iv:=k) k qf qf
     refine oL rfl (h68) (sp (.slice a64 (([r.xu,r.xM,r.xK,r.xF,r.zI][k]!).length) c65) (zjc (oF rfl (oL rfl (H.cell 2 rfl rfl) (sp (.slice a64 (([r.xu,r.xM,r.xK,r.xF,r.zI][k]!).length) c65) (sw (oq (validBag_ok _ s.qQ ([r.xu,r.xM,r.xK,r.xF,r.zI][k]!) (H.get 0 rfl).1) H fun w69 H=>sp (.bool (!(dec (zy s.qQ ([r.xu,r.xM,r.xK,r.xF,r.zI][k]!))))) (zjn (cQ rfl (fun h71=>?_) (fun h71=>?_))))))))))
     ·skip
      refine zcr (sp (.bool false) (zjr (zr5 (ret1 (.bool false) rfl rfl ⟨_,rfl,?_,H.base⟩))))
      rw [qZ (fun h=>by obtain ⟨h1,h2,h3,h4,h5,h6,h7,h8,h9,h10,h11⟩:=h;first | contradiction | omega | exact h3 ⟨‹_›,‹_›⟩ | (obtain ⟨q1,q2,q3,q4,q5⟩:=h11 i qf;first | contradiction | omega | (have:=q5 qf;omega)) | (refine absurd ?_ ‹¬ zy _ _›;rcases (show k=0∨k=1∨k=2∨k=3∨k=4 by omega) with e | e | e | e | e <;> subst e <;> assumption))]
     refine xh (b_n (t_n (xZ (sw (zB k 1 rfl rfl qf (sp (yI (k+1)) (zi (xq (m' :=(5 - ((k+1):Int)).toNat) qf ⟨_,k+1,uE5,?_,?_,rfl,N,H.pick [0,1,2] [1,2,3,4,5,6,7,8,9]⟩))))))))
     · omega
     · intro j hj;by_cases e:j=k;(subst e;assumption);exact i1 j qf
    refine zx4 (zcc (oF rfl (oL rfl (H.cell 1 rfl rfl) (oN rfl (sp (yI 0) (zjn (xg ?_)))))))
    have n1:zy s.qQ r.xu:=i1 0 qf
    have n2:zy s.qQ r.xM:=i1 1 qf
    have n3:zy s.qQ r.xK:=i1 2 qf
    have n4:zy s.qQ r.xF:=i1 3 qf
    have n5:zy s.qQ r.zI:=i1 4 qf
    refine zH (fun m' ρ w72=>∃ (xU:Env) (i:Nat),ρ=upd (upd (upd (upd (upd xU 2 (pp b1 0)) 3 (pp b3 0)) 58 (.slice zV r.qL.length zT)) 59 (yI r.qL.length)) 60 (yI i)∧((i:Int)≤r.qL.length)∧(IntosTo s r i)∧m' =(r.qL.length - (i:Int)).toNat∧Fresh w.heap.size []∧St w w72 [rr (aa b59 0) 5 5 24 1 [.slice vk r.xu.length zY,.slice vC r.xM.length vg,.slice vw r.xK.length zZ,.slice vz r.xF.length ve,.slice jO r.zI.length jM],.box b3 [yI r.qF,yI r.zM,.slice vk r.xu.length zY,.slice vC r.xM.length vg,.slice vw r.xK.length zZ,.slice vz r.xF.length ve,.slice jO r.zI.length jM,.slice zV r.qL.length zT,.bool true] 49,.box b1 (yS s qE qC qI qH) 27] [xB false (yL++(yP++(yM++(yO++(Xz++[]))))) [.slice vk r.xu.length zY,.slice vC r.xM.length vg,.slice vw r.xK.length zZ,.slice vz r.xF.length ve,.slice jO r.zI.length jM] [r.xu,r.xM,r.xK,r.xF,r.zI],sF false qV qE qC s.qA,sF false xx qI qH s.qB,sF false yL vk zY r.xu,sF false yP vC vg r.xM,sF false yM vw zZ r.xK,sF false yO vz ve r.xF,sF false Xz jO jM r.zI,sF false Qh zV zT r.qL]) ((r.qL.length - (0:Int)).toNat) ⟨_,0,uE5,qf,qx,rfl,N,H⟩ ?_
    clear H N
    rintro m' ρ w73 ⟨xU,i,rfl,i0,i2,rfl,N,H⟩
    refine zcr (sp (.bool (decide ((i:Int) < r.qL.length))) (zjn (x8 (cD rfl (fun h74=>?_) (fun h74=>?_)))))
    ·skip
     refine xh (t_n (x8 (xg (zcr (sp (yI i) ?_)))))
     obtain ⟨b75,o76,rfl⟩:=H.addr 8 rfl qf
     obtain ⟨ae78Bag,ce78Bag,Fe78Bag,H⟩:=H.yt 8 rfl i i qf qf qf
     refine oI rfl rfl (sw (xW [yI ((r.qL[i]!).qF),.slice ae78Bag (((r.qL[i]!).jR).length) ce78Bag] isAgg111 sizeOf111 rfl (qK (H.get 1 rfl) 0 2) (sw (x9 H ti111 [yI 0,yN] fun b79 w80 H=>sp (yI i) (sw (xP H 0 [yI ((r.qL[i]!).qF),.slice ae78Bag (((r.qL[i]!).jR).length) ce78Bag] sizeOf111 fun w81 H=>zjn (x8 ?_)))))))
     refine yf rfl H fun H=>rt 0 (.agg #[yI s.qQ,.slice qE s.qA.length qC,.slice qI s.qB.length qH]) (yh (cs:=(yS s qE qC qI qH)) isAgg27 sizeOf27 rfl (fun _ h=>qK (h.cells 3 rfl) 0 3)) H ?_
     refine tF 1 rfl rfl H ?_
     refine tL 2 rfl rfl (fun _ h=>h.cell 0 rfl rfl) H ?_
     refine ro 3 rfl (oq (isCell_ok _ s ((r.qL[i]!).qF) (H.get 3 rfl).1 (H.get 4 rfl).1) H fun w84 H=>⟨H,(rtp 4 (.bool (!(inR ((r.qL[i]!).qF) 0 ((s.qA.length:Int) - 1)))) H ?_)⟩)
     refine rtp 5 (.bool (!(inR ((r.qL[i]!).qF) 0 ((s.qA.length:Int) - 1)))) H ?_
     cases h86:(!(inR ((r.qL[i]!).qF) 0 ((s.qA.length:Int) - 1)))
     ·skip
      replace h86:=xf h86
      replace h86:=yQ.1 h86
      refine rg 6 (.agg #[yI s.qQ,.slice qE s.qA.length qC,.slice qI s.qB.length qH]) 70 (yh (cs:=(yS s qE qC qI qH)) isAgg27 sizeOf27 rfl (fun _ h=>qK (h.cells 3 rfl) 0 3)) H ?_
      refine gF 7 rfl rfl H ?_
      refine gL 8 rfl rfl (fun _ h=>h.cell 0 rfl rfl) H ?_
      refine gF 9 rfl rfl H ?_
      refine gL 10 rfl rfl (fun _ h=>h.cell 2 rfl rfl) H ?_
      refine jd [11] qh qm (r_opG rfl (e:=70) rfl rfl (oq (lies_ok _ s ((r.qL[i]!).qF) r.qF (H.get 3 rfl).1 (H.get 4 rfl).1 qg qg) H fun w88 H=>⟨H,(rgp 12 (.bool (!(dec (Lies s.qA r.qF ((r.qL[i]!).qF))))) 70 H ?_)⟩) je)
      refine rtp 13 (.bool (!(dec (Lies s.qA r.qF ((r.qL[i]!).qF))))) H ?_
      refine rtp 14 (.bool (!(dec (Lies s.qA r.qF ((r.qL[i]!).qF))))) H ?_
      cases h90:(!(dec (Lies s.qA r.qF ((r.qL[i]!).qF))))
      ·skip
       replace h90:=xf h90
       replace h90:=jJ h90
       refine gF 15 rfl rfl H ?_
       refine gL 16 rfl rfl (fun _ h=>h.cell 3 rfl rfl) H ?_
       refine gF 17 rfl rfl H ?_
       refine gL 18 rfl rfl (fun _ h=>h.cell 0 rfl rfl) H ?_
       refine jd [19] qh qm (r_opG rfl (e:=79) rfl rfl (oq (validBag_ok _ s.qQ ((r.qL[i]!).jR) (H.get 0 rfl).1) H fun w91 H=>⟨H,(rgp 20 (.bool (!(dec (zy s.qQ ((r.qL[i]!).jR))))) 79 H ?_)⟩) je)
       refine rtp 21 (.bool (!(dec (zy s.qQ ((r.qL[i]!).jR))))) H ?_
       refine rtp 22 (.bool (!(dec (zy s.qQ ((r.qL[i]!).jR))))) H ?_
       cases h93:(!(dec (zy s.qQ ((r.qL[i]!).jR))))
       ·skip
        replace h93:=xf h93
        replace h93:=jJ h93
        refine gF 23 rfl rfl H ?_
        refine gL 24 rfl rfl (fun _ h=>h.cell 0 rfl rfl) H ?_
        refine jd [25] qh qm (r_opG rfl (e:=87) rfl rfl ?_ je)
        have sm:Small ((r.qL[i]!).jR):=vY (by first | assumption | exact i1 0 qf)
        refine oq (bagSize_ok _ ((r.qL[i]!).jR) (H.get 0 rfl).1 (by first | assumption | exact vY ql | exact yY ql)) H fun w94 H=>⟨H,(rgp 26 (.bool ((Xc ((r.qL[i]!).jR):Int) == 0)) 87 H ?_)⟩
        refine rtp 27 (.bool ((Xc ((r.qL[i]!).jR):Int) == 0)) H ?_
        refine rtp 28 (.bool ((Xc ((r.qL[i]!).jR):Int) == 0)) H ?_
        cases h96:((Xc ((r.qL[i]!).jR):Int) == 0)
        ·skip
         replace h96:=ne_of_beq_false h96
         refine rgp 29 (yI i) 93 H ?_
         refine rgp 30 (.bool (decide ((i:Int) > 0))) 93 H ?_
         refine rgp 31 (.bool (decide ((i:Int) > 0))) 93 H ?_
         cases h97:(decide ((i:Int) > 0))
         ·skip
          replace h97:=of_decide_eq_false h97
          refine zD [32,33,34,35,36,37,38,39,40,41] 10 (H) (rgp 42 (.bool false) 93 H ?_)
          refine rtp 43 (.bool false) H ?_
          refine xH qh (t_n (xI false rfl (fun h=>absurd h qj) (fun _=>xh (b_n (t_n (xZ (sw (zB i 1 rfl rfl qf (sp (yI (i+1)) (zi (xq (m' :=(r.qL.length - ((i+1):Int)).toNat) qf ⟨_,i+1,uE5,?_,?_,rfl,N,H.pick [1,2,3] [2,3,4,5,6,7,8,9,10]⟩)))))))))))
          · omega
          · exact i2.succ ⟨‹_›,‹_›,‹_›,‹_›,fun hk=>by omega⟩
         replace h97:=of_decide_eq_true h97
         refine gF 32 rfl rfl H ?_
         refine gL 33 rfl rfl (fun _ h=>h.cell 0 rfl rfl) H ?_
         refine gF 34 rfl rfl H ?_
         refine gL 35 rfl rfl (fun _ h=>h.cell 2 rfl rfl) H ?_
         refine rgp 36 (yI i) 96 H ?_
         refine rg 37 (yI (i - 1)) 96 (y_sub i 1 rfl rfl qf) H ?_
         obtain ⟨ae98Bag,ce98Bag,Fe98Bag,H⟩:=H.yt 10 rfl (i - 1) (i - 1) qf qf qf
         have S:=H.jm [0,1,2,3] [2,3,4,5,6,7,8,9,10,11,12]
         refine gI 38 rfl rfl rfl S ?_
         refine gF 39 rfl rfl S ?_
         refine jd [40] qh qm (r_opG rfl (e:=96) rfl rfl (xX (yI ((r.qL[i - 1]!).qF)) isAgg2 rfl (H.zh 1 rfl 0 rfl) (⟨H.pick [0,1,2,3] [2,3,4,5,6,7,8,9,10,11,12],?_⟩)) je)
         have S:=H.jm [0,1,2,3] [2,3,4,5,6,7,8,9,10,11,12]
         refine rgp 41 (.bool (decide (((r.qL[i]!).qF:Int)≤((r.qL[i - 1]!).qF)))) 96 S ?_
         refine rgp 42 (.bool (decide (((r.qL[i]!).qF:Int)≤((r.qL[i - 1]!).qF)))) 93 S ?_
         refine rtp 43 (.bool (decide (((r.qL[i]!).qF:Int)≤((r.qL[i - 1]!).qF)))) S ?_
         refine xH qh (t_n (cD rfl (fun h99=>?_) (fun h99=>?_)))
         ·skip
          refine zcr (sp (.bool false) (zjr (zr5 (ret1 (.bool false) rfl rfl ⟨_,rfl,?_,H.base⟩))))
          rw [qZ (fun h=>by obtain ⟨h1,h2,h3,h4,h5,h6,h7,h8,h9,h10,h11⟩:=h;first | contradiction | omega | exact h3 ⟨‹_›,‹_›⟩ | (obtain ⟨q1,q2,q3,q4,q5⟩:=h11 i qf;first | contradiction | omega | (have:=q5 qf;omega)) | (refine absurd ?_ ‹¬ zy _ _›;rcases (show k=0∨k=1∨k=2∨k=3∨k=4 by omega) with e | e | e | e | e <;> subst e <;> assumption))]
         refine xh (b_n (t_n (xZ (sw (zB i 1 rfl rfl qf (sp (yI (i+1)) (zi (xq (m' :=(r.qL.length - ((i+1):Int)).toNat) qf ⟨_,i+1,uE5,?_,?_,rfl,N,H.pick [1,2,3] [4,5,6,7,8,9,10,11,12]⟩))))))))
         · omega
         · exact i2.succ ⟨‹_›,‹_›,‹_›,‹_›,fun hk=>by omega⟩
        replace h96:=eq_of_beq h96
        refine zD [29,30,31,32,33,34,35,36,37,38,39,40,41,42] 14 (H) (rtp 43 (.bool true) H ?_)
        refine xH qh (t_n (xI true rfl (fun _=>zcr (sp (.bool false) (zjr (zr5 (ret1 (.bool false) rfl rfl ⟨_,rfl,?_,H.base⟩))))) (fun h=>absurd h qj)))
        rw [qZ (fun h=>by obtain ⟨h1,h2,h3,h4,h5,h6,h7,h8,h9,h10,h11⟩:=h;first | contradiction | omega | exact h3 ⟨‹_›,‹_›⟩ | (obtain ⟨q1,q2,q3,q4,q5⟩:=h11 i qf;first | contradiction | omega | (have:=q5 qf;omega)) | (refine absurd ?_ ‹¬ zy _ _›;rcases (show k=0∨k=1∨k=2∨k=3∨k=4 by omega) with e | e | e | e | e <;> subst e <;> assumption))]
       replace h93:=xw h93
       replace h93:=zo h93
       refine zD [23,24,25,26] 4 (H) (rtp 27 (.bool true) H ?_)
       refine rtp 28 (.bool true) H ?_
       refine zD [29,30,31,32,33,34,35,36,37,38,39,40,41,42] 14 (H) (rtp 43 (.bool true) H ?_)
       refine xH qh (t_n (xI true rfl (fun _=>zcr (sp (.bool false) (zjr (zr5 (ret1 (.bool false) rfl rfl ⟨_,rfl,?_,H.base⟩))))) (fun h=>absurd h qj)))
       rw [qZ (fun h=>by obtain ⟨h1,h2,h3,h4,h5,h6,h7,h8,h9,h10,h11⟩:=h;first | contradiction | omega | exact h3 ⟨‹_›,‹_›⟩ | (obtain ⟨q1,q2,q3,q4,q5⟩:=h11 i qf;first | contradiction | omega | (have:=q5 qf;omega)) | (refine absurd ?_ ‹¬ zy _ _›;rcases (show k=0∨k=1∨k=2∨k=3∨k=4 by omega) with e | e | e | e | e <;> subst e <;> assumption))]
      replace h90:=xw h90
      replace h90:=zo h90
      refine zD [15,16,17,18,19,20] 6 (H) (rtp 21 (.bool true) H ?_)
      refine rtp 22 (.bool true) H ?_
      refine zD [23,24,25,26] 4 (H) (rtp 27 (.bool true) H ?_)
      refine rtp 28 (.bool true) H ?_
      refine zD [29,30,31,32,33,34,35,36,37,38,39,40,41,42] 14 (H) (rtp 43 (.bool true) H ?_)
      refine xH qh (t_n (xI true rfl (fun _=>zcr (sp (.bool false) (zjr (zr5 (ret1 (.bool false) rfl rfl ⟨_,rfl,?_,H.base⟩))))) (fun h=>absurd h qj)))
      rw [qZ (fun h=>by obtain ⟨h1,h2,h3,h4,h5,h6,h7,h8,h9,h10,h11⟩:=h;first | contradiction | omega | exact h3 ⟨‹_›,‹_›⟩ | (obtain ⟨q1,q2,q3,q4,q5⟩:=h11 i qf;first | contradiction | omega | (have:=q5 qf;omega)) | (refine absurd ?_ ‹¬ zy _ _›;rcases (show k=0∨k=1∨k=2∨k=3∨k=4 by omega) with e | e | e | e | e <;> subst e <;> assumption))]
     replace h86:=xw h86
     replace h86:=Qy h86
     refine zD [6,7,8,9,10,11,12] 7 (H) (rtp 13 (.bool true) H ?_)
     refine rtp 14 (.bool true) H ?_
     refine zD [15,16,17,18,19,20] 6 (H) (rtp 21 (.bool true) H ?_)
     refine rtp 22 (.bool true) H ?_
     refine zD [23,24,25,26] 4 (H) (rtp 27 (.bool true) H ?_)
     refine rtp 28 (.bool true) H ?_
     refine zD [29,30,31,32,33,34,35,36,37,38,39,40,41,42] 14 (H) (rtp 43 (.bool true) H ?_)
     refine xH qh (t_n (xI true rfl (fun _=>zcr (sp (.bool false) (zjr (zr5 (ret1 (.bool false) rfl rfl ⟨_,rfl,?_,H.base⟩))))) (fun h=>absurd h qj)))
     rw [qZ (fun h=>by obtain ⟨h1,h2,h3,h4,h5,h6,h7,h8,h9,h10,h11⟩:=h;first | contradiction | omega | exact h3 ⟨‹_›,‹_›⟩ | (obtain ⟨q1,q2,q3,q4,q5⟩:=h11 i qf;first | contradiction | omega | (have:=q5 qf;omega)) | (refine absurd ?_ ‹¬ zy _ _›;rcases (show k=0∨k=1∨k=2∨k=3∨k=4 by omega) with e | e | e | e | e <;> subst e <;> assumption))]
    refine zx4 (zcr (oF rfl (oL rfl (H.cell 1 rfl rfl) ?_)))
    have sm:Small r.xu:=vY (by first | assumption | exact i1 0 qf)
    refine sw (oq (bagSize_ok _ r.xu (H.get 3 rfl).1 (by first | assumption | exact vY ql | exact yY ql)) H fun w100 H=>sps [.bool (decide ((Xc r.xu:Int) > 0)),.bool (decide ((Xc r.xu:Int) > 0))] (zjr (ret1 (.bool (decide ((Xc r.xu:Int) > 0))) rfl rfl ⟨_,rfl,(congrArg Value.bool (dec_eq ?_)),H.base⟩)))
    rw [decide_eq_true_iff]
    exact ⟨fun h=>⟨by omega,by omega,by simp_all,by omega,n1,n2,n3,n4,n5,by omega,(show i=r.qL.length by omega)▸i2⟩,fun h=>by have:=h.2.2.2.2.2.2.2.2.2.1;have:=sum_nonneg n1.1;omega⟩
   replace h57:=eq_of_beq h57
   refine xO [30,31,32,33] (sp (.bool true) (zjn (xI true rfl (fun _=>zcr (sp (.bool false) (zjr (t_r (ret1 (.bool false) rfl rfl ⟨_,rfl,?_,H.base⟩))))) (fun h=>absurd h qj))))
   rw [qZ (fun h=>by obtain ⟨h1,h2,h3,h4,h5,h6,h7,h8,h9,h10,h11⟩:=h;first | contradiction | omega | exact h3 ⟨‹_›,‹_›⟩ | (obtain ⟨q1,q2,q3,q4,q5⟩:=h11 i qf;first | contradiction | omega | (have:=q5 qf;omega)) | (refine absurd ?_ ‹¬ zy _ _›;rcases (show k=0∨k=1∨k=2∨k=3∨k=4 by omega) with e | e | e | e | e <;> subst e <;> assumption))]
  replace h11:=xw h11
  replace h11:=Qy h11
  refine xO [21,22,23,24,25,26,27] (sps [.bool true,.bool true] (xO [30,31,32,33] (sp (.bool true) (zjn (xI true rfl (fun _=>zcr (sp (.bool false) (zjr (t_r (ret1 (.bool false) rfl rfl ⟨_,rfl,?_,H.base⟩))))) (fun h=>absurd h qj))))))
  rw [qZ (fun h=>by obtain ⟨h1,h2,h3,h4,h5,h6,h7,h8,h9,h10,h11⟩:=h;first | contradiction | omega | exact h3 ⟨‹_›,‹_›⟩ | (obtain ⟨q1,q2,q3,q4,q5⟩:=h11 i qf;first | contradiction | omega | (have:=q5 qf;omega)) | (refine absurd ?_ ‹¬ zy _ _›;rcases (show k=0∨k=1∨k=2∨k=3∨k=4 by omega) with e | e | e | e | e <;> subst e <;> assumption))]
 replace h8:=xw h8
 replace h8:=Qy h8
 refine xO [15,16,17,18] (sps [.bool true,.bool true] (xO [21,22,23,24,25,26,27] (sps [.bool true,.bool true] (xO [30,31,32,33] (sp (.bool true) (zjn (xI true rfl (fun _=>zcr (sp (.bool false) (zjr (t_r (ret1 (.bool false) rfl rfl ⟨_,rfl,?_,H.base⟩))))) (fun h=>absurd h qj))))))))
 rw [qZ (fun h=>by obtain ⟨h1,h2,h3,h4,h5,h6,h7,h8,h9,h10,h11⟩:=h;first | contradiction | omega | exact h3 ⟨‹_›,‹_›⟩ | (obtain ⟨q1,q2,q3,q4,q5⟩:=h11 i qf;first | contradiction | omega | (have:=q5 qf;omega)) | (refine absurd ?_ ‹¬ zy _ _›;rcases (show k=0∨k=1∨k=2∨k=3∨k=4 by omega) with e | e | e | e | e <;> subst e <;> assumption))]
theorem validSystem_ok (w:World) (s:qG) {qE:yOA} {qV:yLN} {qI:yOA} {xx:yLN} (qP:qW.rep w qV [.slice qE s.qA.length qC] s.qA) (xm:qW.rep w xx [.slice qI s.qB.length qH] s.qB):Calls Tryz.prog 34 #[.agg #[yI s.qQ,.slice qE s.qA.length qC,.slice qI s.qB.length qH]] w (Ret (fun v w' =>v=.bool (dec (zX s))) w):=by
 refine en func34 ntmps34 ?_
 have H:=((St.start w).arg xm).arg qP
 have zt:=qU qP
 have vF:=qU xm
 clear qP xm
 have N:=Fresh.nil w.heap.size
 have p1:=fun h:zN s=>h.2.1
 refine zcr (sw (vK H (yS s qE qC qI qH) fun b1 w2 H=>sp (.bool false) (zjcc (sw (xW (yS s qE qC qI qH) isAgg27 sizeOf27 rfl (qK (H.cells 0 rfl) 0 3) (sw (oq (isShell_ok _ s (H.get 0 rfl).1 (H.get 1 rfl).1) H fun w4 H=>sps [.bool (!(dec (zN s))),.bool (!(dec (zN s)))] ?_)))))))
 cases h6:(!(dec (zN s)))
 ·skip
  replace h6:=xf h6
  replace h6:=jJ h6
  refine qO 9 rfl rfl (oF rfl (qO 9 rfl rfl (oL rfl (H.cell 0 rfl rfl) (qO 9 rfl rfl (oN rfl (qO 9 rfl rfl (sps [.bool (decide ((s.qB.length:Int) > 16)),.bool (decide ((s.qB.length:Int) > 16))] (zjn (cD rfl (fun h7=>?_) (fun h7=>?_))))))))))
  ·skip
   refine zcr (sp (.bool false) (zjr (t_r (ret1 (.bool false) rfl rfl ⟨_,rfl,?_,H.base⟩))))
   rw [qZ (fun h=>by obtain ⟨h1,h2,h3⟩:=h;first | contradiction | omega | (obtain ⟨r1,r2⟩:=h3 k qf;first | contradiction | (have:=Xr (s:=s) (k:=k+1) q1 q2;omega)))]
  refine xh (t_n (zcr (sw (jg [yI 0,yI 0,yI 0,yI 0,yI 0,yI 0] [] (sw (x9 H ti103 [yI 0,yI 0,yI 0,yI 0,yI 0,yI 0] fun b8 w9 H=>sw (xP H 0 [yI 0,yI 0,yI 0,yI 0,yI 0,yI 0] sizeOf103 fun w10 H=>zjcc (oF rfl (oL rfl (H.cell 1 rfl rfl) (oN rfl (sp (yI 0) (zjn (xg ?_)))))))))))))
  have p2:=p1 ‹_›
  refine zH (fun m' ρ w11=>∃ (xU:Env) (k:Nat) (many:yLI),ρ=upd (upd (upd (upd (upd xU 1 (pp b1 0)) 3 (pp b8 0)) 17 (.slice qI s.qB.length qH)) 18 (yI s.qB.length)) 19 (yI k)∧many=counts6 s k∧((k:Int)≤s.qB.length)∧(RulesTo s k)∧m' =(s.qB.length - (k:Int)).toNat∧Fresh w.heap.size []∧St w w11 [.box b8 (many.map (Value.int .i64)) 103,.box b1 (yS s qE qC qI qH) 27] [sF false qV qE qC s.qA,sF false xx qI qH s.qB]) ((s.qB.length - (0:Int)).toNat) ⟨_,0,[0,0,0,0,0,0],uE5,(by exact counts6_zero s),qf,qx,rfl,N,H⟩ ?_
  clear H N
  rintro m' ρ w12 ⟨xU,k,many,rfl,rfl,i0,i1,rfl,N,H⟩
  refine zcr (sp (.bool (decide ((k:Int) < s.qB.length))) (zjn (x8 (cD rfl (fun h13=>?_) (fun h13=>?_)))))
  ·skip
   refine xh (t_n (x8 (xg (zcr ?_))))
   obtain ⟨b14,o15,rfl⟩:=H.addr 1 rfl qf
   obtain ⟨ae17Need,ce17Need,Fe17Need,ae17Have,ce17Have,Fe17Have,ae17Lack,ce17Lack,Fe17Lack,ae17Here,ce17Here,Fe17Here,ae17Out,ce17Out,Fe17Out,ae17Into,ce17Into,Fe17Into,H⟩:=H.Qv 1 rfl k k qf qf qf
   refine oI rfl rfl (sw (xW [yI ((s.qB[k]!).qF),yI ((s.qB[k]!).zM),.slice ae17Need (((s.qB[k]!).xu).length) ce17Need,.slice ae17Have (((s.qB[k]!).xM).length) ce17Have,.slice ae17Lack (((s.qB[k]!).xK).length) ce17Lack,.slice ae17Here (((s.qB[k]!).xF).length) ce17Here,.slice ae17Out (((s.qB[k]!).zI).length) ce17Out,.slice ae17Into (((s.qB[k]!).qL).length) ce17Into,.bool ((s.qB[k]!).xR)] isAgg49 sizeOf49 rfl (qK (H.get 6 rfl) 0 9) ?_))
   refine sw (x9 H ti49 [yI 0,yI 0,yN,yN,yN,yN,yN,yN,.bool false] fun b18 w19 H=>sw (xP H 0 [yI ((s.qB[k]!).qF),yI ((s.qB[k]!).zM),.slice ae17Need (((s.qB[k]!).xu).length) ce17Need,.slice ae17Have (((s.qB[k]!).xM).length) ce17Have,.slice ae17Lack (((s.qB[k]!).xK).length) ce17Lack,.slice ae17Here (((s.qB[k]!).xF).length) ce17Here,.slice ae17Out (((s.qB[k]!).zI).length) ce17Out,.slice ae17Into (((s.qB[k]!).qL).length) ce17Into,.bool ((s.qB[k]!).xR)] sizeOf49 fun w20 H=>?_))
   refine zjcc (sw (xW [yI s.qQ,.slice qE s.qA.length qC,.slice (aa b14 o15) s.qB.length qH] isAgg27 sizeOf27 rfl (qK (H.cells 2 rfl) 0 3) ?_))
   refine sw (xW [yI ((s.qB[k]!).qF),yI ((s.qB[k]!).zM),.slice ae17Need (((s.qB[k]!).xu).length) ce17Need,.slice ae17Have (((s.qB[k]!).xM).length) ce17Have,.slice ae17Lack (((s.qB[k]!).xK).length) ce17Lack,.slice ae17Here (((s.qB[k]!).xF).length) ce17Here,.slice ae17Out (((s.qB[k]!).zI).length) ce17Out,.slice ae17Into (((s.qB[k]!).qL).length) ce17Into,.bool ((s.qB[k]!).xR)] isAgg49 sizeOf49 rfl (qK (H.cells 0 rfl) 0 9) ?_)
   refine sw (oq (isRule_ok _ s (s.qB[k]!) (H.get 7 rfl).1 (H.get 8 rfl).1 (H.get 0 rfl).1 (H.get 1 rfl).1 (H.get 2 rfl).1 (H.get 3 rfl).1 (H.get 4 rfl).1 (H.get 5 rfl).1 qg) H fun w22 H=>?_)
   have q:=fun h:RuleOk s (s.qB[k]!)=>(show 0≤(s.qB[k]!).qF∧(s.qB[k]!).qF≤5 from ⟨h.1.1,by have:=h.1.2;omega⟩)
   refine sp (.bool (!(dec (RuleOk s (s.qB[k]!))))) (zjn (cQ rfl (fun h24=>?_) (fun h24=>?_)))
   ·skip
    refine zcr (sp (.bool false) (zjr (t_r (zr5 (ret1 (.bool false) rfl rfl ⟨_,rfl,?_,H.base⟩)))))
    rw [qZ (fun h=>by obtain ⟨h1,h2,h3⟩:=h;first | contradiction | omega | (obtain ⟨r1,r2⟩:=h3 k qf;first | contradiction | (have:=Xr (s:=s) (k:=k+1) q1 q2;omega)))]
   obtain ⟨q1,q2⟩:=q ‹_›
   have q3:=Xr (s:=s) (k:=k) q1 q2
   have q4:=ofCell_bd s.qB (s.qB[k]!).qF k
   refine xh (t_n (zcr (oF rfl (oL rfl (H.cell 0 rfl rfl) (sw (o_idxArr ((s.qB[k]!).qF) underlying103 ti3 rfl rfl qf qf (oL rfl (H.cell 1 rfl (ints_at (iv:=(s.qB[k]!).qF) (i:=(((s.qB[k]!).qF).toNat)) qf (by simp only [List.length_set,List.length_cons,List.length_nil,counts6_len];omega))) (sw (zB ((counts6 s k)[((s.qB[k]!).qF).toNat]!) 1 rfl rfl qf (sw (o_idxArr ((s.qB[k]!).qF) underlying103 ti3 rfl rfl qf qf ?_)))))))))))
   refine sw (o_storeArr H 1 rfl (((counts6 s k)[((s.qB[k]!).qF).toNat]!)+1) sizeOf3 rfl rfl (i:=(((s.qB[k]!).qF).toNat)) qf (by simp only [List.length_set,List.length_cons,List.length_nil,counts6_len];omega) fun w25 H=>?_)
   rw [counts6_succ q1 q2] at H
   refine zjc (oF rfl (oL rfl (H.cell 0 rfl rfl) (sw (o_idxArr ((s.qB[k]!).qF) underlying103 ti3 rfl rfl qf qf (oL rfl (H.cell 1 rfl (ints_at (iv:=(s.qB[k]!).qF) (i:=(((s.qB[k]!).qF).toNat)) qf (by simp only [List.length_set,List.length_cons,List.length_nil,counts6_len];omega))) (sp (.bool (decide (((counts6 s (k+1))[((s.qB[k]!).qF).toNat]! :Int) > 8))) (zjn (cD rfl (fun h26=>?_) (fun h26=>?_)))))))))
   ·skip
    refine zcr (sp (.bool false) (zjr (zr5 (ret1 (.bool false) rfl rfl ⟨_,rfl,?_,H.base⟩))))
    rw [qZ (fun h=>by obtain ⟨h1,h2,h3⟩:=h;first | contradiction | omega | (obtain ⟨r1,r2⟩:=h3 k qf;first | contradiction | (have:=Xr (s:=s) (k:=k+1) q1 q2;omega)))]
   refine xh (b_n (t_n (xZ (sw (zB k 1 rfl rfl qf (sp (yI (k+1)) (zi (xq (m' :=(s.qB.length - ((k+1):Int)).toNat) qf ⟨_,k+1,counts6 s (k+1),uE5,?_,?_,?_,rfl,N,H.pick [1,2] [7,8]⟩))))))))
   · rfl
   · omega
   · exact i1.succ ‹_› (by have:=Xr (s:=s) (k:=k+1) q1 q2;omega)
  refine zx4 (zcr (sp (.bool true) (zjr (ret1 (.bool true) rfl rfl ⟨_,rfl,?_,H.base⟩))))
  rw [jL ⟨by assumption,by omega,(show s.qB.length=k by omega)▸i1⟩]
 replace h6:=xw h6
 replace h6:=zo h6
 refine xO [10,11,12,13] (sp (.bool true) (zjn (xI true rfl (fun _=>zcr (sp (.bool false) (zjr (t_r (ret1 (.bool false) rfl rfl ⟨_,rfl,?_,H.base⟩))))) (fun h=>absurd h qj))))
 rw [qZ (fun h=>by obtain ⟨h1,h2,h3⟩:=h;first | contradiction | omega | (obtain ⟨r1,r2⟩:=h3 k qf;first | contradiction | (have:=Xr (s:=s) (k:=k+1) q1 q2;omega)))]

theorem validState_ok (w:World) (s:qG) (t:qR) {qE:yOA} {qV:yLN} {qI:yOA} {xx:yLN} {xk:yOA} {zF:yLN} {xJ:yOA} {vM:yLN} {qY:yOA} {zf:yLN} (qP:qW.rep w qV [.slice qE s.qA.length qC] s.qA) (xm:qW.rep w xx [.slice qI s.qB.length qH] s.qB) (zu:qW.rep w zF [.slice xk t.qJ.length xe] t.qJ) (zW:qW.rep w vM [.slice xJ t.qN.length xG] t.qN) (xY:qW.rep w zf [.slice qY t.qM.length qX] t.qM):Calls Tryz.prog 18 #[.agg #[yI s.qQ,.slice qE s.qA.length qC,.slice qI s.qB.length qH],.agg #[.slice xk t.qJ.length xe,.slice xJ t.qN.length xG,.slice qY t.qM.length qX]] w (Ret (fun v w' =>v=.bool (dec (zX s∧xQ s t))) w):=by
 refine en func18 ntmps18 ?_
 have H:=(((((St.start w).arg xY).arg zW).arg zu).arg xm).arg qP
 have zt:=qU qP
 have vF:=qU xm
 have Ql:=qU zu
 have Xq:=qU zW
 have yG:=qU xY
 clear qP xm zu zW xY
 have N:=Fresh.nil w.heap.size
 refine zcr (sw (vK H (yS s qE qC qI qH) fun b1 w2 H=>sw (vK H (yT t xk xe xJ xG qY qX) fun b3 w4 H=>sp (.bool false) (zjcc (sw (xW (yS s qE qC qI qH) isAgg27 sizeOf27 rfl (qK (H.cells 1 rfl) 0 3) (sw (oq (validSystem_ok _ s (H.get 0 rfl).1 (H.get 1 rfl).1) H fun w6 H=>sps [.bool (!(dec (zX s))),.bool (!(dec (zX s)))] ?_))))))))
 cases h8:(!(dec (zX s)))
 ·skip
  replace h8:=xf h8
  replace h8:=jJ h8
  have z1:=(‹zX s›:zX s).1.2.1
  refine qO 10 rfl rfl (oF rfl (qO 10 rfl rfl (oL rfl (H.cell 0 rfl rfl) (qO 10 rfl rfl (oN rfl (qO 10 rfl rfl (oF rfl (qO 10 rfl rfl (oL rfl (H.cell 1 rfl rfl) (qO 10 rfl rfl (oN rfl (qO 10 rfl rfl (sps [.bool ((t.qJ.length:Int) != s.qA.length),.bool ((t.qJ.length:Int) != s.qA.length),.bool ((t.qJ.length:Int) != s.qA.length)] ?_)))))))))))))
  cases h9:((t.qJ.length:Int) != s.qA.length)
  ·skip
   replace h9:=vW h9
   refine qO 19 rfl rfl (oF rfl (qO 19 rfl rfl (oL rfl (H.cell 0 rfl rfl) (qO 19 rfl rfl (oN rfl (qO 19 rfl rfl (oF rfl (qO 19 rfl rfl (oL rfl (H.cell 1 rfl rfl) (qO 19 rfl rfl (oN rfl (qO 19 rfl rfl (sps [.bool ((t.qN.length:Int) != s.qA.length),.bool ((t.qN.length:Int) != s.qA.length),.bool ((t.qN.length:Int) != s.qA.length)] ?_)))))))))))))
   cases h10:((t.qN.length:Int) != s.qA.length)
   ·skip
    replace h10:=vW h10
    refine qO 28 rfl rfl (oF rfl (qO 28 rfl rfl (oL rfl (H.cell 0 rfl rfl) (qO 28 rfl rfl ?_))))
    obtain ⟨b11,o12,rfl⟩:=H.addr 2 rfl qf
    refine oI rfl rfl (qO 28 rfl rfl (oL rfl (H.elemBool 2 rfl 0 qf qf) (qO 28 rfl rfl (sps [.bool (!(t.qJ[0]!)),.bool (!(t.qJ[0]!)),.bool (!(t.qJ[0]!))] ?_))))
    cases h14:(!(t.qJ[0]!))
    ·skip
     replace h14:=xf h14
     refine qO 35 rfl rfl (oF rfl (qO 35 rfl rfl (oL rfl (H.cell 1 rfl rfl) (qO 35 rfl rfl (oF rfl (qO 35 rfl rfl (oL rfl (H.cell 0 rfl rfl) (qO 35 rfl rfl (sw (oq (validBag_ok _ s.qQ t.qM (H.get 4 rfl).1) H fun w15 H=>qO 35 rfl rfl (sps [.bool (!(dec (zy s.qQ t.qM))),.bool (!(dec (zy s.qQ t.qM)))] (zjn (cQ rfl (fun h17=>?_) (fun h17=>?_))))))))))))))
     ·skip
      refine zcr (sp (.bool false) (zjr (t_r (ret1 (.bool false) rfl rfl ⟨_,rfl,?_,H.base⟩))))
      rw [qZ (fun h=>by obtain ⟨h0,h1,h2,h3,h4,h5⟩:=h;first | contradiction | omega | (simp_all;done) | (obtain ⟨q1,q2⟩:=h5 c qf;first | contradiction | (have:=q2 ql;omega)))]
     refine xh (t_n (zcc (oF rfl (oL rfl (H.cell 0 rfl rfl) (oN rfl (sp (yI 0) (zjn (xg ?_))))))))
     refine zH (fun m' ρ w18=>∃ (xU:Env) (c:Nat),ρ=upd (upd (upd (upd (upd xU 2 (pp b1 0)) 3 (pp b3 0)) 44 (.slice xJ t.qN.length xG)) 45 (yI t.qN.length)) 46 (yI c)∧((c:Int)≤t.qN.length)∧(BagsTo s t c)∧m' =(t.qN.length - (c:Int)).toNat∧Fresh w.heap.size []∧St w w18 [.box b3 [.slice (aa b11 o12) t.qJ.length xe,.slice xJ t.qN.length xG,.slice qY t.qM.length qX] 31,.box b1 (yS s qE qC qI qH) 27] [sF false qV qE qC s.qA,sF false xx qI qH s.qB,sF false zF (aa b11 o12) xe t.qJ,sF false vM xJ xG t.qN,sF false zf qY qX t.qM]) ((t.qN.length - (0:Int)).toNat) ⟨_,0,uE5,qf,qx,rfl,N,H⟩ ?_
     clear H N
     rintro m' ρ w19 ⟨xU,c,rfl,i0,i1,rfl,N,H⟩
     refine zcr (sp (.bool (decide ((c:Int) < t.qN.length))) (zjn (x8 (cD rfl (fun h20=>?_) (fun h20=>?_)))))
     ·skip
      refine xh (t_n (x8 (xg (zcr (sp (yI c) ?_)))))
      obtain ⟨b21,o22,rfl⟩:=H.addr 3 rfl qf
      obtain ⟨ae24,ce24,Fe24,H⟩:=H.vV 3 rfl c c qf qf qf
      refine oI rfl rfl (oL rfl (H.zh 1 rfl 0 rfl) (sps [yI c,.slice ae24 ((t.qN[c]!).length) ce24] (zjc (oF rfl (oL rfl (H.cell 1 rfl rfl) (sp (.slice ae24 ((t.qN[c]!).length) ce24) (sw (oq (validBag_ok _ s.qQ (t.qN[c]!) (H.get 0 rfl).1) H fun w25 H=>sps [.bool (!(dec (zy s.qQ (t.qN[c]!)))),.bool (!(dec (zy s.qQ (t.qN[c]!))))] ?_))))))))
      cases h27:(!(dec (zy s.qQ (t.qN[c]!))))
      ·skip
       replace h27:=xf h27
       replace h27:=jJ h27
       refine qO 56 rfl rfl (oF rfl (qO 56 rfl rfl (oL rfl (H.cell 0 rfl rfl) (qO 56 rfl rfl (sp (yI c) (qO 56 rfl rfl (oI rfl rfl (qO 56 rfl rfl (oL rfl (H.elemBool 4 rfl c qf qf) (qO 56 rfl rfl (sp (.bool (!(t.qJ[c]!))) (qO 56 rfl rfl (sp (.bool (!(t.qJ[c]!))) ?_)))))))))))))
       cases h28:(!(t.qJ[c]!))
       ·skip
        replace h28:=xf h28
        refine xO [64,65,66] (qO 56 rfl rfl (sps [.bool false,.bool false] (zjn (xI false rfl (fun h=>absurd h qj) (fun _=>xh (b_n (t_n (xZ (sw (zB c 1 rfl rfl qf (sp (yI (c+1)) (zi (xq (m' :=(t.qN.length - ((c+1):Int)).toNat) qf ⟨_,c+1,uE5,?_,?_,rfl,N,H.pick [0,1] [2,3,4,5,6]⟩)))))))))))))
        · omega
        · exact i1.succ ‹_› (fun hk=>by first | omega | simp_all)
       replace h28:=xw h28
       refine qO 63 rfl rfl (sp (.slice ae24 ((t.qN[c]!).length) ce24) (qO 63 rfl rfl (sw (oq (bagSize_ok _ (t.qN[c]!) (H.get 0 rfl).1 (by first | assumption | exact vY ql | exact yY ql)) H fun w29 H=>qO 63 rfl rfl (sp (.bool (decide ((Xc (t.qN[c]!):Int) > 0))) (qO 56 rfl rfl (sps [.bool (decide ((Xc (t.qN[c]!):Int) > 0)),.bool (decide ((Xc (t.qN[c]!):Int) > 0))] (zjn (cD rfl (fun h31=>?_) (fun h31=>?_))))))))))
       ·skip
        refine zcr (sp (.bool false) (zjr (zr5 (ret1 (.bool false) rfl rfl ⟨_,rfl,?_,H.base⟩))))
        rw [qZ (fun h=>by obtain ⟨h0,h1,h2,h3,h4,h5⟩:=h;first | contradiction | omega | (simp_all;done) | (obtain ⟨q1,q2⟩:=h5 c qf;first | contradiction | (have:=q2 ql;omega)))]
       refine xh (b_n (t_n (xZ (sw (zB c 1 rfl rfl qf (sp (yI (c+1)) (zi (xq (m' :=(t.qN.length - ((c+1):Int)).toNat) qf ⟨_,c+1,uE5,?_,?_,rfl,N,H.pick [0,1] [2,3,4,5,6]⟩))))))))
       · omega
       · exact i1.succ ‹_› (fun hk=>by first | omega | simp_all)
      replace h27:=xw h27
      replace h27:=zo h27
      refine xO [57,58,59,60,61,62,63,64,65,66,67] (sp (.bool true) (zjn (xI true rfl (fun _=>zcr (sp (.bool false) (zjr (zr5 (ret1 (.bool false) rfl rfl ⟨_,rfl,?_,H.base⟩))))) (fun h=>absurd h qj))))
      rw [qZ (fun h=>by obtain ⟨h0,h1,h2,h3,h4,h5⟩:=h;first | contradiction | omega | (simp_all;done) | (obtain ⟨q1,q2⟩:=h5 c qf;first | contradiction | (have:=q2 ql;omega)))]
     refine zx4 (zcr (sp (.bool true) (zjr (ret1 (.bool true) rfl rfl ⟨_,rfl,?_,H.base⟩))))
     rw [jL ⟨by assumption,by omega,by omega,by first | assumption | simp_all,by assumption,(show t.qN.length=c by omega)▸i1⟩]
    replace h14:=xw h14
    refine xO [36,37,38,39,40,41] (sp (.bool true) (zjn (xI true rfl (fun _=>zcr (sp (.bool false) (zjr (t_r (ret1 (.bool false) rfl rfl ⟨_,rfl,?_,H.base⟩))))) (fun h=>absurd h qj))))
    rw [qZ (fun h=>by obtain ⟨h0,h1,h2,h3,h4,h5⟩:=h;first | contradiction | omega | (simp_all;done) | (obtain ⟨q1,q2⟩:=h5 c qf;first | contradiction | (have:=q2 ql;omega)))]
   replace h10:=bne_iff_ne.1 h10
   refine xO [29,30,31,32,33] (sps [.bool true,.bool true] (xO [36,37,38,39,40,41] (sp (.bool true) (zjn (xI true rfl (fun _=>zcr (sp (.bool false) (zjr (t_r (ret1 (.bool false) rfl rfl ⟨_,rfl,?_,H.base⟩))))) (fun h=>absurd h qj))))))
   rw [qZ (fun h=>by obtain ⟨h0,h1,h2,h3,h4,h5⟩:=h;first | contradiction | omega | (simp_all;done) | (obtain ⟨q1,q2⟩:=h5 c qf;first | contradiction | (have:=q2 ql;omega)))]
  replace h9:=bne_iff_ne.1 h9
  refine xO [20,21,22,23,24,25,26] (sps [.bool true,.bool true] (xO [29,30,31,32,33] (sps [.bool true,.bool true] (xO [36,37,38,39,40,41] (sp (.bool true) (zjn (xI true rfl (fun _=>zcr (sp (.bool false) (zjr (t_r (ret1 (.bool false) rfl rfl ⟨_,rfl,?_,H.base⟩))))) (fun h=>absurd h qj))))))))
  rw [qZ (fun h=>by obtain ⟨h0,h1,h2,h3,h4,h5⟩:=h;first | contradiction | omega | (simp_all;done) | (obtain ⟨q1,q2⟩:=h5 c qf;first | contradiction | (have:=q2 ql;omega)))]
 replace h8:=xw h8
 replace h8:=zo h8
 refine xO [11,12,13,14,15,16,17] (sps [.bool true,.bool true] (xO [20,21,22,23,24,25,26] (sps [.bool true,.bool true] (xO [29,30,31,32,33] (sps [.bool true,.bool true] (xO [36,37,38,39,40,41] (sp (.bool true) (zjn (xI true rfl (fun _=>zcr (sp (.bool false) (zjr (t_r (ret1 (.bool false) rfl rfl ⟨_,rfl,?_,H.base⟩))))) (fun h=>absurd h qj))))))))))
 rw [qZ (fun h=>by obtain ⟨h0,h1,h2,h3,h4,h5⟩:=h;first | contradiction | omega | (simp_all;done) | (obtain ⟨q1,q2⟩:=h5 c qf;first | contradiction | (have:=q2 ql;omega)))]

theorem parentNow_ok (w:World) (s:qG) (t:qR) (c:Int) {qE:yOA} {qV:yLN} {qI:yOA} {xx:yLN} {xk:yOA} {zF:yLN} {xJ:yOA} {vM:yLN} {qY:yOA} {zf:yLN} (qP:qW.rep w qV [.slice qE s.qA.length qC] s.qA) (xm:qW.rep w xx [.slice qI s.qB.length qH] s.qB) (zu:qW.rep w zF [.slice xk t.qJ.length xe] t.qJ) (zW:qW.rep w vM [.slice xJ t.qN.length xG] t.qN) (xY:qW.rep w zf [.slice qY t.qM.length qX] t.qM) (p0:zN s) (p1:y8 s c) (p2:t.qJ.length=s.qA.length):Calls Tryz.prog 85 #[.agg #[yI s.qQ,.slice qE s.qA.length qC,.slice qI s.qB.length qH],.agg #[.slice xk t.qJ.length xe,.slice xJ t.qN.length xG,.slice qY t.qM.length qX],yI c] w (Ret (fun v w' =>v=yI (xn s t c)) w):=by
 refine en func85 ntmps85 ?_
 have H:=(((((St.start w).arg xY).arg zW).arg zu).arg xm).arg qP
 have zt:=qU qP
 have vF:=qU xm
 have Ql:=qU zu
 have Xq:=qU zW
 have yG:=qU xY
 clear qP xm zu zW xY
 have N:=Fresh.nil w.heap.size
 have p3:=p0.step p1.1 p1.2
 refine zcr (sw (vK H (yS s qE qC qI qH) fun b1 w2 H=>sw (vK H (yT t xk xe xJ xG qY qX) fun b3 w4 H=>sp (yI 0) (zjc (oF rfl (oL rfl (H.cell 1 rfl rfl) (sp (yI c) ?_)))))))
 obtain ⟨b5,o6,rfl⟩:=H.addr 0 rfl qf
 refine oI rfl rfl (oL rfl (H.ji 0 rfl c qf qf) (sp (yI (s.qA[c.toNat]!)) (zjn (x8 (xg ?_)))))
 refine zH (fun m' ρ w8=>∃ (xU:Env) (p:Int) (n:Nat),ρ=upd (upd (upd xU 3 (pp b1 0)) 4 (pp b3 0)) 7 (yI p)∧(-1≤p∧p≤(s.qA.length:Int) - 1)∧(p < n)∧(xn s t c=climb s.qA t.qJ n p)∧m' =(p+1).toNat∧Fresh w.heap.size []∧St w w8 [.box b3 (yT t xk xe xJ xG qY qX) 31,.box b1 [yI s.qQ,.slice (aa b5 o6) s.qA.length qC,.slice qI s.qB.length qH] 27] [sF false qV (aa b5 o6) qC s.qA,sF false xx qI qH s.qB,sF false zF xk xe t.qJ,sF false vM xJ xG t.qN,sF false zf qY qX t.qM]) (((s.qA[c.toNat]!)+1).toNat) ⟨_,s.qA[c.toNat]!,s.qA.length,uE3,qf,qf,(by rfl),rfl,N,H⟩ ?_
 clear H N
 rintro m' ρ w9 ⟨xU,p,n,rfl,i0,i1,i2,rfl,N,H⟩
 have up:=fun h=>p0.step (c:=p) h i0.2
 refine zcc (sps [yI p,.bool (decide ((p:Int)≥0)),.bool (decide ((p:Int)≥0))] ?_)
 cases h10:(decide ((p:Int)≥0))
 ·skip
  replace h10:=of_decide_eq_false h10
  refine xO [16,17,18,19,20,21] (sp (.bool false) (zjn (xI false rfl (fun h=>absurd h qj) (fun _=>zx4 (zcr (sps [yI p,yI p] (zjr (ret1 (yI p) rfl rfl ⟨_,rfl,?_,H.base⟩))))))))
  rw [i2,climb_end (by first | omega | simp_all)]
 replace h10:=of_decide_eq_true h10
 refine qO 15 rfl rfl (oF rfl (qO 15 rfl rfl (oL rfl (H.cell 0 rfl rfl) (qO 15 rfl rfl (sp (yI p) (qO 15 rfl rfl ?_))))))
 obtain ⟨b11,o12,rfl⟩:=H.addr 2 rfl qf
 refine oI rfl rfl (qO 15 rfl rfl (oL rfl (H.elemBool 2 rfl p qf qf) (qO 15 rfl rfl (sps [.bool (!(t.qJ[p.toNat]!)),.bool (!(t.qJ[p.toNat]!))] (zjn (xI (!(t.qJ[p.toNat]!)) rfl (fun h14=>?_) (fun h14=>?_)))))))
 ·skip
  replace h14:=xw h14
  refine xh (t_n (xg (xZ (oF rfl (oL rfl (H.cell 1 rfl rfl) (sp (yI p) (oI rfl rfl (oL rfl (H.ji 0 rfl p qf qf) (sp (yI (s.qA[p.toNat]!)) (zi (b_n ?_)))))))))))
  have up1:=up qf
  refine xq (m' :=((s.qA[p.toNat]!)+1).toNat) qf ⟨_,s.qA[p.toNat]!,n - 1,uE3,?_,?_,?_,rfl,N,H⟩
  · omega
  · omega
  · exact i2.trans (climb_go qf qf ‹_›)
 replace h14:=xf h14
 refine zx4 (zcr (sps [yI p,yI p] (zjr (ret1 (yI p) rfl rfl ⟨_,rfl,?_,H.base⟩))))
 rw [i2,climb_end (by first | omega | simp_all)]

theorem copied_ok (w:World) (t:qR) {xk:yOA} {zF:yLN} {xJ:yOA} {vM:yLN} {qY:yOA} {zf:yLN} (zu:qW.rep w zF [.slice xk t.qJ.length xe] t.qJ) (zW:qW.rep w vM [.slice xJ t.qN.length xG] t.qN) (xY:qW.rep w zf [.slice qY t.qM.length qX] t.qM) (p0:t.qJ.length≤1000000) (p1:t.qM.length≤1000000) (p2:t.qN.length≤1000000) (p3:∀ j,j < t.qN.length→(t.qN[j]!).length≤1000000):Calls Tryz.prog 59 #[.agg #[.slice xk t.qJ.length xe,.slice xJ t.qN.length xG,.slice qY t.qM.length qX]] w (Ret (fun v w' =>∃ (raAlive:yOA) (rnAlive:Nat) (rcAlive:Nat) (raBags:yOA) (rnBags:Nat) (rcBags:Nat) (rxBags:List Value) (rFBags:yLN) (raAround:yOA) (rnAround:Nat) (rcAround:Nat),v=.agg #[.slice raAlive rnAlive rcAlive,.slice raBags rnBags rcBags,.slice raAround rnAround rcAround]∧Fresh w.heap.size [rFBags]∧St w w' [rr raAlive rnAlive rcAlive 4 1 (t.qJ.map (Value.bool)),rr raBags rnBags rcBags 24 1 rxBags,rr raAround rnAround rcAround 2 1 (t.qM.map (Value.int .i64))] [xB true rFBags rxBags t.qN]) w):=by
 refine en func59 ntmps59 ?_
 have H:=(((St.start w).arg xY).arg zW).arg zu
 have Ql:=qU zu
 have Xq:=qU zW
 have yG:=qU xY
 clear zu zW xY
 have N:=Fresh.nil w.heap.size
 refine zcr (sw (vK H (yT t xk xe xJ xG qY qX) fun b1 w2 H=>sw (x9 H ti31 [yN,yN,yN] fun b3 w4 H=>zjn (x8 ?_))))
 refine c_cut (fun ρ w10=>∃ (xU:Env) (b5:Nat) (ra6:yOA) (rc7:Nat) (a8:yOA) (c9:Nat),ρ=upd (upd (upd xU 1 (pp b1 0)) 2 (pp b3 0)) 3 (pp b5 0)∧Fresh w.heap.size []∧St w w10 [.box b5 [.slice ra6 t.qJ.length rc7,yN,.slice a8 t.qM.length c9] 31,rr a8 t.qM.length c9 2 1 (t.qM.map (Value.int .i64)),rr ra6 t.qJ.length rc7 4 1 (t.qJ.map (Value.bool)),.box b3 [yN,yN,yN] 31,.box b1 (yT t xk xe xJ xG qY qX) 31] [sF false zF xk xe t.qJ,sF false vM xJ xG t.qN,sF false zf qY qX t.qM]) ?_ ?_
 ·skip
  refine yf rfl H fun H=>tF 0 rfl rfl H ?_
  refine tL 1 rfl rfl (fun _ h=>h.cell 1 rfl rfl) H ?_
  refine tF 3 rfl rfl H ?_
  refine tL 4 rfl rfl (fun _ h=>h.cell 1 rfl rfl) H ?_
  refine jd [2,7] qh qm (jI rfl ?_ (jI rfl ?_ je))
  ·skip
   have sz15:=H.base.size
   refine oc (cloneB_ok _ t.qJ (H.get 0 rfl).1 qg) ?_
   rintro _ w13 ⟨ra12,rn12,rc12,rfl,M,K⟩ _
   replace H:=H.merge K M
   obtain rfl:=H.rowNB 0 rfl
   refine ⟨H.pick [1,2] [0,1,2],(jd [5,7] qh qm (jI rfl ?_ (jI rfl ?_ je)))⟩
   ·skip
    have sz18:=H.base.size
    refine oc (cloneI_ok _ t.qM (H.get 2 rfl).1 qg) ?_
    rintro v23 w21 r23 x22
    replace H:=H.jw x22 r23
    obtain ⟨a24,c25,rfl,hc26,hm27⟩:=H.Qw 0 rfl
    refine ⟨H.pick [2,3] [0,1,2],(jd [6,7] qh qm (jI rfl ?_ (jI rfl ?_ je)))⟩
    ·skip
     refine jg [.slice ra12 t.qJ.length rc12,yN,.slice a24 t.qM.length c25] [(0,.slice ra12 t.qJ.length rc12),(2,.slice a24 t.qM.length c25)] (⟨H.pick [2,3] [0,1,2],(ro 7 rfl (x9 H ti31 [yN,yN,yN] fun b28 w29 H=>⟨H.pick [3,4] [0,1,2],(ro 8 rfl (xP H 0 [.slice ra12 t.qJ.length rc12,yN,.slice a24 t.qM.length c25] sizeOf31 fun w30 H=>⟨H.pick [3,4] [0,1,2],(xH qh ((meet ⟨_,b28,ra12,rc12,a24,c25,uE3,N,H⟩)))⟩))⟩))⟩)
    refine x9 H ti31 [yN,yN,yN] fun b31 w32 H=>⟨H.pick [3,4] [0,1,2],(ro 6 rfl (jg [.slice ra12 t.qJ.length rc12,yN,.slice a24 t.qM.length c25] [(0,.slice ra12 t.qJ.length rc12),(2,.slice a24 t.qM.length c25)] (⟨H.pick [3,4] [0,1,2],(ro 8 rfl (xP H 0 [.slice ra12 t.qJ.length rc12,yN,.slice a24 t.qM.length c25] sizeOf31 fun w33 H=>⟨H.pick [3,4] [0,1,2],(xH qh ((meet ⟨_,b31,ra12,rc12,a24,c25,uE3,N,H⟩)))⟩))⟩)))⟩
   refine x9 H ti31 [yN,yN,yN] fun b34 w35 H=>⟨H.pick [2,3] [0,1,2],(ro 5 rfl ?_)⟩
   have sz36:=H.base.size
   refine oc (cloneI_ok _ t.qM (H.get 2 rfl).1 qg) ?_
   rintro v41 w39 r41 x40
   replace H:=H.jw x40 r41
   obtain ⟨a42,c43,rfl,hc44,hm45⟩:=H.Qw 0 rfl
   refine ⟨H.pick [3,4] [0,1,2],(ro 6 rfl (jg [.slice ra12 t.qJ.length rc12,yN,.slice a42 t.qM.length c43] [(0,.slice ra12 t.qJ.length rc12),(2,.slice a42 t.qM.length c43)] (⟨H.pick [3,4] [0,1,2],(ro 8 rfl (xP H 1 [.slice ra12 t.qJ.length rc12,yN,.slice a42 t.qM.length c43] sizeOf31 fun w46 H=>⟨H.pick [3,4] [0,1,2],(xH qh ((meet ⟨_,b34,ra12,rc12,a42,c43,uE3,N,H.pick [1,0,2,3,4] [0,1,2]⟩)))⟩))⟩)))⟩
  refine x9 H ti31 [yN,yN,yN] fun b47 w48 H=>⟨H.pick [1,2] [0,1,2],(ro 2 rfl ?_)⟩
  have sz52:=H.base.size
  refine oc (cloneB_ok _ t.qJ (H.get 0 rfl).1 qg) ?_
  rintro _ w50 ⟨ra49,rn49,rc49,rfl,M,K⟩ _
  replace H:=H.merge K M
  obtain rfl:=H.rowNB 0 rfl
  refine ⟨H.pick [2,3] [0,1,2],(ro 5 rfl ?_)⟩
  have sz55:=H.base.size
  refine oc (cloneI_ok _ t.qM (H.get 2 rfl).1 qg) ?_
  rintro v60 w58 r60 x59
  replace H:=H.jw x59 r60
  obtain ⟨a61,c62,rfl,hc63,hm64⟩:=H.Qw 0 rfl
  refine ⟨H.pick [3,4] [0,1,2],(ro 6 rfl (jg [.slice ra49 t.qJ.length rc49,yN,.slice a61 t.qM.length c62] [(0,.slice ra49 t.qJ.length rc49),(2,.slice a61 t.qM.length c62)] (⟨H.pick [3,4] [0,1,2],(ro 8 rfl (xP H 2 [.slice ra49 t.qJ.length rc49,yN,.slice a61 t.qM.length c62] sizeOf31 fun w65 H=>⟨H.pick [3,4] [0,1,2],(xH qh ((meet ⟨_,b47,ra49,rc49,a61,c62,uE3,N,H.pick [2,0,1,3,4] [0,1,2]⟩)))⟩))⟩)))⟩
 clear H N
 rintro ρ w66 ⟨xU,b5,ra6,rc7,a8,c9,rfl,N,H⟩
 refine t_n (zcc (oF rfl (oL rfl (H.cell 4 rfl rfl) (oN rfl (sp (yI 0) (zjn (xg ?_)))))))
 replace H:=H.nilRow 24 1
 replace H:=H.QD (α:=yLI)
 refine zH (fun m' ρ w67=>∃ (xU:Env) (k:Nat) (Xb:yOA) (yc:Nat) (QY:Nat) (out_Bags:yLL) (yF:List Value) (jq:yLN),ρ=upd (upd (upd (upd (upd xU 2 (pp b3 0)) 3 (pp b5 0)) 14 (.slice xJ t.qN.length xG)) 15 (yI t.qN.length)) 16 (yI k)∧out_Bags=t.qN.take k∧((k:Int)≤t.qN.length)∧m' =(t.qN.length - (k:Int)).toNat∧Fresh w.heap.size [jq]∧St w w67 [rr Xb yc QY 24 1 yF,.box b5 [.slice ra6 t.qJ.length rc7,.slice Xb yc QY,.slice a8 t.qM.length c9] 31,rr a8 t.qM.length c9 2 1 (t.qM.map (Value.int .i64)),rr ra6 t.qJ.length rc7 4 1 (t.qJ.map (Value.bool)),.box b3 [yN,yN,yN] 31,.box b1 (yT t xk xe xJ xG qY qX) 31] [xB true jq yF out_Bags,sF false zF xk xe t.qJ,sF false vM xJ xG t.qN,sF false zf qY qX t.qM]) ((t.qN.length - (0:Int)).toNat) ⟨_,0,none,0,0,([]:yLL),[],[],uE5,(by rfl),qf,rfl,N.emp,H⟩ ?_
 clear H N
 rintro m' ρ w68 ⟨xU,k,Xb,yc,QY,out_Bags,yF,jq,rfl,rfl,i0,rfl,N,H⟩
 have hn_out_Bags:=H.zO (α:=yLI) 0 rfl 0 rfl qj
 have p4:=p3 k
 rw [List.length_take_of_le qf] at hn_out_Bags
 refine zcr (sp (.bool (decide ((k:Int) < t.qN.length))) (zjn (x8 (cD rfl (fun h69=>?_) (fun h69=>?_)))))
 ·skip
  refine xh (t_n (x8 (xg (zcr ?_))))
  obtain ⟨b70,o71,rfl⟩:=H.addr 2 rfl qf
  obtain ⟨ae73,ce73,Fe73,H⟩:=H.vV 2 rfl k k qf qf qf
  refine oI rfl rfl (oL rfl (H.zh 1 rfl 0 rfl) (sp (.slice ae73 ((t.qN[k]!).length) ce73) (zjn ?_)))
  refine c_cut (fun ρ w79=>∃ (xU:Env) (a74:yOA) (c75:Nat) (a76:yOA) (c77:Nat) (G78:yLN),ρ=upd (upd (upd (upd (upd xU 2 (pp b3 0)) 3 (pp b5 0)) 14 (.slice (aa b70 o71) t.qN.length xG)) 15 (yI t.qN.length)) 16 (yI k)∧Fresh w.heap.size [(jq++G78)]∧St w w79 [rr a74 (yc+1) c75 24 1 (yF++[.slice a76 ((t.qN[k]!).length) c77]),.box b5 [.slice ra6 t.qJ.length rc7,.slice a74 (yc+1) c75,.slice a8 t.qM.length c9] 31,rr a8 t.qM.length c9 2 1 (t.qM.map (Value.int .i64)),rr ra6 t.qJ.length rc7 4 1 (t.qJ.map (Value.bool)),.box b3 [yN,yN,yN] 31,.box b1 [.slice xk t.qJ.length xe,.slice (aa b70 o71) t.qN.length xG,.slice qY t.qM.length qX] 31] [xB true (jq++G78) (yF++[.slice a76 ((t.qN[k]!).length) c77]) ((t.qN.take k)++[(t.qN[k]!)]),sF true G78 a76 c77 (t.qN[k]!),sF false Fe73 ae73 ce73 (t.qN[k]!),atF b70 (o71+(k:Int).toNat * 1) [.slice ae73 ((t.qN[k]!).length) ce73],sF false zF xk xe t.qJ,sF false vM (aa b70 o71) xG t.qN,sF false zf qY qX t.qM]) ?_ ?_
  ·skip
   refine Qo rfl H [2,3,4,5] fun H=>?_
   have S:=H.jm [2,3,4,5] [0,1,2,3,4,5]
   refine tF 0 rfl rfl S ?_
   refine rtp 2 (.slice ae73 ((t.qN[k]!).length) ce73) S ?_
   refine jd [1,3] qh qm (jI rfl ?_ (jI rfl ?_ je))
   ·skip
    refine xX (.slice Xb yc QY) isAgg29 rfl (H.cell 1 rfl rfl) (⟨H.pick [2,3,4,5] [0,1,2,3,4,5],(ro 3 rfl ?_)⟩)
    have sz81:=H.base.size
    have lt82:=H.ltN (L:=[jq]) [2]
    refine oc (cloneI_ok _ (t.qN[k]!) (H.get 0 rfl).1 qg) ?_
    rintro v86 w84 r86 x85
    replace H:=H.jw x85 r86
    obtain ⟨a87,c88,rfl,hc89,hm90⟩:=H.Qw 0 rfl
    refine ⟨H.pick [3,4,5,6] [0,1,2,3,4,5],(ro 4 rfl (zA H underlying29 ti24 [.slice a87 ((t.qN[k]!).length) c88] fun b91 w92 H=>⟨H.pick [4,5,6,7] [0,1,2,3,4,5],(ro 5 rfl ?_)⟩))⟩
    obtain ⟨G96,N,hn97,H⟩:=H.vG 1 rfl N (H.yg [2])
    refine zL H 2 rfl 0 rfl underlying29 ti24 rfl qj rfl rfl rfl qw qp qf fun a93 c94 w95 H=>?_
    replace H:=H.repsSnoc 3 rfl 0 rfl
    replace N:Fresh w.heap.size [(jq++G96)]:=(N.pick [1,0]).join
    refine ⟨H.pick [4,5,6,7] [2,3,4,5,6,7],(tF 6 rfl rfl (H.pick [4,5,6,7] [2,3,4,5,6,7]) ?_)⟩
    refine ro 7 rfl (zU H 3 [.slice ra6 t.qJ.length rc7,.slice a93 (yc+1) c94,.slice a8 t.qM.length c9] sizeOf29 fun w98 H=>⟨H.pick [4,5,6,7] [2,3,4,5,6,7],(xH qh ((meet ⟨_,a93,c94,a87,c88,G96,uE5,N,H.pick [2,3,4,5,6,7] [0,1,2,3,5,6,7]⟩)))⟩)
   have sz99:=H.base.size
   have lt100:=H.ltN (L:=[jq]) [2]
   refine oc (cloneI_ok _ (t.qN[k]!) (H.get 0 rfl).1 qg) ?_
   rintro v104 w102 r104 x103
   replace H:=H.jw x103 r104
   obtain ⟨a105,c106,rfl,hc107,hm108⟩:=H.Qw 0 rfl
   refine ⟨H.pick [3,4,5,6] [0,1,2,3,4,5],(jd [1,4] qh qm (jI rfl ?_ (jI rfl ?_ je)))⟩
   ·skip
    refine xX (.slice Xb yc QY) isAgg29 rfl (H.cell 2 rfl rfl) (⟨H.pick [3,4,5,6] [0,1,2,3,4,5],(ro 4 rfl (zA H underlying29 ti24 [.slice a105 ((t.qN[k]!).length) c106] fun b109 w110 H=>⟨H.pick [4,5,6,7] [0,1,2,3,4,5],(ro 5 rfl ?_)⟩))⟩)
    obtain ⟨G114,N,hn115,H⟩:=H.vG 1 rfl N (H.yg [2])
    refine zL H 2 rfl 0 rfl underlying29 ti24 rfl qj rfl rfl rfl qw qp qf fun a111 c112 w113 H=>?_
    replace H:=H.repsSnoc 3 rfl 0 rfl
    replace N:Fresh w.heap.size [(jq++G114)]:=(N.pick [1,0]).join
    refine ⟨H.pick [4,5,6,7] [2,3,4,5,6,7],(tF 6 rfl rfl (H.pick [4,5,6,7] [2,3,4,5,6,7]) ?_)⟩
    refine ro 7 rfl (zU H 3 [.slice ra6 t.qJ.length rc7,.slice a111 (yc+1) c112,.slice a8 t.qM.length c9] sizeOf29 fun w116 H=>⟨H.pick [4,5,6,7] [2,3,4,5,6,7],(xH qh ((meet ⟨_,a111,c112,a105,c106,G114,uE5,N,H.pick [2,3,4,5,6,7] [0,1,2,3,5,6,7]⟩)))⟩)
   refine zA H underlying29 ti24 [.slice a105 ((t.qN[k]!).length) c106] fun b117 w118 H=>⟨H.pick [4,5,6,7] [0,1,2,3,4,5],(ro 1 rfl (xX (.slice Xb yc QY) isAgg29 rfl (H.cell 3 rfl rfl) (⟨H.pick [4,5,6,7] [0,1,2,3,4,5],(ro 5 rfl ?_)⟩)))⟩
   obtain ⟨G122,N,hn123,H⟩:=H.vG 1 rfl N (H.yg [2])
   refine zL H 2 rfl 0 rfl underlying29 ti24 rfl qj rfl rfl rfl qw qp qf fun a119 c120 w121 H=>?_
   replace H:=H.repsSnoc 3 rfl 0 rfl
   replace N:Fresh w.heap.size [(jq++G122)]:=(N.pick [1,0]).join
   refine ⟨H.pick [4,5,6,7] [2,3,4,5,6,7],(tF 6 rfl rfl (H.pick [4,5,6,7] [2,3,4,5,6,7]) ?_)⟩
   refine ro 7 rfl (zU H 3 [.slice ra6 t.qJ.length rc7,.slice a119 (yc+1) c120,.slice a8 t.qM.length c9] sizeOf29 fun w124 H=>⟨H.pick [4,5,6,7] [2,3,4,5,6,7],(xH qh ((meet ⟨_,a119,c120,a105,c106,G122,uE5,N,H.pick [2,3,4,5,6,7] [0,1,2,3,5,6,7]⟩)))⟩)
  clear H N
  rintro ρ w125 ⟨xU,a74,c75,a76,c77,G78,rfl,N,H⟩
  refine b_n (t_n (xZ (sw (zB k 1 rfl rfl qf (sp (yI (k+1)) (zi (xq (m' :=(t.qN.length - ((k+1):Int)).toNat) qf ⟨_,k+1,a74,yc+1,c75,((t.qN.take k)++[(t.qN[k]!)]),yF++[.slice a76 ((t.qN[k]!).length) c77],(jq++G78),uE5,?_,?_,rfl,N,H.pick [0,1,2,3,4,5] [0,4,5,6]⟩)))))))
  · exact take_snoc qf
  · omega
 refine zx4 (zcr (sw (xW [.slice ra6 t.qJ.length rc7,.slice Xb yc QY,.slice a8 t.qM.length c9] isAgg31 sizeOf31 rfl (qK (H.cells 1 rfl) 0 3) (sw (xP H 4 [.slice ra6 t.qJ.length rc7,.slice Xb yc QY,.slice a8 t.qM.length c9] sizeOf31 fun w126 H=>zjr (retC H 4 rfl rfl isAgg31 sizeOf31 rfl ⟨_,rfl,?_,H.base⟩))))))
 obtain rfl:k=t.qN.length:=by omega
 rw [List.take_length] at H
 exact ⟨ra6,t.qJ.length,rc7,Xb,yc,QY,yF,jq,a8,t.qM.length,c9,rfl,N,H.pick [3,0,2] [0]⟩
theorem l01Within_ok (w:World) (l:yLI) (m:yLI) {al:yOA} {Fl:yLN} {am:yOA} {cm:Nat} {Fm:yLN} (hl:qW.rep w Fl [.slice al l.length cl] l) (hm:qW.rep w Fm [.slice am m.length cm] m) (p0:l.length≤m.length):Calls Tryz.prog 49 #[.slice al l.length cl,.slice am m.length cm] w (Ret (fun v w' =>v=.bool (within l m)) w):=by
 refine en func49 ntmps49 ?_
 have H:=((St.start w).arg hm).arg hl
 have nhl:=qU hl
 have nhm:=qU hm
 clear hl hm
 have N:=Fresh.nil w.heap.size
 refine zcr (sp (.bool false) (zjcc (sp (yI 0) (zjn (xg ?_)))))
 refine zH (fun m' ρ w1=>∃ (xU:Env) (i:Nat),ρ=upd (upd (upd xU 0 (.slice al l.length cl)) 1 (.slice am m.length cm)) 5 (yI i)∧((i:Int)≤l.length)∧(Xm l m i)∧m' =(l.length - (i:Int)).toNat∧Fresh w.heap.size []∧St w w1 [] [sF false Fl al cl l,sF false Fm am cm m]) ((l.length - (0:Int)).toNat) ⟨_,0,uE3,qf,(by exact withinTo_zero l m),rfl,N,H⟩ ?_
 clear H N
 rintro m' ρ w2 ⟨xU,i,rfl,i0,i1,rfl,N,H⟩
 refine zcc (sps [yI i,.slice al l.length cl] (oN rfl (sp (.bool (decide ((i:Int) < l.length))) (zjn (cD rfl (fun h3=>?_) (fun h3=>?_))))))
 ·skip
  refine xh (t_n (x8 (xg (x8 ?_))))
  refine yf rfl H fun H=>rtp 0 (.slice al l.length cl) H ?_
  refine rtp 1 (yI i) H ?_
  obtain ⟨b5,o6,rfl⟩:=H.addr 0 rfl qf
  refine tI 2 rfl rfl rfl H ?_
  refine tL 3 rfl rfl (fun _ h=>h.elemIntN 0 rfl i qf) H ?_
  refine rtp 4 (.slice am m.length cm) H ?_
  refine rtp 5 (yI i) H ?_
  obtain ⟨b8,o9,rfl⟩:=H.addr 1 rfl qf
  refine tI 6 rfl rfl rfl H ?_
  refine tL 7 rfl rfl (fun _ h=>h.elemIntN 1 rfl i qf) H ?_
  refine rtp 8 (.bool (decide ((l[i]! :Int) > (m[i]!)))) H ?_
  refine xH qh (t_n (cD rfl (fun h11=>?_) (fun h11=>?_)))
  ·skip
   refine zcr (sp (.bool false) (zjr (zr5 (ret1 (.bool false) rfl rfl ⟨_,rfl,?_,H.base⟩))))
   rw [within_no (k:=i) ‹_› qf]
  refine xh (b_n (t_n (xZ (sp (yI i) (sw (zB i 1 rfl rfl qf (sp (yI (i+1)) (zi (xq (m' :=(l.length - ((i+1):Int)).toNat) qf ⟨_,i+1,uE3,?_,?_,rfl,N,H⟩)))))))))
  · omega
  · exact withinTo_succ ‹_› qf
 refine zx4 (zcr (sp (.bool true) (zjr (ret1 (.bool true) rfl rfl ⟨_,rfl,?_,H.base⟩))))
 rw [within_yes ‹_› qf]

theorem l03Both_ok (w:World) (s:qG) (t:qR) {bs os:Nat} {qE:yOA} {qV:yLN} {qI:yOA} {xx:yLN} {bt ot:Nat} {xk:yOA} {zF:yLN} {xJ:yOA} {vM:yLN} {qY:yOA} {zf:yLN} (hs:jy w bs os (yS s qE qC qI qH)) (qP:qW.rep w qV [.slice qE s.qA.length qC] s.qA) (xm:qW.rep w xx [.slice qI s.qB.length qH] s.qB) (ht:jy w bt ot (yT t xk xe xJ xG qY qX)) (zu:qW.rep w zF [.slice xk t.qJ.length xe] t.qJ) (zW:qW.rep w vM [.slice xJ t.qN.length xG] t.qN) (xY:qW.rep w zf [.slice qY t.qM.length qX] t.qM):Calls Tryz.prog 21 #[pp bs os,pp bt ot] w (Ret (fun v w' =>v=.bool (dec (zX s∧xQ s t))) w):=by
 refine en func21 ntmps21 ?_
 have H:=(((((((St.start w).arg xY).arg zW).arg zu).argAt ht).arg xm).arg qP).argAt hs
 have zt:=qU qP
 have vF:=qU xm
 have Ql:=qU zu
 have Xq:=qU zW
 have yG:=qU xY
 clear hs qP xm ht zu zW xY
 have N:=Fresh.nil w.heap.size
 refine zcr (sp (.bool false) (zjc (sp (pp bs os) (sw (oq (l02Ok_ok _ s (qK (H.get 0 rfl) 0 3) (H.get 1 rfl).1 (H.get 2 rfl).1) H fun w1 H=>sp (.bool (dec (zX s))) ?_)))))
 cases h3:(dec (zX s))
 ·skip
  replace h3:=zo h3
  refine xO [8,9,10] (sps [.bool false,.bool false] (zjr (ret1 (.bool false) rfl rfl ⟨_,rfl,?_,H.base⟩)))
  rw [qZ (fun h=>‹¬ zX s› h.1)]
 replace h3:=jJ h3
 refine qO 7 rfl rfl (sp (pp bs os) (qO 7 rfl rfl (sp (pp bt ot) (qO 7 rfl rfl (sw (oq (l02State_ok _ s t (qK (H.get 0 rfl) 0 3) (H.get 1 rfl).1 (H.get 2 rfl).1 (qK (H.get 3 rfl) 0 3) (H.get 4 rfl).1 (H.get 5 rfl).1 (H.get 6 rfl).1 (by first | assumption | exact (And.left (by assumption:zX _)))) H fun w4 H=>sps [.bool (dec (xQ s t)),.bool (dec (xQ s t))] (zjr (ret1 (.bool (dec (xQ s t))) rfl rfl ⟨_,rfl,(congrArg Value.bool (dec_eq ?_)),H.base⟩))))))))
 first | exact ⟨fun h=>⟨‹_›,jJ h⟩,fun h=>jL h.2⟩ | (simp_all;done)
theorem isEnabled_ok (w:World) (s:qG) (t:qR) (r:zK) {qE:yOA} {qV:yLN} {qI:yOA} {xx:yLN} {xk:yOA} {zF:yLN} {xJ:yOA} {vM:yLN} {qY:yOA} {zf:yLN} {vk:yOA} {yL:yLN} {vC:yOA} {yP:yLN} {vw:yOA} {yM:yLN} {vz:yOA} {yO:yLN} {jO:yOA} {Xz:yLN} {zV:yOA} {Qh:yLN} (qP:qW.rep w qV [.slice qE s.qA.length qC] s.qA) (xm:qW.rep w xx [.slice qI s.qB.length qH] s.qB) (zu:qW.rep w zF [.slice xk t.qJ.length xe] t.qJ) (zW:qW.rep w vM [.slice xJ t.qN.length xG] t.qN) (xY:qW.rep w zf [.slice qY t.qM.length qX] t.qM) (hrNeed:qW.rep w yL [.slice vk r.xu.length zY] r.xu) (hrHave:qW.rep w yP [.slice vC r.xM.length vg] r.xM) (hrLack:qW.rep w yM [.slice vw r.xK.length zZ] r.xK) (hrHere:qW.rep w yO [.slice vz r.xF.length ve] r.xF) (hrOut:qW.rep w Xz [.slice jO r.zI.length jM] r.zI) (hrInto:qW.rep w Qh [.slice zV r.qL.length zT] r.qL) (p0:zX s) (p1:xQ s t) (p2:RuleOk s r):Calls Tryz.prog 51 #[.agg #[yI s.qQ,.slice qE s.qA.length qC,.slice qI s.qB.length qH],.agg #[.slice xk t.qJ.length xe,.slice xJ t.qN.length xG,.slice qY t.qM.length qX],.agg #[yI r.qF,yI r.zM,.slice vk r.xu.length zY,.slice vC r.xM.length vg,.slice vw r.xK.length zZ,.slice vz r.xF.length ve,.slice jO r.zI.length jM,.slice zV r.qL.length zT,.bool r.xR]] w (Ret (fun v w' =>v=.bool (dec (EnOk s t r))) w):=by
 refine en func51 ntmps51 ?_
 have H:=(((((((((((St.start w).arg hrInto).arg hrOut).arg hrHere).arg hrLack).arg hrHave).arg hrNeed).arg xY).arg zW).arg zu).arg xm).arg qP
 have zt:=qU qP
 have vF:=qU xm
 have Ql:=qU zu
 have Xq:=qU zW
 have yG:=qU xY
 have nhrNeed:=qU hrNeed
 have nhrHave:=qU hrHave
 have nhrLack:=qU hrLack
 have nhrHere:=qU hrHere
 have nhrOut:=qU hrOut
 have nhrInto:=qU hrInto
 clear qP xm zu zW xY hrNeed hrHave hrLack hrHere hrOut hrInto
 have N:=Fresh.nil w.heap.size
 have p3:=p2.1
 have p4:=p1.1
 have p5:=p1.2.1
 have p6:=(p1.bagLen (k:=r.qF.toNat) qf).len
 have p7:=p2.2.2.2.2.1.len
 have p8:=p2.2.2.2.2.2.1.len
 have p9:=p2.2.2.2.2.2.2.1.len
 have p10:=vY p2.2.2.2.2.2.2.1
 have p11:=p0.1
 have p12:=p2.2.2.2.2.2.2.2.2.2.2
 have p13:=kinds_le p0
 refine zcr (sw (vK H (yS s qE qC qI qH) fun b1 w2 H=>sw (vK H (yT t xk xe xJ xG qY qX) fun b3 w4 H=>sw (vK H [yI r.qF,yI r.zM,.slice vk r.xu.length zY,.slice vC r.xM.length vg,.slice vw r.xK.length zZ,.slice vz r.xF.length ve,.slice jO r.zI.length jM,.slice zV r.qL.length zT,.bool r.xR] fun b5 w6 H=>sp (.bool false) (zjcc (oF rfl ?_))))))
 refine oL rfl (H.cell 1 rfl rfl) (oF rfl (oL rfl (H.cell 0 rfl rfl) ?_))
 obtain ⟨b7,o8,rfl⟩:=H.addr 2 rfl qf
 refine oI rfl rfl (oL rfl (H.elemBool 2 rfl r.qF qf qf) (sp (.bool (!(t.qJ[r.qF.toNat]!))) (zjn (xI (!(t.qJ[r.qF.toNat]!)) rfl (fun h10=>?_) (fun h10=>?_)))))
 ·skip
  replace h10:=xw h10
  refine zcr (sp (.bool false) (zjr (t_r (ret1 (.bool false) rfl rfl ⟨_,rfl,?_,H.base⟩))))
  rw [qZ (fun h=>by obtain ⟨h1,h2,h3,h4,h5⟩:=h;first | exact ft h1 ‹_› | exact ft h2 ‹_› | exact ft h3 ‹_› | exact h4 ⟨‹_›,‹_›⟩ | (obtain ⟨q1,q2⟩:=h5 i qf;first | exact ft q1 ‹_› | exact absurd q2 ‹_›))]
 replace h10:=xf h10
 refine xh (t_n (zcr (oF rfl (oL rfl (H.cell 1 rfl rfl) (oF rfl (oL rfl (H.cell 0 rfl rfl) ?_))))))
 obtain ⟨b11,o12,rfl⟩:=H.addr 3 rfl qf
 obtain ⟨ae14,ce14,Fe14,H⟩:=H.vV 3 rfl r.qF r.qF.toNat qf qf qf
 refine oI rfl rfl (oL rfl (H.zh 1 rfl 0 rfl) (sp (.slice ae14 ((t.qN[r.qF.toNat]!).length) ce14) (zjcc (oF rfl (oL rfl (H.cell 0 rfl rfl) (sp (.slice ae14 ((t.qN[r.qF.toNat]!).length) ce14) (sw (oq (isWithin_ok _ r.xu (t.qN[r.qF.toNat]!) (H.get 7 rfl).1 (H.get 0 rfl).1 qg qg) H fun w15 H=>sps [.bool (!(within r.xu (t.qN[r.qF.toNat]!))),.bool (!(within r.xu (t.qN[r.qF.toNat]!)))] ?_))))))))
 cases h17:(!(within r.xu (t.qN[r.qF.toNat]!)))
 ·skip
  replace h17:=xf h17
  refine qO 26 rfl rfl (oF rfl (qO 26 rfl rfl (oL rfl (H.cell 0 rfl rfl) (qO 26 rfl rfl (sp (.slice ae14 ((t.qN[r.qF.toNat]!).length) ce14) (qO 26 rfl rfl (sw (oq (isWithin_ok _ r.xM (t.qN[r.qF.toNat]!) (H.get 8 rfl).1 (H.get 0 rfl).1 qg qg) H fun w18 H=>qO 26 rfl rfl (sps [.bool (!(within r.xM (t.qN[r.qF.toNat]!))),.bool (!(within r.xM (t.qN[r.qF.toNat]!))),.bool (!(within r.xM (t.qN[r.qF.toNat]!)))] ?_)))))))))
  cases h20:(!(within r.xM (t.qN[r.qF.toNat]!)))
  ·skip
   replace h20:=xf h20
   refine qO 33 rfl rfl (oF rfl (qO 33 rfl rfl (oL rfl (H.cell 0 rfl rfl) (qO 33 rfl rfl (sw (oq (bagSize_ok _ r.xK (H.get 9 rfl).1 (by first | assumption | exact vY ql | exact yY ql)) H fun w21 H=>qO 33 rfl rfl (sp (.bool (decide ((Xc r.xK:Int) > 0))) (qO 33 rfl rfl (sp (.bool (decide ((Xc r.xK:Int) > 0))) ?_)))))))))
   cases h23:(decide ((Xc r.xK:Int) > 0))
   ·skip
    replace h23:=of_decide_eq_false h23
    refine xO [39,40,41,42] (qO 33 rfl rfl (sps [.bool false,.bool false] (zjn (xI false rfl (fun h=>absurd h qj) (fun _=>xh (t_n (zcr (oF rfl (oL rfl (H.cell 0 rfl rfl) (sp (.func (.func 84) #[] #[pp b3 0,pp b1 0,pp b5 0]) (sw (jA #[.slice zV r.qL.length zT,.func (.func 84) #[] #[pp b3 0,pp b1 0,pp b5 0]] rfl rfl call83 (en func83 ntmps83 ?_)))))))))))))
    refine zcr (sp (.bool false) (zjc (sps [.slice zV r.qL.length zT,.func (.func 84) #[] #[pp b3 0,pp b1 0,pp b5 0]] (sw (jA #[.slice zV r.qL.length zT,.func (.func 84) #[] #[pp b3 0,pp b1 0,pp b5 0]] rfl rfl call100 (en func100 ntmps100 ?_))))))
    refine zcr (sp (yI 0) (zjcc (sp (.slice zV r.qL.length zT) (oN rfl (sp (yI 0) (zjn (xg ?_)))))))
    refine zH (fun m' ρ w24=>∃ (xU:Env) (i:Nat),ρ=upd (upd (upd (upd xU 0 (.slice zV r.qL.length zT)) 1 (.func (.func 84) #[] #[pp b3 0,pp b1 0,pp b5 0])) 7 (yI r.qL.length)) 8 (yI i)∧((i:Int)≤r.qL.length)∧(IntoUp s t r i)∧m' =(r.qL.length - (i:Int)).toNat∧Fresh w.heap.size []∧St w w24 [.box b5 [yI r.qF,yI r.zM,.slice vk r.xu.length zY,.slice vC r.xM.length vg,.slice vw r.xK.length zZ,.slice vz r.xF.length ve,.slice jO r.zI.length jM,.slice zV r.qL.length zT,.bool r.xR] 49,.box b3 [.slice (aa b7 o8) t.qJ.length xe,.slice (aa b11 o12) t.qN.length xG,.slice qY t.qM.length qX] 31,.box b1 (yS s qE qC qI qH) 27] [sF false Fe14 ae14 ce14 (t.qN[r.qF.toNat]!),atF b11 (o12+(r.qF:Int).toNat * 1) [.slice ae14 ((t.qN[r.qF.toNat]!).length) ce14],sF false qV qE qC s.qA,sF false xx qI qH s.qB,sF false zF (aa b7 o8) xe t.qJ,sF false vM (aa b11 o12) xG t.qN,sF false zf qY qX t.qM,sF false yL vk zY r.xu,sF false yP vC vg r.xM,sF false yM vw zZ r.xK,sF false yO vz ve r.xF,sF false Xz jO jM r.zI,sF false Qh zV zT r.qL]) ((r.qL.length - (0:Int)).toNat) ⟨_,0,uE4,qf,qx,rfl,N,H⟩ ?_
    clear H N
    rintro m' ρ w25 ⟨xU,i,rfl,i0,i1,rfl,N,H⟩
    refine zcr (sp (.bool (decide ((i:Int) < r.qL.length))) (zjn (x8 (cD rfl (fun h26=>?_) (fun h26=>?_)))))
    ·skip
     have q:=(p12 i qf).1
     have q1:=q.1
     have q2:=q.2
     refine xh (t_n (x8 (xg (zcr (sps [yI i,yI i] (zjc (sps [.func (.func 84) #[] #[pp b3 0,pp b1 0,pp b5 0],.slice zV r.qL.length zT,yI i] ?_)))))))
     obtain ⟨b27,o28,rfl⟩:=H.addr 12 rfl qf
     obtain ⟨ae30Bag,ce30Bag,Fe30Bag,H⟩:=H.yt 12 rfl i i qf qf qf
     refine oI rfl rfl (sw (xW [yI ((r.qL[i]!).qF),.slice ae30Bag (((r.qL[i]!).jR).length) ce30Bag] isAgg111 sizeOf111 rfl (qK (H.get 1 rfl) 0 2) (sw (jA #[.agg #[yI ((r.qL[i]!).qF),.slice ae30Bag (((r.qL[i]!).jR).length) ce30Bag],pp b3 0,pp b1 0,pp b5 0] rfl rfl call84 (en func84 ntmps84 ?_)))))
     refine zcr (sw (vK H [yI ((r.qL[i]!).qF),.slice ae30Bag (((r.qL[i]!).jR).length) ce30Bag] fun b31 w32 H=>sp (.bool false) (zjn (x8 ?_))))
     refine yf rfl H fun H=>tF 0 rfl rfl H ?_
     refine tL 1 rfl rfl (fun _ h=>h.cell 2 rfl rfl) H ?_
     refine tF 2 rfl rfl H ?_
     refine tL 3 rfl rfl (fun _ h=>h.cell 0 rfl rfl) H ?_
     refine tI 4 rfl rfl rfl H ?_
     refine tL 5 rfl rfl (fun _ h=>h.elemBool 6 rfl ((r.qL[i]!).qF) qf qf) H ?_
     refine rtp 6 (.bool (!(t.qJ[((r.qL[i]!).qF).toNat]!))) H ?_
     refine rtp 7 (.bool (!(t.qJ[((r.qL[i]!).qF).toNat]!))) H ?_
     cases h34:(!(t.qJ[((r.qL[i]!).qF).toNat]!))
     ·skip
      replace h34:=xf h34
      refine rg 8 (.agg #[yI s.qQ,.slice qE s.qA.length qC,.slice qI s.qB.length qH]) 13 (yh (cs:=(yS s qE qC qI qH)) isAgg27 sizeOf27 rfl (fun _ h=>qK (h.cells 3 rfl) 0 3)) H ?_
      refine rg 9 (.agg #[.slice (aa b7 o8) t.qJ.length xe,.slice (aa b11 o12) t.qN.length xG,.slice qY t.qM.length qX]) 13 (yh (cs:=[.slice (aa b7 o8) t.qJ.length xe,.slice (aa b11 o12) t.qN.length xG,.slice qY t.qM.length qX]) isAgg31 sizeOf31 rfl (fun _ h=>qK (h.cells 2 rfl) 0 3)) H ?_
      refine gF 10 rfl rfl H ?_
      refine gL 11 rfl rfl (fun _ h=>h.cell 0 rfl rfl) H ?_
      refine gF 13 rfl rfl H ?_
      refine gL 14 rfl rfl (fun _ h=>h.cell 1 rfl rfl) H ?_
      refine jd [12] qh qm (r_opG rfl (e:=13) rfl rfl (oq (parentNow_ok _ s t ((r.qL[i]!).qF) (H.get 4 rfl).1 (H.get 5 rfl).1 (H.get 6 rfl).1 (H.get 7 rfl).1 (H.get 8 rfl).1 qg qg qg) H fun w36 H=>⟨H,(rgp 15 (.bool ((xn s t ((r.qL[i]!).qF):Int) != r.qF)) 13 H ?_)⟩) je)
      refine rtp 16 (.bool ((xn s t ((r.qL[i]!).qF):Int) != r.qF)) H ?_
      refine rtp 17 (.bool ((xn s t ((r.qL[i]!).qF):Int) != r.qF)) H ?_
      refine xH qh (t_n (c_ret (ret1 (.bool ((xn s t ((r.qL[i]!).qF):Int) != r.qF)) rfl rfl ⟨_,rfl,?_⟩)))
      replace H:=H.erases [0]
      dsimp only [jK,List.eraseIdx] at H
      refine zjn (xI ((xn s t ((r.qL[i]!).qF):Int) != r.qF) rfl (fun h38=>?_) (fun h38=>?_))
      ·skip
       replace h38:=bne_iff_ne.1 h38
       refine zcr (sps [yI i,yI i] (zjr (zr5 (ret1 (yI i) rfl rfl ⟨_,rfl,(sw (o_pure (.bool true) (by show some (Value.bool (decide ((i:Int)≥0)))=some (Value.bool true);rw [decide_eq_true qf]) (sp (.bool true) (zjr (ret1 (.bool true) rfl rfl ⟨_,rfl,(sps [.bool false,.bool false] (zjr (ret1 (.bool false) rfl rfl ⟨_,rfl,?_,H.base⟩)))⟩)))))⟩))))
       rw [qZ (fun h=>by obtain ⟨h1,h2,h3,h4,h5⟩:=h;first | exact ft h1 ‹_› | exact ft h2 ‹_› | exact ft h3 ‹_› | exact h4 ⟨‹_›,‹_›⟩ | (obtain ⟨q1,q2⟩:=h5 i qf;first | exact ft q1 ‹_› | exact absurd q2 ‹_›))]
      replace h38:=vW h38
      refine xh (b_n (t_n (xZ (sw (zB i 1 rfl rfl qf (sp (yI (i+1)) (zi (xq (m' :=(r.qL.length - ((i+1):Int)).toNat) qf ⟨_,i+1,uE4,?_,?_,rfl,N,H.pick [0,1,2] [2,3,4,5,6,7,8,9,10,11,12,13,14]⟩))))))))
      · omega
      · exact i1.succ ‹_› ‹_›
     replace h34:=xw h34
     refine zD [8,9,10,11,12,13,14,15] 8 (H) (rtp 16 (.bool true) H ?_)
     refine rtp 17 (.bool true) H ?_
     refine xH qh (t_n (c_ret (ret1 (.bool true) rfl rfl ⟨_,rfl,?_⟩)))
     replace H:=H.erases [0]
     dsimp only [jK,List.eraseIdx] at H
     refine zjn (xI true rfl (fun _=>zcr (sps [yI i,yI i] (zjr (zr5 (ret1 (yI i) rfl rfl ⟨_,rfl,(sw (o_pure (.bool true) (by show some (Value.bool (decide ((i:Int)≥0)))=some (Value.bool true);rw [decide_eq_true qf]) (sp (.bool true) (zjr (ret1 (.bool true) rfl rfl ⟨_,rfl,(sps [.bool false,.bool false] (zjr (ret1 (.bool false) rfl rfl ⟨_,rfl,?_,H.base⟩)))⟩)))))⟩))))) (fun h=>absurd h qj))
     rw [qZ (fun h=>by obtain ⟨h1,h2,h3,h4,h5⟩:=h;first | exact ft h1 ‹_› | exact ft h2 ‹_› | exact ft h3 ‹_› | exact h4 ⟨‹_›,‹_›⟩ | (obtain ⟨q1,q2⟩:=h5 i qf;first | exact ft q1 ‹_› | exact absurd q2 ‹_›))]
    refine zx4 (zcr (sp (yI (-1)) (zjr (ret1 (yI (-1)) rfl rfl ⟨_,rfl,(sps [.bool false,.bool false] (zjr (ret1 (.bool false) rfl rfl ⟨_,rfl,(sps [.bool true,.bool true] (zjr (ret1 (.bool true) rfl rfl ⟨_,rfl,?_,H.base⟩)))⟩)))⟩))))
    rw [jL ⟨by assumption,by assumption,by assumption,fun ⟨u,v⟩=>by first | omega | exact ft v ‹_›,(show i=r.qL.length by omega)▸i1⟩]
   replace h23:=of_decide_eq_true h23
   refine qO 38 rfl rfl (oF rfl (qO 38 rfl rfl (oL rfl (H.cell 0 rfl rfl) (qO 38 rfl rfl (sp (.slice ae14 ((t.qN[r.qF.toNat]!).length) ce14) (qO 38 rfl rfl (sw (oq (isWithin_ok _ r.xK (t.qN[r.qF.toNat]!) (H.get 9 rfl).1 (H.get 0 rfl).1 qg qg) H fun w39 H=>qO 33 rfl rfl (sps [.bool (within r.xK (t.qN[r.qF.toNat]!)),.bool (within r.xK (t.qN[r.qF.toNat]!))] (zjn (xI (within r.xK (t.qN[r.qF.toNat]!)) rfl (fun h41=>?_) (fun h41=>?_))))))))))))
   ·skip
    refine zcr (sp (.bool false) (zjr (t_r (ret1 (.bool false) rfl rfl ⟨_,rfl,?_,H.base⟩))))
    rw [qZ (fun h=>by obtain ⟨h1,h2,h3,h4,h5⟩:=h;first | exact ft h1 ‹_› | exact ft h2 ‹_› | exact ft h3 ‹_› | exact h4 ⟨‹_›,‹_›⟩ | (obtain ⟨q1,q2⟩:=h5 i qf;first | exact ft q1 ‹_› | exact absurd q2 ‹_›))]
   refine xh (t_n (zcr (oF rfl (oL rfl (H.cell 0 rfl rfl) (sp (.func (.func 84) #[] #[pp b3 0,pp b1 0,pp b5 0]) (sw (jA #[.slice zV r.qL.length zT,.func (.func 84) #[] #[pp b3 0,pp b1 0,pp b5 0]] rfl rfl call83 (en func83 ntmps83 ?_))))))))
   refine zcr (sp (.bool false) (zjc (sps [.slice zV r.qL.length zT,.func (.func 84) #[] #[pp b3 0,pp b1 0,pp b5 0]] (sw (jA #[.slice zV r.qL.length zT,.func (.func 84) #[] #[pp b3 0,pp b1 0,pp b5 0]] rfl rfl call100 (en func100 ntmps100 ?_))))))
   refine zcr (sp (yI 0) (zjcc (sp (.slice zV r.qL.length zT) (oN rfl (sp (yI 0) (zjn (xg ?_)))))))
   refine zH (fun m' ρ w42=>∃ (xU:Env) (i:Nat),ρ=upd (upd (upd (upd xU 0 (.slice zV r.qL.length zT)) 1 (.func (.func 84) #[] #[pp b3 0,pp b1 0,pp b5 0])) 7 (yI r.qL.length)) 8 (yI i)∧((i:Int)≤r.qL.length)∧(IntoUp s t r i)∧m' =(r.qL.length - (i:Int)).toNat∧Fresh w.heap.size []∧St w w42 [.box b5 [yI r.qF,yI r.zM,.slice vk r.xu.length zY,.slice vC r.xM.length vg,.slice vw r.xK.length zZ,.slice vz r.xF.length ve,.slice jO r.zI.length jM,.slice zV r.qL.length zT,.bool r.xR] 49,.box b3 [.slice (aa b7 o8) t.qJ.length xe,.slice (aa b11 o12) t.qN.length xG,.slice qY t.qM.length qX] 31,.box b1 (yS s qE qC qI qH) 27] [sF false Fe14 ae14 ce14 (t.qN[r.qF.toNat]!),atF b11 (o12+(r.qF:Int).toNat * 1) [.slice ae14 ((t.qN[r.qF.toNat]!).length) ce14],sF false qV qE qC s.qA,sF false xx qI qH s.qB,sF false zF (aa b7 o8) xe t.qJ,sF false vM (aa b11 o12) xG t.qN,sF false zf qY qX t.qM,sF false yL vk zY r.xu,sF false yP vC vg r.xM,sF false yM vw zZ r.xK,sF false yO vz ve r.xF,sF false Xz jO jM r.zI,sF false Qh zV zT r.qL]) ((r.qL.length - (0:Int)).toNat) ⟨_,0,uE4,qf,qx,rfl,N,H⟩ ?_
   clear H N
   rintro m' ρ w43 ⟨xU,i,rfl,i0,i1,rfl,N,H⟩
   refine zcr (sp (.bool (decide ((i:Int) < r.qL.length))) (zjn (x8 (cD rfl (fun h44=>?_) (fun h44=>?_)))))
   ·skip
    have q:=(p12 i qf).1
    have q1:=q.1
    have q2:=q.2
    refine xh (t_n (x8 (xg (zcr (sps [yI i,yI i] (zjc (sps [.func (.func 84) #[] #[pp b3 0,pp b1 0,pp b5 0],.slice zV r.qL.length zT,yI i] ?_)))))))
    obtain ⟨b45,o46,rfl⟩:=H.addr 12 rfl qf
    obtain ⟨ae48Bag,ce48Bag,Fe48Bag,H⟩:=H.yt 12 rfl i i qf qf qf
    refine oI rfl rfl (sw (xW [yI ((r.qL[i]!).qF),.slice ae48Bag (((r.qL[i]!).jR).length) ce48Bag] isAgg111 sizeOf111 rfl (qK (H.get 1 rfl) 0 2) (sw (jA #[.agg #[yI ((r.qL[i]!).qF),.slice ae48Bag (((r.qL[i]!).jR).length) ce48Bag],pp b3 0,pp b1 0,pp b5 0] rfl rfl call84 (en func84 ntmps84 ?_)))))
    refine zcr (sw (vK H [yI ((r.qL[i]!).qF),.slice ae48Bag (((r.qL[i]!).jR).length) ce48Bag] fun b49 w50 H=>sp (.bool false) (zjn (x8 ?_))))
    refine yf rfl H fun H=>tF 0 rfl rfl H ?_
    refine tL 1 rfl rfl (fun _ h=>h.cell 2 rfl rfl) H ?_
    refine tF 2 rfl rfl H ?_
    refine tL 3 rfl rfl (fun _ h=>h.cell 0 rfl rfl) H ?_
    refine tI 4 rfl rfl rfl H ?_
    refine tL 5 rfl rfl (fun _ h=>h.elemBool 6 rfl ((r.qL[i]!).qF) qf qf) H ?_
    refine rtp 6 (.bool (!(t.qJ[((r.qL[i]!).qF).toNat]!))) H ?_
    refine rtp 7 (.bool (!(t.qJ[((r.qL[i]!).qF).toNat]!))) H ?_
    cases h52:(!(t.qJ[((r.qL[i]!).qF).toNat]!))
    ·skip
     replace h52:=xf h52
     refine rg 8 (.agg #[yI s.qQ,.slice qE s.qA.length qC,.slice qI s.qB.length qH]) 13 (yh (cs:=(yS s qE qC qI qH)) isAgg27 sizeOf27 rfl (fun _ h=>qK (h.cells 3 rfl) 0 3)) H ?_
     refine rg 9 (.agg #[.slice (aa b7 o8) t.qJ.length xe,.slice (aa b11 o12) t.qN.length xG,.slice qY t.qM.length qX]) 13 (yh (cs:=[.slice (aa b7 o8) t.qJ.length xe,.slice (aa b11 o12) t.qN.length xG,.slice qY t.qM.length qX]) isAgg31 sizeOf31 rfl (fun _ h=>qK (h.cells 2 rfl) 0 3)) H ?_
     refine gF 10 rfl rfl H ?_
     refine gL 11 rfl rfl (fun _ h=>h.cell 0 rfl rfl) H ?_
     refine gF 13 rfl rfl H ?_
     refine gL 14 rfl rfl (fun _ h=>h.cell 1 rfl rfl) H ?_
     refine jd [12] qh qm (r_opG rfl (e:=13) rfl rfl (oq (parentNow_ok _ s t ((r.qL[i]!).qF) (H.get 4 rfl).1 (H.get 5 rfl).1 (H.get 6 rfl).1 (H.get 7 rfl).1 (H.get 8 rfl).1 qg qg qg) H fun w54 H=>⟨H,(rgp 15 (.bool ((xn s t ((r.qL[i]!).qF):Int) != r.qF)) 13 H ?_)⟩) je)
     refine rtp 16 (.bool ((xn s t ((r.qL[i]!).qF):Int) != r.qF)) H ?_
     refine rtp 17 (.bool ((xn s t ((r.qL[i]!).qF):Int) != r.qF)) H ?_
     refine xH qh (t_n (c_ret (ret1 (.bool ((xn s t ((r.qL[i]!).qF):Int) != r.qF)) rfl rfl ⟨_,rfl,?_⟩)))
     replace H:=H.erases [0]
     dsimp only [jK,List.eraseIdx] at H
     refine zjn (xI ((xn s t ((r.qL[i]!).qF):Int) != r.qF) rfl (fun h56=>?_) (fun h56=>?_))
     ·skip
      replace h56:=bne_iff_ne.1 h56
      refine zcr (sps [yI i,yI i] (zjr (zr5 (ret1 (yI i) rfl rfl ⟨_,rfl,(sw (o_pure (.bool true) (by show some (Value.bool (decide ((i:Int)≥0)))=some (Value.bool true);rw [decide_eq_true qf]) (sp (.bool true) (zjr (ret1 (.bool true) rfl rfl ⟨_,rfl,(sps [.bool false,.bool false] (zjr (ret1 (.bool false) rfl rfl ⟨_,rfl,?_,H.base⟩)))⟩)))))⟩))))
      rw [qZ (fun h=>by obtain ⟨h1,h2,h3,h4,h5⟩:=h;first | exact ft h1 ‹_› | exact ft h2 ‹_› | exact ft h3 ‹_› | exact h4 ⟨‹_›,‹_›⟩ | (obtain ⟨q1,q2⟩:=h5 i qf;first | exact ft q1 ‹_› | exact absurd q2 ‹_›))]
     replace h56:=vW h56
     refine xh (b_n (t_n (xZ (sw (zB i 1 rfl rfl qf (sp (yI (i+1)) (zi (xq (m' :=(r.qL.length - ((i+1):Int)).toNat) qf ⟨_,i+1,uE4,?_,?_,rfl,N,H.pick [0,1,2] [2,3,4,5,6,7,8,9,10,11,12,13,14]⟩))))))))
     · omega
     · exact i1.succ ‹_› ‹_›
    replace h52:=xw h52
    refine zD [8,9,10,11,12,13,14,15] 8 (H) (rtp 16 (.bool true) H ?_)
    refine rtp 17 (.bool true) H ?_
    refine xH qh (t_n (c_ret (ret1 (.bool true) rfl rfl ⟨_,rfl,?_⟩)))
    replace H:=H.erases [0]
    dsimp only [jK,List.eraseIdx] at H
    refine zjn (xI true rfl (fun _=>zcr (sps [yI i,yI i] (zjr (zr5 (ret1 (yI i) rfl rfl ⟨_,rfl,(sw (o_pure (.bool true) (by show some (Value.bool (decide ((i:Int)≥0)))=some (Value.bool true);rw [decide_eq_true qf]) (sp (.bool true) (zjr (ret1 (.bool true) rfl rfl ⟨_,rfl,(sps [.bool false,.bool false] (zjr (ret1 (.bool false) rfl rfl ⟨_,rfl,?_,H.base⟩)))⟩)))))⟩))))) (fun h=>absurd h qj))
    rw [qZ (fun h=>by obtain ⟨h1,h2,h3,h4,h5⟩:=h;first | exact ft h1 ‹_› | exact ft h2 ‹_› | exact ft h3 ‹_› | exact h4 ⟨‹_›,‹_›⟩ | (obtain ⟨q1,q2⟩:=h5 i qf;first | exact ft q1 ‹_› | exact absurd q2 ‹_›))]
   refine zx4 (zcr (sp (yI (-1)) (zjr (ret1 (yI (-1)) rfl rfl ⟨_,rfl,(sps [.bool false,.bool false] (zjr (ret1 (.bool false) rfl rfl ⟨_,rfl,(sps [.bool true,.bool true] (zjr (ret1 (.bool true) rfl rfl ⟨_,rfl,?_,H.base⟩)))⟩)))⟩))))
   rw [jL ⟨by assumption,by assumption,by assumption,fun ⟨u,v⟩=>by first | omega | exact ft v ‹_›,(show i=r.qL.length by omega)▸i1⟩]
  replace h20:=xw h20
  refine xO [34,35,36,37,38,39,40,41,42,43] (sp (.bool true) (zjn (xI true rfl (fun _=>zcr (sp (.bool false) (zjr (t_r (ret1 (.bool false) rfl rfl ⟨_,rfl,?_,H.base⟩))))) (fun h=>absurd h qj))))
  rw [qZ (fun h=>by obtain ⟨h1,h2,h3,h4,h5⟩:=h;first | exact ft h1 ‹_› | exact ft h2 ‹_› | exact ft h3 ‹_› | exact h4 ⟨‹_›,‹_›⟩ | (obtain ⟨q1,q2⟩:=h5 i qf;first | exact ft q1 ‹_› | exact absurd q2 ‹_›))]
 replace h17:=xw h17
 refine xO [27,28,29,30,31] (sps [.bool true,.bool true] (xO [34,35,36,37,38,39,40,41,42,43] (sp (.bool true) (zjn (xI true rfl (fun _=>zcr (sp (.bool false) (zjr (t_r (ret1 (.bool false) rfl rfl ⟨_,rfl,?_,H.base⟩))))) (fun h=>absurd h qj))))))
 rw [qZ (fun h=>by obtain ⟨h1,h2,h3,h4,h5⟩:=h;first | exact ft h1 ‹_› | exact ft h2 ‹_› | exact ft h3 ‹_› | exact h4 ⟨‹_›,‹_›⟩ | (obtain ⟨q1,q2⟩:=h5 i qf;first | exact ft q1 ‹_› | exact absurd q2 ‹_›))]

theorem cloneSS_ok (w:World) (l:yLL) {al:yOA} {Fl:yLN} (hl:qW.rep w Fl [.slice al l.length cl] l) (p0:l.length≤1000000):Calls Tryz.prog 55 #[.slice al l.length cl] w (Ret (fun v w' =>∃ (ra:yOA) (rn:Nat) (rc:Nat) (rx:List Value) (rF:yLN),v=.slice ra rn rc∧(∀ b∈rF,b∈Fl)∧St w w' [rr ra rn rc 24 1 rx] [xB false rF rx l]) w):=by
 refine en func55 ntmps55 ?_
 have H:=(St.start w).arg hl
 have nhl:=qU hl
 clear hl
 have N:=Fresh.nil w.heap.size
 refine zcr (sp yN (zjcc (sp (.slice al l.length cl) (sw (o_eqnil underlying29 al l.length cl rfl (zjn (xI (al.isNone) rfl (fun h1=>?_) (fun h1=>?_))))))))
 ·skip
  refine zcr (sp yN (zjr (t_r ?_)))
  replace H:=H.nilRow 24 1
  replace H:=H.QD (α:=yLI)
  refine ret1 yN rfl rfl ⟨_,rfl,?_,H.base⟩
  obtain rfl:=H.nilOf 1 rfl ‹_›
  replace H:=H.unfree 0 rfl
  exact ⟨none,0,0,[],[],rfl,(by intro b hb;first | (simp at hb;done) | exact id b (by simpa using hb)),H.pick [0] [0]⟩
 refine xh (t_n (zcr (sw (yJ H underlying29 ti24 fun b2 w3 H=>sp (.slice al l.length cl) ?_))))
 replace H:=H.boxRow 0 rfl 1 0 rfl qj
 replace H:=H.QD (α:=yLI)
 refine sw (o_appendFR H 0 rfl 1 rfl underlying29 ti24 rfl qj rfl rfl qp qf fun a4 c5 w6 us7 G8 H hG9=>?_)
 replace H:=H.repsCat false 1 rfl 0 rfl qm
 refine sp (.slice a4 (0+l.length) c5) (zjr (ret1 (.slice a4 (0+l.length) c5) rfl rfl ⟨_,rfl,(⟨a4,0+l.length,c5,[]++us7,([]++G8),rfl,(by intro b hb;first | (simp at hb;done) | exact hG9 b (by simpa using hb)),H.pick [0] [0]⟩),H.base⟩))

theorem applicable_ok (w:World) (s:qG) (t:qR) {qE:yOA} {qV:yLN} {qI:yOA} {xx:yLN} {xk:yOA} {zF:yLN} {xJ:yOA} {vM:yLN} {qY:yOA} {zf:yLN} (qP:qW.rep w qV [.slice qE s.qA.length qC] s.qA) (xm:qW.rep w xx [.slice qI s.qB.length qH] s.qB) (zu:qW.rep w zF [.slice xk t.qJ.length xe] t.qJ) (zW:qW.rep w vM [.slice xJ t.qN.length xG] t.qN) (xY:qW.rep w zf [.slice qY t.qM.length qX] t.qM) (p0:zX s) (p1:xQ s t):Calls Tryz.prog 25 #[.agg #[yI s.qQ,.slice qE s.qA.length qC,.slice qI s.qB.length qH],.agg #[.slice xk t.qJ.length xe,.slice xJ t.qN.length xG,.slice qY t.qM.length qX]] w (Ret (fun v w' =>∃ (ra:yOA) (rn:Nat) (rc:Nat),v=.slice ra rn rc∧Fresh w.heap.size []∧St w w' [rr ra rn rc 2 1 ((appls s t).map (Value.int .i64))] []) w):=by
 refine en func25 ntmps25 ?_
 have H:=(((((St.start w).arg xY).arg zW).arg zu).arg xm).arg qP
 have zt:=qU qP
 have vF:=qU xm
 have Ql:=qU zu
 have Xq:=qU zW
 have yG:=qU xY
 clear qP xm zu zW xY
 have N:=Fresh.nil w.heap.size
 have p2:=p0.2.1
 have p3:=p0.1.2.1
 refine zcr (sw (vK H (yS s qE qC qI qH) fun b1 w2 H=>sw (vK H (yT t xk xe xJ xG qY qX) fun b3 w4 H=>sp yN (zjc (sw (jg [yI 0,yI 0,yI 0,yI 0,yI 0,yI 0] [] (sw (x9 H ti85 [yI 0,yI 0,yI 0,yI 0,yI 0,yI 0] fun b5 w6 H=>?_))))))))
 refine sw (xP H 0 [yI 0,yI 0,yI 0,yI 0,yI 0,yI 0] sizeOf85 fun w7 H=>zjcc (sp (yI 0) (zjn (xg ?_))))
 refine zH (fun m' ρ w8=>∃ (xU:Env) (c:Nat) (top:yLI),ρ=upd (upd (upd (upd xU 2 (pp b1 0)) 3 (pp b3 0)) 5 (pp b5 0)) 13 (yI c)∧top=minus c∧((c:Int)≤6)∧m' =(6 - (c:Int)).toNat∧Fresh w.heap.size []∧St w w8 [.box b5 (top.map (Value.int .i64)) 85,.box b3 (yT t xk xe xJ xG qY qX) 31,.box b1 (yS s qE qC qI qH) 27] [sF false qV qE qC s.qA,sF false xx qI qH s.qB,sF false zF xk xe t.qJ,sF false vM xJ xG t.qN,sF false zf qY qX t.qM]) ((6 - (0:Int)).toNat) ⟨_,0,[0,0,0,0,0,0],uE4,(by rfl),qf,rfl,N,H⟩ ?_
 clear H N
 rintro m' ρ w9 ⟨xU,c,top,rfl,rfl,i0,rfl,N,H⟩
 refine zcr (sp (.bool (decide ((c:Int) < 6))) (zjn (x8 (cD rfl (fun h10=>?_) (fun h10=>?_)))))
 ·skip
  refine xh (t_n (x8 (xg (zcr (sps [yI c,yI c] (zjn (xZ (sp (yI c) (sw (o_idxArr c underlying85 ti2 rfl rfl qf qf (sw (o_storeArr H 0 rfl (-1) sizeOf2 rfl rfl (i:=c) qf (by simp only [List.length_set,List.length_cons,List.length_nil,minus_len,Xk];omega) fun w11 H=>zi (b_n (t_n (xZ (sw (zB c 1 rfl rfl qf (sp (yI (c+1)) (zi (xq (m' :=(6 - ((c+1):Int)).toNat) qf ⟨_,c+1,((minus c).set c (-1)),uE4,?_,?_,rfl,N,H⟩))))))))))))))))))))
  · exact minus_set qf
  · omega
 refine zx4 (zcc (oF rfl (oL rfl (H.cell 2 rfl rfl) (oN rfl (sp (yI 0) (zjn (xg ?_)))))))
 refine zH (fun m' ρ w12=>∃ (xU:Env) (k:Nat) (top_1:yLI),ρ=upd (upd (upd (upd (upd (upd xU 2 (pp b1 0)) 3 (pp b3 0)) 5 (pp b5 0)) 20 (.slice qI s.qB.length qH)) 21 (yI s.qB.length)) 22 (yI k)∧top_1=bests s t (-1) 6 k∧((k:Int)≤s.qB.length)∧m' =(s.qB.length - (k:Int)).toNat∧Fresh w.heap.size []∧St w w12 [.box b5 (top_1.map (Value.int .i64)) 85,.box b3 (yT t xk xe xJ xG qY qX) 31,.box b1 (yS s qE qC qI qH) 27] [sF false qV qE qC s.qA,sF false xx qI qH s.qB,sF false zF xk xe t.qJ,sF false vM xJ xG t.qN,sF false zf qY qX t.qM]) ((s.qB.length - (0:Int)).toNat) ⟨_,0,(minus c),uE6,(by exact minus_six qf s t),qf,rfl,N,H⟩ ?_
 clear H N
 rintro m' ρ w13 ⟨xU,k,top_1,rfl,rfl,i0,rfl,N,H⟩
 refine zcr (sp (.bool (decide ((k:Int) < s.qB.length))) (zjn (x8 (cD rfl (fun h14=>?_) (fun h14=>?_)))))
 ·skip
  have q:=p0.rule (i:=k) qf
  have qc:=q.1
  have qk:=q.cell
  have qr:=q.2.1
  have q6:(s.qB[k]!).qF.toNat < 6:=by omega
  refine xh (t_n (x8 (xg (zcr ?_))))
  obtain ⟨b15,o16,rfl⟩:=H.addr 1 rfl qf
  obtain ⟨ae18Need,ce18Need,Fe18Need,ae18Have,ce18Have,Fe18Have,ae18Lack,ce18Lack,Fe18Lack,ae18Here,ce18Here,Fe18Here,ae18Out,ce18Out,Fe18Out,ae18Into,ce18Into,Fe18Into,H⟩:=H.Qv 1 rfl k k qf qf qf
  refine oI rfl rfl (sw (xW [yI ((s.qB[k]!).qF),yI ((s.qB[k]!).zM),.slice ae18Need (((s.qB[k]!).xu).length) ce18Need,.slice ae18Have (((s.qB[k]!).xM).length) ce18Have,.slice ae18Lack (((s.qB[k]!).xK).length) ce18Lack,.slice ae18Here (((s.qB[k]!).xF).length) ce18Here,.slice ae18Out (((s.qB[k]!).zI).length) ce18Out,.slice ae18Into (((s.qB[k]!).qL).length) ce18Into,.bool ((s.qB[k]!).xR)] isAgg49 sizeOf49 rfl (qK (H.get 6 rfl) 0 9) ?_))
  refine sw (x9 H ti49 [yI 0,yI 0,yN,yN,yN,yN,yN,yN,.bool false] fun b19 w20 H=>sw (xP H 0 [yI ((s.qB[k]!).qF),yI ((s.qB[k]!).zM),.slice ae18Need (((s.qB[k]!).xu).length) ce18Need,.slice ae18Have (((s.qB[k]!).xM).length) ce18Have,.slice ae18Lack (((s.qB[k]!).xK).length) ce18Lack,.slice ae18Here (((s.qB[k]!).xF).length) ce18Here,.slice ae18Out (((s.qB[k]!).zI).length) ce18Out,.slice ae18Into (((s.qB[k]!).qL).length) ce18Into,.bool ((s.qB[k]!).xR)] sizeOf49 fun w21 H=>?_))
  refine zjc (sw (xW [yI s.qQ,.slice qE s.qA.length qC,.slice (aa b15 o16) s.qB.length qH] isAgg27 sizeOf27 rfl (qK (H.cells 3 rfl) 0 3) (sw (xW (yT t xk xe xJ xG qY qX) isAgg31 sizeOf31 rfl (qK (H.cells 2 rfl) 0 3) ?_))))
  refine sw (xW [yI ((s.qB[k]!).qF),yI ((s.qB[k]!).zM),.slice ae18Need (((s.qB[k]!).xu).length) ce18Need,.slice ae18Have (((s.qB[k]!).xM).length) ce18Have,.slice ae18Lack (((s.qB[k]!).xK).length) ce18Lack,.slice ae18Here (((s.qB[k]!).xF).length) ce18Here,.slice ae18Out (((s.qB[k]!).zI).length) ce18Out,.slice ae18Into (((s.qB[k]!).qL).length) ce18Into,.bool ((s.qB[k]!).xR)] isAgg49 sizeOf49 rfl (qK (H.cells 0 rfl) 0 9) ?_)
  refine sw (oq (isEnabled_ok _ s t (s.qB[k]!) (H.get 7 rfl).1 (H.get 8 rfl).1 (H.get 9 rfl).1 (H.get 10 rfl).1 (H.get 11 rfl).1 (H.get 0 rfl).1 (H.get 1 rfl).1 (H.get 2 rfl).1 (H.get 3 rfl).1 (H.get 4 rfl).1 (H.get 5 rfl).1 qg qg qg) H fun w23 H=>zjn (cP rfl (fun h25=>?_) (fun h25=>?_)))
  ·skip
   refine Qo rfl H [0,2,3] fun H=>?_
   have S:=H.jm [0,2,3] [0,1,2,3,4,5,6,7,8,9,10,11]
   refine tF 0 rfl rfl S ?_
   refine tL 1 rfl rfl (fun _ h=>h.cell 0 rfl rfl) S ?_
   refine tF 2 rfl rfl S ?_
   refine tL 3 rfl rfl (fun _ h=>h.cell 0 rfl rfl) S ?_
   refine rt 4 (pp b5 (0+((s.qB[k]!).qF:Int).toNat * 1)) (y_idxArr b5 (0) 6 ((s.qB[k]!).qF) underlying85 ti2 rfl rfl qf qf) S ?_
   refine tF 6 rfl rfl S ?_
   refine tL 7 rfl rfl (fun _ h=>h.cell 0 rfl rfl) S ?_
   refine ro 5 rfl (xX (yI ((bests s t (-1) 6 k)[((s.qB[k]!).qF).toNat]!)) isAgg2 rfl (H.cell 1 rfl (ints_at (iv:=(s.qB[k]!).qF) (i:=(((s.qB[k]!).qF).toNat)) qf (by simp only [List.length_set,List.length_cons,List.length_nil,minus_len,Xk];omega))) (⟨H.pick [0,2,3] [0,1,2,3,4,5,6,7,8,9,10,11],?_⟩))
   have S:=H.jm [0,2,3] [0,1,2,3,4,5,6,7,8,9,10,11]
   refine rt 8 (yI (max ((bests s t (-1) 6 k)[((s.qB[k]!).qF).toNat]!) ((s.qB[k]!).zM))) (y_max ((bests s t (-1) 6 k)[((s.qB[k]!).qF).toNat]!) ((s.qB[k]!).zM) rfl rfl) S ?_
   refine rt 9 (pp b5 (0+((s.qB[k]!).qF:Int).toNat * 1)) (y_idxArr b5 (0) 6 ((s.qB[k]!).qF) underlying85 ti2 rfl rfl qf qf) S ?_
   refine ro 10 rfl (o_storeArr H 1 rfl (max ((bests s t (-1) 6 k)[((s.qB[k]!).qF).toNat]!) ((s.qB[k]!).zM)) sizeOf2 rfl rfl (i:=(((s.qB[k]!).qF).toNat)) qf (by simp only [List.length_set,List.length_cons,List.length_nil,minus_len,Xk];omega) fun w27 H=>⟨H.pick [0,2,3] [0,1,2,3,4,5,6,7,8,9,10,11],(xH qh (b_n (t_n (xZ (sw (zB k 1 rfl rfl qf (sp (yI (k+1)) (zi ?_))))))))⟩)
   refine xq (m' :=(s.qB.length - ((k+1):Int)).toNat) qf ⟨_,k+1,((bests s t (-1) 6 k).set (((s.qB[k]!).qF).toNat) (max ((bests s t (-1) 6 k)[((s.qB[k]!).qF).toNat]!) ((s.qB[k]!).zM))),uE6,?_,?_,rfl,N,H.pick [1,2,3] [7,8,9,10,11]⟩
   · first | exact bests_set ‹_› qf | exact bests_skip ‹_›
   · omega
  refine xh (b_n (t_n (xZ (sw (zB k 1 rfl rfl qf (sp (yI (k+1)) (zi (xq (m' :=(s.qB.length - ((k+1):Int)).toNat) qf ⟨_,k+1,(bests s t (-1) 6 k),uE6,?_,?_,rfl,N,H.pick [1,2,3] [7,8,9,10,11]⟩))))))))
  · first | exact bests_set ‹_› qf | exact bests_skip ‹_›
  · omega
 refine zx4 (zcr (sw (yJ H underlying24 ti2 fun b28 w29 H=>sp (.slice (aa b28 0) 0 0) (zjcc (oF rfl (oL rfl (H.cell 3 rfl rfl) (oN rfl (sp (yI 0) (zjn (xg ?_))))))))))
 replace H:=H.boxRowI 0 [] 0
 refine zH (fun m' ρ w30=>∃ (xU:Env) (vZ:yOA) (zG:Nat) (vX:Nat) (out:yLI) (i:Nat),ρ=upd (upd (upd (upd (upd (upd (upd xU 2 (pp b1 0)) 3 (pp b3 0)) 5 (pp b5 0)) 9 (.slice vZ zG vX)) 43 (.slice qI s.qB.length qH)) 44 (yI s.qB.length)) 45 (yI i)∧out=applL s t i∧((i:Int)≤s.qB.length)∧m' =(s.qB.length - (i:Int)).toNat∧Fresh w.heap.size []∧St w w30 [rr vZ zG vX 2 1 (out.map (Value.int .i64)),.box b5 ((bests s t (-1) 6 k).map (Value.int .i64)) 85,.box b3 (yT t xk xe xJ xG qY qX) 31,.box b1 (yS s qE qC qI qH) 27] [sF false qV qE qC s.qA,sF false xx qI qH s.qB,sF false zF xk xe t.qJ,sF false vM xJ xG t.qN,sF false zf qY qX t.qM]) ((s.qB.length - (0:Int)).toNat) ⟨_,(aa b28 0),0,0,([]:yLI),0,uE7,(by rfl),qf,rfl,N,H⟩ ?_
 clear H N
 rintro m' ρ w31 ⟨xU,vZ,zG,vX,out,i,rfl,rfl,i0,rfl,N,H⟩
 have hn_out:=H.jb 0 rfl
 have ll:=applL_le s t i
 refine zcr (sp (.bool (decide ((i:Int) < s.qB.length))) (zjn (x8 (cD rfl (fun h32=>?_) (fun h32=>?_)))))
 ·skip
  have q:=p0.rule (i:=i) qf
  have qc:=q.1
  have qk:=q.cell
  have qr:=q.2.1
  have q6:(s.qB[i]!).qF.toNat < 6:=by omega
  refine xh (t_n (x8 (xg (zcr (sp (yI i) ?_)))))
  obtain ⟨b33,o34,rfl⟩:=H.addr 1 rfl qf
  obtain ⟨ae36Need,ce36Need,Fe36Need,ae36Have,ce36Have,Fe36Have,ae36Lack,ce36Lack,Fe36Lack,ae36Here,ce36Here,Fe36Here,ae36Out,ce36Out,Fe36Out,ae36Into,ce36Into,Fe36Into,H⟩:=H.Qv 1 rfl i i qf qf qf
  refine oI rfl rfl (sw (xW [yI ((s.qB[i]!).qF),yI ((s.qB[i]!).zM),.slice ae36Need (((s.qB[i]!).xu).length) ce36Need,.slice ae36Have (((s.qB[i]!).xM).length) ce36Have,.slice ae36Lack (((s.qB[i]!).xK).length) ce36Lack,.slice ae36Here (((s.qB[i]!).xF).length) ce36Here,.slice ae36Out (((s.qB[i]!).zI).length) ce36Out,.slice ae36Into (((s.qB[i]!).qL).length) ce36Into,.bool ((s.qB[i]!).xR)] isAgg49 sizeOf49 rfl (qK (H.get 6 rfl) 0 9) ?_))
  refine sw (x9 H ti49 [yI 0,yI 0,yN,yN,yN,yN,yN,yN,.bool false] fun b37 w38 H=>sp (yI i) ?_)
  refine sw (xP H 0 [yI ((s.qB[i]!).qF),yI ((s.qB[i]!).zM),.slice ae36Need (((s.qB[i]!).xu).length) ce36Need,.slice ae36Have (((s.qB[i]!).xM).length) ce36Have,.slice ae36Lack (((s.qB[i]!).xK).length) ce36Lack,.slice ae36Here (((s.qB[i]!).xF).length) ce36Here,.slice ae36Out (((s.qB[i]!).zI).length) ce36Out,.slice ae36Into (((s.qB[i]!).qL).length) ce36Into,.bool ((s.qB[i]!).xR)] sizeOf49 fun w39 H=>zjn (x8 ?_))
  refine yf rfl H fun H=>tF 0 rfl rfl H ?_
  refine tL 1 rfl rfl (fun _ h=>h.cell 0 rfl rfl) H ?_
  refine tF 2 rfl rfl H ?_
  refine tL 3 rfl rfl (fun _ h=>h.cell 0 rfl rfl) H ?_
  refine rt 4 (pp b5 (0+((s.qB[i]!).qF:Int).toNat * 1)) (y_idxArr b5 (0) 6 ((s.qB[i]!).qF) underlying85 ti2 rfl rfl qf qf) H ?_
  refine tL 5 rfl rfl (fun _ h=>h.cell 2 rfl (ints_at (iv:=(s.qB[i]!).qF) (i:=(((s.qB[i]!).qF).toNat)) qf (by simp only [List.length_set,List.length_cons,List.length_nil,minus_len,Xk];omega))) H ?_
  refine rtp 6 (.bool (((s.qB[i]!).zM:Int) == ((bests s t (-1) 6 k)[((s.qB[i]!).qF).toNat]!))) H ?_
  refine rtp 7 (.bool (((s.qB[i]!).zM:Int) == ((bests s t (-1) 6 k)[((s.qB[i]!).qF).toNat]!))) H ?_
  cases h41:(((s.qB[i]!).zM:Int) == ((bests s t (-1) 6 k)[((s.qB[i]!).qF).toNat]!))
  ·skip
   replace h41:=ne_of_beq_false h41
   refine zD [8,9,10,11] 4 (H) (rtp 12 (.bool false) H ?_)
   refine xH qh (t_n (xI false rfl (fun h=>absurd h qj) (fun _=>xh (b_n (t_n (xZ (sw (zB i 1 rfl rfl qf (sp (yI (i+1)) (zi (xq (m' :=(s.qB.length - ((i+1):Int)).toNat) qf ⟨_,vZ,zG,vX,(applL s t i),i+1,uE7,?_,?_,rfl,N,H.pick [1,2,3,4] [7,8,9,10,11]⟩)))))))))))
   · first | exact applL_yes (appl_yes (n:=6) (z:= -1) (k:=k) qf qf qf q6 ‹_› ‹_›) | exact applL_no (appl_no (n:=6) (z:= -1) (k:=k) qf qf qf q6 ‹_›) | exact applL_no (fun h=>‹¬ EnOk _ _ _› h.1)
   · omega
  replace h41:=eq_of_beq h41
  refine rg 8 (.agg #[yI s.qQ,.slice qE s.qA.length qC,.slice (aa b33 o34) s.qB.length qH]) 57 (yh (cs:=[yI s.qQ,.slice qE s.qA.length qC,.slice (aa b33 o34) s.qB.length qH]) isAgg27 sizeOf27 rfl (fun _ h=>qK (h.cells 4 rfl) 0 3)) H ?_
  refine rg 9 (.agg #[.slice xk t.qJ.length xe,.slice xJ t.qN.length xG,.slice qY t.qM.length qX]) 57 (yh (cs:=(yT t xk xe xJ xG qY qX)) isAgg31 sizeOf31 rfl (fun _ h=>qK (h.cells 3 rfl) 0 3)) H ?_
  refine rg 10 (.agg #[yI ((s.qB[i]!).qF),yI ((s.qB[i]!).zM),.slice ae36Need (((s.qB[i]!).xu).length) ce36Need,.slice ae36Have (((s.qB[i]!).xM).length) ce36Have,.slice ae36Lack (((s.qB[i]!).xK).length) ce36Lack,.slice ae36Here (((s.qB[i]!).xF).length) ce36Here,.slice ae36Out (((s.qB[i]!).zI).length) ce36Out,.slice ae36Into (((s.qB[i]!).qL).length) ce36Into,.bool ((s.qB[i]!).xR)]) 57 (yh (cs:=[yI ((s.qB[i]!).qF),yI ((s.qB[i]!).zM),.slice ae36Need (((s.qB[i]!).xu).length) ce36Need,.slice ae36Have (((s.qB[i]!).xM).length) ce36Have,.slice ae36Lack (((s.qB[i]!).xK).length) ce36Lack,.slice ae36Here (((s.qB[i]!).xF).length) ce36Here,.slice ae36Out (((s.qB[i]!).zI).length) ce36Out,.slice ae36Into (((s.qB[i]!).qL).length) ce36Into,.bool ((s.qB[i]!).xR)]) isAgg49 sizeOf49 rfl (fun _ h=>qK (h.cells 0 rfl) 0 9)) H ?_
  refine jd [11] qh qm (r_opG rfl (e:=57) rfl rfl (oq (isEnabled_ok _ s t (s.qB[i]!) (H.get 7 rfl).1 (H.get 8 rfl).1 (H.get 9 rfl).1 (H.get 10 rfl).1 (H.get 11 rfl).1 (H.get 0 rfl).1 (H.get 1 rfl).1 (H.get 2 rfl).1 (H.get 3 rfl).1 (H.get 4 rfl).1 (H.get 5 rfl).1 qg qg qg) H fun w43 H=>⟨H,(rtp 12 (.bool (dec (EnOk s t (s.qB[i]!)))) H ?_)⟩) je)
  refine xH qh (t_n (cP rfl (fun h45=>?_) (fun h45=>?_)))
  ·skip
   refine xZ (sps [.slice vZ zG vX,yI i] (sw (zA H underlying24 ti2 [yI i] fun b46 w47 H=>sw (zL H 2 rfl 0 rfl underlying24 ti2 rfl qj rfl rfl rfl qw qp qf fun a48 c49 w50 H=>?_))))
   rw [snocI] at H
   refine sp (.slice a48 (zG+1) c49) (zi (b_n (t_n (xZ (sw (zB i 1 rfl rfl qf (sp (yI (i+1)) (zi (xq (m' :=(s.qB.length - ((i+1):Int)).toNat) qf ⟨_,a48,zG+1,c49,((applL s t i)++[(i:Int)]),i+1,uE7,?_,?_,rfl,N,H.pick [2,3,4,5] [7,8,9,10,11]⟩)))))))))
   · first | exact applL_yes (appl_yes (n:=6) (z:= -1) (k:=k) qf qf qf q6 ‹_› ‹_›) | exact applL_no (appl_no (n:=6) (z:= -1) (k:=k) qf qf qf q6 ‹_›) | exact applL_no (fun h=>‹¬ EnOk _ _ _› h.1)
   · omega
  refine xh (b_n (t_n (xZ (sw (zB i 1 rfl rfl qf (sp (yI (i+1)) (zi (xq (m' :=(s.qB.length - ((i+1):Int)).toNat) qf ⟨_,vZ,zG,vX,(applL s t i),i+1,uE7,?_,?_,rfl,N,H.pick [1,2,3,4] [7,8,9,10,11]⟩))))))))
  · first | exact applL_yes (appl_yes (n:=6) (z:= -1) (k:=k) qf qf qf q6 ‹_› ‹_›) | exact applL_no (appl_no (n:=6) (z:= -1) (k:=k) qf qf qf q6 ‹_›) | exact applL_no (fun h=>‹¬ EnOk _ _ _› h.1)
  · omega
 refine zx4 (zcr (sps [.slice vZ zG vX,.slice vZ zG vX] (zjr (ret1 (.slice vZ zG vX) rfl rfl ⟨_,rfl,?_,H.base⟩))))
 obtain rfl:i=s.qB.length:=by omega
 exact ⟨vZ,zG,vX,rfl,N,H.pick [0] []⟩
theorem around_ok (w:World) (s:qG) {qE:yOA} {qV:yLN} {qI:yOA} {xx:yLN} (qP:qW.rep w qV [.slice qE s.qA.length qC] s.qA) (xm:qW.rep w xx [.slice qI s.qB.length qH] s.qB):Calls Tryz.prog 58 #[.agg #[yI s.qQ,.slice qE s.qA.length qC,.slice qI s.qB.length qH]] w (Ret (fun v w' =>v=yI s.qA.length) w):=by
 refine en func58 ntmps58 ?_
 have H:=((St.start w).arg xm).arg qP
 have zt:=qU qP
 have vF:=qU xm
 clear qP xm
 have N:=Fresh.nil w.heap.size
 refine zcr (sw (vK H (yS s qE qC qI qH) fun b1 w2 H=>sp (yI 0) (zjc (oF rfl (oL rfl (H.cell 0 rfl rfl) (oN rfl (sp (yI s.qA.length) (zjr (ret1 (yI s.qA.length) rfl rfl ⟨_,rfl,?_,H.base⟩)))))))))
 rfl

theorem step_ok (w:World) (s:qG) (t:qR) (counts:yLI) {qE:yOA} {qV:yLN} {qI:yOA} {xx:yLN} {xk:yOA} {zF:yLN} {xJ:yOA} {vM:yLN} {qY:yOA} {zf:yLN} {acounts:yOA} {ccounts:Nat} {Fcounts:yLN} (qP:qW.rep w qV [.slice qE s.qA.length qC] s.qA) (xm:qW.rep w xx [.slice qI s.qB.length qH] s.qB) (zu:qW.rep w zF [.slice xk t.qJ.length xe] t.qJ) (zW:qW.rep w vM [.slice xJ t.qN.length xG] t.qN) (xY:qW.rep w zf [.slice qY t.qM.length qX] t.qM) (hcounts:qW.rep w Fcounts [.slice acounts counts.length ccounts] counts) (p0:zX s) (p1:xQ s t) (p2:CntOk s counts) (p3:IsCh s t counts):Calls Tryz.prog 28 #[.agg #[yI s.qQ,.slice qE s.qA.length qC,.slice qI s.qB.length qH],.agg #[.slice xk t.qJ.length xe,.slice xJ t.qN.length xG,.slice qY t.qM.length qX],.slice acounts counts.length ccounts] w (Ret (fun v w' =>∃ (ra0Alive:yOA) (rn0Alive:Nat) (rc0Alive:Nat) (ra0Bags:yOA) (rn0Bags:Nat) (rc0Bags:Nat) (rx0Bags:List Value) (rF0Bags:yLN) (ra0Around:yOA) (rn0Around:Nat) (rc0Around:Nat),v=.tuple #[.agg #[.slice ra0Alive rn0Alive rc0Alive,.slice ra0Bags rn0Bags rc0Bags,.slice ra0Around rn0Around rc0Around],yI ((QA s t counts).2)]∧Fresh w.heap.size [rF0Bags]∧St w w' [rr ra0Alive rn0Alive rc0Alive 4 1 ((((QA s t counts).1).qJ).map (Value.bool)),rr ra0Bags rn0Bags rc0Bags 24 1 rx0Bags,rr ra0Around rn0Around rc0Around 2 1 ((((QA s t counts).1).qM).map (Value.int .i64))] [xB true rF0Bags rx0Bags (((QA s t counts).1).qN)]) w):=by
 refine en func28 ntmps28 ?_
 have H:=((((((St.start w).arg hcounts).arg xY).arg zW).arg zu).arg xm).arg qP
 have zt:=qU qP
 have vF:=qU xm
 have Ql:=qU zu
 have Xq:=qU zW
 have yG:=qU xY
 have nhcounts:=qU hcounts
 clear qP xm zu zW xY hcounts
 have N:=Fresh.nil w.heap.size
 have p5:=p0.2.1
 have p6:=p2.1
 have p7:=p1.2.1
 have p8:=kinds_le p0
 have p9:=p0.1.2.1
 have p11:xN s=s.qA.length:=rfl
 have p12:=p1.1
 have p15:=p0.1
 have p16:=p0.1.1
 have p17:=p1.around.1
 refine zcr (sw (vK H (yS s qE qC qI qH) fun b1 w2 H=>sw (vK H (yT t xk xe xJ xG qY qX) fun b3 w4 H=>sw (x9 H ti31 [yN,yN,yN] fun b5 w6 H=>sp (yI 0) (zjn (x8 ?_))))))
 refine c_cut (fun ρ w11=>∃ (xU:Env) (a7:yOA) (c8:Nat) (rx9:List Value) (rF10:yLN),ρ=upd (upd (upd (upd (upd xU 2 (.slice acounts counts.length ccounts)) 3 (pp b1 0)) 4 (pp b3 0)) 6 (pp b5 0)) 8 (.slice a7 (t.qN.length+1) c8)∧Fresh w.heap.size []∧St w w11 [rr a7 (t.qN.length+1) c8 24 1 (rx9++[.slice qY t.qM.length qX]),.box b5 [yN,yN,yN] 31,.box b3 (yT t xk xe xJ xG qY qX) 31,.box b1 (yS s qE qC qI qH) 27] [xB false (rF10++zf) (rx9++[.slice qY t.qM.length qX]) (t.qN++[t.qM]),sF false qV qE qC s.qA,sF false xx qI qH s.qB,sF false zF xk xe t.qJ,sF false vM xJ xG t.qN,sF false zf qY qX t.qM,sF false Fcounts acounts ccounts counts]) ?_ ?_
 ·skip
  refine yf rfl H fun H=>tF 0 rfl rfl H ?_
  refine tL 1 rfl rfl (fun _ h=>h.cell 1 rfl rfl) H ?_
  refine tF 3 rfl rfl H ?_
  refine tL 4 rfl rfl (fun _ h=>h.cell 1 rfl rfl) H ?_
  refine jd [2,5] qh qm (jI rfl ?_ (jI rfl ?_ je))
  ·skip
   have sz16:=H.base.size
   refine oc (cloneSS_ok _ t.qN (H.get 3 rfl).1 qg) ?_
   rintro _ w14 ⟨ra13,rn13,rc13,rx13,rF13,rfl,hG18,K⟩ _
   replace H:=H.mergeIn K 3 rfl hG18
   obtain rfl:=H.zO (α:=yLI) 0 rfl 0 rfl qj
   refine ⟨H.pick [1,2,3] [1,2,3,4,5,6],(ro 5 rfl (zA H underlying29 ti24 [.slice qY t.qM.length qX] fun b19 w20 H=>⟨H.pick [2,3,4] [1,2,3,4,5,6],(ro 6 rfl (zL H 1 rfl 0 rfl underlying29 ti24 rfl qj rfl rfl rfl qw qp qf fun a21 c22 w23 H=>?_))⟩))⟩
   replace H:=H.repsSnoc 0 rfl 5 rfl
   refine ⟨H.pick [2,3,4] [2,3,4,5,6,7],(rtp 7 (.slice a21 (t.qN.length+1) c22) (H.pick [2,3,4] [2,3,4,5,6,7]) ?_)⟩
   refine xH qh ((meet ⟨_,a21,c22,rx13,rF13,uE5,N,H.pick [1,2,3,4] [0,2,3,4,5,6,7]⟩))
  refine zA H underlying29 ti24 [.slice qY t.qM.length qX] fun b24 w25 H=>⟨H.pick [1,2,3] [0,1,2,3,4,5],(ro 2 rfl ?_)⟩
  have sz29:=H.base.size
  refine oc (cloneSS_ok _ t.qN (H.get 3 rfl).1 qg) ?_
  rintro _ w27 ⟨ra26,rn26,rc26,rx26,rF26,rfl,hG31,K⟩ _
  replace H:=H.mergeIn K 3 rfl hG31
  obtain rfl:=H.zO (α:=yLI) 0 rfl 0 rfl qj
  refine ⟨H.pick [2,3,4] [1,2,3,4,5,6],(ro 6 rfl (zL H 0 rfl 1 rfl underlying29 ti24 rfl qj rfl rfl rfl qw qp qf fun a32 c33 w34 H=>?_))⟩
  replace H:=H.repsSnoc 0 rfl 5 rfl
  refine ⟨H.pick [2,3,4] [2,3,4,5,6,7],(rtp 7 (.slice a32 (t.qN.length+1) c33) (H.pick [2,3,4] [2,3,4,5,6,7]) ?_)⟩
  refine xH qh ((meet ⟨_,a32,c33,rx26,rF26,uE5,N,H.pick [0,2,3,4] [0,2,3,4,5,6,7]⟩))
 clear H N
 rintro ρ w35 ⟨xU,a7,c8,rx9,rF10,rfl,N,H⟩
 refine t_n (zcr (oF rfl (oL rfl (H.cell 3 rfl rfl) (oN rfl (sw (o_makeB H underlying28 ti4 s.qA.length rfl rfl qf qf qf fun b36 w37 H=>sp (.slice (aa b36 0) s.qA.length s.qA.length) (zjcc (sp (.slice acounts counts.length ccounts) (oN rfl (sp (yI 0) (zjn (xg ?_))))))))))))
 refine zH (fun m' ρ w38=>∃ (xU:Env) (i:Nat) (melts:List Bool) (bags:yLL) (x_bags:List Value) (F_bags:yLN),ρ=upd (upd (upd (upd (upd (upd (upd (upd xU 3 (pp b1 0)) 4 (pp b3 0)) 6 (pp b5 0)) 8 (.slice a7 (t.qN.length+1) c8)) 9 (.slice (aa b36 0) s.qA.length s.qA.length)) 26 (.slice acounts counts.length ccounts)) 27 (yI counts.length)) 28 (yI i)∧melts=jC s counts s.qA.length i∧((i:Int)≤counts.length)∧(Ent (s.qA.length+1) (zn s) (fun p q=>base0 s t p q+allS s t counts i p q) (20000000+6000000 * i) bags)∧(bags.length=s.qA.length+1)∧m' =(counts.length - (i:Int)).toNat∧Fresh w.heap.size []∧St w w38 [rr (aa b36 0) s.qA.length s.qA.length 4 1 (melts.map (Value.bool)),rr a7 (t.qN.length+1) c8 24 1 x_bags,.box b5 [yN,yN,yN] 31,.box b3 (yT t xk xe xJ xG qY qX) 31,.box b1 (yS s qE qC qI qH) 27] [xB false F_bags x_bags bags,sF false qV qE qC s.qA,sF false xx qI qH s.qB,sF false zF xk xe t.qJ,sF false vM xJ xG t.qN,sF false zf qY qX t.qM,sF false Fcounts acounts ccounts counts]) ((counts.length - (0:Int)).toNat) ⟨_,0,(List.replicate s.qA.length (false)),(t.qN++[t.qM]),rx9++[.slice qY t.qM.length qX],(rF10++zf),uE8,(by exact meltsL_zero s counts _),qf,(by exact (start_ent p1).to (fun _ _=>rfl) qf),qy,rfl,N,H⟩ ?_
 clear H N
 rintro m' ρ w39 ⟨xU,i,melts,bags,x_bags,F_bags,rfl,rfl,i0,E_bags,z_bags,rfl,N,H⟩
 have hn_melts:=H.rowNB 0 rfl
 have hn_bags:=H.zO (α:=yLI) 1 rfl 0 rfl qj
 refine zcr (sp (.bool (decide ((i:Int) < counts.length))) (zjn (x8 (cD rfl (fun h40=>?_) (fun h40=>?_)))))
 ·skip
  have q:=p0.rule (i:=i) qf
  have qc:=q.1
  have qk:=q.cell
  have qr:=q.2.1
  have bn1:=q.2.2.2.2.1
  have bn2:=q.2.2.2.2.2.2.2.1
  have bn3:=q.2.2.2.2.2.2.2.2.1
  have ln1:=bn1.len
  have ln2:=bn2.len
  have ln3:=bn3.len
  have p10:=p2.bd (i:=i) qf
  have qn:=q.2.2.2.1
  have ml:=meltsL_len s counts s.qA.length i
  refine xh (t_n (x8 (xg (zcr (sp (yI i) ?_)))))
  obtain ⟨b41,o42,rfl⟩:=H.addr 6 rfl qf
  refine oI rfl rfl (oL rfl (H.ji 6 rfl i qf qf) (sps [yI i,yI (counts[i]!)] (zjc (oF rfl (oL rfl (H.cell 4 rfl rfl) (sp (yI i) ?_))))))
  obtain ⟨b44,o45,rfl⟩:=H.addr 2 rfl qf
  obtain ⟨Q7,QU,Fe47Need,Q9,QW,Fe47Have,Q8,QV,Fe47Lack,Qq,Qn,Fe47Here,QK,QH,Fe47Out,Qp,Qm,Fe47Into,H⟩:=H.Qv 2 rfl i i qf qf qf
  refine oI rfl rfl (sw (xW [yI ((s.qB[i]!).qF),yI ((s.qB[i]!).zM),.slice Q7 (((s.qB[i]!).xu).length) QU,.slice Q9 (((s.qB[i]!).xM).length) QW,.slice Q8 (((s.qB[i]!).xK).length) QV,.slice Qq (((s.qB[i]!).xF).length) Qn,.slice QK (((s.qB[i]!).zI).length) QH,.slice Qp (((s.qB[i]!).qL).length) Qm,.bool ((s.qB[i]!).xR)] isAgg49 sizeOf49 rfl (qK (H.get 6 rfl) 0 9) ?_))
  refine sw (x9 H ti49 [yI 0,yI 0,yN,yN,yN,yN,yN,yN,.bool false] fun b48 w49 H=>sw (xP H 0 [yI ((s.qB[i]!).qF),yI ((s.qB[i]!).zM),.slice Q7 (((s.qB[i]!).xu).length) QU,.slice Q9 (((s.qB[i]!).xM).length) QW,.slice Q8 (((s.qB[i]!).xK).length) QV,.slice Qq (((s.qB[i]!).xF).length) Qn,.slice QK (((s.qB[i]!).zI).length) QH,.slice Qp (((s.qB[i]!).qL).length) Qm,.bool ((s.qB[i]!).xR)] sizeOf49 fun w50 H=>?_))
  refine zjn (x8 ?_)
  refine Qo rfl H [0,1,3,4,5] fun H=>?_
  have S:=H.jm [0,1,3,4,5] [0,1,2,3,4,5,6,7,8,9,10,11,12,13]
  refine rtp 0 (.slice a7 (t.qN.length+1) c8) S ?_
  refine tF 1 rfl rfl S ?_
  refine tL 2 rfl rfl (fun _ h=>h.cell 0 rfl rfl) S ?_
  refine rtp 3 (.slice a7 (t.qN.length+1) c8) S ?_
  refine tF 4 rfl rfl S ?_
  refine tL 5 rfl rfl (fun _ h=>h.cell 0 rfl rfl) S ?_
  obtain ⟨b52,rfl⟩:=H.Xo 2 rfl qf
  have S:=H.jm [0,1,3,4,5] [0,1,2,3,4,5,6,7,8,9,10,11,12,13]
  refine tI 6 rfl rfl rfl S ?_
  refine tF 8 rfl rfl S ?_
  refine tL 9 rfl rfl (fun _ h=>h.cell 0 rfl rfl) S ?_
  refine rtp 10 (yI (counts[i]!)) S ?_
  refine rt 11 (yI (-(counts[i]!))) (y_neg (counts[i]!) rfl qf) S ?_
  refine ro 7 rfl ?_
  obtain ⟨a53,c54,G55,s56,h57,H⟩:=H.QC 2 rfl 7 rfl (iv:=(s.qB[i]!).qF) (((s.qB[i]!).qF).toNat) qf qf
  refine xX (.slice a53 ((bags[((s.qB[i]!).qF).toNat]!).length) c54) isAgg24 rfl (h57) (⟨H.pick [0,1,3,4,5] [1,2,3,4,5,6,7,8,9,10,11,12,13,14],(ro 12 rfl ?_)⟩)
  obtain ⟨u1,u2⟩:=E_bags.sh.row (c:=((s.qB[i]!).qF).toNat) qf p8 qf
  have u4:=(by first | exact bn1.QB qf | exact bn2.QB qf | exact bn3.QB qf | exact bn4.QB qf:SmallT ((s.qB[i]!).xu) (-(counts[i]!)))
  have sz58:=H.base.size
  refine oc (plus_ok _ (bags[((s.qB[i]!).qF).toNat]!) ((s.qB[i]!).xu) (-(counts[i]!)) (H.get 0 rfl).1 (H.get 1 rfl).1 qg qg qg) ?_
  rintro v63 w61 r63 x62
  replace H:=H.jw x62 r63
  obtain ⟨a64,c65,rfl,hc66,hm67⟩:=H.Qw 0 rfl
  refine ⟨H.pick [1,2,4,5,6] [1,2,3,4,5,6,7,8,9,10,11,12,13,14],(tI 13 rfl rfl rfl (H.pick [1,2,4,5,6] [1,2,3,4,5,6,7,8,9,10,11,12,13,14]) ?_)⟩
  refine ro 14 rfl ?_
  obtain ⟨G69,N,hn70,H⟩:=H.vG 0 rfl N (H.yg [])
  refine Qk false H 3 rfl 9 rfl (.slice a64 ((y9 (bags[((s.qB[i]!).qF).toNat]!) ((s.qB[i]!).xu) (-(counts[i]!))).length) c65) 0 rfl rfl sizeOf24 rfl rfl (i:=(((s.qB[i]!).qF).toNat)) qf qf qm fun w68 xs71 F72 hs73 H=>⟨H.pick [1,2,4,5,6] [3,4,5,6,7,8,9,10,11,12,13,14,15,16],(xH qh (t_n (zcr (sw (xW [yI s.qQ,.slice qE s.qA.length qC,.slice (aa b44 o45) s.qB.length qH] isAgg27 sizeOf27 rfl (qK (H.cells 6 rfl) 0 3) ?_)))))⟩
  refine sw (xW (yT t xk xe xJ xG qY qX) isAgg31 sizeOf31 rfl (qK (H.cells 5 rfl) 0 3) (sp (.slice (aa b52 0) (t.qN.length+1) c8) ?_))
  refine sw (xW [yI ((s.qB[i]!).qF),yI ((s.qB[i]!).zM),.slice Q7 (((s.qB[i]!).xu).length) QU,.slice Q9 (((s.qB[i]!).xM).length) QW,.slice Q8 (((s.qB[i]!).xK).length) QV,.slice Qq (((s.qB[i]!).xF).length) Qn,.slice QK (((s.qB[i]!).zI).length) QH,.slice Qp (((s.qB[i]!).qL).length) Qm,.bool ((s.qB[i]!).xR)] isAgg49 sizeOf49 rfl (qK (H.cells 1 rfl) 0 9) (sp (yI (counts[i]!)) ?_))
  obtain ⟨bg74,e_bg74⟩:∃ z,z=(bags.set (((s.qB[i]!).qF).toNat) (y9 (bags[((s.qB[i]!).qF).toNat]!) ((s.qB[i]!).xu) (-(counts[i]!)))):=⟨_,rfl⟩
  rw [← e_bg74] at H
  have E_bg74:=Ent.add (D:=1000000) E_bags e_bg74 qf (by first | exact bn1.mul qf | exact bn2.mul qf | exact bn3.mul qf | exact bn4.mul qf) qf
  have z_bg74:=E_bg74.sh.1
  have E_cur:=E_bg74
  refine sw (jA #[.agg #[yI s.qQ,.slice qE s.qA.length qC,.slice (aa b44 o45) s.qB.length qH],.agg #[.slice xk t.qJ.length xe,.slice xJ t.qN.length xG,.slice qY t.qM.length qX],.slice (aa b52 0) (t.qN.length+1) c8,.agg #[yI ((s.qB[i]!).qF),yI ((s.qB[i]!).zM),.slice Q7 (((s.qB[i]!).xu).length) QU,.slice Q9 (((s.qB[i]!).xM).length) QW,.slice Q8 (((s.qB[i]!).xK).length) QV,.slice Qq (((s.qB[i]!).xF).length) Qn,.slice QK (((s.qB[i]!).zI).length) QH,.slice Qp (((s.qB[i]!).qL).length) Qm,.bool ((s.qB[i]!).xR)],yI (counts[i]!)] rfl rfl call57 ?_)
  refine en func57 ntmps57 ?_
  refine zcr (sw (vK H [yI s.qQ,.slice qE s.qA.length qC,.slice (aa b44 o45) s.qB.length qH] fun b75 w76 H=>sw (vK H (yT t xk xe xJ xG qY qX) fun b77 w78 H=>sw (vK H [.slice (aa b52 0) (t.qN.length+1) c8] fun b79 w80 H=>?_))))
  refine sw (vK H [yI ((s.qB[i]!).qF),yI ((s.qB[i]!).zM),.slice Q7 (((s.qB[i]!).xu).length) QU,.slice Q9 (((s.qB[i]!).xM).length) QW,.slice Q8 (((s.qB[i]!).xK).length) QV,.slice Qq (((s.qB[i]!).xF).length) Qn,.slice QK (((s.qB[i]!).zI).length) QH,.slice Qp (((s.qB[i]!).qL).length) Qm,.bool ((s.qB[i]!).xR)] fun b81 w82 H=>sw (vK H [yI (counts[i]!)] fun b83 w84 H=>zjc ?_))
  refine sps [.func (.func 87) #[] #[pp b79 0,pp b83 0],.func (.func 87) #[] #[pp b79 0,pp b83 0]] (zjc (sp (.func (.func 87) #[] #[pp b79 0,pp b83 0]) (oF rfl (oL rfl (H.cell 1 rfl rfl) (oF rfl (oL rfl (H.cell 1 rfl rfl) (sw (jA #[yI ((s.qB[i]!).qF),.slice Qq (((s.qB[i]!).xF).length) Qn,pp b79 0,pp b83 0] rfl rfl call87 (en func87 ntmps87 ?_)))))))))
  refine Qo rfl H [0,1,2,3,4,5,6,7,9,10,11] fun H=>?_
  have S:=H.jm [0,1,2,3,4,5,6,7,9,10,11] [0,1,2,3,4,5,6,7,8,9,10,11,12,13,14,15,16]
  refine tL 0 rfl rfl (fun _ h=>h.cell 2 rfl rfl) S ?_
  refine rtp 1 (yI ((s.qB[i]!).qF)) S ?_
  refine tL 2 rfl rfl (fun _ h=>h.cell 2 rfl rfl) S ?_
  refine rtp 3 (yI ((s.qB[i]!).qF)) S ?_
  refine tI 4 rfl rfl rfl S ?_
  refine rtp 6 (.slice Qq (((s.qB[i]!).xF).length) Qn) S ?_
  refine tL 7 rfl rfl (fun _ h=>h.cell 0 rfl rfl) S ?_
  refine ro 5 rfl ?_
  obtain ⟨a86,c87,G88,s89,h90,H⟩:=H.QC 8 rfl 0 rfl (iv:=(s.qB[i]!).qF) (((s.qB[i]!).qF).toNat) qf qf
  refine xX (.slice a86 ((bg74[((s.qB[i]!).qF).toNat]!).length) c87) isAgg24 rfl (h90) (⟨H.pick [0,1,2,3,4,5,6,7,9,10,11] [1,2,3,4,5,6,7,8,9,10,11,12,13,14,15,16,17],(ro 8 rfl ?_)⟩)
  obtain ⟨u1,u2⟩:=E_bg74.sh.row (c:=((s.qB[i]!).qF).toNat) qf p8 qf
  have u4:=(by first | exact bn1.QB qf | exact bn2.QB qf | exact bn3.QB qf | exact bn4.QB qf:SmallT ((s.qB[i]!).xF) (counts[i]!))
  have sz91:=H.base.size
  have lt92:=H.ltN (L:=[G69]) [2]
  refine oc (plus_ok _ (bg74[((s.qB[i]!).qF).toNat]!) ((s.qB[i]!).xF) (counts[i]!) (H.get 0 rfl).1 (H.get 7 rfl).1 qg qg qg) ?_
  rintro v96 w94 r96 x95
  replace H:=H.jw x95 r96
  obtain ⟨a97,c98,rfl,hc99,hm100⟩:=H.Qw 0 rfl
  refine ⟨H.pick [1,2,3,4,5,6,7,8,10,11,12] [1,2,3,4,5,6,7,8,9,10,11,12,13,14,15,16,17],(tI 9 rfl rfl rfl (H.pick [1,2,3,4,5,6,7,8,10,11,12] [1,2,3,4,5,6,7,8,9,10,11,12,13,14,15,16,17]) ?_)⟩
  refine ro 10 rfl ?_
  obtain ⟨G102,N,hn103,H⟩:=H.vG 0 rfl N (H.yg [2])
  refine Qk false H 9 rfl 2 rfl (.slice a97 ((y9 (bg74[((s.qB[i]!).qF).toNat]!) ((s.qB[i]!).xF) (counts[i]!)).length) c98) 0 rfl rfl sizeOf24 rfl rfl (i:=(((s.qB[i]!).qF).toNat)) qf qf qm fun w101 xs104 F105 hs106 H=>⟨H.pick [1,2,3,4,5,6,7,8,10,11,12] [3,4,5,6,7,8,9,10,11,12,13,14,15,16,17,18,19],(xH qh ((ret0 rfl ⟨_,rfl,?_⟩)))⟩
  replace H:=H.erases [6,0]
  dsimp only [jK,List.eraseIdx] at H
  obtain ⟨bg107,e_bg107⟩:∃ z,z=(bg74.set (((s.qB[i]!).qF).toNat) (y9 (bg74[((s.qB[i]!).qF).toNat]!) ((s.qB[i]!).xF) (counts[i]!))):=⟨_,rfl⟩
  rw [← e_bg107] at H
  have E_bg107:=Ent.add (D:=1000000) E_bg74 e_bg107 qf (by first | exact bn1.mul qf | exact bn2.mul qf | exact bn3.mul qf | exact bn4.mul qf) qf
  have z_bg107:=E_bg107.sh.1
  have E_cur:=E_bg107
  refine zjcc (sw (xW [yI s.qQ,.slice qE s.qA.length qC,.slice (aa b44 o45) s.qB.length qH] isAgg27 sizeOf27 rfl (qK (H.cells 4 rfl) 0 3) (sw (xW (yT t xk xe xJ xG qY qX) isAgg31 sizeOf31 rfl (qK (H.cells 3 rfl) 0 3) (oF rfl (oL rfl (H.cell 1 rfl rfl) ?_))))))
  have qc' :=qc
  refine sw (oq (parentNow_ok _ s t ((s.qB[i]!).qF) (H.get 14 rfl).1 (H.get 15 rfl).1 (H.get 16 rfl).1 (H.get 17 rfl).1 (H.get 18 rfl).1 qg qg qg) H fun w109 H=>?_)
  have pl:=parentNow_lt p15 p1.2.2.1 qc
  refine sp (yI (xn s t ((s.qB[i]!).qF))) (zjc (sps [yI (xn s t ((s.qB[i]!).qF)),.bool (decide ((xn s t ((s.qB[i]!).qF):Int)≥0))] (zjn (cD rfl (fun h111=>?_) (fun h111=>?_)))))
  ·skip
   have po:=outPl_in (r:=s.qB[i]!) p15 ‹_›
   refine xZ (sps [.func (.func 87) #[] #[pp b79 0,pp b83 0],yI (xn s t ((s.qB[i]!).qF))] (oF rfl (oL rfl (H.cell 1 rfl rfl) (sw (jA #[yI (xn s t ((s.qB[i]!).qF)),.slice QK (((s.qB[i]!).zI).length) QH,pp b79 0,pp b83 0] rfl rfl call87 (en func87 ntmps87 ?_))))))
   refine Qo rfl H [0,1,2,3,4,5,6,8,9,10] fun H=>?_
   have S:=H.jm [0,1,2,3,4,5,6,8,9,10] [0,1,2,3,4,5,6,7,8,9,10,11,12,13,14,15,16,17,18,19]
   refine tL 0 rfl rfl (fun _ h=>h.cell 2 rfl rfl) S ?_
   refine rtp 1 (yI (xn s t ((s.qB[i]!).qF))) S ?_
   refine tL 2 rfl rfl (fun _ h=>h.cell 2 rfl rfl) S ?_
   refine rtp 3 (yI (xn s t ((s.qB[i]!).qF))) S ?_
   refine tI 4 rfl rfl rfl S ?_
   refine rtp 6 (.slice QK (((s.qB[i]!).zI).length) QH) S ?_
   refine tL 7 rfl rfl (fun _ h=>h.cell 0 rfl rfl) S ?_
   refine ro 5 rfl ?_
   obtain ⟨a113,c114,G115,s116,h117,H⟩:=H.QC 7 rfl 0 rfl (iv:=xn s t ((s.qB[i]!).qF)) ((xn s t ((s.qB[i]!).qF)).toNat) qf qf
   refine xX (.slice a113 ((bg107[(xn s t ((s.qB[i]!).qF)).toNat]!).length) c114) isAgg24 rfl (h117) (⟨H.pick [0,1,2,3,4,5,6,8,9,10] [1,2,3,4,5,6,7,8,9,10,11,12,13,14,15,16,17,18,19,20],(ro 8 rfl ?_)⟩)
   obtain ⟨u1,u2⟩:=E_bg107.sh.row (c:=(xn s t ((s.qB[i]!).qF)).toNat) qf p8 qf
   have u4:=(by first | exact bn1.QB qf | exact bn2.QB qf | exact bn3.QB qf | exact bn4.QB qf:SmallT ((s.qB[i]!).zI) (counts[i]!))
   have sz118:=H.base.size
   have lt119:=H.ltN (L:=[G102,G69]) [2,5]
   refine oc (plus_ok _ (bg107[(xn s t ((s.qB[i]!).qF)).toNat]!) ((s.qB[i]!).zI) (counts[i]!) (H.get 0 rfl).1 (H.get 11 rfl).1 qg qg qg) ?_
   rintro v123 w121 r123 x122
   replace H:=H.jw x122 r123
   obtain ⟨a124,c125,rfl,hc126,hm127⟩:=H.Qw 0 rfl
   refine ⟨H.pick [1,2,3,4,5,6,7,9,10,11] [1,2,3,4,5,6,7,8,9,10,11,12,13,14,15,16,17,18,19,20],(tI 9 rfl rfl rfl (H.pick [1,2,3,4,5,6,7,9,10,11] [1,2,3,4,5,6,7,8,9,10,11,12,13,14,15,16,17,18,19,20]) ?_)⟩
   refine ro 10 rfl ?_
   obtain ⟨G129,N,hn130,H⟩:=H.vG 0 rfl N (H.yg [2,5])
   refine Qk false H 8 rfl 2 rfl (.slice a124 ((y9 (bg107[(xn s t ((s.qB[i]!).qF)).toNat]!) ((s.qB[i]!).zI) (counts[i]!)).length) c125) 0 rfl rfl sizeOf24 rfl rfl (i:=((xn s t ((s.qB[i]!).qF)).toNat)) qf qf qm fun w128 xs131 F132 hs133 H=>⟨H.pick [1,2,3,4,5,6,7,9,10,11] [3,4,5,6,7,8,9,10,11,12,13,14,15,16,17,18,19,20,21,22],(xH qh ((ret0 rfl ⟨_,rfl,?_⟩)))⟩
   replace H:=H.erases [0]
   dsimp only [jK,List.eraseIdx] at H
   obtain ⟨bg134,e_bg134⟩:∃ z,z=(bg107.set ((xn s t ((s.qB[i]!).qF)).toNat) (y9 (bg107[(xn s t ((s.qB[i]!).qF)).toNat]!) ((s.qB[i]!).zI) (counts[i]!))):=⟨_,rfl⟩
   rw [← e_bg134] at H
   have E_bg134:=Ent.add (D:=1000000) E_bg107 e_bg134 qf (by first | exact bn1.mul qf | exact bn2.mul qf | exact bn3.mul qf | exact bn4.mul qf) qf
   have z_bg134:=E_bg134.sh.1
   have E_cur:=E_bg134
   refine zjc (oF rfl (oL rfl (H.cell 1 rfl rfl) (oN rfl (sp (yI 0) (zjn (xg ?_))))))
   refine zH (fun m' ρ w135=>∃ (xU:Env) (k:Nat) (bags_1:yLL) (QO:List Value) (F_bags_1:yLN),ρ=upd (upd (upd (upd xU 10 (.func (.func 87) #[] #[pp b79 0,pp b83 0])) 40 (.slice Qp (((s.qB[i]!).qL).length) Qm)) 41 (yI (((s.qB[i]!).qL).length))) 42 (yI k)∧((k:Int)≤(((s.qB[i]!).qL).length))∧(Ent (s.qA.length+1) (zn s) (fun p q=>base0 s t p q+allS s t counts i p q+at' p (s.qB[i]!).qF.toNat (-(counts[i]!) * ((s.qB[i]!).xu)[q]!)+at' p (s.qB[i]!).qF.toNat ((counts[i]!) * ((s.qB[i]!).xF)[q]!)+at' p (outPl s t (s.qB[i]!)) ((counts[i]!) * ((s.qB[i]!).zI)[q]!)+Xy (s.qB[i]!) (counts[i]!) k p q) (23000000+6000000 * i+1000000 * k) bags_1)∧(bags_1.length=s.qA.length+1)∧m' =((((s.qB[i]!).qL).length) - (k:Int)).toNat∧Fresh w.heap.size [G69]∧St w w135 [.box b83 [yI (counts[i]!)] 2,.box b81 [yI ((s.qB[i]!).qF),yI ((s.qB[i]!).zM),.slice Q7 (((s.qB[i]!).xu).length) QU,.slice Q9 (((s.qB[i]!).xM).length) QW,.slice Q8 (((s.qB[i]!).xK).length) QV,.slice Qq (((s.qB[i]!).xF).length) Qn,.slice QK (((s.qB[i]!).zI).length) QH,.slice Qp (((s.qB[i]!).qL).length) Qm,.bool ((s.qB[i]!).xR)] 49,.box b79 [.slice (aa b52 0) (t.qN.length+1) c8] 29,.box b77 (yT t xk xe xJ xG qY qX) 31,.box b75 [yI s.qQ,.slice qE s.qA.length qC,.slice (aa b44 o45) s.qB.length qH] 27,.box b48 [yI ((s.qB[i]!).qF),yI ((s.qB[i]!).zM),.slice Q7 (((s.qB[i]!).xu).length) QU,.slice Q9 (((s.qB[i]!).xM).length) QW,.slice Q8 (((s.qB[i]!).xK).length) QV,.slice Qq (((s.qB[i]!).xF).length) Qn,.slice QK (((s.qB[i]!).zI).length) QH,.slice Qp (((s.qB[i]!).qL).length) Qm,.bool ((s.qB[i]!).xR)] 49,rr (aa b36 0) s.qA.length s.qA.length 4 1 ((jC s counts s.qA.length i).map (Value.bool)),rr (aa b52 0) (t.qN.length+1) c8 24 1 QO,.box b5 [yN,yN,yN] 31,.box b3 (yT t xk xe xJ xG qY qX) 31,.box b1 [yI s.qQ,.slice qE s.qA.length qC,.slice (aa b44 o45) s.qB.length qH] 27] [xB false F_bags_1 QO bags_1,sF true G69 a64 c65 (y9 (bags[((s.qB[i]!).qF).toNat]!) ((s.qB[i]!).xu) (-(counts[i]!))),sF false G55 a53 c54 (bags[((s.qB[i]!).qF).toNat]!),sF false Fe47Need Q7 QU ((s.qB[i]!).xu),sF false Fe47Have Q9 QW ((s.qB[i]!).xM),sF false Fe47Lack Q8 QV ((s.qB[i]!).xK),sF false Fe47Here Qq Qn ((s.qB[i]!).xF),sF false Fe47Out QK QH ((s.qB[i]!).zI),sF false Fe47Into Qp Qm ((s.qB[i]!).qL),atF b44 (o45+(i:Int).toNat * 9) [yI ((s.qB[i]!).qF),yI ((s.qB[i]!).zM),.slice Q7 (((s.qB[i]!).xu).length) QU,.slice Q9 (((s.qB[i]!).xM).length) QW,.slice Q8 (((s.qB[i]!).xK).length) QV,.slice Qq (((s.qB[i]!).xF).length) Qn,.slice QK (((s.qB[i]!).zI).length) QH,.slice Qp (((s.qB[i]!).qL).length) Qm,.bool ((s.qB[i]!).xR)],sF false qV qE qC s.qA,sF false xx (aa b44 o45) qH s.qB,sF false zF xk xe t.qJ,sF false vM xJ xG t.qN,sF false zf qY qX t.qM,sF false Fcounts (aa b41 o42) ccounts counts]) (((((s.qB[i]!).qL).length) - (0:Int)).toNat) ⟨_,0,bg134,xs131,F132,uE4,qf,(by exact E_cur.to (fun p q=>by rw [po];simp only [Xy];first | omega | (simp only [Int.toNat_natCast];omega)) qf),qf,rfl,(N.pick [2]),H.pick [0,1,2,3,4,5,6,7,8,9,10] [0,7,8,9,10,11,12,13,14,15,17,18,19,20,21,22]⟩ ?_
   clear H N
   rintro m' ρ w136 ⟨xU,k,bags_1,QO,F_bags_1,rfl,i0,E_bags_1,z_bags_1,rfl,N,H⟩
   have hn_bags:=H.zO (α:=yLI) 7 rfl 0 rfl qj
   refine zcr (sp (.bool (decide ((k:Int) < (((s.qB[i]!).qL).length)))) (zjn (x8 (cD rfl (fun h137=>?_) (fun h137=>?_)))))
   ·skip
    have qi:=q.2.2.2.2.2.2.2.2.2.2 k qf
    have qi1:=qi.1
    have bn4:=qi.2.2.1
    have ln4:=bn4.len
    refine xh (t_n (x8 (xg (zcr ?_))))
    obtain ⟨b138,o139,rfl⟩:=H.addr 8 rfl qf
    obtain ⟨ae141Bag,ce141Bag,Fe141Bag,H⟩:=H.yt 8 rfl k k qf qf qf
    refine oI rfl rfl (sw (xW [yI ((((s.qB[i]!).qL)[k]!).qF),.slice ae141Bag (((((s.qB[i]!).qL)[k]!).jR).length) ce141Bag] isAgg111 sizeOf111 rfl (qK (H.get 1 rfl) 0 2) (sw (x9 H ti111 [yI 0,yN] fun b142 w143 H=>sw (xP H 0 [yI ((((s.qB[i]!).qL)[k]!).qF),.slice ae141Bag (((((s.qB[i]!).qL)[k]!).jR).length) ce141Bag] sizeOf111 fun w144 H=>zjn (xZ (sp (.func (.func 87) #[] #[pp b79 0,pp b83 0]) (oF rfl (oL rfl (H.cell 0 rfl rfl) (oF rfl (oL rfl (H.cell 0 rfl rfl) ?_)))))))))))
    refine sw (jA #[yI ((((s.qB[i]!).qL)[k]!).qF),.slice ae141Bag (((((s.qB[i]!).qL)[k]!).jR).length) ce141Bag,pp b79 0,pp b83 0] rfl rfl call87 (en func87 ntmps87 ?_))
    refine Qo rfl H [0,1,2,3,4,5,6,7,9,10,11] fun H=>?_
    have S:=H.jm [0,1,2,3,4,5,6,7,9,10,11] [0,1,2,3,4,5,6,7,8,9,10,11,12,13,14,15,16,17]
    refine tL 0 rfl rfl (fun _ h=>h.cell 3 rfl rfl) S ?_
    refine rtp 1 (yI ((((s.qB[i]!).qL)[k]!).qF)) S ?_
    refine tL 2 rfl rfl (fun _ h=>h.cell 3 rfl rfl) S ?_
    refine rtp 3 (yI ((((s.qB[i]!).qL)[k]!).qF)) S ?_
    refine tI 4 rfl rfl rfl S ?_
    refine rtp 6 (.slice ae141Bag (((((s.qB[i]!).qL)[k]!).jR).length) ce141Bag) S ?_
    refine tL 7 rfl rfl (fun _ h=>h.cell 1 rfl rfl) S ?_
    refine ro 5 rfl ?_
    obtain ⟨a146,c147,G148,s149,h150,H⟩:=H.QC 8 rfl 2 rfl (iv:=(((s.qB[i]!).qL)[k]!).qF) (((((s.qB[i]!).qL)[k]!).qF).toNat) qf qf
    refine xX (.slice a146 ((bags_1[((((s.qB[i]!).qL)[k]!).qF).toNat]!).length) c147) isAgg24 rfl (h150) (⟨H.pick [0,1,2,3,4,5,6,7,9,10,11] [1,2,3,4,5,6,7,8,9,10,11,12,13,14,15,16,17,18],(ro 8 rfl ?_)⟩)
    obtain ⟨u1,u2⟩:=E_bags_1.sh.row (c:=((((s.qB[i]!).qL)[k]!).qF).toNat) qf p8 qf
    have u4:=(by first | exact bn1.QB qf | exact bn2.QB qf | exact bn3.QB qf | exact bn4.QB qf:SmallT ((((s.qB[i]!).qL)[k]!).jR) (counts[i]!))
    have sz151:=H.base.size
    have lt152:=H.ltN (L:=[G69]) [4]
    refine oc (plus_ok _ (bags_1[((((s.qB[i]!).qL)[k]!).qF).toNat]!) ((((s.qB[i]!).qL)[k]!).jR) (counts[i]!) (H.get 0 rfl).1 (H.get 1 rfl).1 qg qg qg) ?_
    rintro v156 w154 r156 x155
    replace H:=H.jw x155 r156
    obtain ⟨a157,c158,rfl,hc159,hm160⟩:=H.Qw 0 rfl
    refine ⟨H.pick [1,2,3,4,5,6,7,8,10,11,12] [1,2,3,4,5,6,7,8,9,10,11,12,13,14,15,16,17,18],(tI 9 rfl rfl rfl (H.pick [1,2,3,4,5,6,7,8,10,11,12] [1,2,3,4,5,6,7,8,9,10,11,12,13,14,15,16,17,18]) ?_)⟩
    refine ro 10 rfl ?_
    obtain ⟨G162,N,hn163,H⟩:=H.vG 0 rfl N (H.yg [4])
    refine Qk false H 9 rfl 4 rfl (.slice a157 ((y9 (bags_1[((((s.qB[i]!).qL)[k]!).qF).toNat]!) ((((s.qB[i]!).qL)[k]!).jR) (counts[i]!)).length) c158) 0 rfl rfl sizeOf24 rfl rfl (i:=(((((s.qB[i]!).qL)[k]!).qF).toNat)) qf qf qm fun w161 xs164 F165 hs166 H=>⟨H.pick [1,2,3,4,5,6,7,8,10,11,12] [3,4,5,6,7,8,9,10,11,12,13,14,15,16,17,18,19,20],(xH qh ((ret0 rfl ⟨_,rfl,?_⟩)))⟩
    replace H:=H.erases [0]
    dsimp only [jK,List.eraseIdx] at H
    obtain ⟨bg167,e_bg167⟩:∃ z,z=(bags_1.set (((((s.qB[i]!).qL)[k]!).qF).toNat) (y9 (bags_1[((((s.qB[i]!).qL)[k]!).qF).toNat]!) ((((s.qB[i]!).qL)[k]!).jR) (counts[i]!))):=⟨_,rfl⟩
    rw [← e_bg167] at H
    have E_bg167:=Ent.add (D:=1000000) E_bags_1 e_bg167 qf (by first | exact bn1.mul qf | exact bn2.mul qf | exact bn3.mul qf | exact bn4.mul qf) qf
    have z_bg167:=E_bg167.sh.1
    have E_cur:=E_bg167
    refine zi (b_n (t_n (xZ (sw (zB k 1 rfl rfl qf (sp (yI (k+1)) (zi (xq (m' :=((((s.qB[i]!).qL).length) - ((k+1):Int)).toNat) qf ⟨_,k+1,bg167,xs164,F165,uE4,?_,?_,?_,rfl,(N.pick [1]),H.pick [1,2,3,4,5,6,7,8,9,10,11] [0,6,7,8,9,10,11,12,13,14,15,16,17,18,19,20]⟩))))))))
    · omega
    · exact E_cur.to (fun p q=>by simp only [Xy];omega) qf
    · omega
   refine c_exit (t_x (t_x (b_x (ret0 rfl ⟨_,rfl,?_⟩))))
   replace H:=H.erases [4,3,2,1,0]
   dsimp only [jK,List.eraseIdx] at H
   refine zjn ?_
   refine Qo rfl H [0,2,3,4,5] fun H=>?_
   have S:=H.jm [0,2,3,4,5] [0,1,2,3,4,5,6,7,8,9,10,11,12,13,14,15]
   refine rtp 0 (.slice (aa b36 0) s.qA.length s.qA.length) S ?_
   refine tF 1 rfl rfl S ?_
   refine tL 2 rfl rfl (fun _ h=>h.cell 0 rfl rfl) S ?_
   refine rtp 3 (.slice (aa b36 0) s.qA.length s.qA.length) S ?_
   refine tF 4 rfl rfl S ?_
   refine tL 5 rfl rfl (fun _ h=>h.cell 0 rfl rfl) S ?_
   refine tI 6 rfl rfl rfl S ?_
   refine ro 7 rfl (xX (.bool ((jC s counts s.qA.length i)[((s.qB[i]!).qF).toNat]!)) isAgg4 rfl (H.rowBool 1 rfl (iv:=(s.qB[i]!).qF) (i:=(((s.qB[i]!).qF).toNat)) qf qf) (⟨H.pick [0,2,3,4,5] [0,1,2,3,4,5,6,7,8,9,10,11,12,13,14,15],(rtp 8 (.bool ((jC s counts s.qA.length i)[((s.qB[i]!).qF).toNat]!)) (H.pick [0,2,3,4,5] [0,1,2,3,4,5,6,7,8,9,10,11,12,13,14,15]) ?_)⟩))
   cases h169:((jC s counts s.qA.length i)[((s.qB[i]!).qF).toNat]!)
   ·skip
    have S:=H.jm [0,2,3,4,5] [0,1,2,3,4,5,6,7,8,9,10,11,12,13,14,15]
    refine rgp 9 (yI (counts[i]!)) 66 S ?_
    refine rgp 10 (.bool (decide ((counts[i]! :Int) > 0))) 66 S ?_
    refine rgp 11 (.bool (decide ((counts[i]! :Int) > 0))) 66 S ?_
    cases h170:(decide ((counts[i]! :Int) > 0))
    ·skip
     replace h170:=of_decide_eq_false h170
     refine zD [12,13] 2 (H.pick [0,2,3,4,5] [0,1,2,3,4,5,6,7,8,9,10,11,12,13,14,15]) ?_
     have S:=H.jm [0,2,3,4,5] [0,1,2,3,4,5,6,7,8,9,10,11,12,13,14,15]
     refine rgp 14 (.bool false) 66 S ?_
     refine rtp 15 (.bool false) S ?_
     refine tI 16 rfl rfl rfl S ?_
     refine ro 17 rfl (Xp H 1 rfl false sizeOf4 rfl rfl (i:=(((s.qB[i]!).qF).toNat)) qf qf fun w171 H=>⟨H.pick [0,2,3,4,5] [0,1,2,3,4,5,6,7,8,9,10,11,12,13,14,15],(xH qh (b_n (t_n (xZ (sw (zB i 1 rfl rfl qf (sp (yI (i+1)) (zi (xq (m' :=(counts.length - ((i+1):Int)).toNat) qf ⟨_,i+1,((jC s counts s.qA.length i).set (((s.qB[i]!).qF).toNat) false),bags_1,QO,F_bags_1,uE8,?_,?_,?_,?_,rfl,(N.pick []),H.pick [1,2,3,4,5] [0,10,11,12,13,14,15]⟩)))))))))⟩)
     · first | exact meltsL_1 qf qf ‹_› | exact meltsL_2 qf qf ‹_› qf | exact meltsL_3 qf qf ‹_› qf
     · omega
     · exact E_bags_1.to (fun p q=>by rw [show k=((s.qB[i]!).qL).length by omega];simp only [allS,needF,putF];omega) qf
     · omega
    replace h170:=of_decide_eq_true h170
    have S:=H.jm [0,2,3,4,5] [0,1,2,3,4,5,6,7,8,9,10,11,12,13,14,15]
    refine gF 12 rfl rfl S ?_
    refine gL 13 rfl rfl (fun _ h=>h.cell 0 rfl rfl) S ?_
    refine rgp 14 (.bool ((s.qB[i]!).xR)) 66 S ?_
    refine rtp 15 (.bool ((s.qB[i]!).xR)) S ?_
    refine tI 16 rfl rfl rfl S ?_
    refine ro 17 rfl (Xp H 1 rfl ((s.qB[i]!).xR) sizeOf4 rfl rfl (i:=(((s.qB[i]!).qF).toNat)) qf qf fun w172 H=>⟨H.pick [0,2,3,4,5] [0,1,2,3,4,5,6,7,8,9,10,11,12,13,14,15],(xH qh (b_n (t_n (xZ (sw (zB i 1 rfl rfl qf (sp (yI (i+1)) (zi (xq (m' :=(counts.length - ((i+1):Int)).toNat) qf ⟨_,i+1,((jC s counts s.qA.length i).set (((s.qB[i]!).qF).toNat) ((s.qB[i]!).xR)),bags_1,QO,F_bags_1,uE8,?_,?_,?_,?_,rfl,(N.pick []),H.pick [1,2,3,4,5] [0,10,11,12,13,14,15]⟩)))))))))⟩)
    · first | exact meltsL_1 qf qf ‹_› | exact meltsL_2 qf qf ‹_› qf | exact meltsL_3 qf qf ‹_› qf
    · omega
    · exact E_bags_1.to (fun p q=>by rw [show k=((s.qB[i]!).qL).length by omega];simp only [allS,needF,putF];omega) qf
    · omega
   refine zD [9,10,11,12,13,14] 6 (H.pick [0,2,3,4,5] [0,1,2,3,4,5,6,7,8,9,10,11,12,13,14,15]) ?_
   have S:=H.jm [0,2,3,4,5] [0,1,2,3,4,5,6,7,8,9,10,11,12,13,14,15]
   refine rtp 15 (.bool true) S ?_
   refine tI 16 rfl rfl rfl S ?_
   refine ro 17 rfl (Xp H 1 rfl true sizeOf4 rfl rfl (i:=(((s.qB[i]!).qF).toNat)) qf qf fun w173 H=>⟨H.pick [0,2,3,4,5] [0,1,2,3,4,5,6,7,8,9,10,11,12,13,14,15],(xH qh (b_n (t_n (xZ (sw (zB i 1 rfl rfl qf (sp (yI (i+1)) (zi (xq (m' :=(counts.length - ((i+1):Int)).toNat) qf ⟨_,i+1,((jC s counts s.qA.length i).set (((s.qB[i]!).qF).toNat) true),bags_1,QO,F_bags_1,uE8,?_,?_,?_,?_,rfl,(N.pick []),H.pick [1,2,3,4,5] [0,10,11,12,13,14,15]⟩)))))))))⟩)
   · first | exact meltsL_1 qf qf ‹_› | exact meltsL_2 qf qf ‹_› qf | exact meltsL_3 qf qf ‹_› qf
   · omega
   · exact E_bags_1.to (fun p q=>by rw [show k=((s.qB[i]!).qL).length by omega];simp only [allS,needF,putF];omega) qf
   · omega
  have po:=outPl_out (r:=s.qB[i]!) p15 p1.2.2.1 qc qf
  refine Qo rfl H [0,1,2,3,4,5,6,8,9,10] fun H=>?_
  have S:=H.jm [0,1,2,3,4,5,6,8,9,10] [0,1,2,3,4,5,6,7,8,9,10,11,12,13,14,15,16,17,18,19]
  refine rtp 0 (.func (.func 87) #[] #[pp b79 0,pp b83 0]) S ?_
  refine rt 1 (.agg #[yI s.qQ,.slice qE s.qA.length qC,.slice (aa b44 o45) s.qB.length qH]) (yh (cs:=[yI s.qQ,.slice qE s.qA.length qC,.slice (aa b44 o45) s.qB.length qH]) isAgg27 sizeOf27 rfl (fun _ h=>qK (h.cells 4 rfl) 0 3)) S ?_
  refine tF 3 rfl rfl S ?_
  refine tL 4 rfl rfl (fun _ h=>h.cell 1 rfl rfl) S ?_
  refine ro 2 rfl (oq (around_ok _ s (H.get 14 rfl).1 (H.get 15 rfl).1) H fun w176 H=>⟨H.pick [0,1,2,3,4,5,6,8,9,10] [0,1,2,3,4,5,6,7,8,9,10,11,12,13,14,15,16,17,18,19],(ro 5 rfl (jA #[yI s.qA.length,.slice QK (((s.qB[i]!).zI).length) QH,pp b79 0,pp b83 0] rfl rfl call87 (en func87 ntmps87 ?_)))⟩)
  refine Qo rfl H [0,1,2,3,4,5,6,8,9,10] fun H=>?_
  have S:=H.jm [0,1,2,3,4,5,6,8,9,10] [0,1,2,3,4,5,6,7,8,9,10,11,12,13,14,15,16,17,18,19]
  refine tL 0 rfl rfl (fun _ h=>h.cell 2 rfl rfl) S ?_
  refine rtp 1 (yI s.qA.length) S ?_
  refine tL 2 rfl rfl (fun _ h=>h.cell 2 rfl rfl) S ?_
  refine rtp 3 (yI s.qA.length) S ?_
  refine tI 4 rfl rfl rfl S ?_
  refine rtp 6 (.slice QK (((s.qB[i]!).zI).length) QH) S ?_
  refine tL 7 rfl rfl (fun _ h=>h.cell 0 rfl rfl) S ?_
  refine ro 5 rfl ?_
  obtain ⟨a179,c180,G181,s182,h183,H⟩:=H.QC 7 rfl 0 rfl (iv:=s.qA.length) s.qA.length qf qf
  refine xX (.slice a179 ((bg107[s.qA.length]!).length) c180) isAgg24 rfl (h183) (⟨H.pick [0,1,2,3,4,5,6,8,9,10] [1,2,3,4,5,6,7,8,9,10,11,12,13,14,15,16,17,18,19,20],(ro 8 rfl ?_)⟩)
  obtain ⟨u1,u2⟩:=E_bg107.sh.row (c:=s.qA.length) qf p8 qf
  have u4:=(by first | exact bn1.QB qf | exact bn2.QB qf | exact bn3.QB qf | exact bn4.QB qf:SmallT ((s.qB[i]!).zI) (counts[i]!))
  have sz184:=H.base.size
  have lt185:=H.ltN (L:=[G102,G69]) [2,5]
  refine oc (plus_ok _ (bg107[s.qA.length]!) ((s.qB[i]!).zI) (counts[i]!) (H.get 0 rfl).1 (H.get 11 rfl).1 qg qg qg) ?_
  rintro v189 w187 r189 x188
  replace H:=H.jw x188 r189
  obtain ⟨a190,c191,rfl,hc192,hm193⟩:=H.Qw 0 rfl
  refine ⟨H.pick [1,2,3,4,5,6,7,9,10,11] [1,2,3,4,5,6,7,8,9,10,11,12,13,14,15,16,17,18,19,20],(tI 9 rfl rfl rfl (H.pick [1,2,3,4,5,6,7,9,10,11] [1,2,3,4,5,6,7,8,9,10,11,12,13,14,15,16,17,18,19,20]) ?_)⟩
  refine ro 10 rfl ?_
  obtain ⟨G195,N,hn196,H⟩:=H.vG 0 rfl N (H.yg [2,5])
  refine Qk false H 8 rfl 2 rfl (.slice a190 ((y9 (bg107[s.qA.length]!) ((s.qB[i]!).zI) (counts[i]!)).length) c191) 0 rfl rfl sizeOf24 rfl rfl (i:=s.qA.length) qf qf qm fun w194 xs197 F198 hs199 H=>⟨H.pick [1,2,3,4,5,6,7,9,10,11] [3,4,5,6,7,8,9,10,11,12,13,14,15,16,17,18,19,20,21,22],(xH qh ((ret0 rfl ⟨_,rfl,?_⟩)))⟩
  replace H:=H.erases [0]
  dsimp only [jK,List.eraseIdx] at H
  obtain ⟨bg200,e_bg200⟩:∃ z,z=(bg107.set s.qA.length (y9 (bg107[s.qA.length]!) ((s.qB[i]!).zI) (counts[i]!))):=⟨_,rfl⟩
  rw [← e_bg200] at H
  have E_bg200:=Ent.add (D:=1000000) E_bg107 e_bg200 qf (by first | exact bn1.mul qf | exact bn2.mul qf | exact bn3.mul qf | exact bn4.mul qf) qf
  have z_bg200:=E_bg200.sh.1
  have E_cur:=E_bg200
  refine ⟨H.pick [0,1,2,3,4,5,6,8,9,10] [3,4,5,6,7,8,9,10,11,12,13,14,15,16,17,18,19,20,21,22],(xH qh (t_n (zcr (oF rfl (oL rfl (H.cell 1 rfl rfl) (oN rfl (sp (yI 0) (zjn (xg ?_)))))))))⟩
  refine zH (fun m' ρ w201=>∃ (xU:Env) (k:Nat) (bags_1:yLL) (QO:List Value) (F_bags_1:yLN),ρ=upd (upd (upd (upd xU 10 (.func (.func 87) #[] #[pp b79 0,pp b83 0])) 40 (.slice Qp (((s.qB[i]!).qL).length) Qm)) 41 (yI (((s.qB[i]!).qL).length))) 42 (yI k)∧((k:Int)≤(((s.qB[i]!).qL).length))∧(Ent (s.qA.length+1) (zn s) (fun p q=>base0 s t p q+allS s t counts i p q+at' p (s.qB[i]!).qF.toNat (-(counts[i]!) * ((s.qB[i]!).xu)[q]!)+at' p (s.qB[i]!).qF.toNat ((counts[i]!) * ((s.qB[i]!).xF)[q]!)+at' p (outPl s t (s.qB[i]!)) ((counts[i]!) * ((s.qB[i]!).zI)[q]!)+Xy (s.qB[i]!) (counts[i]!) k p q) (23000000+6000000 * i+1000000 * k) bags_1)∧(bags_1.length=s.qA.length+1)∧m' =((((s.qB[i]!).qL).length) - (k:Int)).toNat∧Fresh w.heap.size [G69]∧St w w201 [.box b83 [yI (counts[i]!)] 2,.box b81 [yI ((s.qB[i]!).qF),yI ((s.qB[i]!).zM),.slice Q7 (((s.qB[i]!).xu).length) QU,.slice Q9 (((s.qB[i]!).xM).length) QW,.slice Q8 (((s.qB[i]!).xK).length) QV,.slice Qq (((s.qB[i]!).xF).length) Qn,.slice QK (((s.qB[i]!).zI).length) QH,.slice Qp (((s.qB[i]!).qL).length) Qm,.bool ((s.qB[i]!).xR)] 49,.box b79 [.slice (aa b52 0) (t.qN.length+1) c8] 29,.box b77 (yT t xk xe xJ xG qY qX) 31,.box b75 [yI s.qQ,.slice qE s.qA.length qC,.slice (aa b44 o45) s.qB.length qH] 27,.box b48 [yI ((s.qB[i]!).qF),yI ((s.qB[i]!).zM),.slice Q7 (((s.qB[i]!).xu).length) QU,.slice Q9 (((s.qB[i]!).xM).length) QW,.slice Q8 (((s.qB[i]!).xK).length) QV,.slice Qq (((s.qB[i]!).xF).length) Qn,.slice QK (((s.qB[i]!).zI).length) QH,.slice Qp (((s.qB[i]!).qL).length) Qm,.bool ((s.qB[i]!).xR)] 49,rr (aa b36 0) s.qA.length s.qA.length 4 1 ((jC s counts s.qA.length i).map (Value.bool)),rr (aa b52 0) (t.qN.length+1) c8 24 1 QO,.box b5 [yN,yN,yN] 31,.box b3 (yT t xk xe xJ xG qY qX) 31,.box b1 [yI s.qQ,.slice qE s.qA.length qC,.slice (aa b44 o45) s.qB.length qH] 27] [xB false F_bags_1 QO bags_1,sF true G69 a64 c65 (y9 (bags[((s.qB[i]!).qF).toNat]!) ((s.qB[i]!).xu) (-(counts[i]!))),sF false G55 a53 c54 (bags[((s.qB[i]!).qF).toNat]!),sF false Fe47Need Q7 QU ((s.qB[i]!).xu),sF false Fe47Have Q9 QW ((s.qB[i]!).xM),sF false Fe47Lack Q8 QV ((s.qB[i]!).xK),sF false Fe47Here Qq Qn ((s.qB[i]!).xF),sF false Fe47Out QK QH ((s.qB[i]!).zI),sF false Fe47Into Qp Qm ((s.qB[i]!).qL),atF b44 (o45+(i:Int).toNat * 9) [yI ((s.qB[i]!).qF),yI ((s.qB[i]!).zM),.slice Q7 (((s.qB[i]!).xu).length) QU,.slice Q9 (((s.qB[i]!).xM).length) QW,.slice Q8 (((s.qB[i]!).xK).length) QV,.slice Qq (((s.qB[i]!).xF).length) Qn,.slice QK (((s.qB[i]!).zI).length) QH,.slice Qp (((s.qB[i]!).qL).length) Qm,.bool ((s.qB[i]!).xR)],sF false qV qE qC s.qA,sF false xx (aa b44 o45) qH s.qB,sF false zF xk xe t.qJ,sF false vM xJ xG t.qN,sF false zf qY qX t.qM,sF false Fcounts (aa b41 o42) ccounts counts]) (((((s.qB[i]!).qL).length) - (0:Int)).toNat) ⟨_,0,bg200,xs197,F198,uE4,qf,(by exact E_cur.to (fun p q=>by rw [po];simp only [Xy];first | omega | (simp only [Int.toNat_natCast];omega)) qf),qf,rfl,(N.pick [2]),H.pick [0,1,2,3,4,5,6,7,8,9,10] [0,7,8,9,10,11,12,13,14,15,17,18,19,20,21,22]⟩ ?_
  clear H N
  rintro m' ρ w202 ⟨xU,k,bags_1,QO,F_bags_1,rfl,i0,E_bags_1,z_bags_1,rfl,N,H⟩
  have hn_bags:=H.zO (α:=yLI) 7 rfl 0 rfl qj
  refine zcr (sp (.bool (decide ((k:Int) < (((s.qB[i]!).qL).length)))) (zjn (x8 (cD rfl (fun h203=>?_) (fun h203=>?_)))))
  ·skip
   have qi:=q.2.2.2.2.2.2.2.2.2.2 k qf
   have qi1:=qi.1
   have bn4:=qi.2.2.1
   have ln4:=bn4.len
   refine xh (t_n (x8 (xg (zcr ?_))))
   obtain ⟨b204,o205,rfl⟩:=H.addr 8 rfl qf
   obtain ⟨ae207Bag,ce207Bag,Fe207Bag,H⟩:=H.yt 8 rfl k k qf qf qf
   refine oI rfl rfl (sw (xW [yI ((((s.qB[i]!).qL)[k]!).qF),.slice ae207Bag (((((s.qB[i]!).qL)[k]!).jR).length) ce207Bag] isAgg111 sizeOf111 rfl (qK (H.get 1 rfl) 0 2) (sw (x9 H ti111 [yI 0,yN] fun b208 w209 H=>sw (xP H 0 [yI ((((s.qB[i]!).qL)[k]!).qF),.slice ae207Bag (((((s.qB[i]!).qL)[k]!).jR).length) ce207Bag] sizeOf111 fun w210 H=>zjn (xZ (sp (.func (.func 87) #[] #[pp b79 0,pp b83 0]) (oF rfl (oL rfl (H.cell 0 rfl rfl) (oF rfl (oL rfl (H.cell 0 rfl rfl) ?_)))))))))))
   refine sw (jA #[yI ((((s.qB[i]!).qL)[k]!).qF),.slice ae207Bag (((((s.qB[i]!).qL)[k]!).jR).length) ce207Bag,pp b79 0,pp b83 0] rfl rfl call87 (en func87 ntmps87 ?_))
   refine Qo rfl H [0,1,2,3,4,5,6,7,9,10,11] fun H=>?_
   have S:=H.jm [0,1,2,3,4,5,6,7,9,10,11] [0,1,2,3,4,5,6,7,8,9,10,11,12,13,14,15,16,17]
   refine tL 0 rfl rfl (fun _ h=>h.cell 3 rfl rfl) S ?_
   refine rtp 1 (yI ((((s.qB[i]!).qL)[k]!).qF)) S ?_
   refine tL 2 rfl rfl (fun _ h=>h.cell 3 rfl rfl) S ?_
   refine rtp 3 (yI ((((s.qB[i]!).qL)[k]!).qF)) S ?_
   refine tI 4 rfl rfl rfl S ?_
   refine rtp 6 (.slice ae207Bag (((((s.qB[i]!).qL)[k]!).jR).length) ce207Bag) S ?_
   refine tL 7 rfl rfl (fun _ h=>h.cell 1 rfl rfl) S ?_
   refine ro 5 rfl ?_
   obtain ⟨a212,c213,G214,s215,h216,H⟩:=H.QC 8 rfl 2 rfl (iv:=(((s.qB[i]!).qL)[k]!).qF) (((((s.qB[i]!).qL)[k]!).qF).toNat) qf qf
   refine xX (.slice a212 ((bags_1[((((s.qB[i]!).qL)[k]!).qF).toNat]!).length) c213) isAgg24 rfl (h216) (⟨H.pick [0,1,2,3,4,5,6,7,9,10,11] [1,2,3,4,5,6,7,8,9,10,11,12,13,14,15,16,17,18],(ro 8 rfl ?_)⟩)
   obtain ⟨u1,u2⟩:=E_bags_1.sh.row (c:=((((s.qB[i]!).qL)[k]!).qF).toNat) qf p8 qf
   have u4:=(by first | exact bn1.QB qf | exact bn2.QB qf | exact bn3.QB qf | exact bn4.QB qf:SmallT ((((s.qB[i]!).qL)[k]!).jR) (counts[i]!))
   have sz217:=H.base.size
   have lt218:=H.ltN (L:=[G69]) [4]
   refine oc (plus_ok _ (bags_1[((((s.qB[i]!).qL)[k]!).qF).toNat]!) ((((s.qB[i]!).qL)[k]!).jR) (counts[i]!) (H.get 0 rfl).1 (H.get 1 rfl).1 qg qg qg) ?_
   rintro v222 w220 r222 x221
   replace H:=H.jw x221 r222
   obtain ⟨a223,c224,rfl,hc225,hm226⟩:=H.Qw 0 rfl
   refine ⟨H.pick [1,2,3,4,5,6,7,8,10,11,12] [1,2,3,4,5,6,7,8,9,10,11,12,13,14,15,16,17,18],(tI 9 rfl rfl rfl (H.pick [1,2,3,4,5,6,7,8,10,11,12] [1,2,3,4,5,6,7,8,9,10,11,12,13,14,15,16,17,18]) ?_)⟩
   refine ro 10 rfl ?_
   obtain ⟨G228,N,hn229,H⟩:=H.vG 0 rfl N (H.yg [4])
   refine Qk false H 9 rfl 4 rfl (.slice a223 ((y9 (bags_1[((((s.qB[i]!).qL)[k]!).qF).toNat]!) ((((s.qB[i]!).qL)[k]!).jR) (counts[i]!)).length) c224) 0 rfl rfl sizeOf24 rfl rfl (i:=(((((s.qB[i]!).qL)[k]!).qF).toNat)) qf qf qm fun w227 xs230 F231 hs232 H=>⟨H.pick [1,2,3,4,5,6,7,8,10,11,12] [3,4,5,6,7,8,9,10,11,12,13,14,15,16,17,18,19,20],(xH qh ((ret0 rfl ⟨_,rfl,?_⟩)))⟩
   replace H:=H.erases [0]
   dsimp only [jK,List.eraseIdx] at H
   obtain ⟨bg233,e_bg233⟩:∃ z,z=(bags_1.set (((((s.qB[i]!).qL)[k]!).qF).toNat) (y9 (bags_1[((((s.qB[i]!).qL)[k]!).qF).toNat]!) ((((s.qB[i]!).qL)[k]!).jR) (counts[i]!))):=⟨_,rfl⟩
   rw [← e_bg233] at H
   have E_bg233:=Ent.add (D:=1000000) E_bags_1 e_bg233 qf (by first | exact bn1.mul qf | exact bn2.mul qf | exact bn3.mul qf | exact bn4.mul qf) qf
   have z_bg233:=E_bg233.sh.1
   have E_cur:=E_bg233
   refine zi (b_n (t_n (xZ (sw (zB k 1 rfl rfl qf (sp (yI (k+1)) (zi (xq (m' :=((((s.qB[i]!).qL).length) - ((k+1):Int)).toNat) qf ⟨_,k+1,bg233,xs230,F231,uE4,?_,?_,?_,rfl,(N.pick [1]),H.pick [1,2,3,4,5,6,7,8,9,10,11] [0,6,7,8,9,10,11,12,13,14,15,16,17,18,19,20]⟩))))))))
   · omega
   · exact E_cur.to (fun p q=>by simp only [Xy];omega) qf
   · omega
  refine c_exit (t_x (t_x (b_x (ret0 rfl ⟨_,rfl,?_⟩))))
  replace H:=H.erases [4,3,2,1,0]
  dsimp only [jK,List.eraseIdx] at H
  refine zjn ?_
  refine Qo rfl H [0,2,3,4,5] fun H=>?_
  have S:=H.jm [0,2,3,4,5] [0,1,2,3,4,5,6,7,8,9,10,11,12,13,14,15]
  refine rtp 0 (.slice (aa b36 0) s.qA.length s.qA.length) S ?_
  refine tF 1 rfl rfl S ?_
  refine tL 2 rfl rfl (fun _ h=>h.cell 0 rfl rfl) S ?_
  refine rtp 3 (.slice (aa b36 0) s.qA.length s.qA.length) S ?_
  refine tF 4 rfl rfl S ?_
  refine tL 5 rfl rfl (fun _ h=>h.cell 0 rfl rfl) S ?_
  refine tI 6 rfl rfl rfl S ?_
  refine ro 7 rfl (xX (.bool ((jC s counts s.qA.length i)[((s.qB[i]!).qF).toNat]!)) isAgg4 rfl (H.rowBool 1 rfl (iv:=(s.qB[i]!).qF) (i:=(((s.qB[i]!).qF).toNat)) qf qf) (⟨H.pick [0,2,3,4,5] [0,1,2,3,4,5,6,7,8,9,10,11,12,13,14,15],(rtp 8 (.bool ((jC s counts s.qA.length i)[((s.qB[i]!).qF).toNat]!)) (H.pick [0,2,3,4,5] [0,1,2,3,4,5,6,7,8,9,10,11,12,13,14,15]) ?_)⟩))
  cases h235:((jC s counts s.qA.length i)[((s.qB[i]!).qF).toNat]!)
  ·skip
   have S:=H.jm [0,2,3,4,5] [0,1,2,3,4,5,6,7,8,9,10,11,12,13,14,15]
   refine rgp 9 (yI (counts[i]!)) 66 S ?_
   refine rgp 10 (.bool (decide ((counts[i]! :Int) > 0))) 66 S ?_
   refine rgp 11 (.bool (decide ((counts[i]! :Int) > 0))) 66 S ?_
   cases h236:(decide ((counts[i]! :Int) > 0))
   ·skip
    replace h236:=of_decide_eq_false h236
    refine zD [12,13] 2 (H.pick [0,2,3,4,5] [0,1,2,3,4,5,6,7,8,9,10,11,12,13,14,15]) ?_
    have S:=H.jm [0,2,3,4,5] [0,1,2,3,4,5,6,7,8,9,10,11,12,13,14,15]
    refine rgp 14 (.bool false) 66 S ?_
    refine rtp 15 (.bool false) S ?_
    refine tI 16 rfl rfl rfl S ?_
    refine ro 17 rfl (Xp H 1 rfl false sizeOf4 rfl rfl (i:=(((s.qB[i]!).qF).toNat)) qf qf fun w237 H=>⟨H.pick [0,2,3,4,5] [0,1,2,3,4,5,6,7,8,9,10,11,12,13,14,15],(xH qh (b_n (t_n (xZ (sw (zB i 1 rfl rfl qf (sp (yI (i+1)) (zi (xq (m' :=(counts.length - ((i+1):Int)).toNat) qf ⟨_,i+1,((jC s counts s.qA.length i).set (((s.qB[i]!).qF).toNat) false),bags_1,QO,F_bags_1,uE8,?_,?_,?_,?_,rfl,(N.pick []),H.pick [1,2,3,4,5] [0,10,11,12,13,14,15]⟩)))))))))⟩)
    · first | exact meltsL_1 qf qf ‹_› | exact meltsL_2 qf qf ‹_› qf | exact meltsL_3 qf qf ‹_› qf
    · omega
    · exact E_bags_1.to (fun p q=>by rw [show k=((s.qB[i]!).qL).length by omega];simp only [allS,needF,putF];omega) qf
    · omega
   replace h236:=of_decide_eq_true h236
   have S:=H.jm [0,2,3,4,5] [0,1,2,3,4,5,6,7,8,9,10,11,12,13,14,15]
   refine gF 12 rfl rfl S ?_
   refine gL 13 rfl rfl (fun _ h=>h.cell 0 rfl rfl) S ?_
   refine rgp 14 (.bool ((s.qB[i]!).xR)) 66 S ?_
   refine rtp 15 (.bool ((s.qB[i]!).xR)) S ?_
   refine tI 16 rfl rfl rfl S ?_
   refine ro 17 rfl (Xp H 1 rfl ((s.qB[i]!).xR) sizeOf4 rfl rfl (i:=(((s.qB[i]!).qF).toNat)) qf qf fun w238 H=>⟨H.pick [0,2,3,4,5] [0,1,2,3,4,5,6,7,8,9,10,11,12,13,14,15],(xH qh (b_n (t_n (xZ (sw (zB i 1 rfl rfl qf (sp (yI (i+1)) (zi (xq (m' :=(counts.length - ((i+1):Int)).toNat) qf ⟨_,i+1,((jC s counts s.qA.length i).set (((s.qB[i]!).qF).toNat) ((s.qB[i]!).xR)),bags_1,QO,F_bags_1,uE8,?_,?_,?_,?_,rfl,(N.pick []),H.pick [1,2,3,4,5] [0,10,11,12,13,14,15]⟩)))))))))⟩)
   · first | exact meltsL_1 qf qf ‹_› | exact meltsL_2 qf qf ‹_› qf | exact meltsL_3 qf qf ‹_› qf
   · omega
   · exact E_bags_1.to (fun p q=>by rw [show k=((s.qB[i]!).qL).length by omega];simp only [allS,needF,putF];omega) qf
   · omega
  refine zD [9,10,11,12,13,14] 6 (H.pick [0,2,3,4,5] [0,1,2,3,4,5,6,7,8,9,10,11,12,13,14,15]) ?_
  have S:=H.jm [0,2,3,4,5] [0,1,2,3,4,5,6,7,8,9,10,11,12,13,14,15]
  refine rtp 15 (.bool true) S ?_
  refine tI 16 rfl rfl rfl S ?_
  refine ro 17 rfl (Xp H 1 rfl true sizeOf4 rfl rfl (i:=(((s.qB[i]!).qF).toNat)) qf qf fun w239 H=>⟨H.pick [0,2,3,4,5] [0,1,2,3,4,5,6,7,8,9,10,11,12,13,14,15],(xH qh (b_n (t_n (xZ (sw (zB i 1 rfl rfl qf (sp (yI (i+1)) (zi (xq (m' :=(counts.length - ((i+1):Int)).toNat) qf ⟨_,i+1,((jC s counts s.qA.length i).set (((s.qB[i]!).qF).toNat) true),bags_1,QO,F_bags_1,uE8,?_,?_,?_,?_,rfl,(N.pick []),H.pick [1,2,3,4,5] [0,10,11,12,13,14,15]⟩)))))))))⟩)
  · first | exact meltsL_1 qf qf ‹_› | exact meltsL_2 qf qf ‹_› qf | exact meltsL_3 qf qf ‹_› qf
  · omega
  · exact E_bags_1.to (fun p q=>by rw [show k=((s.qB[i]!).qL).length by omega];simp only [allS,needF,putF];omega) qf
  · omega
 refine zx4 (x8 ?_)
 obtain ⟨b240,rfl⟩:=H.Xo 1 rfl qf
 refine c_cut (fun ρ w250=>∃ (xU:Env) (b241:Nat) (ra242:yOA) (rc243:Nat) (ra244:yOA) (rc245:Nat) (ra246:yOA) (rc247:Nat) (rx248:List Value) (rF249:yLN),ρ=upd (upd (upd (upd xU 3 (pp b1 0)) 6 (pp b5 0)) 9 (.slice (aa b36 0) s.qA.length s.qA.length)) 13 (pp b241 0)∧Fresh w.heap.size [rF249]∧St w w250 [.box b241 [.slice ra242 (((⟨t.qJ,(bags.take s.qA.length),bags[s.qA.length]!⟩:qR).qJ).length) rc243,.slice ra244 (((⟨t.qJ,(bags.take s.qA.length),bags[s.qA.length]!⟩:qR).qN).length) rc245,.slice ra246 (((⟨t.qJ,(bags.take s.qA.length),bags[s.qA.length]!⟩:qR).qM).length) rc247] 31,rr ra242 (((⟨t.qJ,(bags.take s.qA.length),bags[s.qA.length]!⟩:qR).qJ).length) rc243 4 1 (((⟨t.qJ,(bags.take s.qA.length),bags[s.qA.length]!⟩:qR).qJ).map (Value.bool)),rr ra244 (((⟨t.qJ,(bags.take s.qA.length),bags[s.qA.length]!⟩:qR).qN).length) rc245 24 1 rx248,rr ra246 (((⟨t.qJ,(bags.take s.qA.length),bags[s.qA.length]!⟩:qR).qM).length) rc247 2 1 (((⟨t.qJ,(bags.take s.qA.length),bags[s.qA.length]!⟩:qR).qM).map (Value.int .i64)),rr (aa b36 0) s.qA.length s.qA.length 4 1 ((jC s counts s.qA.length i).map (Value.bool)),rr none 0 0 0 1 [],.box b5 [yN,yN,yN] 31,.box b3 (yT t xk xe xJ xG qY qX) 31,.box b1 (yS s qE qC qI qH) 27] [xB true rF249 rx248 ((⟨t.qJ,(bags.take s.qA.length),bags[s.qA.length]!⟩:qR).qN),sF false qV qE qC s.qA,sF false xx qI qH s.qB,sF false zF xk xe t.qJ,sF false vM xJ xG t.qN,sF false zf qY qX t.qM]) ?_ ?_
 ·skip
  refine Qo rfl H [0,2,3,4] fun H=>?_
  refine r_have (fun ρ w258=>∃ (xU:Env) (a252:yOA) (c253:Nat) (a254:yOA) (G255:yLN) (G256:yLN),ρ=upd (upd (upd (upd (upd (upd xU 3 (pp b1 0)) 6 (pp b5 0)) 9 (.slice (aa b36 0) s.qA.length s.qA.length)) 77 (.slice xk t.qJ.length xe)) 81 (.slice a254 ((bags.take s.qA.length).length) c8)) 86 (.slice a252 ((bags[s.qA.length]!).length) c253)∧Fresh w.heap.size []∧St w w258 [rr (aa b36 0) s.qA.length s.qA.length 4 1 ((jC s counts s.qA.length i).map (Value.bool)),rr none 0 0 0 1 [],.box b5 [yN,yN,yN] 31,.box b3 (yT t xk xe xJ xG qY qX) 31,.box b1 (yS s qE qC qI qH) 27] [sF false G255 a254 c8 (bags.take s.qA.length),sF false G256 a252 c253 (bags[s.qA.length]!),xB false F_bags x_bags bags,sF false qV qE qC s.qA,sF false xx qI qH s.qB,sF false zF xk xe t.qJ,sF false vM xJ xG t.qN,sF false zf qY qX t.qM,sF false Fcounts acounts ccounts counts]) 4 #[true,true,true,true,true,true,true,true,true,true,true,false,false,false,false] ?_ fun L257=>?_
  ·skip
   rintro ρ w259 ⟨xU,a252,c253,a254,G255,G256,rfl,N,H⟩
   refine jd [11,13] qh qm (jI rfl ?_ (jI rfl ?_ je))
   ·skip
    refine jg [.slice xk t.qJ.length xe,.slice a254 ((bags.take s.qA.length).length) c8,.slice a252 ((bags[s.qA.length]!).length) c253] [(0,.slice xk t.qJ.length xe),(1,.slice a254 ((bags.take s.qA.length).length) c8),(2,.slice a252 ((bags[s.qA.length]!).length) c253)] (⟨H.pick [0,2,3,4] [2,3,4,5,6,7,8],(jd [12,13] qh qm (jI rfl ?_ (jI rfl ?_ je)))⟩)
    ·skip
     obtain ⟨cp0,cp1,cp2,cp3⟩:=copy_pre (al:=t.qJ) E_bags p8 p9.2 p12
     have sz263:=H.base.size
     refine oc (copied_ok _ (⟨t.qJ,(bags.take s.qA.length),bags[s.qA.length]!⟩:qR) (H.get 5 rfl).1 (H.get 0 rfl).1 (H.get 1 rfl).1 qg qg qg qg) ?_
     rintro _ w261 ⟨ra260Alive,rn260Alive,rc260Alive,ra260Bags,rn260Bags,rc260Bags,rx260Bags,rF260Bags,ra260Around,rn260Around,rc260Around,rfl,M,K⟩ _
     replace N:=N.merge sz263 qm M
     replace H:=H.merge K M
     obtain rfl:=H.rowNB 0 rfl
     obtain rfl:=H.zO (α:=yLI) 1 rfl 0 rfl qj
     obtain rfl:=H.jb 2 rfl
     refine ⟨H.pick [3,5,6,7] [3,4,5,6,7,8,9],(ro 13 rfl (x9 H ti31 [yN,yN,yN] fun b268 w269 H=>⟨H.pick [4,6,7,8] [3,4,5,6,7,8,9],(ro 14 rfl (xP H 0 [.slice ra260Alive (((⟨t.qJ,(bags.take s.qA.length),bags[s.qA.length]!⟩:qR).qJ).length) rc260Alive,.slice ra260Bags (((⟨t.qJ,(bags.take s.qA.length),bags[s.qA.length]!⟩:qR).qN).length) rc260Bags,.slice ra260Around (((⟨t.qJ,(bags.take s.qA.length),bags[s.qA.length]!⟩:qR).qM).length) rc260Around] sizeOf31 fun w270 H=>⟨H.pick [4,6,7,8] [3,4,5,6,7,8,9],?_⟩))⟩))⟩
     refine xH qh ((meet ⟨_,b268,ra260Alive,rc260Alive,ra260Bags,rc260Bags,ra260Around,rc260Around,rx260Bags,rF260Bags,uE4,N,H.pick [0,1,2,3,4,5,6,7,8] [0,4,5,6,7,8]⟩))
    refine x9 H ti31 [yN,yN,yN] fun b271 w272 H=>⟨H.pick [1,3,4,5] [2,3,4,5,6,7,8],(ro 12 rfl ?_)⟩
    obtain ⟨cp0,cp1,cp2,cp3⟩:=copy_pre (al:=t.qJ) E_bags p8 p9.2 p12
    have sz276:=H.base.size
    refine oc (copied_ok _ (⟨t.qJ,(bags.take s.qA.length),bags[s.qA.length]!⟩:qR) (H.get 5 rfl).1 (H.get 0 rfl).1 (H.get 1 rfl).1 qg qg qg qg) ?_
    rintro _ w274 ⟨ra273Alive,rn273Alive,rc273Alive,ra273Bags,rn273Bags,rc273Bags,rx273Bags,rF273Bags,ra273Around,rn273Around,rc273Around,rfl,M,K⟩ _
    replace N:=N.merge sz276 qm M
    replace H:=H.merge K M
    obtain rfl:=H.rowNB 0 rfl
    obtain rfl:=H.zO (α:=yLI) 1 rfl 0 rfl qj
    obtain rfl:=H.jb 2 rfl
    refine ⟨H.pick [4,6,7,8] [3,4,5,6,7,8,9],(ro 14 rfl (xP H 3 [.slice ra273Alive (((⟨t.qJ,(bags.take s.qA.length),bags[s.qA.length]!⟩:qR).qJ).length) rc273Alive,.slice ra273Bags (((⟨t.qJ,(bags.take s.qA.length),bags[s.qA.length]!⟩:qR).qN).length) rc273Bags,.slice ra273Around (((⟨t.qJ,(bags.take s.qA.length),bags[s.qA.length]!⟩:qR).qM).length) rc273Around] sizeOf31 fun w281 H=>⟨H.pick [4,6,7,8] [3,4,5,6,7,8,9],(xH qh (?_))⟩))⟩
    exact meet ⟨_,b271,ra273Alive,rc273Alive,ra273Bags,rc273Bags,ra273Around,rc273Around,rx273Bags,rF273Bags,uE4,N,H.pick [3,0,1,2,4,5,6,7,8] [0,4,5,6,7,8]⟩
   refine x9 H ti31 [yN,yN,yN] fun b282 w283 H=>⟨H.pick [1,3,4,5] [2,3,4,5,6,7,8],(ro 11 rfl (jg [.slice xk t.qJ.length xe,.slice a254 ((bags.take s.qA.length).length) c8,.slice a252 ((bags[s.qA.length]!).length) c253] [(0,.slice xk t.qJ.length xe),(1,.slice a254 ((bags.take s.qA.length).length) c8),(2,.slice a252 ((bags[s.qA.length]!).length) c253)] (⟨H.pick [1,3,4,5] [2,3,4,5,6,7,8],(ro 12 rfl ?_)⟩)))⟩
   obtain ⟨cp0,cp1,cp2,cp3⟩:=copy_pre (al:=t.qJ) E_bags p8 p9.2 p12
   have sz287:=H.base.size
   refine oc (copied_ok _ (⟨t.qJ,(bags.take s.qA.length),bags[s.qA.length]!⟩:qR) (H.get 5 rfl).1 (H.get 0 rfl).1 (H.get 1 rfl).1 qg qg qg qg) ?_
   rintro _ w285 ⟨ra284Alive,rn284Alive,rc284Alive,ra284Bags,rn284Bags,rc284Bags,rx284Bags,rF284Bags,ra284Around,rn284Around,rc284Around,rfl,M,K⟩ _
   replace N:=N.merge sz287 qm M
   replace H:=H.merge K M
   obtain rfl:=H.rowNB 0 rfl
   obtain rfl:=H.zO (α:=yLI) 1 rfl 0 rfl qj
   obtain rfl:=H.jb 2 rfl
   refine ⟨H.pick [4,6,7,8] [3,4,5,6,7,8,9],(ro 14 rfl (xP H 3 [.slice ra284Alive (((⟨t.qJ,(bags.take s.qA.length),bags[s.qA.length]!⟩:qR).qJ).length) rc284Alive,.slice ra284Bags (((⟨t.qJ,(bags.take s.qA.length),bags[s.qA.length]!⟩:qR).qN).length) rc284Bags,.slice ra284Around (((⟨t.qJ,(bags.take s.qA.length),bags[s.qA.length]!⟩:qR).qM).length) rc284Around] sizeOf31 fun w292 H=>⟨H.pick [4,6,7,8] [3,4,5,6,7,8,9],(xH qh (?_))⟩))⟩
   exact meet ⟨_,b282,ra284Alive,rc284Alive,ra284Bags,rc284Bags,ra284Around,rc284Around,rx284Bags,rF284Bags,uE4,N,H.pick [3,0,1,2,4,5,6,7,8] [0,4,5,6,7,8]⟩
  refine r_have (fun ρ w297=>∃ (xU:Env) (a293:yOA) (G294:yLN) (G295:yLN),ρ=upd (upd (upd (upd (upd (upd xU 3 (pp b1 0)) 6 (pp b5 0)) 9 (.slice (aa b36 0) s.qA.length s.qA.length)) 77 (.slice xk t.qJ.length xe)) 81 (.slice a293 ((bags.take s.qA.length).length) c8)) 85 (pp b240 (0+(s.qA.length:Int).toNat * 1))∧Fresh w.heap.size []∧St w w297 [rr (aa b36 0) s.qA.length s.qA.length 4 1 ((jC s counts s.qA.length i).map (Value.bool)),rr none 0 0 0 1 [],.box b5 [yN,yN,yN] 31,.box b3 (yT t xk xe xJ xG qY qX) 31,.box b1 (yS s qE qC qI qH) 27] [sF false G294 a293 c8 (bags.take s.qA.length),isF false G295 (.slice (aa b240 0) (t.qN.length+1) c8) bags,xB false F_bags x_bags bags,sF false qV qE qC s.qA,sF false xx qI qH s.qB,sF false zF xk xe t.qJ,sF false vM xJ xG t.qN,sF false zf qY qX t.qM,sF false Fcounts acounts ccounts counts]) 5 #[true,true,true,true,true,true,true,true,true,true,false,false,false,false,false] ?_ fun L296=>?_
  ·skip
   rintro ρ w298 ⟨xU,a293,G294,G295,rfl,N,H⟩
   refine jd [10,13] qh qm (jI rfl ?_ (jI rfl ?_ je))
   ·skip
    have hl299:=H.isLen 1 rfl
    obtain ⟨ae300,ce300,Fe300,H⟩:=H.vV 1 rfl s.qA.length s.qA.length qf qf qf
    refine xX (.slice ae300 ((bags[s.qA.length]!).length) ce300) isAgg24 rfl (H.zh 1 rfl 0 rfl) (⟨H.pick [0,2,3,4] [4,5,6,7,8,9,10],(Qu L257 ⟨_,ae300,ce300,a293,G294,Fe300,uE6,N,H.pick [0,1,2,3,4] [2,0,4,5,6,7,8,9,10]⟩)⟩)
   refine x9 H ti31 [yN,yN,yN] fun b301 w302 H=>⟨H.pick [1,3,4,5] [2,3,4,5,6,7,8],(ro 10 rfl ?_)⟩
   have hl303:=H.isLen 1 rfl
   obtain ⟨ae304,ce304,Fe304,H⟩:=H.vV 1 rfl s.qA.length s.qA.length qf qf qf
   refine xX (.slice ae304 ((bags[s.qA.length]!).length) ce304) isAgg24 rfl (H.zh 1 rfl 0 rfl) (⟨H.pick [1,3,4,5] [4,5,6,7,8,9,10],(ro 11 rfl (jg [.slice xk t.qJ.length xe,.slice a293 ((bags.take s.qA.length).length) c8,.slice ae304 ((bags[s.qA.length]!).length) ce304] [(0,.slice xk t.qJ.length xe),(1,.slice a293 ((bags.take s.qA.length).length) c8),(2,.slice ae304 ((bags[s.qA.length]!).length) ce304)] (⟨H.pick [1,3,4,5] [4,5,6,7,8,9,10],(ro 12 rfl ?_)⟩)))⟩)
   obtain ⟨cp0,cp1,cp2,cp3⟩:=copy_pre (al:=t.qJ) E_bags p8 p9.2 p12
   have sz308:=H.base.size
   refine oc (copied_ok _ (⟨t.qJ,(bags.take s.qA.length),bags[s.qA.length]!⟩:qR) (H.get 7 rfl).1 (H.get 2 rfl).1 (H.get 0 rfl).1 qg qg qg qg) ?_
   rintro _ w306 ⟨ra305Alive,rn305Alive,rc305Alive,ra305Bags,rn305Bags,rc305Bags,rx305Bags,rF305Bags,ra305Around,rn305Around,rc305Around,rfl,M,K⟩ _
   replace N:=N.merge sz308 qm M
   replace H:=H.merge K M
   obtain rfl:=H.rowNB 0 rfl
   obtain rfl:=H.zO (α:=yLI) 1 rfl 0 rfl qj
   obtain rfl:=H.jb 2 rfl
   refine ⟨H.pick [4,6,7,8] [5,6,7,8,9,10,11],(ro 14 rfl (xP H 3 [.slice ra305Alive (((⟨t.qJ,(bags.take s.qA.length),bags[s.qA.length]!⟩:qR).qJ).length) rc305Alive,.slice ra305Bags (((⟨t.qJ,(bags.take s.qA.length),bags[s.qA.length]!⟩:qR).qN).length) rc305Bags,.slice ra305Around (((⟨t.qJ,(bags.take s.qA.length),bags[s.qA.length]!⟩:qR).qM).length) rc305Around] sizeOf31 fun w313 H=>⟨H.pick [4,6,7,8] [5,6,7,8,9,10,11],(xH qh (?_))⟩))⟩
   exact meet ⟨_,b301,ra305Alive,rc305Alive,ra305Bags,rc305Bags,ra305Around,rc305Around,rx305Bags,rF305Bags,uE4,N,H.pick [3,0,1,2,4,5,6,7,8] [0,6,7,8,9,10]⟩
  refine r_have (fun ρ w316=>∃ (xU:Env) (b314:Nat),ρ=upd (upd (upd (upd (upd (upd (upd (upd xU 3 (pp b1 0)) 6 (pp b5 0)) 9 (.slice (aa b36 0) s.qA.length s.qA.length)) 13 (pp b314 0)) 77 (.slice xk t.qJ.length xe)) 78 (.slice (aa b240 0) (t.qN.length+1) c8)) 80 (yI s.qA.length)) 85 (pp b240 (0+(s.qA.length:Int).toNat * 1))∧Fresh w.heap.size []∧St w w316 [.box b314 [yN,yN,yN] 31,rr (aa b36 0) s.qA.length s.qA.length 4 1 ((jC s counts s.qA.length i).map (Value.bool)),rr (aa b240 0) (t.qN.length+1) c8 24 1 x_bags,.box b5 [yN,yN,yN] 31,.box b3 (yT t xk xe xJ xG qY qX) 31,.box b1 (yS s qE qC qI qH) 27] [xB false F_bags x_bags bags,sF false qV qE qC s.qA,sF false xx qI qH s.qB,sF false zF xk xe t.qJ,sF false vM xJ xG t.qN,sF false zf qY qX t.qM,sF false Fcounts acounts ccounts counts]) 5 #[true,true,true,true,true,false,true,true,true,true,false,false,false,true,false] ?_ fun L315=>?_
  ·skip
   rintro ρ w317 ⟨xU,b314,rfl,N,H⟩
   refine jd [5,10] qh qm (jI rfl ?_ (jI rfl ?_ je))
   ·skip
    obtain ⟨G318,hg320,hn319,H⟩:=H.freezeR (α:=yLI) 2 rfl 0 rfl qj
    have hl325:=H.isLen 0 rfl
    refine o_head H 0 rfl s.qA.length underlying29 ti24 rfl rfl qf qf fun a321 G322 hG323 H=>?_
    have hl324:(bags.take s.qA.length).length=s.qA.length:=List.length_take_of_le qf
    refine ⟨H.pick [1,3,4,5] [2,3,4,5,6,7,8],(ro 10 rfl ?_)⟩
    have hl326:=H.isLen 1 rfl
    obtain ⟨ae327,ce327,Fe327,H⟩:=H.vV 1 rfl s.qA.length s.qA.length qf qf qf
    refine xX (.slice ae327 ((bags[s.qA.length]!).length) ce327) isAgg24 rfl (H.zh 1 rfl 0 rfl) (⟨H.pick [1,3,4,5] [4,5,6,7,8,9,10],(ro 11 rfl (jg [.slice xk t.qJ.length xe,.slice a321 ((bags.take s.qA.length).length) c8,.slice ae327 ((bags[s.qA.length]!).length) ce327] [(0,.slice xk t.qJ.length xe),(1,.slice a321 ((bags.take s.qA.length).length) c8),(2,.slice ae327 ((bags[s.qA.length]!).length) ce327)] (⟨H.pick [1,3,4,5] [4,5,6,7,8,9,10],(ro 12 rfl ?_)⟩)))⟩)
    obtain ⟨cp0,cp1,cp2,cp3⟩:=copy_pre (al:=t.qJ) E_bags p8 p9.2 p12
    have sz331:=H.base.size
    refine oc (copied_ok _ (⟨t.qJ,(bags.take s.qA.length),bags[s.qA.length]!⟩:qR) (H.get 7 rfl).1 (H.get 2 rfl).1 (H.get 0 rfl).1 qg qg qg qg) ?_
    rintro _ w329 ⟨ra328Alive,rn328Alive,rc328Alive,ra328Bags,rn328Bags,rc328Bags,rx328Bags,rF328Bags,ra328Around,rn328Around,rc328Around,rfl,M,K⟩ _
    replace N:=N.merge sz331 qm M
    replace H:=H.merge K M
    obtain rfl:=H.rowNB 0 rfl
    obtain rfl:=H.zO (α:=yLI) 1 rfl 0 rfl qj
    obtain rfl:=H.jb 2 rfl
    refine ⟨H.pick [4,6,7,8] [5,6,7,8,9,10,11],(ro 14 rfl (xP H 3 [.slice ra328Alive (((⟨t.qJ,(bags.take s.qA.length),bags[s.qA.length]!⟩:qR).qJ).length) rc328Alive,.slice ra328Bags (((⟨t.qJ,(bags.take s.qA.length),bags[s.qA.length]!⟩:qR).qN).length) rc328Bags,.slice ra328Around (((⟨t.qJ,(bags.take s.qA.length),bags[s.qA.length]!⟩:qR).qM).length) rc328Around] sizeOf31 fun w336 H=>⟨H.pick [4,6,7,8] [5,6,7,8,9,10,11],(xH qh (?_))⟩))⟩
    exact meet ⟨_,b314,ra328Alive,rc328Alive,ra328Bags,rc328Bags,ra328Around,rc328Around,rx328Bags,rF328Bags,uE4,N,H.pick [3,0,1,2,4,5,6,7,8] [0,6,7,8,9,10]⟩
   obtain ⟨a337,c338,G339,s340,h341,H⟩:=H.QC 2 rfl 0 rfl (iv:=s.qA.length) s.qA.length qf qf
   refine xX (.slice a337 ((bags[s.qA.length]!).length) c338) isAgg24 rfl (h341) (⟨H.pick [1,3,4,5] [1,2,3,4,5,6,7],(ro 5 rfl ?_)⟩)
   obtain ⟨G342,hg344,hn343,H⟩:=H.freezeR (α:=yLI) 2 rfl 1 rfl qj
   have hl349:=H.isLen 0 rfl
   refine o_head H 0 rfl s.qA.length underlying29 ti24 rfl rfl qf qf fun a345 G346 hG347 H=>?_
   have hl348:(bags.take s.qA.length).length=s.qA.length:=List.length_take_of_le qf
   refine ⟨H.pick [1,3,4,5] [3,4,5,6,7,8,9],(ro 11 rfl (jg [.slice xk t.qJ.length xe,.slice a345 ((bags.take s.qA.length).length) c8,.slice a337 ((bags[s.qA.length]!).length) c338] [(0,.slice xk t.qJ.length xe),(1,.slice a345 ((bags.take s.qA.length).length) c8),(2,.slice a337 ((bags[s.qA.length]!).length) c338)] (⟨H.pick [1,3,4,5] [3,4,5,6,7,8,9],(ro 12 rfl ?_)⟩)))⟩
   obtain ⟨cp0,cp1,cp2,cp3⟩:=copy_pre (al:=t.qJ) E_bags p8 p9.2 p12
   have sz353:=H.base.size
   refine oc (copied_ok _ (⟨t.qJ,(bags.take s.qA.length),bags[s.qA.length]!⟩:qR) (H.get 6 rfl).1 (H.get 0 rfl).1 (H.get 2 rfl).1 qg qg qg qg) ?_
   rintro _ w351 ⟨ra350Alive,rn350Alive,rc350Alive,ra350Bags,rn350Bags,rc350Bags,rx350Bags,rF350Bags,ra350Around,rn350Around,rc350Around,rfl,M,K⟩ _
   replace N:=N.merge sz353 qm M
   replace H:=H.merge K M
   obtain rfl:=H.rowNB 0 rfl
   obtain rfl:=H.zO (α:=yLI) 1 rfl 0 rfl qj
   obtain rfl:=H.jb 2 rfl
   refine ⟨H.pick [4,6,7,8] [4,5,6,7,8,9,10],(ro 14 rfl (xP H 3 [.slice ra350Alive (((⟨t.qJ,(bags.take s.qA.length),bags[s.qA.length]!⟩:qR).qJ).length) rc350Alive,.slice ra350Bags (((⟨t.qJ,(bags.take s.qA.length),bags[s.qA.length]!⟩:qR).qN).length) rc350Bags,.slice ra350Around (((⟨t.qJ,(bags.take s.qA.length),bags[s.qA.length]!⟩:qR).qM).length) rc350Around] sizeOf31 fun w358 H=>⟨H.pick [4,6,7,8] [4,5,6,7,8,9,10],(xH qh (?_))⟩))⟩
   exact meet ⟨_,b314,ra350Alive,rc350Alive,ra350Bags,rc350Bags,ra350Around,rc350Around,rx350Bags,rF350Bags,uE4,N,H.pick [3,0,1,2,4,5,6,7,8] [0,5,6,7,8,9]⟩
  refine r_have (fun ρ w361=>∃ (xU:Env) (b359:Nat),ρ=upd (upd (upd (upd (upd (upd (upd (upd (upd xU 3 (pp b1 0)) 6 (pp b5 0)) 9 (.slice (aa b36 0) s.qA.length s.qA.length)) 13 (pp b359 0)) 77 (.slice xk t.qJ.length xe)) 78 (.slice (aa b240 0) (t.qN.length+1) c8)) 80 (yI s.qA.length)) 82 (.slice (aa b240 0) (t.qN.length+1) c8)) 83 (.agg #[yI s.qQ,.slice qE s.qA.length qC,.slice qI s.qB.length qH])∧Fresh w.heap.size []∧St w w361 [.box b359 [yN,yN,yN] 31,rr (aa b36 0) s.qA.length s.qA.length 4 1 ((jC s counts s.qA.length i).map (Value.bool)),rr (aa b240 0) (t.qN.length+1) c8 24 1 x_bags,.box b5 [yN,yN,yN] 31,.box b3 (yT t xk xe xJ xG qY qX) 31,.box b1 (yS s qE qC qI qH) 27] [xB false F_bags x_bags bags,sF false qV qE qC s.qA,sF false xx qI qH s.qB,sF false zF xk xe t.qJ,sF false vM xJ xG t.qN,sF false zf qY qX t.qM,sF false Fcounts acounts ccounts counts]) 7 #[true,true,true,true,true,false,true,true,false,false,false,false,false,true,false] ?_ fun L360=>?_
  ·skip
   rintro ρ w362 ⟨xU,b359,rfl,N,H⟩
   refine jd [5,8] qh qm (jI rfl ?_ (jI rfl ?_ je))
   ·skip
    obtain ⟨G363,hg365,hn364,H⟩:=H.freezeR (α:=yLI) 2 rfl 0 rfl qj
    have hl370:=H.isLen 0 rfl
    refine o_head H 0 rfl s.qA.length underlying29 ti24 rfl rfl qf qf fun a366 G367 hG368 H=>?_
    have hl369:(bags.take s.qA.length).length=s.qA.length:=List.length_take_of_le qf
    refine ⟨H.pick [1,3,4,5] [2,3,4,5,6,7,8],(ro 8 rfl (oq (around_ok _ s (H.get 3 rfl).1 (H.get 4 rfl).1) H fun w372 H=>⟨H.pick [1,3,4,5] [2,3,4,5,6,7,8],?_⟩))⟩
    obtain ⟨ae374,ce374,Fe374,H⟩:=H.vV 1 rfl s.qA.length s.qA.length qf qf qf
    refine tI 9 rfl rfl rfl (H.pick [1,3,4,5] [4,5,6,7,8,9,10]) ?_
    refine ro 10 rfl (xX (.slice ae374 ((bags[s.qA.length]!).length) ce374) isAgg24 rfl (H.zh 1 rfl 0 rfl) (⟨H.pick [1,3,4,5] [4,5,6,7,8,9,10],(ro 11 rfl (jg [.slice xk t.qJ.length xe,.slice a366 ((bags.take s.qA.length).length) c8,.slice ae374 ((bags[s.qA.length]!).length) ce374] [(0,.slice xk t.qJ.length xe),(1,.slice a366 ((bags.take s.qA.length).length) c8),(2,.slice ae374 ((bags[s.qA.length]!).length) ce374)] (⟨H.pick [1,3,4,5] [4,5,6,7,8,9,10],(ro 12 rfl ?_)⟩)))⟩))
    obtain ⟨cp0,cp1,cp2,cp3⟩:=copy_pre (al:=t.qJ) E_bags p8 p9.2 p12
    have sz378:=H.base.size
    refine oc (copied_ok _ (⟨t.qJ,(bags.take s.qA.length),bags[s.qA.length]!⟩:qR) (H.get 7 rfl).1 (H.get 2 rfl).1 (H.get 0 rfl).1 qg qg qg qg) ?_
    rintro _ w376 ⟨ra375Alive,rn375Alive,rc375Alive,ra375Bags,rn375Bags,rc375Bags,rx375Bags,rF375Bags,ra375Around,rn375Around,rc375Around,rfl,M,K⟩ _
    replace N:=N.merge sz378 qm M
    replace H:=H.merge K M
    obtain rfl:=H.rowNB 0 rfl
    obtain rfl:=H.zO (α:=yLI) 1 rfl 0 rfl qj
    obtain rfl:=H.jb 2 rfl
    refine ⟨H.pick [4,6,7,8] [5,6,7,8,9,10,11],(ro 14 rfl (xP H 3 [.slice ra375Alive (((⟨t.qJ,(bags.take s.qA.length),bags[s.qA.length]!⟩:qR).qJ).length) rc375Alive,.slice ra375Bags (((⟨t.qJ,(bags.take s.qA.length),bags[s.qA.length]!⟩:qR).qN).length) rc375Bags,.slice ra375Around (((⟨t.qJ,(bags.take s.qA.length),bags[s.qA.length]!⟩:qR).qM).length) rc375Around] sizeOf31 fun w383 H=>⟨H.pick [4,6,7,8] [5,6,7,8,9,10,11],(xH qh (?_))⟩))⟩
    exact meet ⟨_,b359,ra375Alive,rc375Alive,ra375Bags,rc375Bags,ra375Around,rc375Around,rx375Bags,rF375Bags,uE4,N,H.pick [3,0,1,2,4,5,6,7,8] [0,6,7,8,9,10]⟩
   refine oq (around_ok _ s (H.get 1 rfl).1 (H.get 2 rfl).1) H fun w385 H=>⟨H.pick [1,3,4,5] [0,1,2,3,4,5,6],(tI 9 rfl rfl rfl (H.pick [1,3,4,5] [0,1,2,3,4,5,6]) ?_)⟩
   exact Qu L315 ⟨_,b359,uE8,N,H⟩
  have S:=H.jm [0,2,3,4] [0,1,2,3,4,5,6]
  refine tF 0 rfl rfl S ?_
  refine tL 1 rfl rfl (fun _ h=>h.cell 2 rfl rfl) S ?_
  refine rtp 2 (.slice (aa b240 0) (t.qN.length+1) c8) S ?_
  refine rt 3 (.agg #[yI s.qQ,.slice qE s.qA.length qC,.slice qI s.qB.length qH]) (yh (cs:=(yS s qE qC qI qH)) isAgg27 sizeOf27 rfl (fun _ h=>qK (h.cells 3 rfl) 0 3)) S ?_
  refine rtp 6 (.slice (aa b240 0) (t.qN.length+1) c8) S ?_
  refine rt 7 (.agg #[yI s.qQ,.slice qE s.qA.length qC,.slice qI s.qB.length qH]) (yh (cs:=(yS s qE qC qI qH)) isAgg27 sizeOf27 rfl (fun _ h=>qK (h.cells 3 rfl) 0 3)) S ?_
  refine jd [4,13] qh qm (jI rfl ?_ (jI rfl ?_ je))
  ·skip
   refine oq (around_ok _ s (H.get 1 rfl).1 (H.get 2 rfl).1) H fun w388 H=>⟨H.pick [0,2,3,4] [0,1,2,3,4,5,6],(jd [5,8,13] qh qm (jI rfl ?_ (jI rfl ?_ (jI rfl ?_ je))))⟩
   ·skip
    obtain ⟨G390,hg392,hn391,H⟩:=H.freezeR (α:=yLI) 1 rfl 0 rfl qj
    have hl397:=H.isLen 0 rfl
    refine o_head H 0 rfl s.qA.length underlying29 ti24 rfl rfl qf qf fun a393 G394 hG395 H=>?_
    have hl396:(bags.take s.qA.length).length=s.qA.length:=List.length_take_of_le qf
    refine ⟨H.pick [0,2,3,4] [2,3,4,5,6,7,8],(jd [8,13] qh qm (jI rfl ?_ (jI rfl ?_ je)))⟩
    ·skip
     refine oq (around_ok _ s (H.get 3 rfl).1 (H.get 4 rfl).1) H fun w399 H=>⟨H.pick [0,2,3,4] [2,3,4,5,6,7,8],?_⟩
     obtain ⟨ae401,ce401,Fe401,H⟩:=H.vV 1 rfl s.qA.length s.qA.length qf qf qf
     refine tI 9 rfl rfl rfl (H.pick [0,2,3,4] [4,5,6,7,8,9,10]) ?_
     exact Qu L296 ⟨_,a393,G394,G390,uE6,N,H.pick [0,1,2,3,4] [2,3,4,5,6,7,8,9,10]⟩
    refine x9 H ti31 [yN,yN,yN] fun b402 w403 H=>⟨H.pick [1,3,4,5] [2,3,4,5,6,7,8],(ro 8 rfl (oq (around_ok _ s (H.get 3 rfl).1 (H.get 4 rfl).1) H fun w405 H=>⟨H.pick [1,3,4,5] [2,3,4,5,6,7,8],?_⟩))⟩
    obtain ⟨ae407,ce407,Fe407,H⟩:=H.vV 1 rfl s.qA.length s.qA.length qf qf qf
    refine tI 9 rfl rfl rfl (H.pick [1,3,4,5] [4,5,6,7,8,9,10]) ?_
    refine ro 10 rfl (xX (.slice ae407 ((bags[s.qA.length]!).length) ce407) isAgg24 rfl (H.zh 1 rfl 0 rfl) (⟨H.pick [1,3,4,5] [4,5,6,7,8,9,10],(ro 11 rfl (jg [.slice xk t.qJ.length xe,.slice a393 ((bags.take s.qA.length).length) c8,.slice ae407 ((bags[s.qA.length]!).length) ce407] [(0,.slice xk t.qJ.length xe),(1,.slice a393 ((bags.take s.qA.length).length) c8),(2,.slice ae407 ((bags[s.qA.length]!).length) ce407)] (⟨H.pick [1,3,4,5] [4,5,6,7,8,9,10],(ro 12 rfl ?_)⟩)))⟩))
    obtain ⟨cp0,cp1,cp2,cp3⟩:=copy_pre (al:=t.qJ) E_bags p8 p9.2 p12
    have sz411:=H.base.size
    refine oc (copied_ok _ (⟨t.qJ,(bags.take s.qA.length),bags[s.qA.length]!⟩:qR) (H.get 7 rfl).1 (H.get 2 rfl).1 (H.get 0 rfl).1 qg qg qg qg) ?_
    rintro _ w409 ⟨ra408Alive,rn408Alive,rc408Alive,ra408Bags,rn408Bags,rc408Bags,rx408Bags,rF408Bags,ra408Around,rn408Around,rc408Around,rfl,M,K⟩ _
    replace N:=N.merge sz411 qm M
    replace H:=H.merge K M
    obtain rfl:=H.rowNB 0 rfl
    obtain rfl:=H.zO (α:=yLI) 1 rfl 0 rfl qj
    obtain rfl:=H.jb 2 rfl
    refine ⟨H.pick [4,6,7,8] [5,6,7,8,9,10,11],(ro 14 rfl (xP H 3 [.slice ra408Alive (((⟨t.qJ,(bags.take s.qA.length),bags[s.qA.length]!⟩:qR).qJ).length) rc408Alive,.slice ra408Bags (((⟨t.qJ,(bags.take s.qA.length),bags[s.qA.length]!⟩:qR).qN).length) rc408Bags,.slice ra408Around (((⟨t.qJ,(bags.take s.qA.length),bags[s.qA.length]!⟩:qR).qM).length) rc408Around] sizeOf31 fun w416 H=>⟨H.pick [4,6,7,8] [5,6,7,8,9,10,11],(xH qh (?_))⟩))⟩
    exact meet ⟨_,b402,ra408Alive,rc408Alive,ra408Bags,rc408Bags,ra408Around,rc408Around,rx408Bags,rF408Bags,uE4,N,H.pick [3,0,1,2,4,5,6,7,8] [0,6,7,8,9,10]⟩
   ·skip
    refine oq (around_ok _ s (H.get 1 rfl).1 (H.get 2 rfl).1) H fun w418 H=>⟨H.pick [0,2,3,4] [0,1,2,3,4,5,6],(tI 9 rfl rfl rfl (H.pick [0,2,3,4] [0,1,2,3,4,5,6]) ?_)⟩
    refine jd [5,10,13] qh qm (jI rfl ?_ (jI rfl ?_ (jI rfl ?_ je)))
    ·skip
     obtain ⟨G420,hg422,hn421,H⟩:=H.freezeR (α:=yLI) 1 rfl 0 rfl qj
     have hl427:=H.isLen 0 rfl
     refine o_head H 0 rfl s.qA.length underlying29 ti24 rfl rfl qf qf fun a423 G424 hG425 H=>?_
     have hl426:(bags.take s.qA.length).length=s.qA.length:=List.length_take_of_le qf
     refine ⟨H.pick [0,2,3,4] [2,3,4,5,6,7,8],(Qu L296 ⟨_,a423,G424,G420,uE6,N,H⟩)⟩
    ·skip
     obtain ⟨a428,c429,G430,s431,h432,H⟩:=H.QC 1 rfl 0 rfl (iv:=s.qA.length) s.qA.length qf qf
     refine xX (.slice a428 ((bags[s.qA.length]!).length) c429) isAgg24 rfl (h432) (⟨H.pick [0,2,3,4] [1,2,3,4,5,6,7],(jd [5,13] qh qm (jI rfl ?_ (jI rfl ?_ je)))⟩)
     ·skip
      obtain ⟨G433,hg435,hn434,H⟩:=H.freezeR (α:=yLI) 1 rfl 1 rfl qj
      have hl440:=H.isLen 0 rfl
      refine o_head H 0 rfl s.qA.length underlying29 ti24 rfl rfl qf qf fun a436 G437 hG438 H=>?_
      have hl439:(bags.take s.qA.length).length=s.qA.length:=List.length_take_of_le qf
      refine ⟨H.pick [0,2,3,4] [3,4,5,6,7,8,9],(Qu L257 ⟨_,a428,c429,a436,G437,G430,uE6,N,H.pick [0,1,2,3,4] [0,2,3,4,5,6,7,8,9]⟩)⟩
     refine x9 H ti31 [yN,yN,yN] fun b441 w442 H=>⟨H.pick [1,3,4,5] [1,2,3,4,5,6,7],(ro 5 rfl ?_)⟩
     obtain ⟨G443,hg445,hn444,H⟩:=H.freezeR (α:=yLI) 2 rfl 1 rfl qj
     have hl450:=H.isLen 0 rfl
     refine o_head H 0 rfl s.qA.length underlying29 ti24 rfl rfl qf qf fun a446 G447 hG448 H=>?_
     have hl449:(bags.take s.qA.length).length=s.qA.length:=List.length_take_of_le qf
     refine ⟨H.pick [1,3,4,5] [3,4,5,6,7,8,9],(ro 11 rfl (jg [.slice xk t.qJ.length xe,.slice a446 ((bags.take s.qA.length).length) c8,.slice a428 ((bags[s.qA.length]!).length) c429] [(0,.slice xk t.qJ.length xe),(1,.slice a446 ((bags.take s.qA.length).length) c8),(2,.slice a428 ((bags[s.qA.length]!).length) c429)] (⟨H.pick [1,3,4,5] [3,4,5,6,7,8,9],(ro 12 rfl ?_)⟩)))⟩
     obtain ⟨cp0,cp1,cp2,cp3⟩:=copy_pre (al:=t.qJ) E_bags p8 p9.2 p12
     have sz454:=H.base.size
     refine oc (copied_ok _ (⟨t.qJ,(bags.take s.qA.length),bags[s.qA.length]!⟩:qR) (H.get 6 rfl).1 (H.get 0 rfl).1 (H.get 2 rfl).1 qg qg qg qg) ?_
     rintro _ w452 ⟨ra451Alive,rn451Alive,rc451Alive,ra451Bags,rn451Bags,rc451Bags,rx451Bags,rF451Bags,ra451Around,rn451Around,rc451Around,rfl,M,K⟩ _
     replace N:=N.merge sz454 qm M
     replace H:=H.merge K M
     obtain rfl:=H.rowNB 0 rfl
     obtain rfl:=H.zO (α:=yLI) 1 rfl 0 rfl qj
     obtain rfl:=H.jb 2 rfl
     refine ⟨H.pick [4,6,7,8] [4,5,6,7,8,9,10],(ro 14 rfl (xP H 3 [.slice ra451Alive (((⟨t.qJ,(bags.take s.qA.length),bags[s.qA.length]!⟩:qR).qJ).length) rc451Alive,.slice ra451Bags (((⟨t.qJ,(bags.take s.qA.length),bags[s.qA.length]!⟩:qR).qN).length) rc451Bags,.slice ra451Around (((⟨t.qJ,(bags.take s.qA.length),bags[s.qA.length]!⟩:qR).qM).length) rc451Around] sizeOf31 fun w459 H=>⟨H.pick [4,6,7,8] [4,5,6,7,8,9,10],(xH qh (?_))⟩))⟩
     exact meet ⟨_,b441,ra451Alive,rc451Alive,ra451Bags,rc451Bags,ra451Around,rc451Around,rx451Bags,rF451Bags,uE4,N,H.pick [3,0,1,2,4,5,6,7,8] [0,5,6,7,8,9]⟩
    refine x9 H ti31 [yN,yN,yN] fun b460 w461 H=>⟨H.pick [1,3,4,5] [0,1,2,3,4,5,6],(Qu L315 ⟨_,b460,uE8,N,H⟩)⟩
   refine x9 H ti31 [yN,yN,yN] fun b462 w463 H=>⟨H.pick [1,3,4,5] [0,1,2,3,4,5,6],(Qu L360 ⟨_,b462,uE9,N,H⟩)⟩
  refine x9 H ti31 [yN,yN,yN] fun b464 w465 H=>⟨H.pick [1,3,4,5] [0,1,2,3,4,5,6],(ro 4 rfl (oq (around_ok _ s (H.get 1 rfl).1 (H.get 2 rfl).1) H fun w467 H=>⟨H.pick [1,3,4,5] [0,1,2,3,4,5,6],(Qu L360 ⟨_,b464,uE9,N,H⟩)⟩))⟩
 clear H N
 rintro ρ w469 ⟨xU,b241,ra242,rc243,ra244,rc245,ra246,rc247,rx248,rF249,rfl,N,H⟩
 refine t_n (zcc (sp (.slice (aa b36 0) s.qA.length s.qA.length) (oN rfl (sw (o_sub s.qA.length 1 rfl rfl qf (sp (yI (s.qA.length - 1)) (zjn (xg ?_))))))))
 obtain rfl:i=s.qB.length:=by omega
 have hl:=stepped_live p1 E_bags qf
 obtain ⟨s1,s2⟩:=step_tab E_bags
 rw [show (⟨t.qJ,(bags.take s.qA.length),bags[s.qA.length]!⟩:qR)=xA s t counts from by rw [show bags.take s.qA.length=_ from s1,show bags[s.qA.length]! =_ from s2];rfl] at H
 refine zH (fun m' ρ w470=>∃ (xU:Env) (c:Int) (out_Alive:List Bool) (out_Bags:yLL) (yF:List Value) (jq:yLN) (j:Nat),ρ=upd (upd (upd (upd (upd xU 3 (pp b1 0)) 6 (pp b5 0)) 9 (.slice (aa b36 0) s.qA.length s.qA.length)) 13 (pp b241 0)) 14 (yI c)∧out_Alive=(xC s counts (xA s t counts) j).qJ∧out_Bags=(xC s counts (xA s t counts) j).qN∧(c=(s.qA.length:Int) - 1 - j)∧(j+1≤s.qA.length)∧m' =(c:Int).toNat∧Fresh w.heap.size [jq]∧St w w470 [.box b241 [.slice ra242 (((xA s t counts).qJ).length) rc243,.slice ra244 (((xA s t counts).qN).length) rc245,.slice ra246 (((xA s t counts).qM).length) rc247] 31,rr ra242 (((xA s t counts).qJ).length) rc243 4 1 (out_Alive.map (Value.bool)),rr ra244 (((xA s t counts).qN).length) rc245 24 1 yF,rr ra246 (((xA s t counts).qM).length) rc247 2 1 (((xA s t counts).qM).map (Value.int .i64)),rr (aa b36 0) s.qA.length s.qA.length 4 1 ((jC s counts s.qA.length s.qB.length).map (Value.bool)),.box b5 [yN,yN,yN] 31,.box b3 (yT t xk xe xJ xG qY qX) 31,.box b1 (yS s qE qC qI qH) 27] [xB true jq yF out_Bags,sF false qV qE qC s.qA,sF false xx qI qH s.qB,sF false zF xk xe t.qJ,sF false vM xJ xG t.qN,sF false zf qY qX t.qM]) (((s.qA.length - 1):Int).toNat) ⟨_,s.qA.length - 1,(xA s t counts).qJ,(xA s t counts).qN,rx248,rF249,0,uE5,(by rfl),(by rfl),qf,qf,rfl,N,H.pick [0,1,2,3,4,6,7,8] [0,1,2,3,4,5]⟩ ?_
 clear H N
 rintro m' ρ w471 ⟨xU,c,out_Alive,out_Bags,yF,jq,j,rfl,rfl,rfl,ic,jc,rfl,N,H⟩
 have hn_out_Alive:=H.rowNB 1 rfl
 have hn_out_Bags:=H.zO (α:=yLI) 2 rfl 0 rfl qj
 have L:=meltDown_live (counts:=counts) p0 hl j qf
 have L1:=L.alive
 have L2:=L.root
 have L3:=L.bags.1
 rw [← QG s counts (xA s t counts) j] at H
 refine zcc (sps [yI c,.bool (decide ((c:Int) > 0))] (zjn (cD rfl (fun h472=>?_) (fun h472=>?_))))
 ·skip
  refine xh (t_n (x8 (xg (zcr (sps [.slice (aa b36 0) s.qA.length s.qA.length,yI c] (oI rfl rfl (oL rfl (H.rowBool 4 rfl (iv:=c) (i:=c.toNat) qf qf) (zjn (xI ((jC s counts s.qA.length s.qB.length)[c.toNat]!) rfl (fun h473=>?_) (fun h473=>?_))))))))))
  ·skip
   refine xZ (sw (xW (yS s qE qC qI qH) isAgg27 sizeOf27 rfl (qK (H.cells 7 rfl) 0 3) (sp (yI c) (sw (jA #[.agg #[yI s.qQ,.slice qE s.qA.length qC,.slice qI s.qB.length qH],pp b241 0,yI c] rfl rfl call60 (en func60 ntmps60 ?_))))))
   refine zcr (sw (vK H (yS s qE qC qI qH) fun b474 w475 H=>zjn (x8 ?_)))
   refine yf rfl H fun H=>rt 0 (.agg #[yI s.qQ,.slice qE s.qA.length qC,.slice qI s.qB.length qH]) (yh (cs:=(yS s qE qC qI qH)) isAgg27 sizeOf27 rfl (fun _ h=>qK (h.cells 0 rfl) 0 3)) H ?_
   refine rtp 1 (pp b241 0) H ?_
   refine rtp 2 (pp b241 0) H ?_
   refine rt 3 (.agg #[.slice ra242 (((xA s t counts).qJ).length) rc243,.slice ra244 (((xA s t counts).qN).length) rc245,.slice ra246 (((xC s counts (xA s t counts) j).qM).length) rc247]) (yh (cs:=[.slice ra242 (((xA s t counts).qJ).length) rc243,.slice ra244 (((xA s t counts).qN).length) rc245,.slice ra246 (((xC s counts (xA s t counts) j).qM).length) rc247]) isAgg31 sizeOf31 rfl (fun _ h=>qK (h.cells 1 rfl) 0 3)) H ?_
   refine rtp 4 (yI c) H ?_
   refine ro 5 rfl ?_
   obtain ⟨G477,hn478,h479⟩:=H.rowIsB 2 rfl
   obtain ⟨G480,hn481,h482⟩:=H.Xd (α:=yLI) 3 rfl 0 rfl qj
   obtain ⟨G483,hn484,h485⟩:=H.Qs 4 rfl
   refine oq (args_eq (by rw [← hn478,← hn481]) (parentNow_ok _ s (xC s counts (xA s t counts) j) c (H.get 1 rfl).1 (H.get 2 rfl).1 (hn478▸h479) (hn481▸h482) h485 qg qg qg)) H fun w487 H=>?_
   have pin:=Qc (s:=s) (t:=(xC s counts (xA s t counts) j)) (c:=c) p0.1 L2 qf qf
   refine ⟨H,(rtp 6 (yI (xn s (xC s counts (xA s t counts) j) c)) H ?_)⟩
   refine xH qh (t_n (x8 ?_))
   obtain ⟨b489,rfl⟩:=H.Xo 3 rfl qf
   refine c_cut (fun ρ w492=>∃ (xU:Env) (xs490:List Value) (F491:yLN),ρ=upd (upd (upd xU 1 (pp b241 0)) 2 (yI c)) 3 (pp b474 0)∧Fresh w.heap.size [F491]∧St w w492 [.box b474 (yS s qE qC qI qH) 27,.box b241 [.slice ra242 (((xA s t counts).qJ).length) rc243,.slice (aa b489 0) (((xA s t counts).qN).length) rc245,.slice ra246 (((xC s counts (xA s t counts) j).qM).length) rc247] 31,rr ra242 (((xA s t counts).qJ).length) rc243 4 1 (((xC s counts (xA s t counts) j).qJ).map (Value.bool)),rr (aa b489 0) (((xA s t counts).qN).length) rc245 24 1 xs490,rr ra246 (((xC s counts (xA s t counts) j).qM).length) rc247 2 1 (((xC s counts (xA s t counts) j).qM).map (Value.int .i64)),rr (aa b36 0) s.qA.length s.qA.length 4 1 ((jC s counts s.qA.length s.qB.length).map (Value.bool)),.box b5 [yN,yN,yN] 31,.box b3 (yT t xk xe xJ xG qY qX) 31,.box b1 (yS s qE qC qI qH) 27] [xB true F491 xs490 (((xC s counts (xA s t counts) j).qN).set ((xn s (xC s counts (xA s t counts) j) c).toNat) (y9 (((xC s counts (xA s t counts) j).qN)[(xn s (xC s counts (xA s t counts) j) c).toNat]!) (((xC s counts (xA s t counts) j).qN)[c.toNat]!) 1)),sF false qV qE qC s.qA,sF false xx qI qH s.qB,sF false zF xk xe t.qJ,sF false vM xJ xG t.qN,sF false zf qY qX t.qM]) ?_ ?_
   ·skip
    refine Qo rfl H [0,1,2,4,5,6,7,8] fun H=>?_
    have S:=H.jm [0,1,2,4,5,6,7,8] [0,1,2,3,4,5]
    refine rtp 0 (pp b241 0) S ?_
    refine rtp 1 (pp b241 0) S ?_
    refine tF 2 rfl rfl S ?_
    refine tL 3 rfl rfl (fun _ h=>h.cell 1 rfl rfl) S ?_
    refine rtp 4 (yI (xn s (xC s counts (xA s t counts) j) c)) S ?_
    refine rtp 5 (pp b241 0) S ?_
    refine rtp 6 (pp b241 0) S ?_
    refine tF 7 rfl rfl S ?_
    refine tL 8 rfl rfl (fun _ h=>h.cell 1 rfl rfl) S ?_
    refine rtp 9 (yI (xn s (xC s counts (xA s t counts) j) c)) S ?_
    refine tI 10 rfl rfl rfl S ?_
    refine rtp 12 (pp b241 0) S ?_
    refine rtp 13 (pp b241 0) S ?_
    refine tF 14 rfl rfl S ?_
    refine tL 15 rfl rfl (fun _ h=>h.cell 1 rfl rfl) S ?_
    refine rtp 16 (yI c) S ?_
    refine tI 17 rfl rfl rfl S ?_
    refine jd [11,18] qh qm (jI rfl ?_ (jI rfl ?_ je))
    ·skip
     obtain ⟨a494,c495,G496,s497,h498,H⟩:=H.QC 3 rfl 0 rfl (iv:=xn s (xC s counts (xA s t counts) j) c) ((xn s (xC s counts (xA s t counts) j) c).toNat) qf qf
     refine xX (.slice a494 ((((xC s counts (xA s t counts) j).qN)[(xn s (xC s counts (xA s t counts) j) c).toNat]!).length) c495) isAgg24 rfl (h498) (⟨H.pick [0,1,2,4,5,6,7,8] [1,2,3,4,5,6],(ro 18 rfl ?_)⟩)
     obtain ⟨a499,c500,G501,s502,h503,H⟩:=H.QC 3 rfl 1 rfl (iv:=c) c.toNat qf qf
     refine xX (.slice a499 ((((xC s counts (xA s t counts) j).qN)[c.toNat]!).length) c500) isAgg24 rfl (h503) (⟨H.pick [0,1,2,4,5,6,7,8] [2,3,4,5,6,7],(ro 19 rfl ?_)⟩)
     obtain ⟨u1,u2,u4⟩:=L.rows p0 (bnd_le qf) (p:=(xn s (xC s counts (xA s t counts) j) c).toNat) (c:=c.toNat) qf qf
     have sz504:=H.base.size
     have lt505:=H.ltN (L:=[jq]) [2]
     refine oc (plus_ok _ (((xC s counts (xA s t counts) j).qN)[(xn s (xC s counts (xA s t counts) j) c).toNat]!) (((xC s counts (xA s t counts) j).qN)[c.toNat]!) 1 (H.get 1 rfl).1 (H.get 0 rfl).1 qg qg qg) ?_
     rintro v509 w507 r509 x508
     replace H:=H.jw x508 r509
     obtain ⟨a510,c511,rfl,hc512,hm513⟩:=H.Qw 0 rfl
     refine ⟨H.pick [1,2,3,5,6,7,8,9] [2,3,4,5,6,7],(tI 20 rfl rfl rfl (H.pick [1,2,3,5,6,7,8,9] [2,3,4,5,6,7]) ?_)⟩
     refine ro 21 rfl ?_
     obtain ⟨G515,N,hn516,H⟩:=H.vG 0 rfl N (H.yg [2])
     refine Qk true H 4 rfl 3 rfl (.slice a510 ((y9 (((xC s counts (xA s t counts) j).qN)[(xn s (xC s counts (xA s t counts) j) c).toNat]!) (((xC s counts (xA s t counts) j).qN)[c.toNat]!) 1).length) c511) 0 rfl rfl sizeOf24 rfl rfl (i:=((xn s (xC s counts (xA s t counts) j) c).toNat)) qf qf qm fun w514 xs517 F518 hs519 H=>?_
     replace N:Fresh w.heap.size [F518]:=(N.pick [1,0]).repl hs519
     refine ⟨H.pick [1,2,3,5,6,7,8,9] [4,5,6,7,8,9],(xH qh ((meet ⟨_,xs517,F518,uE3,N,H.pick [1,2,3,4,5,6,7,8,9] [0,5,6,7,8,9]⟩)))⟩
    obtain ⟨a520,c521,G522,s523,h524,H⟩:=H.QC 3 rfl 0 rfl (iv:=c) c.toNat qf qf
    refine xX (.slice a520 ((((xC s counts (xA s t counts) j).qN)[c.toNat]!).length) c521) isAgg24 rfl (h524) (⟨H.pick [0,1,2,4,5,6,7,8] [1,2,3,4,5,6],(ro 11 rfl ?_)⟩)
    obtain ⟨a525,c526,G527,s528,h529,H⟩:=H.QC 3 rfl 1 rfl (iv:=xn s (xC s counts (xA s t counts) j) c) ((xn s (xC s counts (xA s t counts) j) c).toNat) qf qf
    refine xX (.slice a525 ((((xC s counts (xA s t counts) j).qN)[(xn s (xC s counts (xA s t counts) j) c).toNat]!).length) c526) isAgg24 rfl (h529) (⟨H.pick [0,1,2,4,5,6,7,8] [2,3,4,5,6,7],(ro 19 rfl ?_)⟩)
    obtain ⟨u1,u2,u4⟩:=L.rows p0 (bnd_le qf) (p:=(xn s (xC s counts (xA s t counts) j) c).toNat) (c:=c.toNat) qf qf
    have sz530:=H.base.size
    have lt531:=H.ltN (L:=[jq]) [2]
    refine oc (plus_ok _ (((xC s counts (xA s t counts) j).qN)[(xn s (xC s counts (xA s t counts) j) c).toNat]!) (((xC s counts (xA s t counts) j).qN)[c.toNat]!) 1 (H.get 0 rfl).1 (H.get 1 rfl).1 qg qg qg) ?_
    rintro v535 w533 r535 x534
    replace H:=H.jw x534 r535
    obtain ⟨a536,c537,rfl,hc538,hm539⟩:=H.Qw 0 rfl
    refine ⟨H.pick [1,2,3,5,6,7,8,9] [2,3,4,5,6,7],(tI 20 rfl rfl rfl (H.pick [1,2,3,5,6,7,8,9] [2,3,4,5,6,7]) ?_)⟩
    refine ro 21 rfl ?_
    obtain ⟨G541,N,hn542,H⟩:=H.vG 0 rfl N (H.yg [2])
    refine Qk true H 4 rfl 3 rfl (.slice a536 ((y9 (((xC s counts (xA s t counts) j).qN)[(xn s (xC s counts (xA s t counts) j) c).toNat]!) (((xC s counts (xA s t counts) j).qN)[c.toNat]!) 1).length) c537) 0 rfl rfl sizeOf24 rfl rfl (i:=((xn s (xC s counts (xA s t counts) j) c).toNat)) qf qf qm fun w540 xs543 F544 hs545 H=>?_
    replace N:Fresh w.heap.size [F544]:=(N.pick [1,0]).repl hs545
    refine ⟨H.pick [1,2,3,5,6,7,8,9] [4,5,6,7,8,9],(xH qh ((meet ⟨_,xs543,F544,uE3,N,H.pick [1,2,3,4,5,6,7,8,9] [0,5,6,7,8,9]⟩)))⟩
   clear H N
   rintro ρ w546 ⟨xU,xs490,F491,rfl,N,H⟩
   refine t_n (x8 ?_)
   refine Qo rfl H [0,1,2,4,5,6,7,8] fun H=>?_
   have S:=H.jm [0,1,2,4,5,6,7,8] [0,1,2,3,4,5]
   refine rtp 0 (pp b241 0) S ?_
   refine rtp 1 (pp b241 0) S ?_
   refine tF 2 rfl rfl S ?_
   refine tL 3 rfl rfl (fun _ h=>h.cell 1 rfl rfl) S ?_
   refine rtp 4 (yI c) S ?_
   refine tF 5 rfl rfl S ?_
   refine tL 6 rfl rfl (fun _ h=>h.cell 0 rfl rfl) S ?_
   refine ro 7 rfl (jk H underlying24 ti2 s.qQ.toNat rfl rfl qf qf qf fun b548 w549 H=>⟨H.pick [1,2,3,5,6,7,8,9] [0,1,2,3,4,5],(tI 8 rfl rfl rfl (H.pick [1,2,3,5,6,7,8,9] [0,1,2,3,4,5]) ?_)⟩)
   refine ro 9 rfl ?_
   obtain ⟨G551,N,hn552,H⟩:=H.vG 0 rfl N (H.yg [0])
   refine Qk true H 4 rfl 1 rfl (.slice (aa b548 0) s.qQ.toNat s.qQ.toNat) 0 rfl rfl sizeOf24 rfl rfl (i:=c.toNat) qf qf qm fun w550 xs553 F554 hs555 H=>?_
   replace N:Fresh w.heap.size [F554]:=(N.pick [1,0]).repl hs555
   refine ⟨H.pick [1,2,3,5,6,7,8,9] [2,3,4,5,6,7],(xH qh (t_n (xZ (sps [pp b241 0,pp b241 0] (oF rfl (oL rfl (H.cell 2 rfl rfl) (sp (yI c) ?_)))))))⟩
   obtain ⟨b556,rfl⟩:=H.Xo 3 rfl qf
   refine oI rfl rfl (sw (Xp H 3 rfl false sizeOf4 rfl rfl (i:=c.toNat) qf qf fun w557 H=>zi (ret0 rfl ⟨_,rfl,?_⟩)))
   replace H:=H.erases [1,0]
   dsimp only [jK,List.eraseIdx] at H
   refine zi (b_n (t_n (xZ (sp (yI c) (sw (o_sub c 1 rfl rfl qf (sp (yI (c - 1)) (zi ?_))))))))
   rw [QG] at H
   refine xq (m' :=((c - 1):Int).toNat) qf ⟨_,c - 1,(((xC s counts (xA s t counts) j).qJ).set c.toNat false),((((xC s counts (xA s t counts) j).qN).set ((xn s (xC s counts (xA s t counts) j) c).toNat) (y9 (((xC s counts (xA s t counts) j).qN)[(xn s (xC s counts (xA s t counts) j) c).toNat]!) (((xC s counts (xA s t counts) j).qN)[c.toNat]!) 1)).set c.toNat (List.replicate s.qQ.toNat (0:Int))),xs553,F554,j+1,uE5,?_,?_,?_,?_,rfl,N,H.pick [0,1,2,3,4,5,6,7] [0,3,4,5,6,7]⟩
   · first | (rw [meltDown_yesL (c:=c) ‹_› qf qf rfl ic];rfl) | rw [meltDown_noL (c:=c) ‹_› qf qf rfl ic]
   · first | (rw [meltDown_yesL (c:=c) ‹_› qf qf rfl ic];rfl) | rw [meltDown_noL (c:=c) ‹_› qf qf rfl ic]
   · omega
   · omega
  refine xh (b_n (t_n (xZ (sp (yI c) (sw (o_sub c 1 rfl rfl qf (sp (yI (c - 1)) (zi ?_))))))))
  rw [QG] at H
  refine xq (m' :=((c - 1):Int).toNat) qf ⟨_,c - 1,((xC s counts (xA s t counts) j).qJ),((xC s counts (xA s t counts) j).qN),yF,jq,j+1,uE5,?_,?_,?_,?_,rfl,N,H⟩
  · first | (rw [meltDown_yesL (c:=c) ‹_› qf qf rfl ic];rfl) | rw [meltDown_noL (c:=c) ‹_› qf qf rfl ic]
  · first | (rw [meltDown_yesL (c:=c) ‹_› qf qf rfl ic];rfl) | rw [meltDown_noL (c:=c) ‹_› qf qf rfl ic]
  · omega
  · omega
 refine zx4 (zcr (sw (xW (yS s qE qC qI qH) isAgg27 sizeOf27 rfl (qK (H.cells 7 rfl) 0 3) (sw (xW [.slice ra242 (((xA s t counts).qJ).length) rc243,.slice ra244 (((xA s t counts).qN).length) rc245,.slice ra246 (((xC s counts (xA s t counts) j).qM).length) rc247] isAgg31 sizeOf31 rfl (qK (H.cells 0 rfl) 0 3) ?_)))))
 refine sw (jA #[.agg #[yI s.qQ,.slice qE s.qA.length qC,.slice qI s.qB.length qH],.agg #[.slice ra242 (((xA s t counts).qJ).length) rc243,.slice ra244 (((xA s t counts).qN).length) rc245,.slice ra246 (((xC s counts (xA s t counts) j).qM).length) rc247]] rfl rfl call61 (en func61 ntmps61 ?_))
 refine zcr (sw (vK H (yS s qE qC qI qH) fun b558 w559 H=>sw (vK H [.slice ra242 (((xA s t counts).qJ).length) rc243,.slice ra244 (((xA s t counts).qN).length) rc245,.slice ra246 (((xC s counts (xA s t counts) j).qM).length) rc247] fun b560 w561 H=>sw (x9 H ti31 [yN,yN,yN] fun b562 w563 H=>sp (yI 0) (zjcc ?_)))))
 refine sw (xW (yS s qE qC qI qH) isAgg27 sizeOf27 rfl (qK (H.cells 2 rfl) 0 3) (sw (xW [.slice ra242 (((xA s t counts).qJ).length) rc243,.slice ra244 (((xA s t counts).qN).length) rc245,.slice ra246 (((xC s counts (xA s t counts) j).qM).length) rc247] isAgg31 sizeOf31 rfl (qK (H.cells 1 rfl) 0 3) ?_)))
 obtain ⟨G564,hn565,h566⟩:=H.rowIsB 4 rfl
 obtain ⟨G567,hn568,h569⟩:=H.Xd (α:=yLI) 5 rfl 0 rfl qj
 obtain ⟨G570,hn571,h572⟩:=H.Qs 6 rfl
 refine sw (oq (args_eq (by rw [← hn565,← hn568]) (validState_ok _ s (xC s counts (xA s t counts) j) (H.get 1 rfl).1 (H.get 2 rfl).1 (hn565▸h566) (hn568▸h569) h572)) H fun w574 H=>sp (.bool (!(dec (zX s∧xQ s (xC s counts (xA s t counts) j))))) (zjn (cQ rfl (fun h576=>?_) (fun h576=>?_))))
 ·skip
  refine zcr (sw (jg [yN,yN,yN] [] (sw (xP H 0 [yN,yN,yN] sizeOf31 fun w577 H=>sp (yI 3) (zjr (t_r (retC2 H 0 rfl (yI 3) rfl isAgg31 sizeOf31 rfl rfl ⟨_,rfl,?_⟩)))))))
  replace H:=H.erases [2,1,0]
  dsimp only [jK,List.eraseIdx] at H
  refine sps [.agg #[yN,yN,yN],yI 3] (sw (xP H 5 [yN,yN,yN] sizeOf31 fun w578 H=>sp (yI 3) (zjr ?_)))
  replace H:=H.nilRowB 4
  replace H:=H.nilRow 24 1
  replace H:=H.QD (α:=yLI)
  replace H:=H.nilRowI 2
  refine retC2 H 8 rfl (yI 3) rfl isAgg31 sizeOf31 rfl rfl ⟨_,rfl,?_,H.base⟩
  rw [stepBy_yes p3,stepRes,show xN s - 1=j by omega,told_no (fun h=>‹¬ (zX s∧_)› ⟨p0,h⟩)]
  exact ⟨none,0,0,none,0,0,[],[],none,0,0,rfl,(N.emp.pick [0]),H.pick [2,1,0] [0]⟩
 refine xh (t_n (zcr (sw (xW [.slice ra242 (((xA s t counts).qJ).length) rc243,.slice ra244 (((xA s t counts).qN).length) rc245,.slice ra246 (((xC s counts (xA s t counts) j).qM).length) rc247] isAgg31 sizeOf31 rfl (qK (H.cells 1 rfl) 0 3) (sw (xP H 0 [.slice ra242 (((xA s t counts).qJ).length) rc243,.slice ra244 (((xA s t counts).qN).length) rc245,.slice ra246 (((xC s counts (xA s t counts) j).qM).length) rc247] sizeOf31 fun w579 H=>sp (yI 0) (zjr (retC2 H 0 rfl (yI 0) rfl isAgg31 sizeOf31 rfl rfl ⟨_,rfl,?_⟩))))))))
 replace H:=H.erases [2,1,0]
 dsimp only [jK,List.eraseIdx] at H
 refine sps [.agg #[.slice ra242 (((xA s t counts).qJ).length) rc243,.slice ra244 (((xA s t counts).qN).length) rc245,.slice ra246 (((xC s counts (xA s t counts) j).qM).length) rc247],yI 0] (sw (xP H 5 [.slice ra242 (((xA s t counts).qJ).length) rc243,.slice ra244 (((xA s t counts).qN).length) rc245,.slice ra246 (((xC s counts (xA s t counts) j).qM).length) rc247] sizeOf31 fun w580 H=>sp (yI 0) (zjr (retC2 H 5 rfl (yI 0) rfl isAgg31 sizeOf31 rfl rfl ⟨_,rfl,?_,H.base⟩))))
 rw [stepBy_yes p3,stepRes,show xN s - 1=j by omega,told_yes (‹zX s∧_›:zX s∧_).2]
 exact ⟨ra242,((xA s t counts).qJ).length,rc243,ra244,((xA s t counts).qN).length,rc245,yF,jq,ra246,((xC s counts (xA s t counts) j).qM).length,rc247,rfl,N,H.pick [1,2,3] [0]⟩
theorem single_ok (w:World) (s:qG) (i:Int) {qE:yOA} {qV:yLN} {qI:yOA} {xx:yLN} (qP:qW.rep w qV [.slice qE s.qA.length qC] s.qA) (xm:qW.rep w xx [.slice qI s.qB.length qH] s.qB) (p0:0≤i∧i≤(s.qB.length:Int) - 1) (p1:s.qB.length≤16):Calls Tryz.prog 29 #[.agg #[yI s.qQ,.slice qE s.qA.length qC,.slice qI s.qB.length qH],yI i] w (Ret (fun v w' =>∃ (ra:yOA) (rn:Nat) (rc:Nat),v=.slice ra rn rc∧Fresh w.heap.size []∧St w w' [rr ra rn rc 2 1 ((single s (i:Int).toNat).map (Value.int .i64))] []) w):=by
 refine en func29 ntmps29 ?_
 have H:=((St.start w).arg xm).arg qP
 have zt:=qU qP
 have vF:=qU xm
 clear qP xm
 have N:=Fresh.nil w.heap.size
 refine zcr (sw (vK H (yS s qE qC qI qH) fun b1 w2 H=>sp yN (zjc (oF rfl (oL rfl (H.cell 0 rfl rfl) (oN rfl (sw (jk H underlying24 ti2 s.qB.length rfl rfl qf qf qf fun b3 w4 H=>sp (.slice (aa b3 0) s.qB.length s.qB.length) (zjc (sps [.slice (aa b3 0) s.qB.length s.qB.length,yI i] (oI rfl rfl (sw (o_storeInt H 0 rfl 1 sizeOf2 rfl rfl (i:=i.toNat) qf qf fun w5 H=>zjc ?_)))))))))))))
 refine sps [.slice (aa b3 0) s.qB.length s.qB.length,.slice (aa b3 0) s.qB.length s.qB.length] (zjr (ret1 (.slice (aa b3 0) s.qB.length s.qB.length) rfl rfl ⟨_,rfl,(⟨(aa b3 0),s.qB.length,s.qB.length,rfl,N,H.pick [0] []⟩),H.base⟩))

theorem indexI_ok (w:World) (l:yLI) (x:Int) {al:yOA} {Fl:yLN} (hl:qW.rep w Fl [.slice al l.length cl] l):Calls Tryz.prog 54 #[.slice al l.length cl,yI x] w (Ret (fun v w' =>v=yI (firstIdx (fun k=>x == l[k]!) l.length)) w):=by
 refine en func54 ntmps54 ?_
 have H:=(St.start w).arg hl
 have nhl:=qU hl
 clear hl
 have N:=Fresh.nil w.heap.size
 refine zcr (sp (yI 0) (zjcc (sp (.slice al l.length cl) (oN rfl (sp (yI 0) (zjn (xg ?_)))))))
 refine zH (fun m' ρ w1=>∃ (xU:Env) (i:Nat),ρ=upd (upd (upd (upd xU 0 (.slice al l.length cl)) 1 (yI x)) 7 (yI l.length)) 8 (yI i)∧((i:Int)≤l.length)∧(noneTo (fun k=>x == l[k]!) i)∧m' =(l.length - (i:Int)).toNat∧Fresh w.heap.size []∧St w w1 [] [sF false Fl al cl l]) ((l.length - (0:Int)).toNat) ⟨_,0,uE4,qf,qx,rfl,N,H⟩ ?_
 clear H N
 rintro m' ρ w2 ⟨xU,i,rfl,i0,i1,rfl,N,H⟩
 refine zcr (sp (.bool (decide ((i:Int) < l.length))) (zjn (x8 (cD rfl (fun h3=>?_) (fun h3=>?_)))))
 ·skip
  refine xh (t_n (x8 (xg (zcr (sps [yI i,yI i] (zjc (sps [yI x,.slice al l.length cl,yI i] ?_)))))))
  obtain ⟨b4,o5,rfl⟩:=H.addr 0 rfl qf
  refine oI rfl rfl (oL rfl (H.ji 0 rfl i qf qf) (sp (.bool ((x:Int) == (l[i]!))) (zjn (cE rfl (fun h7=>?_) (fun h7=>?_)))))
  ·skip
   refine zcr (sps [yI i,yI i] (zjr (zr5 (ret1 (yI i) rfl rfl ⟨_,rfl,?_,H.base⟩))))
   rw [firstIdx_some (k:=i) qf i1 (by simpa using ‹x=l[i]!›)]
  refine xh (b_n (t_n (xZ (sw (zB i 1 rfl rfl qf (sp (yI (i+1)) (zi (xq (m' :=(l.length - ((i+1):Int)).toNat) qf ⟨_,i+1,uE4,?_,?_,rfl,N,H⟩))))))))
  · omega
  · exact noneTo_succ ‹_› (by simpa using ‹x≠l[i]!›)
 refine zx4 (zcr (sp (yI (-1)) (zjr (ret1 (yI (-1)) rfl rfl ⟨_,rfl,?_,H.base⟩))))
 rw [firstIdx_none (fun j hj=>i1 j qf)]

theorem containsI_ok (w:World) (l:yLI) (x:Int) {al:yOA} {Fl:yLN} (hl:qW.rep w Fl [.slice al l.length cl] l):Calls Tryz.prog 27 #[.slice al l.length cl,yI x] w (Ret (fun v w' =>v=.bool (dec ((x:Int)∈l))) w):=by
 refine en func27 ntmps27 ?_
 have H:=(St.start w).arg hl
 have nhl:=qU hl
 clear hl
 have N:=Fresh.nil w.heap.size
 refine zcr (sp (.bool false) (zjc (sps [.slice al l.length cl,yI x] (sw (oq (indexI_ok _ l x (H.get 0 rfl).1) H fun w2 H=>sps [.bool (decide ((firstIdx (fun k=>x == l[k]!) l.length:Int)≥0)),.bool (decide ((firstIdx (fun k=>x == l[k]!) l.length:Int)≥0))] (zjr (ret1 (.bool (decide ((firstIdx (fun k=>x == l[k]!) l.length:Int)≥0))) rfl rfl ⟨_,rfl,?_,H.base⟩)))))))
 rw [anyTo_first,anyTo_mem]

theorem minI_ok (w:World) (l:yLI) {al:yOA} {Fl:yLN} (hl:qW.rep w Fl [.slice al l.length cl] l) (p0:1≤l.length):Calls Tryz.prog 38 #[.slice al l.length cl] w (Ret (fun v w' =>v=yI (minL l)) w):=by
 refine en func38 ntmps38 ?_
 have H:=(St.start w).arg hl
 have nhl:=qU hl
 clear hl
 have N:=Fresh.nil w.heap.size
 refine zcr (sp (yI 0) (zjcc (sp (.slice al l.length cl) (oN rfl (sp (.bool (decide ((l.length:Int) < 1))) (zjn (cD rfl (fun h1=>?_) (fun h1=>?_))))))))
 ·skip
  exfalso;omega
 refine xh (t_n (zcr (sp (.slice al l.length cl) ?_)))
 obtain ⟨b2,o3,rfl⟩:=H.addr 0 rfl qf
 refine oI rfl rfl (oL rfl (H.ji 0 rfl 0 qf qf) (sp (yI (l[0]!)) (zjcc (sp (yI 1) (zjn (xg ?_))))))
 refine zH (fun m' ρ w5=>∃ (xU:Env) (m:Int) (i:Nat),ρ=upd (upd (upd xU 0 (.slice (aa b2 o3) l.length cl)) 3 (yI m)) 4 (yI i)∧m=minTo l i∧((i:Int)≤l.length)∧(1≤i)∧m' =(l.length - (i:Int)).toNat∧Fresh w.heap.size []∧St w w5 [] [sF false Fl (aa b2 o3) cl l]) ((l.length - (1:Int)).toNat) ⟨_,l[0]!,1,uE3,(by exact (minTo_one l).symm),qf,qf,rfl,N,H⟩ ?_
 clear H N
 rintro m' ρ w6 ⟨xU,m,i,rfl,rfl,i0,i2,rfl,N,H⟩
 refine zcc (sps [yI i,.slice (aa b2 o3) l.length cl] (oN rfl (sp (.bool (decide ((i:Int) < l.length))) (zjn (cD rfl (fun h7=>?_) (fun h7=>?_))))))
 ·skip
  refine xh (t_n (x8 (xg (xZ (sps [yI (minTo l i),.slice (aa b2 o3) l.length cl,yI i] (oI rfl rfl (oL rfl (H.ji 0 rfl i qf qf) (sw (o_min (minTo l i) (l[i]!) rfl rfl (sp (yI (min (minTo l i) (l[i]!))) (zi (b_n (t_n (xZ (sp (yI i) (sw (zB i 1 rfl rfl qf (sp (yI (i+1)) (zi (xq (m' :=(l.length - ((i+1):Int)).toNat) qf ⟨_,min (minTo l i) (l[i]!),i+1,uE3,?_,?_,?_,rfl,N,H⟩))))))))))))))))))))
  · exact (minTo_succ qf).symm
  · omega
  · omega
 refine zx4 (zcr (sps [yI (minTo l i),yI (minTo l i)] (zjr (ret1 (yI (minTo l i)) rfl rfl ⟨_,rfl,?_,H.base⟩))))
 obtain rfl:i=l.length:=by omega
 rfl

theorem sizeR_ok (w:World) (l:List zK) {al:yOA} {Fl:yLN} (hl:qW.rep w Fl [.slice al l.length cl] l):Calls Tryz.prog 53 #[.slice al l.length cl] w (Ret (fun v w' =>v=yI l.length) w):=by
 refine en func53 ntmps53 ?_
 have H:=(St.start w).arg hl
 have nhl:=qU hl
 clear hl
 have N:=Fresh.nil w.heap.size
 refine zcr (sp (yI 0) (zjc (sp (.slice al l.length cl) (oN rfl (sp (yI l.length) (zjr (ret1 (yI l.length) rfl rfl ⟨_,rfl,?_,H.base⟩)))))))
 rfl

theorem implOne_ok (w:World) (s:qG) (t:qR) (i:Int) {qE:yOA} {qV:yLN} {qI:yOA} {xx:yLN} {xk:yOA} {zF:yLN} {xJ:yOA} {vM:yLN} {qY:yOA} {zf:yLN} (qP:qW.rep w qV [.slice qE s.qA.length qC] s.qA) (xm:qW.rep w xx [.slice qI s.qB.length qH] s.qB) (zu:qW.rep w zF [.slice xk t.qJ.length xe] t.qJ) (zW:qW.rep w vM [.slice xJ t.qN.length xG] t.qN) (xY:qW.rep w zf [.slice qY t.qM.length qX] t.qM):Calls Tryz.prog 10 #[.agg #[yI s.qQ,.slice qE s.qA.length qC,.slice qI s.qB.length qH],.agg #[.slice xk t.qJ.length xe,.slice xJ t.qN.length xG,.slice qY t.qM.length qX],yI i] w (Ret (fun v w' =>∃ (ra0Alive:yOA) (rn0Alive:Nat) (rc0Alive:Nat) (ra0Bags:yOA) (rn0Bags:Nat) (rc0Bags:Nat) (rx0Bags:List Value) (rF0Bags:yLN) (ra0Around:yOA) (rn0Around:Nat) (rc0Around:Nat),v=.tuple #[.agg #[.slice ra0Alive rn0Alive rc0Alive,.slice ra0Bags rn0Bags rc0Bags,.slice ra0Around rn0Around rc0Around],yI ((zk s t i).2)]∧Fresh w.heap.size [rF0Bags]∧St w w' [rr ra0Alive rn0Alive rc0Alive 4 1 ((((zk s t i).1).qJ).map (Value.bool)),rr ra0Bags rn0Bags rc0Bags 24 1 rx0Bags,rr ra0Around rn0Around rc0Around 2 1 ((((zk s t i).1).qM).map (Value.int .i64))] [xB true rF0Bags rx0Bags (((zk s t i).1).qN)]) w):=by
 refine en func10 ntmps10 ?_
 have H:=(((((St.start w).arg xY).arg zW).arg zu).arg xm).arg qP
 have zt:=qU qP
 have vF:=qU xm
 have Ql:=qU zu
 have Xq:=qU zW
 have yG:=qU xY
 clear qP xm zu zW xY
 have N:=Fresh.nil w.heap.size
 refine zcr (sw (vK H (yS s qE qC qI qH) fun b1 w2 H=>sw (vK H (yT t xk xe xJ xG qY qX) fun b3 w4 H=>sw (x9 H ti31 [yN,yN,yN] fun b5 w6 H=>sp (yI 0) (zjc (sw (xW (yS s qE qC qI qH) isAgg27 sizeOf27 rfl (qK (H.cells 2 rfl) 0 3) ?_)))))))
 refine sw (xW (yT t xk xe xJ xG qY qX) isAgg31 sizeOf31 rfl (qK (H.cells 1 rfl) 0 3) (sp (yI i) (sw (jA #[.agg #[yI s.qQ,.slice qE s.qA.length qC,.slice qI s.qB.length qH],.agg #[.slice xk t.qJ.length xe,.slice xJ t.qN.length xG,.slice qY t.qM.length qX],yI i] rfl rfl call26 (en func26 ntmps26 ?_)))))
 refine zcr (sw (vK H (yS s qE qC qI qH) fun b7 w8 H=>sw (vK H (yT t xk xe xJ xG qY qX) fun b9 w10 H=>sp (yI 0) (zjn (x8 (xg (zcr (sw (xW (yS s qE qC qI qH) isAgg27 sizeOf27 rfl (qK (H.cells 1 rfl) 0 3) ?_)))))))))
 refine sw (xW (yT t xk xe xJ xG qY qX) isAgg31 sizeOf31 rfl (qK (H.cells 0 rfl) 0 3) (sw (oq (validState_ok _ s t (H.get 0 rfl).1 (H.get 1 rfl).1 (H.get 2 rfl).1 (H.get 3 rfl).1 (H.get 4 rfl).1) H fun w12 H=>sps [.bool (!(dec (zX s∧xQ s t))),.bool (!(dec (zX s∧xQ s t)))] (zjn (cQ rfl (fun h14=>?_) (fun h14=>?_))))))
 ·skip
  refine zcr (sp (yI 1) (zjr (b_r (t_r (ret1 (yI 1) rfl rfl ⟨_,rfl,?_⟩)))))
  replace H:=H.erases [1,0]
  dsimp only [jK,List.eraseIdx] at H
  refine sp (yI 1) (zjcc (sps [yI 1,.bool false,.bool false] (xO [16,17,18,19,20,21] (sp (.bool false) (zjn (xI false rfl (fun h=>absurd h qj) (fun _=>xh (t_n (zcc (sps [yI 1,.bool true] (zjn (xI true rfl (fun _=>zcr (sw (jg [yN,yN,yN] [] (sp (yI 1) (sw (xP H 0 [yN,yN,yN] sizeOf31 fun w15 H=>sp (yI 1) (zjr (t_r ?_)))))))) (fun h=>absurd h qj)))))))))))))
  replace H:=H.nilRowB 4
  replace H:=H.nilRow 24 1
  replace H:=H.QD (α:=yLI)
  replace H:=H.nilRowI 2
  refine retC2 H 3 rfl (yI 1) rfl isAgg31 sizeOf31 rfl rfl ⟨_,rfl,?_,H.base⟩
  rw [one_1 ‹_›]
  exact ⟨none,0,0,none,0,0,[],[],none,0,0,rfl,N.emp,H.pick [2,1,0] [0]⟩
 refine zcr (sp (yI i) (oF rfl (oL rfl (H.cell 1 rfl rfl) (sw (oq (sizeR_ok _ s.qB (H.get 1 rfl).1) H fun w17 H=>sw (o_sub s.qB.length 1 rfl rfl qf (sw (oq (QQ w17 i 0 (s.qB.length - 1)) H fun w19 H=>sps [.bool (!(inR i 0 (s.qB.length - 1))),.bool (!(inR i 0 (s.qB.length - 1)))] (zjn (xI (!(inR i 0 (s.qB.length - 1))) rfl (fun h21=>?_) (fun h21=>?_)))))))))))
 ·skip
  replace h21:=xw h21
  replace h21:=Qy h21
  refine zcr (sp (yI 2) (zjr (b_r (t_r (ret1 (yI 2) rfl rfl ⟨_,rfl,?_⟩)))))
  replace H:=H.erases [1,0]
  dsimp only [jK,List.eraseIdx] at H
  refine sp (yI 2) (zjcc (sps [yI 2,.bool false,.bool false] (xO [16,17,18,19,20,21] (sp (.bool false) (zjn (xI false rfl (fun h=>absurd h qj) (fun _=>xh (t_n (zcc (sps [yI 2,.bool true] (zjn (xI true rfl (fun _=>zcr (sw (jg [yN,yN,yN] [] (sp (yI 2) (sw (xP H 0 [yN,yN,yN] sizeOf31 fun w22 H=>sp (yI 2) (zjr (t_r ?_)))))))) (fun h=>absurd h qj)))))))))))))
  replace H:=H.nilRowB 4
  replace H:=H.nilRow 24 1
  replace H:=H.QD (α:=yLI)
  replace H:=H.nilRowI 2
  refine retC2 H 3 rfl (yI 2) rfl isAgg31 sizeOf31 rfl rfl ⟨_,rfl,?_,H.base⟩
  rw [one_2 ‹zX s∧xQ s t› ‹_›]
  exact ⟨none,0,0,none,0,0,[],[],none,0,0,rfl,N.emp,H.pick [2,1,0] [0]⟩
 replace h21:=xf h21
 replace h21:=yQ.1 h21
 refine xh (b_n (t_n (zcr (sp (yI 0) (zjr (ret1 (yI 0) rfl rfl ⟨_,rfl,?_⟩))))))
 replace H:=H.erases [1,0]
 dsimp only [jK,List.eraseIdx] at H
 refine sp (yI 0) (zjcc (sps [yI 0,.bool true,.bool true] (qO 15 rfl rfl (sw (xW (yS s qE qC qI qH) isAgg27 sizeOf27 rfl (qK (H.cells 2 rfl) 0 3) (qO 15 rfl rfl (sw (xW (yT t xk xe xJ xG qY qX) isAgg31 sizeOf31 rfl (qK (H.cells 1 rfl) 0 3) (qO 15 rfl rfl ?_)))))))))
 have k0:=(‹zX s∧xQ s t›:zX s∧xQ s t)
 have k1:=k0.1
 have k2:=k0.2
 have k4:=k1.2.1
 have sz26:=H.base.size
 refine sw (oc (applicable_ok _ s t (H.get 0 rfl).1 (H.get 1 rfl).1 (H.get 2 rfl).1 (H.get 3 rfl).1 (H.get 4 rfl).1 qg qg) ?_)
 rintro _ w24 ⟨ra23,rn23,rc23,rfl,M,K⟩ _
 replace H:=H.merge K M
 obtain rfl:=H.jb 0 rfl
 refine qO 15 rfl rfl (sp (yI i) (qO 15 rfl rfl ?_))
 obtain ⟨G29,hn30,h31⟩:=H.Qs 0 rfl
 refine sw (oq (containsI_ok _ (appls s t) i h31) H fun w33 H=>qO 15 rfl rfl (sps [.bool (!(dec ((i:Int)∈(appls s t)))),.bool (!(dec ((i:Int)∈(appls s t))))] (zjn (cQ rfl (fun h35=>?_) (fun h35=>?_)))))
 ·skip
  refine xZ (sp (yI 4) (zjcc (sps [yI 4,.bool true] (zjn (xI true rfl (fun _=>zcr (sw (jg [yN,yN,yN] [] (sp (yI 4) (sw (xP H 1 [yN,yN,yN] sizeOf31 fun w36 H=>sp (yI 4) (zjr (t_r ?_)))))))) (fun h=>absurd h qj))))))
  replace H:=H.nilRowB 4
  replace H:=H.nilRow 24 1
  replace H:=H.QD (α:=yLI)
  replace H:=H.nilRowI 2
  refine retC2 H 4 rfl (yI 4) rfl isAgg31 sizeOf31 rfl rfl ⟨_,rfl,?_,H.base⟩
  rw [one_4 ‹zX s∧xQ s t› ‹_› ‹_›]
  exact ⟨none,0,0,none,0,0,[],[],none,0,0,rfl,N.emp,H.pick [2,1,0] [0]⟩
 refine xh (t_n (zcc (sps [yI 0,.bool false] (zjn (xI false rfl (fun h=>absurd h qj) (fun _=>xh (t_n (x8 ?_))))))))
 refine Qo rfl H [0,2,3] fun H=>?_
 have S:=H.jm [0,2,3] [0,1,2,3,4]
 refine rt 0 (.agg #[yI s.qQ,.slice qE s.qA.length qC,.slice qI s.qB.length qH]) (yh (cs:=(yS s qE qC qI qH)) isAgg27 sizeOf27 rfl (fun _ h=>qK (h.cells 2 rfl) 0 3)) S ?_
 refine rt 1 (.agg #[.slice xk t.qJ.length xe,.slice xJ t.qN.length xG,.slice qY t.qM.length qX]) (yh (cs:=(yT t xk xe xJ xG qY qX)) isAgg31 sizeOf31 rfl (fun _ h=>qK (h.cells 1 rfl) 0 3)) S ?_
 refine rt 2 (.agg #[yI s.qQ,.slice qE s.qA.length qC,.slice qI s.qB.length qH]) (yh (cs:=(yS s qE qC qI qH)) isAgg27 sizeOf27 rfl (fun _ h=>qK (h.cells 2 rfl) 0 3)) S ?_
 refine rtp 3 (yI i) S ?_
 refine ro 4 rfl ?_
 have sz41:=H.base.size
 refine oc (single_ok _ s i (H.get 0 rfl).1 (H.get 1 rfl).1 qg qg) ?_
 rintro _ w39 ⟨ra38,rn38,rc38,rfl,M,K⟩ _
 replace H:=H.merge K M
 obtain rfl:=H.jb 0 rfl
 refine ⟨H.pick [1,3,4] [0,1,2,3,4],(ro 5 rfl ?_)⟩
 obtain ⟨G44,hn45,h46⟩:=H.Qs 0 rfl
 have k3:=single_cnt (s:=s) (i:=i.toNat) qf
 have k5:=(single_isCh k1 k2 (i:=i.toNat) qf).2 ((mem_applsI qf qf).1 ‹i∈appls s t›)
 have sz50:=H.base.size
 refine oc (step_ok _ s t (single s (i:Int).toNat) (H.get 0 rfl).1 (H.get 1 rfl).1 (H.get 2 rfl).1 (H.get 3 rfl).1 (H.get 4 rfl).1 h46 qg qg qg qg) ?_
 rintro _ w48 ⟨ra47aAlive,rn47aAlive,rc47aAlive,ra47aBags,rn47aBags,rc47aBags,rx47aBags,rF47aBags,ra47aAround,rn47aAround,rc47aAround,rfl,M,K⟩ _
 replace N:=N.merge sz50 qm M
 replace H:=H.merge K M
 obtain rfl:=H.rowNB 0 rfl
 obtain rfl:=H.zO (α:=yLI) 1 rfl 0 rfl qj
 obtain rfl:=H.jb 2 rfl
 refine ⟨H.pick [4,6,7] [1,2,3,4,5],?_⟩
 have S:=H.jm [4,6,7] [1,2,3,4,5]
 refine rtp 6 (.agg #[.slice ra47aAlive ((((QA s t (single s (i:Int).toNat)).1).qJ).length) rc47aAlive,.slice ra47aBags ((((QA s t (single s (i:Int).toNat)).1).qN).length) rc47aBags,.slice ra47aAround ((((QA s t (single s (i:Int).toNat)).1).qM).length) rc47aAround]) S ?_
 refine rtp 7 (yI ((QA s t (single s (i:Int).toNat)).2)) S ?_
 refine ro 8 rfl (xP H 5 [.slice ra47aAlive ((((QA s t (single s (i:Int).toNat)).1).qJ).length) rc47aAlive,.slice ra47aBags ((((QA s t (single s (i:Int).toNat)).1).qN).length) rc47aBags,.slice ra47aAround ((((QA s t (single s (i:Int).toNat)).1).qM).length) rc47aAround] sizeOf31 fun w55 H=>⟨H.pick [4,6,7] [1,2,3,4,5],(rtp 9 (yI ((QA s t (single s (i:Int).toNat)).2)) (H.pick [4,6,7] [1,2,3,4,5]) ?_)⟩)
 refine xH qh (t_n (c_ret (retC2 H 5 rfl (yI ((QA s t (single s (i:Int).toNat)).2)) rfl isAgg31 sizeOf31 rfl rfl ⟨_,rfl,?_,H.base⟩)))
 rw [one_0 ‹zX s∧xQ s t› ‹_›]
 exact ⟨ra47aAlive,(((QA s t (single s (i:Int).toNat)).1).qJ).length,rc47aAlive,ra47aBags,(((QA s t (single s (i:Int).toNat)).1).qN).length,rc47aBags,rx47aBags,rF47aBags,ra47aAround,(((QA s t (single s (i:Int).toNat)).1).qM).length,rc47aAround,rfl,N,H.pick [0,1,2] [0]⟩
end
section
open Go.RowKit
set_option linter.unusedVariables false
set_option linter.unusedSimpArgs false
set_option maxRecDepth 100000
set_option maxHeartbeats 4000000
theorem dNext_ok {W0 w:World} {ps:List Prv} {Γ:List Fact} {Ns:List yLN} (code:List UInt8) (ip:Int) (sd:Int) (bs:Nat) (ac:yOA) (cc:Nat) (Fc:yLN) (H:St W0 w ((.box bs [.slice ac code.length cc,.int .i64 ip,.int .u64 sd] 68) :: ps) ((sF false Fc ac cc code) :: Γ)) (N:Fresh W0.heap.size (Ns)) (K0:Kept Ns Γ) (q0:0≤ip∧ip≤100000):Calls Tryz.prog 33 #[.pointer (some ⟨bs,0,none⟩)] w (fun e w' =>∃ v,e=.returned v∧∃ (ip_:Int) (sd_:Int) (v_:Int),(ip≤ip_∧ip_≤ip+1)∧(0≤v_∧v_≤255)∧v=.int .i64 v_∧Fresh W0.heap.size (Ns)∧St W0 w' ((.box bs [.slice ac code.length cc,.int .i64 ip_,.int .u64 sd_] 68) :: ps) ((sF false Fc ac cc code) :: Γ)):=by
 refine en Tryz.func33 Tryz.ntmps33 ?_
 have ncode:=qU (H.get 0 rfl).1
 refine zcr (sp (.int .i64 0) (zjc (sp (.int .i64 0) (zjn (x8 (x8 ?_))))))
 refine QZ rfl H [0] [0] fun H=>?_
 have S:=H.jm [0] [0]
 refine rtp 0 (.pointer (some ⟨bs,0,none⟩)) S ?_
 refine rtp 1 (.pointer (some ⟨bs,0,none⟩)) S ?_
 refine tF 2 rfl rfl S ?_
 refine tL 3 rfl rfl (fun _ h=>h.cell 0 rfl rfl) S ?_
 refine rtp 4 (.pointer (some ⟨bs,0,none⟩)) S ?_
 refine rtp 5 (.pointer (some ⟨bs,0,none⟩)) S ?_
 refine tF 6 rfl rfl S ?_
 refine tL 7 rfl rfl (fun _ h=>h.cell 0 rfl rfl) S ?_
 refine tN 8 rfl rfl S ?_
 refine rtp 9 (.bool (decide ((ip:Int) < code.length))) S ?_
 refine xH qh (t_n (cD rfl (fun h2=>?_) (fun h2=>?_)))
 ·skip
  refine QZ rfl H [0] [0] fun H=>?_
  have S:=H.jm [0] [0]
  refine rtp 0 (.pointer (some ⟨bs,0,none⟩)) S ?_
  refine rtp 1 (.pointer (some ⟨bs,0,none⟩)) S ?_
  refine tF 2 rfl rfl S ?_
  refine tL 3 rfl rfl (fun _ h=>h.cell 0 rfl rfl) S ?_
  refine rtp 4 (.pointer (some ⟨bs,0,none⟩)) S ?_
  refine rtp 5 (.pointer (some ⟨bs,0,none⟩)) S ?_
  refine tF 6 rfl rfl S ?_
  refine tL 7 rfl rfl (fun _ h=>h.cell 0 rfl rfl) S ?_
  obtain ⟨b4,o5,rfl⟩:=H.addr 0 rfl qf
  refine tI 8 rfl rfl rfl (H.pick [0] [0]) ?_
  refine ro 9 rfl ?_
  have hb7:=byte_lt (code[ip.toNat]!)
  refine xX (.int .u8 (((code[ip.toNat]!).toNat:Nat):Int)) Tryz.isAgg5 rfl (H.elemByte 0 rfl ip ip.toNat qf qf qf) (⟨H.pick [0] [0],(ro 10 rfl (o_convI (((code[ip.toNat]!).toNat:Nat):Int) Tryz.underlying5 Tryz.underlying3 rfl qf (⟨H.pick [0] [0],(rtp 11 (.int .i64 (((code[ip.toNat]!).toNat:Nat):Int)) (H.pick [0] [0]) ?_)⟩)))⟩)
  refine xH qh (t_n (zcr (sps [.pointer (some ⟨bs,0,none⟩),.pointer (some ⟨bs,0,none⟩)] (oF rfl (oL rfl (H.cell 0 rfl rfl) (sw (zB ip 1 rfl rfl qf (sp (.pointer (some ⟨bs,0,none⟩)) (oF rfl (sw (zU H 0 [.slice (some ⟨b4,o5,none⟩) code.length cc,.int .i64 (ip+1),.int .u64 sd] Tryz.sizeOf3 fun w8 H=>?_)))))))))))
  try dsimp only [List.set] at H
  refine zjc (sps [.pointer (some ⟨bs,0,none⟩),.pointer (some ⟨bs,0,none⟩),.pointer (some ⟨bs,0,none⟩)] (oF rfl (oL rfl (H.cell 0 rfl rfl) (sw (o_mulU sd 6364136223846793005 rfl rfl fun r9=>sp (.int .i64 (((code[ip.toNat]!).toNat:Nat):Int)) (sw (o_convU (((code[ip.toNat]!).toNat:Nat):Int) Tryz.underlying3 Tryz.underlying66 rfl fun r10=>sw (o_addU r9 r10 rfl rfl fun r11=>sw (o_addU r11 1442695040888963407 rfl rfl fun r12=>sp (.pointer (some ⟨bs,0,none⟩)) (oF rfl (sw (zU H 0 [.slice (some ⟨b4,o5,none⟩) code.length cc,.int .i64 (ip+1),.int .u64 r12] Tryz.sizeOf66 fun w13 H=>?_))))))))))))
  try dsimp only [List.set] at H
  refine zjn (x8 (x8 ?_))
  refine QZ rfl H [0] [0] fun H=>?_
  have S:=H.jm [0] [0]
  refine rtp 0 (.pointer (some ⟨bs,0,none⟩)) S ?_
  refine rtp 1 (.pointer (some ⟨bs,0,none⟩)) S ?_
  refine tF 2 rfl rfl S ?_
  refine tL 3 rfl rfl (fun _ h=>h.cell 0 rfl rfl) S ?_
  refine rtp 4 (.pointer (some ⟨bs,0,none⟩)) S ?_
  refine rtp 5 (.pointer (some ⟨bs,0,none⟩)) S ?_
  refine tF 6 rfl rfl S ?_
  refine tL 7 rfl rfl (fun _ h=>h.cell 0 rfl rfl) S ?_
  refine tN 8 rfl rfl S ?_
  refine rtp 9 (.bool (decide ((ip+1:Int)≤code.length))) S ?_
  refine xH qh (t_n (cD rfl (fun h15=>?_) (fun h15=>?_)))
  ·skip
   refine zcr (sps [.int .i64 (((code[ip.toNat]!).toNat:Nat):Int),.int .i64 (((code[ip.toNat]!).toNat:Nat):Int)] (zjr (t_r (ret1 (.int .i64 (((code[ip.toNat]!).toNat:Nat):Int)) rfl rfl ⟨_,rfl,(⟨ip+1,r12,(((code[ip.toNat]!).toNat:Nat):Int),qf,qf,rfl,N,H.zC 1 1 [0] [0] qo qo⟩)⟩))))
  ·skip
   refine xh (t_n (zcr (sps [.pointer (some ⟨bs,0,none⟩),.pointer (some ⟨bs,0,none⟩)] (oF rfl (oL rfl (H.cell 0 rfl rfl) (sw (o_shrU r12 40 qj rfl rfl fun r16=>sw (o_andU r16 rfl rfl fun r17 hr17=>sw (o_convI r17 Tryz.underlying66 Tryz.underlying2 rfl qf (sp (.int .i64 r17) (zjr (ret1 (.int .i64 r17) rfl rfl ⟨_,rfl,(⟨ip+1,r12,r17,qf,qf,rfl,N,H.zC 1 1 [0] [0] qo qo⟩)⟩))))))))))))
 ·skip
  refine xh (t_n (zcr (sps [.pointer (some ⟨bs,0,none⟩),.pointer (some ⟨bs,0,none⟩)] (oF rfl (oL rfl (H.cell 0 rfl rfl) (sw (zB ip 1 rfl rfl qf (sp (.pointer (some ⟨bs,0,none⟩)) (oF rfl (sw (zU H 0 [.slice ac code.length cc,.int .i64 (ip+1),.int .u64 sd] Tryz.sizeOf3 fun w18 H=>?_)))))))))))
  try dsimp only [List.set] at H
  refine zjc (sps [.pointer (some ⟨bs,0,none⟩),.pointer (some ⟨bs,0,none⟩),.pointer (some ⟨bs,0,none⟩)] (oF rfl (oL rfl (H.cell 0 rfl rfl) (sw (o_mulU sd 6364136223846793005 rfl rfl fun r19=>sp (.int .i64 0) (sw (o_convU 0 Tryz.underlying3 Tryz.underlying66 rfl fun r20=>sw (o_addU r19 r20 rfl rfl fun r21=>sw (o_addU r21 1442695040888963407 rfl rfl fun r22=>sp (.pointer (some ⟨bs,0,none⟩)) (oF rfl (sw (zU H 0 [.slice ac code.length cc,.int .i64 (ip+1),.int .u64 r22] Tryz.sizeOf66 fun w23 H=>?_))))))))))))
  try dsimp only [List.set] at H
  refine zjn (x8 (x8 ?_))
  refine QZ rfl H [0] [0] fun H=>?_
  have S:=H.jm [0] [0]
  refine rtp 0 (.pointer (some ⟨bs,0,none⟩)) S ?_
  refine rtp 1 (.pointer (some ⟨bs,0,none⟩)) S ?_
  refine tF 2 rfl rfl S ?_
  refine tL 3 rfl rfl (fun _ h=>h.cell 0 rfl rfl) S ?_
  refine rtp 4 (.pointer (some ⟨bs,0,none⟩)) S ?_
  refine rtp 5 (.pointer (some ⟨bs,0,none⟩)) S ?_
  refine tF 6 rfl rfl S ?_
  refine tL 7 rfl rfl (fun _ h=>h.cell 0 rfl rfl) S ?_
  refine tN 8 rfl rfl S ?_
  refine rtp 9 (.bool (decide ((ip+1:Int)≤code.length))) S ?_
  refine xH qh (t_n (cD rfl (fun h25=>?_) (fun h25=>?_)))
  ·skip
   refine zcr (sps [.int .i64 0,.int .i64 0] (zjr (t_r (ret1 (.int .i64 0) rfl rfl ⟨_,rfl,(⟨ip+1,r22,0,qf,qf,rfl,N,H.zC 1 1 [0] [0] qo qo⟩)⟩))))
  ·skip
   refine xh (t_n (zcr (sps [.pointer (some ⟨bs,0,none⟩),.pointer (some ⟨bs,0,none⟩)] (oF rfl (oL rfl (H.cell 0 rfl rfl) (sw (o_shrU r22 40 qj rfl rfl fun r26=>sw (o_andU r26 rfl rfl fun r27 hr27=>sw (o_convI r27 Tryz.underlying66 Tryz.underlying2 rfl qf (sp (.int .i64 r27) (zjr (ret1 (.int .i64 r27) rfl rfl ⟨_,rfl,(⟨ip+1,r22,r27,qf,qf,rfl,N,H.zC 1 1 [0] [0] qo qo⟩)⟩))))))))))))

theorem jF {W0 w:World} {ps:List Prv} {Γ:List Fact} {Ns:List yLN} (code:List UInt8) (ip:Int) (sd:Int) (bs:Nat) (ac:yOA) (cc:Nat) (Fc:yLN) (nn:Int) (H:St W0 w ((.box bs [.slice ac code.length cc,.int .i64 ip,.int .u64 sd] 68) :: ps) ((sF false Fc ac cc code) :: Γ)) (N:Fresh W0.heap.size (Ns)) (K0:Kept Ns Γ) (q0:0≤ip∧ip≤90000):Calls Tryz.prog 17 #[.pointer (some ⟨bs,0,none⟩),.int .i64 nn] w (fun e w' =>∃ v,e=.returned v∧∃ (ip_:Int) (sd_:Int) (v_:Int),(ip≤ip_∧ip_≤ip+2)∧(0≤v_∧(v_ < nn∨v_=0))∧v=.int .i64 v_∧Fresh W0.heap.size (Ns)∧St W0 w' ((.box bs [.slice ac code.length cc,.int .i64 ip_,.int .u64 sd_] 68) :: ps) ((sF false Fc ac cc code) :: Γ)):=by
 refine en Tryz.func17 Tryz.ntmps17 ?_
 have ncode:=qU (H.get 0 rfl).1
 refine zcr (sp (.int .i64 0) (zjcc (sps [.int .i64 nn,.bool (decide ((nn:Int)≤1))] (zjn (cD rfl (fun h1=>?_) (fun h1=>?_))))))
 ·skip
  refine zcr (sp (.int .i64 0) (zjr (t_r (ret1 (.int .i64 0) rfl rfl ⟨_,rfl,(⟨ip,sd,0,qf,(by first | omega | exact ⟨hm _,.inl (hm2 _)⟩),rfl,N,H.zC 1 1 [0] [0] qo qo⟩)⟩))))
 ·skip
  refine xh (t_n (zcr (sp (.pointer (some ⟨bs,0,none⟩)) ?_)))
  have H1:=H.jv 1 1 [0] [0] qo qo
  have N1:Fresh _ (Ns):=N
  have K1:Kept (Ns) (Γ):=K0.behind 0 rfl
  refine sw (zg #[.pointer (some ⟨bs,0,none⟩)] rfl rfl Tryz.call33 (dNext_ok code ip sd bs ac cc Fc H1 N1 K1 qg) ?_)
  clear H H1 N1 K1
  rintro _ w2 ⟨zi6,zi7,zi8,hx4,hx5,rfl,N,H⟩
  refine sp (.int .i64 zi8) (zjcc (sps [.int .i64 nn,.bool (decide ((nn:Int) > 200))] (zjn (cD rfl (fun h9=>?_) (fun h9=>?_)))))
  ·skip
   refine xZ (sp (.int .i64 zi8) (sw (o_mul zi8 256 rfl rfl qf (sp (.pointer (some ⟨bs,0,none⟩)) ?_))))
   have H1:=H.jv 1 1 [0] [0] qo qo
   have N1:Fresh _ (Ns):=N
   have K1:Kept (Ns) (Γ):=K0.behind 0 rfl
   refine sw (zg #[.pointer (some ⟨bs,0,none⟩)] rfl rfl Tryz.call33 (dNext_ok code zi6 zi7 bs ac cc Fc H1 N1 K1 qg) ?_)
   clear H H1 N1 K1
   rintro _ w10 ⟨zi14,zi15,zi16,hx12,hx13,rfl,N,H⟩
   refine sw (zB (zi8 * 256) zi16 rfl rfl qf (sp (.int .i64 ((zi8 * 256)+zi16)) (zjc (sps [.int .i64 ((zi8 * 256)+zi16),.int .i64 nn] (sw (o_rem ((zi8 * 256)+zi16) nn rfl rfl qf qf qf (sp (.int .i64 (((zi8 * 256)+zi16) % nn)) (zjr (ret1 (.int .i64 (((zi8 * 256)+zi16) % nn)) rfl rfl ⟨_,rfl,?_⟩)))))))))
   have hm:=fun (x:Int)=>Int.emod_nonneg x (show nn≠0 by omega)
   have hm2:=fun (x:Int)=>Int.emod_lt_of_pos x (show 0 < nn by omega)
   exact ⟨zi14,zi15,((zi8 * 256)+zi16) % nn,qf,(by first | omega | exact ⟨hm _,.inl (hm2 _)⟩),rfl,N,H.zC 1 1 [0] [0] qo qo⟩
  ·skip
   refine xh (t_n (zcr (sps [.int .i64 zi8,.int .i64 nn] (sw (o_rem zi8 nn rfl rfl qf qf qf (sp (.int .i64 (zi8 % nn)) (zjr (ret1 (.int .i64 (zi8 % nn)) rfl rfl ⟨_,rfl,?_⟩))))))))
   have hm:=fun (x:Int)=>Int.emod_nonneg x (show nn≠0 by omega)
   have hm2:=fun (x:Int)=>Int.emod_lt_of_pos x (show 0 < nn by omega)
   exact ⟨zi6,zi7,zi8 % nn,qf,(by first | omega | exact ⟨hm _,.inl (hm2 _)⟩),rfl,N,H.zC 1 1 [0] [0] qo qo⟩

theorem Xe {W0 w:World} {ps:List Prv} {Γ:List Fact} {Ns:List yLN} (code:List UInt8) (ip:Int) (sd:Int) (bs:Nat) (ac:yOA) (cc:Nat) (Fc:yLN) (nn:Int) (H:St W0 w ((.box bs [.slice ac code.length cc,.int .i64 ip,.int .u64 sd] 68) :: ps) ((sF false Fc ac cc code) :: Γ)) (N:Fresh W0.heap.size (Ns)) (K0:Kept Ns Γ) (q0:0≤ip∧ip≤90000):Calls Tryz.prog 15 #[.pointer (some ⟨bs,0,none⟩),.int .i64 nn] w (fun e w' =>∃ v,e=.returned v∧∃ (ip_:Int) (sd_:Int) (v_:Bool),(ip≤ip_∧ip_≤ip+2)∧v=.bool v_∧Fresh W0.heap.size (Ns)∧St W0 w' ((.box bs [.slice ac code.length cc,.int .i64 ip_,.int .u64 sd_] 68) :: ps) ((sF false Fc ac cc code) :: Γ)):=by
 refine en Tryz.func15 Tryz.ntmps15 ?_
 have ncode:=qU (H.get 0 rfl).1
 refine zcr (sp (.bool false) (zjc (sps [.pointer (some ⟨bs,0,none⟩),.int .i64 nn] ?_)))
 have H1:=H.jv 1 1 [0] [0] qo qo
 have N1:Fresh _ (Ns):=N
 have K1:Kept (Ns) (Γ):=K0.behind 0 rfl
 refine sw (zg #[.pointer (some ⟨bs,0,none⟩),.int .i64 nn] rfl rfl Tryz.call17 (jF code ip sd bs ac cc Fc nn H1 N1 K1 qg) ?_)
 clear H H1 N1 K1
 rintro _ w1 ⟨zi5,zi6,zi7,hx3,hx4,rfl,N,H⟩
 refine sps [.bool ((zi7:Int) == 0),.bool ((zi7:Int) == 0)] (zjr (ret1 (.bool ((zi7:Int) == 0)) rfl rfl ⟨_,rfl,(⟨zi5,zi6,(zi7:Int) == 0,qf,rfl,N,H.zC 1 1 [0] [0] qo qo⟩)⟩))

theorem dFew_ok {W0 w:World} {ps:List Prv} {Γ:List Fact} {Ns:List yLN} (code:List UInt8) (ip:Int) (sd:Int) (bs:Nat) (ac:yOA) (cc:Nat) (Fc:yLN) (kk:Int) (most:Int) (H:St W0 w ((.box bs [.slice ac code.length cc,.int .i64 ip,.int .u64 sd] 68) :: ps) ((sF false Fc ac cc code) :: Γ)) (N:Fresh W0.heap.size (Ns)) (K0:Kept Ns Γ) (q0:0≤ip∧ip≤80000) (q1:1≤kk∧kk≤8) (q2:1≤most∧most≤6):Calls Tryz.prog 68 #[.pointer (some ⟨bs,0,none⟩),.int .i64 kk,.int .i64 most] w (fun e w' =>∃ v,e=.returned v∧∃ (ip_:Int) (sd_:Int) (out_:yLI) (rao:yOA) (rno:Nat) (rco:Nat),(ip≤ip_∧ip_≤ip+20)∧(zx kk most out_)∧v=.slice rao rno rco∧Fresh W0.heap.size (Ns)∧St W0 w' ((.box bs [.slice ac code.length cc,.int .i64 ip_,.int .u64 sd_] 68) :: (rr rao rno rco 2 1 (out_.map (Value.int .i64))) :: ps) ((sF false Fc ac cc code) :: Γ)):=by
 refine en Tryz.func68 Tryz.ntmps68 ?_
 have ncode:=qU (H.get 0 rfl).1
 refine zcr (sp (.slice none 0 0) (zjc (sp (.int .i64 kk) (sw (jk H Tryz.underlying24 ti2 kk.toNat rfl rfl qf qf qf fun b1 w2 H=>sp (.slice (some ⟨b1,0,none⟩) kk.toNat kk.toNat) (zjcc (sps [.pointer (some ⟨bs,0,none⟩),.int .i64 most] (sw (zB most 1 rfl rfl qf ?_)))))))))
 have H1:=H.jv 2 1 [1,0] [0] qo qo
 have N1:Fresh _ (Ns):=N
 have K1:Kept (Ns) (Γ):=K0.behind 0 rfl
 refine sw (zg #[.pointer (some ⟨bs,0,none⟩),.int .i64 (most+1)] rfl rfl Tryz.call17 (jF code ip sd bs ac cc Fc (most+1) H1 N1 K1 qg) ?_)
 clear H H1 N1 K1
 rintro _ w3 ⟨zi7,zi8,zi9,hx5,hx6,rfl,N,H⟩
 refine sp (.int .i64 zi9) (zjn (xg ?_))
 refine zH (fun m' ρ w10=>∃ (xU:Env) (k:Int) (s_at:Int) (s_seed:Int) (out:yLI),ρ=upd (upd (upd (upd xU 0 (.pointer (some ⟨bs,0,none⟩))) 1 (.int .i64 kk)) 7 (.slice (some ⟨b1,0,none⟩) kk.toNat kk.toNat)) 8 (.int .i64 k)∧(0≤k∧k≤most)∧(ip≤s_at∧s_at+2 * k≤ip+20)∧(zx kk (most - k) out)∧m' =k.toNat∧Fresh W0.heap.size (Ns)∧St W0 w10 ((.box bs [.slice ac code.length cc,.int .i64 s_at,.int .u64 s_seed] 68) :: (rr (some ⟨b1,0,none⟩) kk.toNat kk.toNat 2 1 (out.map (Value.int .i64))) :: ps) ((sF false Fc ac cc code) :: Γ)) (zi9.toNat) ⟨_,zi9,zi7,zi8,(List.replicate kk.toNat (0:Int)),uE4,qf,qf,(by exact zx.zero qf qf),rfl,N,H⟩ ?_
 clear H N
 rintro m' ρ w11 ⟨xU,k,s_at,s_seed,out,rfl,i1,i2,i3,rfl,N,H⟩
 have hn_out:=H.jb 1 rfl
 have i4:=i3.len qf
 refine zcc (sps [.int .i64 k,.bool (decide ((k:Int) > 0))] (zjn (cD rfl (fun h12=>?_) (fun h12=>?_))))
 ·skip
  refine xh (t_n (x8 (xg (xZ (sps [.slice (some ⟨b1,0,none⟩) kk.toNat kk.toNat,.pointer (some ⟨bs,0,none⟩),.int .i64 kk] ?_)))))
  have H1:=H.jv 2 1 [0,1] [0] qo qo
  have N1:Fresh _ (Ns):=N
  have K1:Kept (Ns) (Γ):=K0.behind 0 rfl
  refine sw (zg #[.pointer (some ⟨bs,0,none⟩),.int .i64 kk] rfl rfl Tryz.call17 (jF code s_at s_seed bs ac cc Fc kk H1 N1 K1 qg) ?_)
  clear H H1 N1 K1
  rintro _ w13 ⟨zi17,zi18,zi19,hx15,hx16,rfl,N,H⟩
  have i5:=i3.2 zi19.toNat qf
  refine oI rfl rfl (oL rfl (H.rowInt 1 rfl (iv:=zi19) (i:=zi19.toNat) qf qf) (sw (zB (out[zi19.toNat]!) 1 rfl rfl qf (oI rfl rfl (sw (o_storeInt H 1 rfl ((out[zi19.toNat]!)+1) Tryz.sizeOf2 rfl rfl (i:=zi19.toNat) qf qf fun w20 H=>?_))))))
  try dsimp only [List.set] at H
  refine zi (b_n (t_n (xZ (sp (.int .i64 k) (sw (o_sub k 1 rfl rfl qf (sp (.int .i64 (k - 1)) (zi (xq (m' :=(k - 1).toNat) qf ⟨_,k - 1,zi17,zi18,(out.set zi19.toNat ((out[zi19.toNat]!)+1)),uE4,?_,?_,?_,rfl,N,H⟩)))))))))
  · omega
  · omega
  · exact i3.up qf qf
 ·skip
  refine zx4 (zcr (sps [.slice (some ⟨b1,0,none⟩) kk.toNat kk.toNat,.slice (some ⟨b1,0,none⟩) kk.toNat kk.toNat] (zjr (ret1 (.slice (some ⟨b1,0,none⟩) kk.toNat kk.toNat) rfl rfl ⟨_,rfl,(⟨s_at,s_seed,out,(some ⟨b1,0,none⟩),kk.toNat,kk.toNat,qf,(by rw [show most=most - k by omega];exact i3),rfl,N,H.zC 2 1 [0,1] [0] qo qo⟩)⟩))))

theorem yV {W0 w:World} {ps:List Prv} {Γ:List Fact} {Ns:List yLN} (code:List UInt8) (ip:Int) (sd:Int) (bs:Nat) (ac:yOA) (cc:Nat) (Fc:yLN) (kk:Int) (most:Int) (H:St W0 w ((.box bs [.slice ac code.length cc,.int .i64 ip,.int .u64 sd] 68) :: ps) ((sF false Fc ac cc code) :: Γ)) (N:Fresh W0.heap.size (Ns)) (K0:Kept Ns Γ) (q0:0≤ip∧ip≤70000) (q1:1≤kk∧kk≤8) (q2:1≤most∧most≤6):Calls Tryz.prog 92 #[.pointer (some ⟨bs,0,none⟩),.int .i64 kk,.int .i64 most] w (fun e w' =>∃ v,e=.returned v∧∃ (ip_:Int) (sd_:Int) (out_:yLI) (rao:yOA) (rno:Nat) (rco:Nat),(ip≤ip_∧ip_≤ip+24)∧(zx kk most out_∧Xc out_≠0)∧v=.slice rao rno rco∧Fresh W0.heap.size (Ns)∧St W0 w' ((.box bs [.slice ac code.length cc,.int .i64 ip_,.int .u64 sd_] 68) :: (rr rao rno rco 2 1 (out_.map (Value.int .i64))) :: ps) ((sF false Fc ac cc code) :: Γ)):=by
 refine en Tryz.func92 Tryz.ntmps92 ?_
 have ncode:=qU (H.get 0 rfl).1
 refine zcr (sp (.slice none 0 0) (zjc (sps [.pointer (some ⟨bs,0,none⟩),.int .i64 kk,.int .i64 most] ?_)))
 have H1:=H.jv 1 1 [0] [0] qo qo
 have N1:Fresh _ (Ns):=N
 have K1:Kept (Ns) (Γ):=K0.behind 0 rfl
 refine sw (zg #[.pointer (some ⟨bs,0,none⟩),.int .i64 kk,.int .i64 most] rfl rfl Tryz.call68 (dFew_ok code ip sd bs ac cc Fc kk most H1 N1 K1 qg qg qg) ?_)
 clear H H1 N1 K1
 rintro _ w1 ⟨zi5,zi6,zl7,ra8,rn9,rc10,hx3,hx4,rfl,N,H⟩
 obtain rfl:=H.jb 1 rfl
 have j1:=(‹zx kk most _›:zx kk most zl7)
 have j2:=j1.small q1 qf
 have j3:=j1.len qf
 refine sp (.slice ra8 zl7.length rc10) (zjcc (sp (.slice ra8 zl7.length rc10) ?_))
 obtain ⟨G11,hn12,h13⟩:=H.Qs 1 rfl
 refine sw (oq (l01Size_ok _ zl7 h13 (by first | assumption | exact vY ql | exact yY ql)) H fun w14 H=>sp (.bool ((Xc zl7:Int) == 0)) (zjn (cE rfl (fun h16=>?_) (fun h16=>?_))))
 ·skip
  refine xZ (sps [.slice ra8 zl7.length rc10,.pointer (some ⟨bs,0,none⟩),.int .i64 kk] ?_)
  have H1:=H.jv 2 1 [0,1] [0] qo qo
  have N1:Fresh _ (Ns):=N
  have K1:Kept (Ns) (Γ):=K0.behind 0 rfl
  refine sw (zg #[.pointer (some ⟨bs,0,none⟩),.int .i64 kk] rfl rfl Tryz.call17 (jF code zi5 zi6 bs ac cc Fc kk H1 N1 K1 qg) ?_)
  clear H H1 N1 K1
  rintro _ w17 ⟨zi21,zi22,zi23,hx19,hx20,rfl,N,H⟩
  obtain ⟨b24,rfl⟩:=H.Xo 1 rfl qf
  refine oI rfl rfl (sw (o_storeInt H 1 rfl 1 Tryz.sizeOf2 rfl rfl (i:=zi23.toNat) qf qf fun w25 H=>?_))
  try dsimp only [List.set] at H
  refine zjc (sps [.slice (some ⟨b24,0,none⟩) zl7.length rc10,.slice (some ⟨b24,0,none⟩) zl7.length rc10] (zjr (ret1 (.slice (some ⟨b24,0,none⟩) zl7.length rc10) rfl rfl ⟨_,rfl,(⟨zi21,zi22,(zl7.set zi23.toNat 1),(some ⟨b24,0,none⟩),zl7.length,rc10,qf,(by first | exact ⟨j1,by assumption⟩ | exact ⟨j1.put qf,j1.one q1 qf ‹_› qf⟩),rfl,N,H.zC 2 1 [0,1] [0] qo qo⟩)⟩)))
 ·skip
  refine xh (t_n (zcr (sps [.slice ra8 zl7.length rc10,.slice ra8 zl7.length rc10] (zjr (ret1 (.slice ra8 zl7.length rc10) rfl rfl ⟨_,rfl,(⟨zi5,zi6,zl7,ra8,zl7.length,rc10,qf,(by first | exact ⟨j1,by assumption⟩ | exact ⟨j1.put qf,j1.one q1 qf ‹_› qf⟩),rfl,N,H.zC 2 1 [0,1] [0] qo qo⟩)⟩)))))
end
end Go.Proofs.YtfekhnffbngoaabGreat
