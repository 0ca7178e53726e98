/- Walks and laws, printed by program and by hand: what each function comes to, for all arguments, part 4. -/
import Derived.Test.YtgjnaocffdhnbaaGreatA3
namespace Go.Proofs.YtgjnaocffdhnbaaGreat
set_option linter.unusedVariables false
set_option linter.unusedSimpArgs false
open Go.Proofs.YtgjnaocffdhnbaaGreat.Tot (tot)
open Go.Proofs.YtgjnaocffdhnbaaGreat.Mark (cnt mrk mkd mkd_mark cnt_mark)
section
open Go.Proofs.Tryz
open Go.RowKit
set_option linter.unusedVariables false
set_option linter.unusedSimpArgs false
set_option maxRecDepth 100000
set_option maxHeartbeats 4000000
variable {qB qJ yF yJ yG yH Xu yc qP xh qL cl cm bs os bt ot ccounts : Nat}
theorem isShell_ok (w:World) (s:qI) {qC:yOA} {qY:yLN} {qN:yOA} {xF:yLN} (xf:qO.rep w qY [.slice qC s.qw.length qB] s.qw) (xI:qO.rep w xF [.slice qN s.qx.length qJ] s.qx):Calls Tryz.prog 138 #[.agg #[yI s.xA,.slice qC s.qw.length qB,.slice qN s.qx.length qJ]] w (Ret (fun v w' =>v=.bool (dec (yR s))) w):=by
 refine en func138 ntmps138 ?_
 have H:=((St.start w).arg xI).arg xf
 have vk:=qK xf
 have jl:=qK xI
 clear xf xI
 have N:=Fresh.nil w.heap.size
 refine zcr (sw (vG H (yS s qC qB qN qJ) fun b1 w2 H=>sp (.bool false) (zjcc (oF rfl (oL rfl (H.cell 0 rfl rfl) (sw (oq (YQ w2 s.xA 1 8) H fun w3 H=>sps [.bool (!(inR s.xA 1 8)),.bool (!(inR s.xA 1 8))] ?_)))))))
 cases h5:(!(inR s.xA 1 8))
 ·skip
  replace h5:=xg h5
  replace h5:=XG.1 h5
  refine qQ 9 rfl rfl (oF rfl (qQ 9 rfl rfl (oL rfl (H.cell 0 rfl rfl) (qQ 9 rfl rfl (sw (oq (sizeI_ok _ s.qw (H.get 0 rfl).1) H fun w6 H=>qQ 9 rfl rfl (sw (oq (YQ w6 (s.qw.length:Int) 1 6) H fun w8 H=>qQ 9 rfl rfl (sps [.bool (!(inR (s.qw.length:Int) 1 6)),.bool (!(inR (s.qw.length:Int) 1 6)),.bool (!(inR (s.qw.length:Int) 1 6))] ?_)))))))))
  cases h10:(!(inR (s.qw.length:Int) 1 6))
  ·skip
   replace h10:=xg h10
   replace h10:=XG.1 h10
   refine qQ 16 rfl rfl (oF rfl (qQ 16 rfl rfl (oL rfl (H.cell 0 rfl rfl) (qQ 16 rfl rfl ?_))))
   obtain ⟨b11,o12,rfl⟩:=H.addr 0 rfl qf
   refine oI rfl rfl (qQ 16 rfl rfl (oL rfl (H.jI 0 rfl 0 qf qf) (qQ 16 rfl rfl (sps [.bool ((s.qw[0]! :Int) != (-1)),.bool ((s.qw[0]! :Int) != (-1))] (zjn (xH ((s.qw[0]! :Int) != (-1)) rfl (fun h14=>?_) (fun h14=>?_)))))))
   ·skip
    replace h14:=bne_iff_ne.1 h14
    refine zcr (sp (.bool false) (zjr (t_r (ret1 (.bool false) rfl rfl ⟨_,rfl,?_,H.base⟩))))
    rw [xw (fun h=>by obtain ⟨h1,h2,h3,h4⟩:=h;first | omega | (have:=h4 (c+1) qf qf;rw [← dg qf] at this;omega))]
   replace h14:=xq h14
   refine qV (t_n (zcc (oF rfl (oL rfl (H.cell 0 rfl rfl) (sw (o_tail H 0 rfl 1 underlying22 ti2 rfl qf fun a15 G16 hG17 H=>?_))))))
   have hl18:(s.qw.drop 1).length=s.qw.length - 1:=List.length_drop
   refine oN rfl (sp (yI 0) (zjn (qW ?_)))
   refine zo (fun m' ρ w19=>∃ (xP:Env) (c:Nat),ρ=upd (upd (upd xP 25 (.slice a15 ((s.qw.drop 1).length) (qB - 1))) 26 (yI ((s.qw.drop 1).length))) 27 (yI c)∧((c:Int)≤((s.qw.drop 1).length))∧(FrameTo s (c+1))∧m' =(((s.qw.drop 1).length) - (c:Int)).toNat∧Fresh w.heap.size []∧St w w19 [.box b1 [yI s.xA,.slice (aa b11 o12) s.qw.length qB,.slice qN s.qx.length qJ] 36] [sF false G16 a15 (qB - 1) (s.qw.drop 1),sF false qY (aa b11 o12) qB s.qw,sF false xF qN qJ s.qx]) ((((s.qw.drop 1).length) - (0:Int)).toNat) ⟨_,0,uE3,qf,(by exact FrameTo.one s),rfl,N,H⟩ ?_
   clear H N
   rintro m' ρ w20 ⟨xP,c,rfl,i0,i1,rfl,N,H⟩
   have dg:=drop_get (l:=s.qw) (k:=c)
   refine zcr (sp (.bool (decide ((c:Int) < ((s.qw.drop 1).length)))) (zjn (xO (cD rfl (fun h21=>?_) (fun h21=>?_)))))
   ·skip
    refine qV (t_n (xO (qW (zcr (sp (yI c) ?_)))))
    obtain ⟨b22,o23,rfl⟩:=H.addr 0 rfl qf
    refine oI rfl rfl (oL rfl (H.jI 0 rfl c qf qf) (sps [yI c,yI ((s.qw.drop 1)[c]!)] (zjc (sps [yI ((s.qw.drop 1)[c]!),yI c] (sw (oq (YQ w20 ((s.qw.drop 1)[c]!) 0 c) H fun w25 H=>sp (.bool (!(inR ((s.qw.drop 1)[c]!) 0 c))) (zjn (xH (!(inR ((s.qw.drop 1)[c]!) 0 c)) rfl (fun h27=>?_) (fun h27=>?_)))))))))
    ·skip
     replace h27:=xn h27
     replace h27:=Vs h27
     refine zcr (sp (.bool false) (zjr (zr5 (ret1 (.bool false) rfl rfl ⟨_,rfl,?_,H.base⟩))))
     rw [xw (fun h=>by obtain ⟨h1,h2,h3,h4⟩:=h;first | omega | (have:=h4 (c+1) qf qf;rw [← dg qf] at this;omega))]
    replace h27:=xg h27
    replace h27:=XG.1 h27
    refine qV (b_n (t_n (xR (sw (zu c 1 rfl rfl qf (sp (yI (c+1)) (xU (qZ (m' :=(((s.qw.drop 1).length) - ((c+1):Int)).toNat) qf ⟨_,c+1,uE3,?_,?_,rfl,N,H⟩))))))))
    · omega
    · exact i1.succ (by rw [← dg qf];omega)
   refine zx4 (zcr (sp (.bool true) (zjr (ret1 (.bool true) rfl rfl ⟨_,rfl,?_,H.base⟩))))
   rw [yu ⟨by omega,by omega,by omega,(show s.qw.length=c+1 by omega)▸i1⟩]
  replace h10:=xn h10
  replace h10:=Vs h10
  refine zk [17,18,19,20,21] (sp (.bool true) (zjn (xH true rfl (fun _=>zcr (sp (.bool false) (zjr (t_r (ret1 (.bool false) rfl rfl ⟨_,rfl,?_,H.base⟩))))) (fun h=>absurd h qj))))
  rw [xw (fun h=>by obtain ⟨h1,h2,h3,h4⟩:=h;first | omega | (have:=h4 (c+1) qf qf;rw [← dg qf] at this;omega))]
 replace h5:=xn h5
 replace h5:=Vs h5
 refine zk [10,11,12,13,14] (sps [.bool true,.bool true] (zk [17,18,19,20,21] (sp (.bool true) (zjn (xH true rfl (fun _=>zcr (sp (.bool false) (zjr (t_r (ret1 (.bool false) rfl rfl ⟨_,rfl,?_,H.base⟩))))) (fun h=>absurd h qj))))))
 rw [xw (fun h=>by obtain ⟨h1,h2,h3,h4⟩:=h;first | omega | (have:=h4 (c+1) qf qf;rw [← dg qf] at this;omega))]

theorem isCell_ok (w:World) (s:qI) (c:Int) {qC:yOA} {qY:yLN} {qN:yOA} {xF:yLN} (xf:qO.rep w qY [.slice qC s.qw.length qB] s.qw) (xI:qO.rep w xF [.slice qN s.qx.length qJ] s.qx):Calls Tryz.prog 173 #[.agg #[yI s.xA,.slice qC s.qw.length qB,.slice qN s.qx.length qJ],yI c] w (Ret (fun v w' =>v=.bool (inR c 0 ((s.qw.length:Int) - 1))) w):=by
 refine en func173 ntmps173 ?_
 have H:=((St.start w).arg xI).arg xf
 have vk:=qK xf
 have jl:=qK xI
 clear xf xI
 have N:=Fresh.nil w.heap.size
 refine zcr (sw (vG H (yS s qC qB qN qJ) fun b1 w2 H=>sp (.bool false) (zjc (sp (yI c) (oF rfl (oL rfl (H.cell 0 rfl rfl) (sw (oq (sizeI_ok _ s.qw (H.get 0 rfl).1) H fun w3 H=>sw (o_sub (s.qw.length:Int) 1 rfl rfl qf (sw (oq (YQ w3 c 0 ((s.qw.length:Int) - 1)) H fun w5 H=>sp (.bool (inR c 0 ((s.qw.length:Int) - 1))) (zjr (ret1 (.bool (inR c 0 ((s.qw.length:Int) - 1))) rfl rfl ⟨_,rfl,?_,H.base⟩)))))))))))))
 rfl

theorem lies_ok (w:World) (s:qI) (c:Int) (within:Int) {qC:yOA} {qY:yLN} {qN:yOA} {xF:yLN} (xf:qO.rep w qY [.slice qC s.qw.length qB] s.qw) (xI:qO.rep w xF [.slice qN s.qx.length qJ] s.qx) (p0:yR s) (p1:CellIn s c):Calls Tryz.prog 174 #[.agg #[yI s.xA,.slice qC s.qw.length qB,.slice qN s.qx.length qJ],yI c,yI within] w (Ret (fun v w' =>v=.bool (dec (Lies s.qw within c))) w):=by
 refine en func174 ntmps174 ?_
 have H:=((St.start w).arg xI).arg xf
 have vk:=qK xf
 have jl:=qK xI
 clear xf xI
 have N:=Fresh.nil w.heap.size
 have p2:=p0.step p1.1 p1.2
 refine zcr (sw (vG H (yS s qC qB qN qJ) fun b1 w2 H=>sp (.bool false) (zjcc (oF rfl (oL rfl (H.cell 0 rfl rfl) (sp (yI c) ?_))))))
 obtain ⟨b3,o4,rfl⟩:=H.addr 0 rfl qf
 refine oI rfl rfl (oL rfl (H.jI 0 rfl c qf qf) (sp (yI (s.qw[c.toNat]!)) (zjn (qW ?_))))
 refine zo (fun m' ρ w6=>∃ (xP:Env) (c_1:Int),ρ=upd (upd (upd xP 1 (yI c_1)) 2 (yI within)) 3 (pp b1 0)∧(-1≤c_1∧c_1≤(s.qw.length:Int) - 1)∧(Lies s.qw within c↔0≤c_1∧(c_1=within∨Lies s.qw within c_1))∧m' =(c_1+1).toNat∧Fresh w.heap.size []∧St w w6 [.box b1 [yI s.xA,.slice (aa b3 o4) s.qw.length qB,.slice qN s.qx.length qJ] 36] [sF false qY (aa b3 o4) qB s.qw,sF false xF qN qJ s.qx]) (((s.qw[c.toNat]!)+1).toNat) ⟨_,s.qw[c.toNat]!,uE3,qf,(by exact lies_up p0 p1),rfl,N,H⟩ ?_
 clear H N
 rintro m' ρ w7 ⟨xP,c_1,rfl,i0,i1,rfl,N,H⟩
 have up:=fun h=>p0.step (c:=c_1) h i0.2
 refine zcc (sps [yI c_1,.bool (decide ((c_1:Int)≥0))] (zjn (cD rfl (fun h8=>?_) (fun h8=>?_))))
 ·skip
  refine qV (t_n (xO (qW (zcr (sps [yI c_1,yI within,.bool ((c_1:Int) == within)] (zjn (cE rfl (fun h9=>?_) (fun h9=>?_))))))))
  ·skip
   refine zcr (sp (.bool true) (zjr (zr5 (ret1 (.bool true) rfl rfl ⟨_,rfl,?_,H.base⟩))))
   rw [yu (i1.2 ⟨by omega,.inl ‹_›⟩)]
  refine qV (b_n (t_n (xR (oF rfl (oL rfl (H.cell 0 rfl rfl) (sp (yI c_1) (oI rfl rfl (oL rfl (H.jI 0 rfl c_1 qf qf) (sp (yI (s.qw[c_1.toNat]!)) (xU ?_))))))))))
  have up1:=up qf
  refine qZ (m' :=((s.qw[c_1.toNat]!)+1).toNat) qf ⟨_,s.qw[c_1.toNat]!,uE3,?_,?_,rfl,N,H⟩
  · omega
  · exact i1.trans ⟨fun h=>(lies_up p0 ⟨by omega,by omega⟩).1 (h.2.resolve_left ‹_›),fun h=>⟨by omega,.inr ((lies_up p0 ⟨by omega,by omega⟩).2 h)⟩⟩
 refine zx4 (zcr (sp (.bool false) (zjr (ret1 (.bool false) rfl rfl ⟨_,rfl,?_,H.base⟩))))
 rw [xw (fun h=>by have:=(i1.1 h).1;omega)]

theorem isRule_ok (w:World) (s:qI) (r:QZ) {qC:yOA} {qY:yLN} {qN:yOA} {xF:yLN} {yL:yOA} {Yq:yLN} {yP:yOA} {Yu:yLN} {yM:yOA} {Yr:yLN} {yO:yOA} {Yt:yLN} {Xv:yOA} {FrOut:yLN} {yg:yOA} {FrInto:yLN} (xf:qO.rep w qY [.slice qC s.qw.length qB] s.qw) (xI:qO.rep w xF [.slice qN s.qx.length qJ] s.qx) (hrNeed:qO.rep w Yq [.slice yL r.xk.length yF] r.xk) (hrHave:qO.rep w Yu [.slice yP r.xB.length yJ] r.xB) (hrLack:qO.rep w Yr [.slice yM r.xG.length yG] r.xG) (hrHere:qO.rep w Yt [.slice yO r.xJ.length yH] r.xJ) (hrOut:qO.rep w FrOut [.slice Xv r.zT.length Xu] r.zT) (hrInto:qO.rep w FrInto [.slice yg r.qR.length yc] r.qR) (p0:yR s):Calls Tryz.prog 139 #[.agg #[yI s.xA,.slice qC s.qw.length qB,.slice qN s.qx.length qJ],.agg #[yI r.qG,yI r.zJ,.slice yL r.xk.length yF,.slice yP r.xB.length yJ,.slice yM r.xG.length yG,.slice yO r.xJ.length yH,.slice Xv r.zT.length Xu,.slice yg r.qR.length yc,.bool r.zy]] w (Ret (fun v w' =>v=.bool (dec (RuleOk s r))) w):=by
 refine en func139 ntmps139 ?_
 have H:=((((((((St.start w).arg hrInto).arg hrOut).arg hrHere).arg hrLack).arg hrHave).arg hrNeed).arg xI).arg xf
 have vk:=qK xf
 have jl:=qK xI
 have nhrNeed:=qK hrNeed
 have nhrHave:=qK hrHave
 have nhrLack:=qK hrLack
 have nhrHere:=qK hrHere
 have nhrOut:=qK hrOut
 have nhrInto:=qK hrInto
 clear xf xI hrNeed hrHave hrLack hrHere hrOut hrInto
 have N:=Fresh.nil w.heap.size
 refine zcr (sw (vG H (yS s qC qB qN qJ) fun b1 w2 H=>sw (vG H [yI r.qG,yI r.zJ,.slice yL r.xk.length yF,.slice yP r.xB.length yJ,.slice yM r.xG.length yG,.slice yO r.xJ.length yH,.slice Xv r.zT.length Xu,.slice yg r.qR.length yc,.bool r.zy] fun b3 w4 H=>sp (.bool false) (zjcc ?_))))
 refine sw (xY (yS s qC qB qN qJ) isAgg36 sizeOf36 rfl (qF (H.cells 1 rfl) 0 3) (oF rfl (oL rfl (H.cell 0 rfl rfl) (sw (oq (isCell_ok _ s r.qG (H.get 0 rfl).1 (H.get 1 rfl).1) H fun w6 H=>sps [.bool (!(inR r.qG 0 ((s.qw.length:Int) - 1))),.bool (!(inR r.qG 0 ((s.qw.length:Int) - 1)))] ?_)))))
 cases h8:(!(inR r.qG 0 ((s.qw.length:Int) - 1)))
 ·skip
  replace h8:=xg h8
  replace h8:=XG.1 h8
  refine qQ 14 rfl rfl (oF rfl (qQ 14 rfl rfl (oL rfl (H.cell 0 rfl rfl) (qQ 14 rfl rfl (sw (oq (YQ w6 r.zJ 0 9) H fun w9 H=>qQ 14 rfl rfl (sps [.bool (!(inR r.zJ 0 9)),.bool (!(inR r.zJ 0 9)),.bool (!(inR r.zJ 0 9))] ?_)))))))
  cases h11:(!(inR r.zJ 0 9))
  ·skip
   replace h11:=xg h11
   replace h11:=XG.1 h11
   refine qQ 20 rfl rfl (oF rfl (qQ 20 rfl rfl (oL rfl (H.cell 0 rfl rfl) (qQ 20 rfl rfl (sp (.bool r.zy) ?_)))))
   cases h12:(r.zy)
   ·skip
    rw [h12] at H
    refine zk [24,25,26] (qQ 20 rfl rfl (sps [.bool false,.bool false,.bool false] (qQ 29 rfl rfl (oF rfl (qQ 29 rfl rfl (oL rfl (H.cell 0 rfl rfl) (qQ 29 rfl rfl (oN rfl (qQ 29 rfl rfl (sps [.bool (decide ((r.qR.length:Int) > 3)),.bool (decide ((r.qR.length:Int) > 3))] (zjn (cD rfl (fun h13=>?_) (fun h13=>?_)))))))))))))
    ·skip
     refine zcr (sp (.bool false) (zjr (t_r (ret1 (.bool false) rfl rfl ⟨_,rfl,?_,H.base⟩))))
     rw [xw (fun h=>by obtain ⟨h1,h2,h3,h4,h5,h6,h7,h8,h9,h10,h11⟩:=h;first | contradiction | omega | exact h3 ⟨‹_›,‹_›⟩ | (obtain ⟨q1,q2,q3,q4,q5⟩:=h11 i qf;first | contradiction | omega | (have:=q5 qf;omega)) | (refine absurd ?_ ‹¬ vg _ _›;rcases (show k=0∨k=1∨k=2∨k=3∨k=4 by omega) with e | e | e | e | e <;> subst e <;> assumption))]
    refine qV (t_n (zcc (oF rfl (oL rfl (H.cell 0 rfl rfl) (oF rfl (oL rfl (H.cell 0 rfl rfl) (oF rfl (oL rfl (H.cell 0 rfl rfl) (oF rfl (oL rfl (H.cell 0 rfl rfl) (oF rfl (oL rfl (H.cell 0 rfl rfl) (sw (o_buildF H underlying27 ti22 [.slice yL r.xk.length yF,.slice yP r.xB.length yJ,.slice yM r.xG.length yG,.slice yO r.xJ.length yH,.slice Xv r.zT.length Xu] rfl (by simp [Value.cells]) rfl qj qj fun b14 w15 H=>oN rfl (sp (yI 0) (zjn (qW ?_)))))))))))))))))
    replace H:=H.boxRow 0 rfl 1 5 rfl qj
    replace H:=H.vP (α:=yLI)
    replace H:=H.Yy false 7 rfl 0 rfl qm
    replace H:=H.Yy false 7 rfl 0 rfl qm
    replace H:=H.Yy false 7 rfl 0 rfl qm
    replace H:=H.Yy false 7 rfl 0 rfl qm
    replace H:=H.Yy false 7 rfl 0 rfl qm
    refine zo (fun m' ρ w16=>∃ (xP:Env) (k:Nat),ρ=upd (upd (upd (upd (upd xP 2 (pp b1 0)) 3 (pp b3 0)) 45 (.slice (aa b14 0) 5 5)) 46 (yI 5)) 47 (yI k)∧((k:Int)≤5)∧(∀ j,j < k→vg s.xA ([r.xk,r.xB,r.xG,r.xJ,r.zT][j]!))∧m' =(5 - (k:Int)).toNat∧Fresh w.heap.size []∧St w w16 [rr (aa b14 0) 5 5 22 1 [.slice yL r.xk.length yF,.slice yP r.xB.length yJ,.slice yM r.xG.length yG,.slice yO r.xJ.length yH,.slice Xv r.zT.length Xu],.box b3 [yI r.qG,yI r.zJ,.slice yL r.xk.length yF,.slice yP r.xB.length yJ,.slice yM r.xG.length yG,.slice yO r.xJ.length yH,.slice Xv r.zT.length Xu,.slice yg r.qR.length yc,.bool false] 121,.box b1 (yS s qC qB qN qJ) 36] [zh false (Yq++(Yu++(Yr++(Yt++(FrOut++[]))))) [.slice yL r.xk.length yF,.slice yP r.xB.length yJ,.slice yM r.xG.length yG,.slice yO r.xJ.length yH,.slice Xv r.zT.length Xu] [r.xk,r.xB,r.xG,r.xJ,r.zT],sF false qY qC qB s.qw,sF false xF qN qJ s.qx,sF false Yq yL yF r.xk,sF false Yu yP yJ r.xB,sF false Yr yM yG r.xG,sF false Yt yO yH r.xJ,sF false FrOut Xv Xu r.zT,sF false FrInto yg yc r.qR]) ((5 - (0:Int)).toNat) ⟨_,0,uE5,qf,(by intro j hj;omega),rfl,N,H.pick [0,1,2] [0,6,7,8,9,10,11,12,13]⟩ ?_
    clear H N
    rintro m' ρ w17 ⟨xP,k,rfl,i0,i1,rfl,N,H⟩
    refine zcr (sp (.bool (decide ((k:Int) < 5))) (zjn (xO (cD rfl (fun h18=>?_) (fun h18=>?_)))))
    ·skip
     refine qV (t_n (xO (qW (zcr (oI rfl rfl ?_)))))
     obtain ⟨a19,c20,G21,s22,h23,H⟩:=H.jW 0 rfl 0 rfl (iv:=k) k qf qf
     refine oL rfl (h23) (sp (.slice a19 (([r.xk,r.xB,r.xG,r.xJ,r.zT][k]!).length) c20) (zjc (oF rfl (oL rfl (H.cell 2 rfl rfl) (sp (.slice a19 (([r.xk,r.xB,r.xG,r.xJ,r.zT][k]!).length) c20) (sw (oq (YE _ s.xA ([r.xk,r.xB,r.xG,r.xJ,r.zT][k]!) (H.get 0 rfl).1) H fun w24 H=>sp (.bool (!(dec (vg s.xA ([r.xk,r.xB,r.xG,r.xJ,r.zT][k]!))))) (zjn (cQ rfl (fun h26=>?_) (fun h26=>?_))))))))))
     ·skip
      refine zcr (sp (.bool false) (zjr (zr5 (ret1 (.bool false) rfl rfl ⟨_,rfl,?_,H.base⟩))))
      rw [xw (fun h=>by obtain ⟨h1,h2,h3,h4,h5,h6,h7,h8,h9,h10,h11⟩:=h;first | contradiction | omega | exact h3 ⟨‹_›,‹_›⟩ | (obtain ⟨q1,q2,q3,q4,q5⟩:=h11 i qf;first | contradiction | omega | (have:=q5 qf;omega)) | (refine absurd ?_ ‹¬ vg _ _›;rcases (show k=0∨k=1∨k=2∨k=3∨k=4 by omega) with e | e | e | e | e <;> subst e <;> assumption))]
     refine qV (b_n (t_n (xR (sw (zu k 1 rfl rfl qf (sp (yI (k+1)) (xU (qZ (m' :=(5 - ((k+1):Int)).toNat) qf ⟨_,k+1,uE5,?_,?_,rfl,N,H.pick [0,1,2] [1,2,3,4,5,6,7,8,9]⟩))))))))
     · omega
     · intro j hj;by_cases e:j=k;(subst e;assumption);exact i1 j qf
    refine zx4 (zcc (oF rfl (oL rfl (H.cell 1 rfl rfl) (oN rfl (sp (yI 0) (zjn (qW ?_)))))))
    have n1:vg s.xA r.xk:=i1 0 qf
    have n2:vg s.xA r.xB:=i1 1 qf
    have n3:vg s.xA r.xG:=i1 2 qf
    have n4:vg s.xA r.xJ:=i1 3 qf
    have n5:vg s.xA r.zT:=i1 4 qf
    refine zo (fun m' ρ w27=>∃ (xP:Env) (i:Nat),ρ=upd (upd (upd (upd (upd xP 2 (pp b1 0)) 3 (pp b3 0)) 58 (.slice yg r.qR.length yc)) 59 (yI r.qR.length)) 60 (yI i)∧((i:Int)≤r.qR.length)∧(IntosTo s r i)∧m' =(r.qR.length - (i:Int)).toNat∧Fresh w.heap.size []∧St w w27 [rr (aa b14 0) 5 5 22 1 [.slice yL r.xk.length yF,.slice yP r.xB.length yJ,.slice yM r.xG.length yG,.slice yO r.xJ.length yH,.slice Xv r.zT.length Xu],.box b3 [yI r.qG,yI r.zJ,.slice yL r.xk.length yF,.slice yP r.xB.length yJ,.slice yM r.xG.length yG,.slice yO r.xJ.length yH,.slice Xv r.zT.length Xu,.slice yg r.qR.length yc,.bool false] 121,.box b1 (yS s qC qB qN qJ) 36] [zh false (Yq++(Yu++(Yr++(Yt++(FrOut++[]))))) [.slice yL r.xk.length yF,.slice yP r.xB.length yJ,.slice yM r.xG.length yG,.slice yO r.xJ.length yH,.slice Xv r.zT.length Xu] [r.xk,r.xB,r.xG,r.xJ,r.zT],sF false qY qC qB s.qw,sF false xF qN qJ s.qx,sF false Yq yL yF r.xk,sF false Yu yP yJ r.xB,sF false Yr yM yG r.xG,sF false Yt yO yH r.xJ,sF false FrOut Xv Xu r.zT,sF false FrInto yg yc r.qR]) ((r.qR.length - (0:Int)).toNat) ⟨_,0,uE5,qf,(by exact fun j hj=>by omega),rfl,N,H⟩ ?_
    clear H N
    rintro m' ρ w28 ⟨xP,i,rfl,i0,i2,rfl,N,H⟩
    refine zcr (sp (.bool (decide ((i:Int) < r.qR.length))) (zjn (xO (cD rfl (fun h29=>?_) (fun h29=>?_)))))
    ·skip
     refine qV (t_n (xO (qW (zcr (sp (yI i) ?_)))))
     obtain ⟨b30,o31,rfl⟩:=H.addr 8 rfl qf
     obtain ⟨ae33Bag,ce33Bag,Fe33Bag,H⟩:=H.jR 8 rfl i i qf qf qf
     refine oI rfl rfl (sw (xY [yI ((r.qR[i]!).qG),.slice ae33Bag (((r.qR[i]!).jw).length) ce33Bag] isAgg164 sizeOf164 rfl (qF (H.get 1 rfl) 0 2) (sw (xX H ti164 [yI 0,yN] fun b34 w35 H=>sp (yI i) (sw (zt H 0 [yI ((r.qR[i]!).qG),.slice ae33Bag (((r.qR[i]!).jw).length) ce33Bag] sizeOf164 fun w36 H=>zjn (xO ?_)))))))
     refine jd rfl H fun H=>rt 0 (.agg #[yI s.xA,.slice qC s.qw.length qB,.slice qN s.qx.length qJ]) (Qy (cs:=(yS s qC qB qN qJ)) isAgg36 sizeOf36 rfl (fun _ h=>qF (h.cells 3 rfl) 0 3)) H ?_
     refine tF 1 rfl rfl H ?_
     refine tL 2 rfl rfl (fun _ h=>h.cell 0 rfl rfl) H ?_
     refine ro 3 rfl (oq (isCell_ok _ s ((r.qR[i]!).qG) (H.get 3 rfl).1 (H.get 4 rfl).1) H fun w39 H=>⟨H,(rtp 4 (.bool (!(inR ((r.qR[i]!).qG) 0 ((s.qw.length:Int) - 1)))) H ?_)⟩)
     refine rtp 5 (.bool (!(inR ((r.qR[i]!).qG) 0 ((s.qw.length:Int) - 1)))) H ?_
     cases h41:(!(inR ((r.qR[i]!).qG) 0 ((s.qw.length:Int) - 1)))
     ·skip
      replace h41:=xg h41
      replace h41:=XG.1 h41
      refine rg 6 (.agg #[yI s.xA,.slice qC s.qw.length qB,.slice qN s.qx.length qJ]) 70 (Qy (cs:=(yS s qC qB qN qJ)) isAgg36 sizeOf36 rfl (fun _ h=>qF (h.cells 3 rfl) 0 3)) H ?_
      refine gF 7 rfl rfl H ?_
      refine gL 8 rfl rfl (fun _ h=>h.cell 0 rfl rfl) H ?_
      refine gF 9 rfl rfl H ?_
      refine gL 10 rfl rfl (fun _ h=>h.cell 2 rfl rfl) H ?_
      refine jo [11] qh qm (r_opG rfl (e:=70) rfl rfl (oq (lies_ok _ s ((r.qR[i]!).qG) r.qG (H.get 3 rfl).1 (H.get 4 rfl).1 qg qg) H fun w43 H=>⟨H,(rgp 12 (.bool (!(dec (Lies s.qw r.qG ((r.qR[i]!).qG))))) 70 H ?_)⟩) jq)
      refine rtp 13 (.bool (!(dec (Lies s.qw r.qG ((r.qR[i]!).qG))))) H ?_
      refine rtp 14 (.bool (!(dec (Lies s.qw r.qG ((r.qR[i]!).qG))))) H ?_
      cases h45:(!(dec (Lies s.qw r.qG ((r.qR[i]!).qG))))
      ·skip
       replace h45:=xg h45
       replace h45:=QG h45
       refine gF 15 rfl rfl H ?_
       refine gL 16 rfl rfl (fun _ h=>h.cell 3 rfl rfl) H ?_
       refine gF 17 rfl rfl H ?_
       refine gL 18 rfl rfl (fun _ h=>h.cell 0 rfl rfl) H ?_
       refine jo [19] qh qm (r_opG rfl (e:=79) rfl rfl (oq (YE _ s.xA ((r.qR[i]!).jw) (H.get 0 rfl).1) H fun w46 H=>⟨H,(rgp 20 (.bool (!(dec (vg s.xA ((r.qR[i]!).jw))))) 79 H ?_)⟩) jq)
       refine rtp 21 (.bool (!(dec (vg s.xA ((r.qR[i]!).jw))))) H ?_
       refine rtp 22 (.bool (!(dec (vg s.xA ((r.qR[i]!).jw))))) H ?_
       cases h48:(!(dec (vg s.xA ((r.qR[i]!).jw))))
       ·skip
        replace h48:=xg h48
        replace h48:=QG h48
        refine gF 23 rfl rfl H ?_
        refine gL 24 rfl rfl (fun _ h=>h.cell 0 rfl rfl) H ?_
        refine jo [25] qh qm (r_opG rfl (e:=87) rfl rfl ?_ jq)
        have sm:Small ((r.qR[i]!).jw):=vH (by first | assumption | exact i1 0 qf)
        refine oq (VI _ ((r.qR[i]!).jw) (H.get 0 rfl).1 (by first | assumption | exact vH ql | exact Qo ql)) H fun w49 H=>⟨H,(rgp 26 (.bool ((VP ((r.qR[i]!).jw):Int) == 0)) 87 H ?_)⟩
        refine rtp 27 (.bool ((VP ((r.qR[i]!).jw):Int) == 0)) H ?_
        refine rtp 28 (.bool ((VP ((r.qR[i]!).jw):Int) == 0)) H ?_
        cases h51:((VP ((r.qR[i]!).jw):Int) == 0)
        ·skip
         replace h51:=ne_of_beq_false h51
         refine rgp 29 (yI i) 93 H ?_
         refine rgp 30 (.bool (decide ((i:Int) > 0))) 93 H ?_
         refine rgp 31 (.bool (decide ((i:Int) > 0))) 93 H ?_
         cases h52:(decide ((i:Int) > 0))
         ·skip
          replace h52:=of_decide_eq_false h52
          refine zS [32,33,34,35,36,37,38,39,40,41] 10 (H) (rgp 42 (.bool false) 93 H ?_)
          refine rtp 43 (.bool false) H ?_
          refine xM qh (t_n (xH false rfl (fun h=>absurd h qj) (fun _=>qV (b_n (t_n (xR (sw (zu i 1 rfl rfl qf (sp (yI (i+1)) (xU (qZ (m' :=(r.qR.length - ((i+1):Int)).toNat) qf ⟨_,i+1,uE5,?_,?_,rfl,N,H.pick [1,2,3] [2,3,4,5,6,7,8,9,10]⟩)))))))))))
          · omega
          · exact i2.succ ⟨‹_›,‹_›,‹_›,‹_›,fun hk=>by omega⟩
         replace h52:=of_decide_eq_true h52
         refine gF 32 rfl rfl H ?_
         refine gL 33 rfl rfl (fun _ h=>h.cell 0 rfl rfl) H ?_
         refine gF 34 rfl rfl H ?_
         refine gL 35 rfl rfl (fun _ h=>h.cell 2 rfl rfl) H ?_
         refine rgp 36 (yI i) 96 H ?_
         refine rg 37 (yI (i - 1)) 96 (y_sub i 1 rfl rfl qf) H ?_
         obtain ⟨ae53Bag,ce53Bag,Fe53Bag,H⟩:=H.jR 10 rfl (i - 1) (i - 1) qf qf qf
         have S:=H.yD [0,1,2,3] [2,3,4,5,6,7,8,9,10,11,12]
         refine gI 38 rfl rfl rfl S ?_
         refine gF 39 rfl rfl S ?_
         refine jo [40] qh qm (r_opG rfl (e:=96) rfl rfl (zK (yI ((r.qR[i - 1]!).qG)) isAgg2 rfl (H.xQ 1 rfl 0 rfl) (⟨H.pick [0,1,2,3] [2,3,4,5,6,7,8,9,10,11,12],?_⟩)) jq)
         have S:=H.yD [0,1,2,3] [2,3,4,5,6,7,8,9,10,11,12]
         refine rgp 41 (.bool (decide (((r.qR[i]!).qG:Int)≤((r.qR[i - 1]!).qG)))) 96 S ?_
         refine rgp 42 (.bool (decide (((r.qR[i]!).qG:Int)≤((r.qR[i - 1]!).qG)))) 93 S ?_
         refine rtp 43 (.bool (decide (((r.qR[i]!).qG:Int)≤((r.qR[i - 1]!).qG)))) S ?_
         refine xM qh (t_n (cD rfl (fun h54=>?_) (fun h54=>?_)))
         ·skip
          refine zcr (sp (.bool false) (zjr (zr5 (ret1 (.bool false) rfl rfl ⟨_,rfl,?_,H.base⟩))))
          rw [xw (fun h=>by obtain ⟨h1,h2,h3,h4,h5,h6,h7,h8,h9,h10,h11⟩:=h;first | contradiction | omega | exact h3 ⟨‹_›,‹_›⟩ | (obtain ⟨q1,q2,q3,q4,q5⟩:=h11 i qf;first | contradiction | omega | (have:=q5 qf;omega)) | (refine absurd ?_ ‹¬ vg _ _›;rcases (show k=0∨k=1∨k=2∨k=3∨k=4 by omega) with e | e | e | e | e <;> subst e <;> assumption))]
         refine qV (b_n (t_n (xR (sw (zu i 1 rfl rfl qf (sp (yI (i+1)) (xU (qZ (m' :=(r.qR.length - ((i+1):Int)).toNat) qf ⟨_,i+1,uE5,?_,?_,rfl,N,H.pick [1,2,3] [4,5,6,7,8,9,10,11,12]⟩))))))))
         · omega
         · exact i2.succ ⟨‹_›,‹_›,‹_›,‹_›,fun hk=>by omega⟩
        replace h51:=eq_of_beq h51
        refine zS [29,30,31,32,33,34,35,36,37,38,39,40,41,42] 14 (H) (rtp 43 (.bool true) H ?_)
        refine xM qh (t_n (xH true rfl (fun _=>zcr (sp (.bool false) (zjr (zr5 (ret1 (.bool false) rfl rfl ⟨_,rfl,?_,H.base⟩))))) (fun h=>absurd h qj)))
        rw [xw (fun h=>by obtain ⟨h1,h2,h3,h4,h5,h6,h7,h8,h9,h10,h11⟩:=h;first | contradiction | omega | exact h3 ⟨‹_›,‹_›⟩ | (obtain ⟨q1,q2,q3,q4,q5⟩:=h11 i qf;first | contradiction | omega | (have:=q5 qf;omega)) | (refine absurd ?_ ‹¬ vg _ _›;rcases (show k=0∨k=1∨k=2∨k=3∨k=4 by omega) with e | e | e | e | e <;> subst e <;> assumption))]
       replace h48:=xn h48
       replace h48:=zZ h48
       refine zS [23,24,25,26] 4 (H) (rtp 27 (.bool true) H ?_)
       refine rtp 28 (.bool true) H ?_
       refine zS [29,30,31,32,33,34,35,36,37,38,39,40,41,42] 14 (H) (rtp 43 (.bool true) H ?_)
       refine xM qh (t_n (xH true rfl (fun _=>zcr (sp (.bool false) (zjr (zr5 (ret1 (.bool false) rfl rfl ⟨_,rfl,?_,H.base⟩))))) (fun h=>absurd h qj)))
       rw [xw (fun h=>by obtain ⟨h1,h2,h3,h4,h5,h6,h7,h8,h9,h10,h11⟩:=h;first | contradiction | omega | exact h3 ⟨‹_›,‹_›⟩ | (obtain ⟨q1,q2,q3,q4,q5⟩:=h11 i qf;first | contradiction | omega | (have:=q5 qf;omega)) | (refine absurd ?_ ‹¬ vg _ _›;rcases (show k=0∨k=1∨k=2∨k=3∨k=4 by omega) with e | e | e | e | e <;> subst e <;> assumption))]
      replace h45:=xn h45
      replace h45:=zZ h45
      refine zS [15,16,17,18,19,20] 6 (H) (rtp 21 (.bool true) H ?_)
      refine rtp 22 (.bool true) H ?_
      refine zS [23,24,25,26] 4 (H) (rtp 27 (.bool true) H ?_)
      refine rtp 28 (.bool true) H ?_
      refine zS [29,30,31,32,33,34,35,36,37,38,39,40,41,42] 14 (H) (rtp 43 (.bool true) H ?_)
      refine xM qh (t_n (xH true rfl (fun _=>zcr (sp (.bool false) (zjr (zr5 (ret1 (.bool false) rfl rfl ⟨_,rfl,?_,H.base⟩))))) (fun h=>absurd h qj)))
      rw [xw (fun h=>by obtain ⟨h1,h2,h3,h4,h5,h6,h7,h8,h9,h10,h11⟩:=h;first | contradiction | omega | exact h3 ⟨‹_›,‹_›⟩ | (obtain ⟨q1,q2,q3,q4,q5⟩:=h11 i qf;first | contradiction | omega | (have:=q5 qf;omega)) | (refine absurd ?_ ‹¬ vg _ _›;rcases (show k=0∨k=1∨k=2∨k=3∨k=4 by omega) with e | e | e | e | e <;> subst e <;> assumption))]
     replace h41:=xn h41
     replace h41:=Vs h41
     refine zS [6,7,8,9,10,11,12] 7 (H) (rtp 13 (.bool true) H ?_)
     refine rtp 14 (.bool true) H ?_
     refine zS [15,16,17,18,19,20] 6 (H) (rtp 21 (.bool true) H ?_)
     refine rtp 22 (.bool true) H ?_
     refine zS [23,24,25,26] 4 (H) (rtp 27 (.bool true) H ?_)
     refine rtp 28 (.bool true) H ?_
     refine zS [29,30,31,32,33,34,35,36,37,38,39,40,41,42] 14 (H) (rtp 43 (.bool true) H ?_)
     refine xM qh (t_n (xH true rfl (fun _=>zcr (sp (.bool false) (zjr (zr5 (ret1 (.bool false) rfl rfl ⟨_,rfl,?_,H.base⟩))))) (fun h=>absurd h qj)))
     rw [xw (fun h=>by obtain ⟨h1,h2,h3,h4,h5,h6,h7,h8,h9,h10,h11⟩:=h;first | contradiction | omega | exact h3 ⟨‹_›,‹_›⟩ | (obtain ⟨q1,q2,q3,q4,q5⟩:=h11 i qf;first | contradiction | omega | (have:=q5 qf;omega)) | (refine absurd ?_ ‹¬ vg _ _›;rcases (show k=0∨k=1∨k=2∨k=3∨k=4 by omega) with e | e | e | e | e <;> subst e <;> assumption))]
    refine zx4 (zcr (oF rfl (oL rfl (H.cell 1 rfl rfl) ?_)))
    have sm:Small r.xk:=vH (by first | assumption | exact i1 0 qf)
    refine sw (oq (VI _ r.xk (H.get 3 rfl).1 (by first | assumption | exact vH ql | exact Qo ql)) H fun w55 H=>sps [.bool (decide ((VP r.xk:Int) > 0)),.bool (decide ((VP r.xk:Int) > 0))] (zjr (ret1 (.bool (decide ((VP r.xk:Int) > 0))) rfl rfl ⟨_,rfl,(congrArg Value.bool (dec_eq ?_)),H.base⟩)))
    rw [decide_eq_true_iff]
    exact ⟨fun h=>⟨by omega,by omega,by simp_all,by omega,n1,n2,n3,n4,n5,by omega,(show i=r.qR.length by omega)▸i2⟩,fun h=>by have:=h.2.2.2.2.2.2.2.2.2.1;have:=sum_nonneg n1.1;omega⟩
   rw [h12] at H
   refine qQ 23 rfl rfl (oF rfl (qQ 23 rfl rfl (oL rfl (H.cell 0 rfl rfl) (qQ 23 rfl rfl (sp (.bool ((r.qG:Int) == 0)) (qQ 20 rfl rfl (sps [.bool ((r.qG:Int) == 0),.bool ((r.qG:Int) == 0),.bool ((r.qG:Int) == 0)] ?_)))))))
   cases h57:((r.qG:Int) == 0)
   ·skip
    replace h57:=ne_of_beq_false h57
    refine qQ 29 rfl rfl (oF rfl (qQ 29 rfl rfl (oL rfl (H.cell 0 rfl rfl) (qQ 29 rfl rfl (oN rfl (qQ 29 rfl rfl (sps [.bool (decide ((r.qR.length:Int) > 3)),.bool (decide ((r.qR.length:Int) > 3))] (zjn (cD rfl (fun h58=>?_) (fun h58=>?_))))))))))
    ·skip
     refine zcr (sp (.bool false) (zjr (t_r (ret1 (.bool false) rfl rfl ⟨_,rfl,?_,H.base⟩))))
     rw [xw (fun h=>by obtain ⟨h1,h2,h3,h4,h5,h6,h7,h8,h9,h10,h11⟩:=h;first | contradiction | omega | exact h3 ⟨‹_›,‹_›⟩ | (obtain ⟨q1,q2,q3,q4,q5⟩:=h11 i qf;first | contradiction | omega | (have:=q5 qf;omega)) | (refine absurd ?_ ‹¬ vg _ _›;rcases (show k=0∨k=1∨k=2∨k=3∨k=4 by omega) with e | e | e | e | e <;> subst e <;> assumption))]
    refine qV (t_n (zcc (oF rfl (oL rfl (H.cell 0 rfl rfl) (oF rfl (oL rfl (H.cell 0 rfl rfl) (oF rfl (oL rfl (H.cell 0 rfl rfl) (oF rfl (oL rfl (H.cell 0 rfl rfl) (oF rfl (oL rfl (H.cell 0 rfl rfl) (sw (o_buildF H underlying27 ti22 [.slice yL r.xk.length yF,.slice yP r.xB.length yJ,.slice yM r.xG.length yG,.slice yO r.xJ.length yH,.slice Xv r.zT.length Xu] rfl (by simp [Value.cells]) rfl qj qj fun b59 w60 H=>oN rfl (sp (yI 0) (zjn (qW ?_)))))))))))))))))
    replace H:=H.boxRow 0 rfl 1 5 rfl qj
    replace H:=H.vP (α:=yLI)
    replace H:=H.Yy false 7 rfl 0 rfl qm
    replace H:=H.Yy false 7 rfl 0 rfl qm
    replace H:=H.Yy false 7 rfl 0 rfl qm
    replace H:=H.Yy false 7 rfl 0 rfl qm
    replace H:=H.Yy false 7 rfl 0 rfl qm
    refine zo (fun m' ρ w61=>∃ (xP:Env) (k:Nat),ρ=upd (upd (upd (upd (upd xP 2 (pp b1 0)) 3 (pp b3 0)) 45 (.slice (aa b59 0) 5 5)) 46 (yI 5)) 47 (yI k)∧((k:Int)≤5)∧(∀ j,j < k→vg s.xA ([r.xk,r.xB,r.xG,r.xJ,r.zT][j]!))∧m' =(5 - (k:Int)).toNat∧Fresh w.heap.size []∧St w w61 [rr (aa b59 0) 5 5 22 1 [.slice yL r.xk.length yF,.slice yP r.xB.length yJ,.slice yM r.xG.length yG,.slice yO r.xJ.length yH,.slice Xv r.zT.length Xu],.box b3 [yI r.qG,yI r.zJ,.slice yL r.xk.length yF,.slice yP r.xB.length yJ,.slice yM r.xG.length yG,.slice yO r.xJ.length yH,.slice Xv r.zT.length Xu,.slice yg r.qR.length yc,.bool true] 121,.box b1 (yS s qC qB qN qJ) 36] [zh false (Yq++(Yu++(Yr++(Yt++(FrOut++[]))))) [.slice yL r.xk.length yF,.slice yP r.xB.length yJ,.slice yM r.xG.length yG,.slice yO r.xJ.length yH,.slice Xv r.zT.length Xu] [r.xk,r.xB,r.xG,r.xJ,r.zT],sF false qY qC qB s.qw,sF false xF qN qJ s.qx,sF false Yq yL yF r.xk,sF false Yu yP yJ r.xB,sF false Yr yM yG r.xG,sF false Yt yO yH r.xJ,sF false FrOut Xv Xu r.zT,sF false FrInto yg yc r.qR]) ((5 - (0:Int)).toNat) ⟨_,0,uE5,qf,(by intro j hj;omega),rfl,N,H.pick [0,1,2] [0,6,7,8,9,10,11,12,13]⟩ ?_
    clear H N
    rintro m' ρ w62 ⟨xP,k,rfl,i0,i1,rfl,N,H⟩
    refine zcr (sp (.bool (decide ((k:Int) < 5))) (zjn (xO (cD rfl (fun h63=>?_) (fun h63=>?_)))))
    ·skip
     refine qV (t_n (xO (qW (zcr (oI rfl rfl ?_)))))
     obtain ⟨a64,c65,G66,s67,h68,H⟩:=H.jW 0 rfl 0 rfl (iv:=k) k qf qf
     refine oL rfl (h68) (sp (.slice a64 (([r.xk,r.xB,r.xG,r.xJ,r.zT][k]!).length) c65) (zjc (oF rfl (oL rfl (H.cell 2 rfl rfl) (sp (.slice a64 (([r.xk,r.xB,r.xG,r.xJ,r.zT][k]!).length) c65) (sw (oq (YE _ s.xA ([r.xk,r.xB,r.xG,r.xJ,r.zT][k]!) (H.get 0 rfl).1) H fun w69 H=>sp (.bool (!(dec (vg s.xA ([r.xk,r.xB,r.xG,r.xJ,r.zT][k]!))))) (zjn (cQ rfl (fun h71=>?_) (fun h71=>?_))))))))))
     ·skip
      refine zcr (sp (.bool false) (zjr (zr5 (ret1 (.bool false) rfl rfl ⟨_,rfl,?_,H.base⟩))))
      rw [xw (fun h=>by obtain ⟨h1,h2,h3,h4,h5,h6,h7,h8,h9,h10,h11⟩:=h;first | contradiction | omega | exact h3 ⟨‹_›,‹_›⟩ | (obtain ⟨q1,q2,q3,q4,q5⟩:=h11 i qf;first | contradiction | omega | (have:=q5 qf;omega)) | (refine absurd ?_ ‹¬ vg _ _›;rcases (show k=0∨k=1∨k=2∨k=3∨k=4 by omega) with e | e | e | e | e <;> subst e <;> assumption))]
     refine qV (b_n (t_n (xR (sw (zu k 1 rfl rfl qf (sp (yI (k+1)) (xU (qZ (m' :=(5 - ((k+1):Int)).toNat) qf ⟨_,k+1,uE5,?_,?_,rfl,N,H.pick [0,1,2] [1,2,3,4,5,6,7,8,9]⟩))))))))
     · omega
     · intro j hj;by_cases e:j=k;(subst e;assumption);exact i1 j qf
    refine zx4 (zcc (oF rfl (oL rfl (H.cell 1 rfl rfl) (oN rfl (sp (yI 0) (zjn (qW ?_)))))))
    have n1:vg s.xA r.xk:=i1 0 qf
    have n2:vg s.xA r.xB:=i1 1 qf
    have n3:vg s.xA r.xG:=i1 2 qf
    have n4:vg s.xA r.xJ:=i1 3 qf
    have n5:vg s.xA r.zT:=i1 4 qf
    refine zo (fun m' ρ w72=>∃ (xP:Env) (i:Nat),ρ=upd (upd (upd (upd (upd xP 2 (pp b1 0)) 3 (pp b3 0)) 58 (.slice yg r.qR.length yc)) 59 (yI r.qR.length)) 60 (yI i)∧((i:Int)≤r.qR.length)∧(IntosTo s r i)∧m' =(r.qR.length - (i:Int)).toNat∧Fresh w.heap.size []∧St w w72 [rr (aa b59 0) 5 5 22 1 [.slice yL r.xk.length yF,.slice yP r.xB.length yJ,.slice yM r.xG.length yG,.slice yO r.xJ.length yH,.slice Xv r.zT.length Xu],.box b3 [yI r.qG,yI r.zJ,.slice yL r.xk.length yF,.slice yP r.xB.length yJ,.slice yM r.xG.length yG,.slice yO r.xJ.length yH,.slice Xv r.zT.length Xu,.slice yg r.qR.length yc,.bool true] 121,.box b1 (yS s qC qB qN qJ) 36] [zh false (Yq++(Yu++(Yr++(Yt++(FrOut++[]))))) [.slice yL r.xk.length yF,.slice yP r.xB.length yJ,.slice yM r.xG.length yG,.slice yO r.xJ.length yH,.slice Xv r.zT.length Xu] [r.xk,r.xB,r.xG,r.xJ,r.zT],sF false qY qC qB s.qw,sF false xF qN qJ s.qx,sF false Yq yL yF r.xk,sF false Yu yP yJ r.xB,sF false Yr yM yG r.xG,sF false Yt yO yH r.xJ,sF false FrOut Xv Xu r.zT,sF false FrInto yg yc r.qR]) ((r.qR.length - (0:Int)).toNat) ⟨_,0,uE5,qf,(by exact fun j hj=>by omega),rfl,N,H⟩ ?_
    clear H N
    rintro m' ρ w73 ⟨xP,i,rfl,i0,i2,rfl,N,H⟩
    refine zcr (sp (.bool (decide ((i:Int) < r.qR.length))) (zjn (xO (cD rfl (fun h74=>?_) (fun h74=>?_)))))
    ·skip
     refine qV (t_n (xO (qW (zcr (sp (yI i) ?_)))))
     obtain ⟨b75,o76,rfl⟩:=H.addr 8 rfl qf
     obtain ⟨ae78Bag,ce78Bag,Fe78Bag,H⟩:=H.jR 8 rfl i i qf qf qf
     refine oI rfl rfl (sw (xY [yI ((r.qR[i]!).qG),.slice ae78Bag (((r.qR[i]!).jw).length) ce78Bag] isAgg164 sizeOf164 rfl (qF (H.get 1 rfl) 0 2) (sw (xX H ti164 [yI 0,yN] fun b79 w80 H=>sp (yI i) (sw (zt H 0 [yI ((r.qR[i]!).qG),.slice ae78Bag (((r.qR[i]!).jw).length) ce78Bag] sizeOf164 fun w81 H=>zjn (xO ?_)))))))
     refine jd rfl H fun H=>rt 0 (.agg #[yI s.xA,.slice qC s.qw.length qB,.slice qN s.qx.length qJ]) (Qy (cs:=(yS s qC qB qN qJ)) isAgg36 sizeOf36 rfl (fun _ h=>qF (h.cells 3 rfl) 0 3)) H ?_
     refine tF 1 rfl rfl H ?_
     refine tL 2 rfl rfl (fun _ h=>h.cell 0 rfl rfl) H ?_
     refine ro 3 rfl (oq (isCell_ok _ s ((r.qR[i]!).qG) (H.get 3 rfl).1 (H.get 4 rfl).1) H fun w84 H=>⟨H,(rtp 4 (.bool (!(inR ((r.qR[i]!).qG) 0 ((s.qw.length:Int) - 1)))) H ?_)⟩)
     refine rtp 5 (.bool (!(inR ((r.qR[i]!).qG) 0 ((s.qw.length:Int) - 1)))) H ?_
     cases h86:(!(inR ((r.qR[i]!).qG) 0 ((s.qw.length:Int) - 1)))
     ·skip
      replace h86:=xg h86
      replace h86:=XG.1 h86
      refine rg 6 (.agg #[yI s.xA,.slice qC s.qw.length qB,.slice qN s.qx.length qJ]) 70 (Qy (cs:=(yS s qC qB qN qJ)) isAgg36 sizeOf36 rfl (fun _ h=>qF (h.cells 3 rfl) 0 3)) H ?_
      refine gF 7 rfl rfl H ?_
      refine gL 8 rfl rfl (fun _ h=>h.cell 0 rfl rfl) H ?_
      refine gF 9 rfl rfl H ?_
      refine gL 10 rfl rfl (fun _ h=>h.cell 2 rfl rfl) H ?_
      refine jo [11] qh qm (r_opG rfl (e:=70) rfl rfl (oq (lies_ok _ s ((r.qR[i]!).qG) r.qG (H.get 3 rfl).1 (H.get 4 rfl).1 qg qg) H fun w88 H=>⟨H,(rgp 12 (.bool (!(dec (Lies s.qw r.qG ((r.qR[i]!).qG))))) 70 H ?_)⟩) jq)
      refine rtp 13 (.bool (!(dec (Lies s.qw r.qG ((r.qR[i]!).qG))))) H ?_
      refine rtp 14 (.bool (!(dec (Lies s.qw r.qG ((r.qR[i]!).qG))))) H ?_
      cases h90:(!(dec (Lies s.qw r.qG ((r.qR[i]!).qG))))
      ·skip
       replace h90:=xg h90
       replace h90:=QG h90
       refine gF 15 rfl rfl H ?_
       refine gL 16 rfl rfl (fun _ h=>h.cell 3 rfl rfl) H ?_
       refine gF 17 rfl rfl H ?_
       refine gL 18 rfl rfl (fun _ h=>h.cell 0 rfl rfl) H ?_
       refine jo [19] qh qm (r_opG rfl (e:=79) rfl rfl (oq (YE _ s.xA ((r.qR[i]!).jw) (H.get 0 rfl).1) H fun w91 H=>⟨H,(rgp 20 (.bool (!(dec (vg s.xA ((r.qR[i]!).jw))))) 79 H ?_)⟩) jq)
       refine rtp 21 (.bool (!(dec (vg s.xA ((r.qR[i]!).jw))))) H ?_
       refine rtp 22 (.bool (!(dec (vg s.xA ((r.qR[i]!).jw))))) H ?_
       cases h93:(!(dec (vg s.xA ((r.qR[i]!).jw))))
       ·skip
        replace h93:=xg h93
        replace h93:=QG h93
        refine gF 23 rfl rfl H ?_
        refine gL 24 rfl rfl (fun _ h=>h.cell 0 rfl rfl) H ?_
        refine jo [25] qh qm (r_opG rfl (e:=87) rfl rfl ?_ jq)
        have sm:Small ((r.qR[i]!).jw):=vH (by first | assumption | exact i1 0 qf)
        refine oq (VI _ ((r.qR[i]!).jw) (H.get 0 rfl).1 (by first | assumption | exact vH ql | exact Qo ql)) H fun w94 H=>⟨H,(rgp 26 (.bool ((VP ((r.qR[i]!).jw):Int) == 0)) 87 H ?_)⟩
        refine rtp 27 (.bool ((VP ((r.qR[i]!).jw):Int) == 0)) H ?_
        refine rtp 28 (.bool ((VP ((r.qR[i]!).jw):Int) == 0)) H ?_
        cases h96:((VP ((r.qR[i]!).jw):Int) == 0)
        ·skip
         replace h96:=ne_of_beq_false h96
         refine rgp 29 (yI i) 93 H ?_
         refine rgp 30 (.bool (decide ((i:Int) > 0))) 93 H ?_
         refine rgp 31 (.bool (decide ((i:Int) > 0))) 93 H ?_
         cases h97:(decide ((i:Int) > 0))
         ·skip
          replace h97:=of_decide_eq_false h97
          refine zS [32,33,34,35,36,37,38,39,40,41] 10 (H) (rgp 42 (.bool false) 93 H ?_)
          refine rtp 43 (.bool false) H ?_
          refine xM qh (t_n (xH false rfl (fun h=>absurd h qj) (fun _=>qV (b_n (t_n (xR (sw (zu i 1 rfl rfl qf (sp (yI (i+1)) (xU (qZ (m' :=(r.qR.length - ((i+1):Int)).toNat) qf ⟨_,i+1,uE5,?_,?_,rfl,N,H.pick [1,2,3] [2,3,4,5,6,7,8,9,10]⟩)))))))))))
          · omega
          · exact i2.succ ⟨‹_›,‹_›,‹_›,‹_›,fun hk=>by omega⟩
         replace h97:=of_decide_eq_true h97
         refine gF 32 rfl rfl H ?_
         refine gL 33 rfl rfl (fun _ h=>h.cell 0 rfl rfl) H ?_
         refine gF 34 rfl rfl H ?_
         refine gL 35 rfl rfl (fun _ h=>h.cell 2 rfl rfl) H ?_
         refine rgp 36 (yI i) 96 H ?_
         refine rg 37 (yI (i - 1)) 96 (y_sub i 1 rfl rfl qf) H ?_
         obtain ⟨ae98Bag,ce98Bag,Fe98Bag,H⟩:=H.jR 10 rfl (i - 1) (i - 1) qf qf qf
         have S:=H.yD [0,1,2,3] [2,3,4,5,6,7,8,9,10,11,12]
         refine gI 38 rfl rfl rfl S ?_
         refine gF 39 rfl rfl S ?_
         refine jo [40] qh qm (r_opG rfl (e:=96) rfl rfl (zK (yI ((r.qR[i - 1]!).qG)) isAgg2 rfl (H.xQ 1 rfl 0 rfl) (⟨H.pick [0,1,2,3] [2,3,4,5,6,7,8,9,10,11,12],?_⟩)) jq)
         have S:=H.yD [0,1,2,3] [2,3,4,5,6,7,8,9,10,11,12]
         refine rgp 41 (.bool (decide (((r.qR[i]!).qG:Int)≤((r.qR[i - 1]!).qG)))) 96 S ?_
         refine rgp 42 (.bool (decide (((r.qR[i]!).qG:Int)≤((r.qR[i - 1]!).qG)))) 93 S ?_
         refine rtp 43 (.bool (decide (((r.qR[i]!).qG:Int)≤((r.qR[i - 1]!).qG)))) S ?_
         refine xM qh (t_n (cD rfl (fun h99=>?_) (fun h99=>?_)))
         ·skip
          refine zcr (sp (.bool false) (zjr (zr5 (ret1 (.bool false) rfl rfl ⟨_,rfl,?_,H.base⟩))))
          rw [xw (fun h=>by obtain ⟨h1,h2,h3,h4,h5,h6,h7,h8,h9,h10,h11⟩:=h;first | contradiction | omega | exact h3 ⟨‹_›,‹_›⟩ | (obtain ⟨q1,q2,q3,q4,q5⟩:=h11 i qf;first | contradiction | omega | (have:=q5 qf;omega)) | (refine absurd ?_ ‹¬ vg _ _›;rcases (show k=0∨k=1∨k=2∨k=3∨k=4 by omega) with e | e | e | e | e <;> subst e <;> assumption))]
         refine qV (b_n (t_n (xR (sw (zu i 1 rfl rfl qf (sp (yI (i+1)) (xU (qZ (m' :=(r.qR.length - ((i+1):Int)).toNat) qf ⟨_,i+1,uE5,?_,?_,rfl,N,H.pick [1,2,3] [4,5,6,7,8,9,10,11,12]⟩))))))))
         · omega
         · exact i2.succ ⟨‹_›,‹_›,‹_›,‹_›,fun hk=>by omega⟩
        replace h96:=eq_of_beq h96
        refine zS [29,30,31,32,33,34,35,36,37,38,39,40,41,42] 14 (H) (rtp 43 (.bool true) H ?_)
        refine xM qh (t_n (xH true rfl (fun _=>zcr (sp (.bool false) (zjr (zr5 (ret1 (.bool false) rfl rfl ⟨_,rfl,?_,H.base⟩))))) (fun h=>absurd h qj)))
        rw [xw (fun h=>by obtain ⟨h1,h2,h3,h4,h5,h6,h7,h8,h9,h10,h11⟩:=h;first | contradiction | omega | exact h3 ⟨‹_›,‹_›⟩ | (obtain ⟨q1,q2,q3,q4,q5⟩:=h11 i qf;first | contradiction | omega | (have:=q5 qf;omega)) | (refine absurd ?_ ‹¬ vg _ _›;rcases (show k=0∨k=1∨k=2∨k=3∨k=4 by omega) with e | e | e | e | e <;> subst e <;> assumption))]
       replace h93:=xn h93
       replace h93:=zZ h93
       refine zS [23,24,25,26] 4 (H) (rtp 27 (.bool true) H ?_)
       refine rtp 28 (.bool true) H ?_
       refine zS [29,30,31,32,33,34,35,36,37,38,39,40,41,42] 14 (H) (rtp 43 (.bool true) H ?_)
       refine xM qh (t_n (xH true rfl (fun _=>zcr (sp (.bool false) (zjr (zr5 (ret1 (.bool false) rfl rfl ⟨_,rfl,?_,H.base⟩))))) (fun h=>absurd h qj)))
       rw [xw (fun h=>by obtain ⟨h1,h2,h3,h4,h5,h6,h7,h8,h9,h10,h11⟩:=h;first | contradiction | omega | exact h3 ⟨‹_›,‹_›⟩ | (obtain ⟨q1,q2,q3,q4,q5⟩:=h11 i qf;first | contradiction | omega | (have:=q5 qf;omega)) | (refine absurd ?_ ‹¬ vg _ _›;rcases (show k=0∨k=1∨k=2∨k=3∨k=4 by omega) with e | e | e | e | e <;> subst e <;> assumption))]
      replace h90:=xn h90
      replace h90:=zZ h90
      refine zS [15,16,17,18,19,20] 6 (H) (rtp 21 (.bool true) H ?_)
      refine rtp 22 (.bool true) H ?_
      refine zS [23,24,25,26] 4 (H) (rtp 27 (.bool true) H ?_)
      refine rtp 28 (.bool true) H ?_
      refine zS [29,30,31,32,33,34,35,36,37,38,39,40,41,42] 14 (H) (rtp 43 (.bool true) H ?_)
      refine xM qh (t_n (xH true rfl (fun _=>zcr (sp (.bool false) (zjr (zr5 (ret1 (.bool false) rfl rfl ⟨_,rfl,?_,H.base⟩))))) (fun h=>absurd h qj)))
      rw [xw (fun h=>by obtain ⟨h1,h2,h3,h4,h5,h6,h7,h8,h9,h10,h11⟩:=h;first | contradiction | omega | exact h3 ⟨‹_›,‹_›⟩ | (obtain ⟨q1,q2,q3,q4,q5⟩:=h11 i qf;first | contradiction | omega | (have:=q5 qf;omega)) | (refine absurd ?_ ‹¬ vg _ _›;rcases (show k=0∨k=1∨k=2∨k=3∨k=4 by omega) with e | e | e | e | e <;> subst e <;> assumption))]
     replace h86:=xn h86
     replace h86:=Vs h86
     refine zS [6,7,8,9,10,11,12] 7 (H) (rtp 13 (.bool true) H ?_)
     refine rtp 14 (.bool true) H ?_
     refine zS [15,16,17,18,19,20] 6 (H) (rtp 21 (.bool true) H ?_)
     refine rtp 22 (.bool true) H ?_
     refine zS [23,24,25,26] 4 (H) (rtp 27 (.bool true) H ?_)
     refine rtp 28 (.bool true) H ?_
     refine zS [29,30,31,32,33,34,35,36,37,38,39,40,41,42] 14 (H) (rtp 43 (.bool true) H ?_)
     refine xM qh (t_n (xH true rfl (fun _=>zcr (sp (.bool false) (zjr (zr5 (ret1 (.bool false) rfl rfl ⟨_,rfl,?_,H.base⟩))))) (fun h=>absurd h qj)))
     rw [xw (fun h=>by obtain ⟨h1,h2,h3,h4,h5,h6,h7,h8,h9,h10,h11⟩:=h;first | contradiction | omega | exact h3 ⟨‹_›,‹_›⟩ | (obtain ⟨q1,q2,q3,q4,q5⟩:=h11 i qf;first | contradiction | omega | (have:=q5 qf;omega)) | (refine absurd ?_ ‹¬ vg _ _›;rcases (show k=0∨k=1∨k=2∨k=3∨k=4 by omega) with e | e | e | e | e <;> subst e <;> assumption))]
    refine zx4 (zcr (oF rfl (oL rfl (H.cell 1 rfl rfl) ?_)))
    have sm:Small r.xk:=vH (by first | assumption | exact i1 0 qf)
    refine sw (oq (VI _ r.xk (H.get 3 rfl).1 (by first | assumption | exact vH ql | exact Qo ql)) H fun w100 H=>sps [.bool (decide ((VP r.xk:Int) > 0)),.bool (decide ((VP r.xk:Int) > 0))] (zjr (ret1 (.bool (decide ((VP r.xk:Int) > 0))) rfl rfl ⟨_,rfl,(congrArg Value.bool (dec_eq ?_)),H.base⟩)))
    rw [decide_eq_true_iff]
    exact ⟨fun h=>⟨by omega,by omega,by simp_all,by omega,n1,n2,n3,n4,n5,by omega,(show i=r.qR.length by omega)▸i2⟩,fun h=>by have:=h.2.2.2.2.2.2.2.2.2.1;have:=sum_nonneg n1.1;omega⟩
   replace h57:=eq_of_beq h57
   refine zk [30,31,32,33] (sp (.bool true) (zjn (xH true rfl (fun _=>zcr (sp (.bool false) (zjr (t_r (ret1 (.bool false) rfl rfl ⟨_,rfl,?_,H.base⟩))))) (fun h=>absurd h qj))))
   rw [xw (fun h=>by obtain ⟨h1,h2,h3,h4,h5,h6,h7,h8,h9,h10,h11⟩:=h;first | contradiction | omega | exact h3 ⟨‹_›,‹_›⟩ | (obtain ⟨q1,q2,q3,q4,q5⟩:=h11 i qf;first | contradiction | omega | (have:=q5 qf;omega)) | (refine absurd ?_ ‹¬ vg _ _›;rcases (show k=0∨k=1∨k=2∨k=3∨k=4 by omega) with e | e | e | e | e <;> subst e <;> assumption))]
  replace h11:=xn h11
  replace h11:=Vs h11
  refine zk [21,22,23,24,25,26,27] (sps [.bool true,.bool true] (zk [30,31,32,33] (sp (.bool true) (zjn (xH true rfl (fun _=>zcr (sp (.bool false) (zjr (t_r (ret1 (.bool false) rfl rfl ⟨_,rfl,?_,H.base⟩))))) (fun h=>absurd h qj))))))
  rw [xw (fun h=>by obtain ⟨h1,h2,h3,h4,h5,h6,h7,h8,h9,h10,h11⟩:=h;first | contradiction | omega | exact h3 ⟨‹_›,‹_›⟩ | (obtain ⟨q1,q2,q3,q4,q5⟩:=h11 i qf;first | contradiction | omega | (have:=q5 qf;omega)) | (refine absurd ?_ ‹¬ vg _ _›;rcases (show k=0∨k=1∨k=2∨k=3∨k=4 by omega) with e | e | e | e | e <;> subst e <;> assumption))]
 replace h8:=xn h8
 replace h8:=Vs h8
 refine zk [15,16,17,18] (sps [.bool true,.bool true] (zk [21,22,23,24,25,26,27] (sps [.bool true,.bool true] (zk [30,31,32,33] (sp (.bool true) (zjn (xH true rfl (fun _=>zcr (sp (.bool false) (zjr (t_r (ret1 (.bool false) rfl rfl ⟨_,rfl,?_,H.base⟩))))) (fun h=>absurd h qj))))))))
 rw [xw (fun h=>by obtain ⟨h1,h2,h3,h4,h5,h6,h7,h8,h9,h10,h11⟩:=h;first | contradiction | omega | exact h3 ⟨‹_›,‹_›⟩ | (obtain ⟨q1,q2,q3,q4,q5⟩:=h11 i qf;first | contradiction | omega | (have:=q5 qf;omega)) | (refine absurd ?_ ‹¬ vg _ _›;rcases (show k=0∨k=1∨k=2∨k=3∨k=4 by omega) with e | e | e | e | e <;> subst e <;> assumption))]
theorem validSystem_ok (w:World) (s:qI) {qC:yOA} {qY:yLN} {qN:yOA} {xF:yLN} (xf:qO.rep w qY [.slice qC s.qw.length qB] s.qw) (xI:qO.rep w xF [.slice qN s.qx.length qJ] s.qx):Calls Tryz.prog 104 #[.agg #[yI s.xA,.slice qC s.qw.length qB,.slice qN s.qx.length qJ]] w (Ret (fun v w' =>v=.bool (dec (yj s))) w):=by
 refine en func104 ntmps104 ?_
 have H:=((St.start w).arg xI).arg xf
 have vk:=qK xf
 have jl:=qK xI
 clear xf xI
 have N:=Fresh.nil w.heap.size
 have p1:=fun h:yR s=>h.2.1
 refine zcr (sw (vG H (yS s qC qB qN qJ) fun b1 w2 H=>sp (.bool false) (zjcc (sw (xY (yS s qC qB qN qJ) isAgg36 sizeOf36 rfl (qF (H.cells 0 rfl) 0 3) (sw (oq (isShell_ok _ s (H.get 0 rfl).1 (H.get 1 rfl).1) H fun w4 H=>sps [.bool (!(dec (yR s))),.bool (!(dec (yR s)))] ?_)))))))
 cases h6:(!(dec (yR s)))
 ·skip
  replace h6:=xg h6
  replace h6:=QG h6
  refine qQ 9 rfl rfl (oF rfl (qQ 9 rfl rfl (oL rfl (H.cell 0 rfl rfl) (qQ 9 rfl rfl (oN rfl (qQ 9 rfl rfl (sps [.bool (decide ((s.qx.length:Int) > 16)),.bool (decide ((s.qx.length:Int) > 16))] (zjn (cD rfl (fun h7=>?_) (fun h7=>?_))))))))))
  ·skip
   refine zcr (sp (.bool false) (zjr (t_r (ret1 (.bool false) rfl rfl ⟨_,rfl,?_,H.base⟩))))
   rw [xw (fun h=>by obtain ⟨h1,h2,h3⟩:=h;first | contradiction | omega | (obtain ⟨r1,r2⟩:=h3 k qf;first | contradiction | (have:=YK (s:=s) (k:=k+1) q1 q2;omega)))]
  refine qV (t_n (zcr (sw (jr [yI 0,yI 0,yI 0,yI 0,yI 0,yI 0] [] (sw (xX H ti159 [yI 0,yI 0,yI 0,yI 0,yI 0,yI 0] fun b8 w9 H=>sw (zt H 0 [yI 0,yI 0,yI 0,yI 0,yI 0,yI 0] sizeOf159 fun w10 H=>zjcc (oF rfl (oL rfl (H.cell 1 rfl rfl) (oN rfl (sp (yI 0) (zjn (qW ?_)))))))))))))
  have p2:=p1 ‹_›
  refine zo (fun m' ρ w11=>∃ (xP:Env) (k:Nat) (many:yLI),ρ=upd (upd (upd (upd (upd xP 1 (pp b1 0)) 3 (pp b8 0)) 17 (.slice qN s.qx.length qJ)) 18 (yI s.qx.length)) 19 (yI k)∧many=counts6 s k∧((k:Int)≤s.qx.length)∧(RulesTo s k)∧m' =(s.qx.length - (k:Int)).toNat∧Fresh w.heap.size []∧St w w11 [.box b8 (many.map (Value.int .i64)) 159,.box b1 (yS s qC qB qN qJ) 36] [sF false qY qC qB s.qw,sF false xF qN qJ s.qx]) ((s.qx.length - (0:Int)).toNat) ⟨_,0,[0,0,0,0,0,0],uE5,(by exact counts6_zero s),qf,(by exact fun j hj=>by omega),rfl,N,H⟩ ?_
  clear H N
  rintro m' ρ w12 ⟨xP,k,many,rfl,rfl,i0,i1,rfl,N,H⟩
  refine zcr (sp (.bool (decide ((k:Int) < s.qx.length))) (zjn (xO (cD rfl (fun h13=>?_) (fun h13=>?_)))))
  ·skip
   refine qV (t_n (xO (qW (zcr ?_))))
   obtain ⟨b14,o15,rfl⟩:=H.addr 1 rfl qf
   obtain ⟨ae17Need,ce17Need,Fe17Need,ae17Have,ce17Have,Fe17Have,ae17Lack,ce17Lack,Fe17Lack,ae17Here,ce17Here,Fe17Here,ae17Out,ce17Out,Fe17Out,ae17Into,ce17Into,Fe17Into,H⟩:=H.yl 1 rfl k k qf qf qf
   refine oI rfl rfl (sw (xY [yI ((s.qx[k]!).qG),yI ((s.qx[k]!).zJ),.slice ae17Need (((s.qx[k]!).xk).length) ce17Need,.slice ae17Have (((s.qx[k]!).xB).length) ce17Have,.slice ae17Lack (((s.qx[k]!).xG).length) ce17Lack,.slice ae17Here (((s.qx[k]!).xJ).length) ce17Here,.slice ae17Out (((s.qx[k]!).zT).length) ce17Out,.slice ae17Into (((s.qx[k]!).qR).length) ce17Into,.bool ((s.qx[k]!).zy)] isAgg121 sizeOf121 rfl (qF (H.get 6 rfl) 0 9) ?_))
   refine sw (xX H ti121 [yI 0,yI 0,yN,yN,yN,yN,yN,yN,.bool false] fun b18 w19 H=>sw (zt H 0 [yI ((s.qx[k]!).qG),yI ((s.qx[k]!).zJ),.slice ae17Need (((s.qx[k]!).xk).length) ce17Need,.slice ae17Have (((s.qx[k]!).xB).length) ce17Have,.slice ae17Lack (((s.qx[k]!).xG).length) ce17Lack,.slice ae17Here (((s.qx[k]!).xJ).length) ce17Here,.slice ae17Out (((s.qx[k]!).zT).length) ce17Out,.slice ae17Into (((s.qx[k]!).qR).length) ce17Into,.bool ((s.qx[k]!).zy)] sizeOf121 fun w20 H=>?_))
   refine zjcc (sw (xY [yI s.xA,.slice qC s.qw.length qB,.slice (aa b14 o15) s.qx.length qJ] isAgg36 sizeOf36 rfl (qF (H.cells 2 rfl) 0 3) ?_))
   refine sw (xY [yI ((s.qx[k]!).qG),yI ((s.qx[k]!).zJ),.slice ae17Need (((s.qx[k]!).xk).length) ce17Need,.slice ae17Have (((s.qx[k]!).xB).length) ce17Have,.slice ae17Lack (((s.qx[k]!).xG).length) ce17Lack,.slice ae17Here (((s.qx[k]!).xJ).length) ce17Here,.slice ae17Out (((s.qx[k]!).zT).length) ce17Out,.slice ae17Into (((s.qx[k]!).qR).length) ce17Into,.bool ((s.qx[k]!).zy)] isAgg121 sizeOf121 rfl (qF (H.cells 0 rfl) 0 9) ?_)
   refine sw (oq (isRule_ok _ s (s.qx[k]!) (H.get 7 rfl).1 (H.get 8 rfl).1 (H.get 0 rfl).1 (H.get 1 rfl).1 (H.get 2 rfl).1 (H.get 3 rfl).1 (H.get 4 rfl).1 (H.get 5 rfl).1 qg) H fun w22 H=>?_)
   have q:=fun h:RuleOk s (s.qx[k]!)=>(show 0≤(s.qx[k]!).qG∧(s.qx[k]!).qG≤5 from ⟨h.1.1,by have:=h.1.2;omega⟩)
   refine sp (.bool (!(dec (RuleOk s (s.qx[k]!))))) (zjn (cQ rfl (fun h24=>?_) (fun h24=>?_)))
   ·skip
    refine zcr (sp (.bool false) (zjr (t_r (zr5 (ret1 (.bool false) rfl rfl ⟨_,rfl,?_,H.base⟩)))))
    rw [xw (fun h=>by obtain ⟨h1,h2,h3⟩:=h;first | contradiction | omega | (obtain ⟨r1,r2⟩:=h3 k qf;first | contradiction | (have:=YK (s:=s) (k:=k+1) q1 q2;omega)))]
   obtain ⟨q1,q2⟩:=q ‹_›
   have q3:=YK (s:=s) (k:=k) q1 q2
   have q4:=ofCell_bd s.qx (s.qx[k]!).qG k
   refine qV (t_n (zcr (oF rfl (oL rfl (H.cell 0 rfl rfl) (sw (o_idxArr ((s.qx[k]!).qG) underlying159 ti3 rfl rfl qf qf (oL rfl (H.cell 1 rfl (ints_at (iv:=(s.qx[k]!).qG) (i:=(((s.qx[k]!).qG).toNat)) qf (by simp only [List.length_set,List.length_cons,List.length_nil,counts6_len];omega))) (sw (zu ((counts6 s k)[((s.qx[k]!).qG).toNat]!) 1 rfl rfl qf (sw (o_idxArr ((s.qx[k]!).qG) underlying159 ti3 rfl rfl qf qf ?_)))))))))))
   refine sw (o_storeArr H 1 rfl (((counts6 s k)[((s.qx[k]!).qG).toNat]!)+1) sizeOf3 rfl rfl (i:=(((s.qx[k]!).qG).toNat)) qf (by simp only [List.length_set,List.length_cons,List.length_nil,counts6_len];omega) fun w25 H=>?_)
   rw [counts6_succ q1 q2] at H
   refine zjc (oF rfl (oL rfl (H.cell 0 rfl rfl) (sw (o_idxArr ((s.qx[k]!).qG) underlying159 ti3 rfl rfl qf qf (oL rfl (H.cell 1 rfl (ints_at (iv:=(s.qx[k]!).qG) (i:=(((s.qx[k]!).qG).toNat)) qf (by simp only [List.length_set,List.length_cons,List.length_nil,counts6_len];omega))) (sp (.bool (decide (((counts6 s (k+1))[((s.qx[k]!).qG).toNat]! :Int) > 8))) (zjn (cD rfl (fun h26=>?_) (fun h26=>?_)))))))))
   ·skip
    refine zcr (sp (.bool false) (zjr (zr5 (ret1 (.bool false) rfl rfl ⟨_,rfl,?_,H.base⟩))))
    rw [xw (fun h=>by obtain ⟨h1,h2,h3⟩:=h;first | contradiction | omega | (obtain ⟨r1,r2⟩:=h3 k qf;first | contradiction | (have:=YK (s:=s) (k:=k+1) q1 q2;omega)))]
   refine qV (b_n (t_n (xR (sw (zu k 1 rfl rfl qf (sp (yI (k+1)) (xU (qZ (m' :=(s.qx.length - ((k+1):Int)).toNat) qf ⟨_,k+1,counts6 s (k+1),uE5,?_,?_,?_,rfl,N,H.pick [1,2] [7,8]⟩))))))))
   · rfl
   · omega
   · exact i1.succ ‹_› (by have:=YK (s:=s) (k:=k+1) q1 q2;omega)
  refine zx4 (zcr (sp (.bool true) (zjr (ret1 (.bool true) rfl rfl ⟨_,rfl,?_,H.base⟩))))
  rw [yu ⟨by assumption,by omega,(show s.qx.length=k by omega)▸i1⟩]
 replace h6:=xn h6
 replace h6:=zZ h6
 refine zk [10,11,12,13] (sp (.bool true) (zjn (xH true rfl (fun _=>zcr (sp (.bool false) (zjr (t_r (ret1 (.bool false) rfl rfl ⟨_,rfl,?_,H.base⟩))))) (fun h=>absurd h qj))))
 rw [xw (fun h=>by obtain ⟨h1,h2,h3⟩:=h;first | contradiction | omega | (obtain ⟨r1,r2⟩:=h3 k qf;first | contradiction | (have:=YK (s:=s) (k:=k+1) q1 q2;omega)))]

theorem validState_ok (w:World) (s:qI) (t:qH) {qC:yOA} {qY:yLN} {qN:yOA} {xF:yLN} {qU:yOA} {xN:yLN} {xm:yOA} {zq:yLN} {qM:yOA} {xE:yLN} (xf:qO.rep w qY [.slice qC s.qw.length qB] s.qw) (xI:qO.rep w xF [.slice qN s.qx.length qJ] s.qx) (zg:qO.rep w xN [.slice qU t.qy.length qP] t.qy) (zI:qO.rep w zq [.slice xm t.qE.length xh] t.qE) (xK:qO.rep w xE [.slice qM t.qA.length qL] t.qA):Calls Tryz.prog 63 #[.agg #[yI s.xA,.slice qC s.qw.length qB,.slice qN s.qx.length qJ],.agg #[.slice qU t.qy.length qP,.slice xm t.qE.length xh,.slice qM t.qA.length qL]] w (Ret (fun v w' =>v=.bool (dec (yj s∧zH s t))) w):=by
 refine en func63 ntmps63 ?_
 have H:=(((((St.start w).arg xK).arg zI).arg zg).arg xI).arg xf
 have vk:=qK xf
 have jl:=qK xI
 have Qh:=qK zg
 have QW:=qK zI
 have jL:=qK xK
 clear xf xI zg zI xK
 have N:=Fresh.nil w.heap.size
 refine zcr (sw (vG H (yS s qC qB qN qJ) fun b1 w2 H=>sw (vG H (yT t qU qP xm xh qM qL) fun b3 w4 H=>sp (.bool false) (zjcc (sw (xY (yS s qC qB qN qJ) isAgg36 sizeOf36 rfl (qF (H.cells 1 rfl) 0 3) (sw (oq (validSystem_ok _ s (H.get 0 rfl).1 (H.get 1 rfl).1) H fun w6 H=>sps [.bool (!(dec (yj s))),.bool (!(dec (yj s)))] ?_))))))))
 cases h8:(!(dec (yj s)))
 ·skip
  replace h8:=xg h8
  replace h8:=QG h8
  have z1:=(‹yj s›:yj s).1.2.1
  refine qQ 10 rfl rfl (oF rfl (qQ 10 rfl rfl (oL rfl (H.cell 0 rfl rfl) (qQ 10 rfl rfl (oN rfl (qQ 10 rfl rfl (oF rfl (qQ 10 rfl rfl (oL rfl (H.cell 1 rfl rfl) (qQ 10 rfl rfl (oN rfl (qQ 10 rfl rfl (sps [.bool ((t.qy.length:Int) != s.qw.length),.bool ((t.qy.length:Int) != s.qw.length),.bool ((t.qy.length:Int) != s.qw.length)] ?_)))))))))))))
  cases h9:((t.qy.length:Int) != s.qw.length)
  ·skip
   replace h9:=xq h9
   refine qQ 19 rfl rfl (oF rfl (qQ 19 rfl rfl (oL rfl (H.cell 0 rfl rfl) (qQ 19 rfl rfl (oN rfl (qQ 19 rfl rfl (oF rfl (qQ 19 rfl rfl (oL rfl (H.cell 1 rfl rfl) (qQ 19 rfl rfl (oN rfl (qQ 19 rfl rfl (sps [.bool ((t.qE.length:Int) != s.qw.length),.bool ((t.qE.length:Int) != s.qw.length),.bool ((t.qE.length:Int) != s.qw.length)] ?_)))))))))))))
   cases h10:((t.qE.length:Int) != s.qw.length)
   ·skip
    replace h10:=xq h10
    refine qQ 28 rfl rfl (oF rfl (qQ 28 rfl rfl (oL rfl (H.cell 0 rfl rfl) (qQ 28 rfl rfl ?_))))
    obtain ⟨b11,o12,rfl⟩:=H.addr 2 rfl qf
    refine oI rfl rfl (qQ 28 rfl rfl (oL rfl (H.XR 2 rfl 0 qf qf) (qQ 28 rfl rfl (sps [.bool (!(t.qy[0]!)),.bool (!(t.qy[0]!)),.bool (!(t.qy[0]!))] ?_))))
    cases h14:(!(t.qy[0]!))
    ·skip
     replace h14:=xg h14
     refine qQ 35 rfl rfl (oF rfl (qQ 35 rfl rfl (oL rfl (H.cell 1 rfl rfl) (qQ 35 rfl rfl (oF rfl (qQ 35 rfl rfl (oL rfl (H.cell 0 rfl rfl) (qQ 35 rfl rfl (sw (oq (YE _ s.xA t.qA (H.get 4 rfl).1) H fun w15 H=>qQ 35 rfl rfl (sps [.bool (!(dec (vg s.xA t.qA))),.bool (!(dec (vg s.xA t.qA)))] (zjn (cQ rfl (fun h17=>?_) (fun h17=>?_))))))))))))))
     ·skip
      refine zcr (sp (.bool false) (zjr (t_r (ret1 (.bool false) rfl rfl ⟨_,rfl,?_,H.base⟩))))
      rw [xw (fun h=>by obtain ⟨h0,h1,h2,h3,h4,h5⟩:=h;first | contradiction | omega | (simp_all;done) | (obtain ⟨q1,q2⟩:=h5 c qf;first | contradiction | (have:=q2 ql;omega)))]
     refine qV (t_n (zcc (oF rfl (oL rfl (H.cell 0 rfl rfl) (oN rfl (sp (yI 0) (zjn (qW ?_))))))))
     refine zo (fun m' ρ w18=>∃ (xP:Env) (c:Nat),ρ=upd (upd (upd (upd (upd xP 2 (pp b1 0)) 3 (pp b3 0)) 44 (.slice xm t.qE.length xh)) 45 (yI t.qE.length)) 46 (yI c)∧((c:Int)≤t.qE.length)∧(BagsTo s t c)∧m' =(t.qE.length - (c:Int)).toNat∧Fresh w.heap.size []∧St w w18 [.box b3 [.slice (aa b11 o12) t.qy.length qP,.slice xm t.qE.length xh,.slice qM t.qA.length qL] 38,.box b1 (yS s qC qB qN qJ) 36] [sF false qY qC qB s.qw,sF false xF qN qJ s.qx,sF false xN (aa b11 o12) qP t.qy,sF false zq xm xh t.qE,sF false xE qM qL t.qA]) ((t.qE.length - (0:Int)).toNat) ⟨_,0,uE5,qf,(by exact fun j hj=>by omega),rfl,N,H⟩ ?_
     clear H N
     rintro m' ρ w19 ⟨xP,c,rfl,i0,i1,rfl,N,H⟩
     refine zcr (sp (.bool (decide ((c:Int) < t.qE.length))) (zjn (xO (cD rfl (fun h20=>?_) (fun h20=>?_)))))
     ·skip
      refine qV (t_n (xO (qW (zcr (sp (yI c) ?_)))))
      obtain ⟨b21,o22,rfl⟩:=H.addr 3 rfl qf
      obtain ⟨ae24,ce24,Fe24,H⟩:=H.vN 3 rfl c c qf qf qf
      refine oI rfl rfl (oL rfl (H.xQ 1 rfl 0 rfl) (sps [yI c,.slice ae24 ((t.qE[c]!).length) ce24] (zjc (oF rfl (oL rfl (H.cell 1 rfl rfl) (sp (.slice ae24 ((t.qE[c]!).length) ce24) (sw (oq (YE _ s.xA (t.qE[c]!) (H.get 0 rfl).1) H fun w25 H=>sps [.bool (!(dec (vg s.xA (t.qE[c]!)))),.bool (!(dec (vg s.xA (t.qE[c]!))))] ?_))))))))
      cases h27:(!(dec (vg s.xA (t.qE[c]!))))
      ·skip
       replace h27:=xg h27
       replace h27:=QG h27
       refine qQ 56 rfl rfl (oF rfl (qQ 56 rfl rfl (oL rfl (H.cell 0 rfl rfl) (qQ 56 rfl rfl (sp (yI c) (qQ 56 rfl rfl (oI rfl rfl (qQ 56 rfl rfl (oL rfl (H.XR 4 rfl c qf qf) (qQ 56 rfl rfl (sp (.bool (!(t.qy[c]!))) (qQ 56 rfl rfl (sp (.bool (!(t.qy[c]!))) ?_)))))))))))))
       cases h28:(!(t.qy[c]!))
       ·skip
        replace h28:=xg h28
        refine zk [64,65,66] (qQ 56 rfl rfl (sps [.bool false,.bool false] (zjn (xH false rfl (fun h=>absurd h qj) (fun _=>qV (b_n (t_n (xR (sw (zu c 1 rfl rfl qf (sp (yI (c+1)) (xU (qZ (m' :=(t.qE.length - ((c+1):Int)).toNat) qf ⟨_,c+1,uE5,?_,?_,rfl,N,H.pick [0,1] [2,3,4,5,6]⟩)))))))))))))
        · omega
        · exact i1.succ ‹_› (fun hk=>by first | omega | simp_all)
       replace h28:=xn h28
       refine qQ 63 rfl rfl (sp (.slice ae24 ((t.qE[c]!).length) ce24) (qQ 63 rfl rfl (sw (oq (VI _ (t.qE[c]!) (H.get 0 rfl).1 (by first | assumption | exact vH ql | exact Qo ql)) H fun w29 H=>qQ 63 rfl rfl (sp (.bool (decide ((VP (t.qE[c]!):Int) > 0))) (qQ 56 rfl rfl (sps [.bool (decide ((VP (t.qE[c]!):Int) > 0)),.bool (decide ((VP (t.qE[c]!):Int) > 0))] (zjn (cD rfl (fun h31=>?_) (fun h31=>?_))))))))))
       ·skip
        refine zcr (sp (.bool false) (zjr (zr5 (ret1 (.bool false) rfl rfl ⟨_,rfl,?_,H.base⟩))))
        rw [xw (fun h=>by obtain ⟨h0,h1,h2,h3,h4,h5⟩:=h;first | contradiction | omega | (simp_all;done) | (obtain ⟨q1,q2⟩:=h5 c qf;first | contradiction | (have:=q2 ql;omega)))]
       refine qV (b_n (t_n (xR (sw (zu c 1 rfl rfl qf (sp (yI (c+1)) (xU (qZ (m' :=(t.qE.length - ((c+1):Int)).toNat) qf ⟨_,c+1,uE5,?_,?_,rfl,N,H.pick [0,1] [2,3,4,5,6]⟩))))))))
       · omega
       · exact i1.succ ‹_› (fun hk=>by first | omega | simp_all)
      replace h27:=xn h27
      replace h27:=zZ h27
      refine zk [57,58,59,60,61,62,63,64,65,66,67] (sp (.bool true) (zjn (xH true rfl (fun _=>zcr (sp (.bool false) (zjr (zr5 (ret1 (.bool false) rfl rfl ⟨_,rfl,?_,H.base⟩))))) (fun h=>absurd h qj))))
      rw [xw (fun h=>by obtain ⟨h0,h1,h2,h3,h4,h5⟩:=h;first | contradiction | omega | (simp_all;done) | (obtain ⟨q1,q2⟩:=h5 c qf;first | contradiction | (have:=q2 ql;omega)))]
     refine zx4 (zcr (sp (.bool true) (zjr (ret1 (.bool true) rfl rfl ⟨_,rfl,?_,H.base⟩))))
     rw [yu ⟨by assumption,by omega,by omega,by first | assumption | simp_all,by assumption,(show t.qE.length=c by omega)▸i1⟩]
    replace h14:=xn h14
    refine zk [36,37,38,39,40,41] (sp (.bool true) (zjn (xH true rfl (fun _=>zcr (sp (.bool false) (zjr (t_r (ret1 (.bool false) rfl rfl ⟨_,rfl,?_,H.base⟩))))) (fun h=>absurd h qj))))
    rw [xw (fun h=>by obtain ⟨h0,h1,h2,h3,h4,h5⟩:=h;first | contradiction | omega | (simp_all;done) | (obtain ⟨q1,q2⟩:=h5 c qf;first | contradiction | (have:=q2 ql;omega)))]
   replace h10:=bne_iff_ne.1 h10
   refine zk [29,30,31,32,33] (sps [.bool true,.bool true] (zk [36,37,38,39,40,41] (sp (.bool true) (zjn (xH true rfl (fun _=>zcr (sp (.bool false) (zjr (t_r (ret1 (.bool false) rfl rfl ⟨_,rfl,?_,H.base⟩))))) (fun h=>absurd h qj))))))
   rw [xw (fun h=>by obtain ⟨h0,h1,h2,h3,h4,h5⟩:=h;first | contradiction | omega | (simp_all;done) | (obtain ⟨q1,q2⟩:=h5 c qf;first | contradiction | (have:=q2 ql;omega)))]
  replace h9:=bne_iff_ne.1 h9
  refine zk [20,21,22,23,24,25,26] (sps [.bool true,.bool true] (zk [29,30,31,32,33] (sps [.bool true,.bool true] (zk [36,37,38,39,40,41] (sp (.bool true) (zjn (xH true rfl (fun _=>zcr (sp (.bool false) (zjr (t_r (ret1 (.bool false) rfl rfl ⟨_,rfl,?_,H.base⟩))))) (fun h=>absurd h qj))))))))
  rw [xw (fun h=>by obtain ⟨h0,h1,h2,h3,h4,h5⟩:=h;first | contradiction | omega | (simp_all;done) | (obtain ⟨q1,q2⟩:=h5 c qf;first | contradiction | (have:=q2 ql;omega)))]
 replace h8:=xn h8
 replace h8:=zZ h8
 refine zk [11,12,13,14,15,16,17] (sps [.bool true,.bool true] (zk [20,21,22,23,24,25,26] (sps [.bool true,.bool true] (zk [29,30,31,32,33] (sps [.bool true,.bool true] (zk [36,37,38,39,40,41] (sp (.bool true) (zjn (xH true rfl (fun _=>zcr (sp (.bool false) (zjr (t_r (ret1 (.bool false) rfl rfl ⟨_,rfl,?_,H.base⟩))))) (fun h=>absurd h qj))))))))))
 rw [xw (fun h=>by obtain ⟨h0,h1,h2,h3,h4,h5⟩:=h;first | contradiction | omega | (simp_all;done) | (obtain ⟨q1,q2⟩:=h5 c qf;first | contradiction | (have:=q2 ql;omega)))]

theorem parentNow_ok (w:World) (s:qI) (t:qH) (c:Int) {qC:yOA} {qY:yLN} {qN:yOA} {xF:yLN} {qU:yOA} {xN:yLN} {xm:yOA} {zq:yLN} {qM:yOA} {xE:yLN} (xf:qO.rep w qY [.slice qC s.qw.length qB] s.qw) (xI:qO.rep w xF [.slice qN s.qx.length qJ] s.qx) (zg:qO.rep w xN [.slice qU t.qy.length qP] t.qy) (zI:qO.rep w zq [.slice xm t.qE.length xh] t.qE) (xK:qO.rep w xE [.slice qM t.qA.length qL] t.qA) (p0:yR s) (p1:CellIn s c) (p2:t.qy.length=s.qw.length):Calls Tryz.prog 188 #[.agg #[yI s.xA,.slice qC s.qw.length qB,.slice qN s.qx.length qJ],.agg #[.slice qU t.qy.length qP,.slice xm t.qE.length xh,.slice qM t.qA.length qL],yI c] w (Ret (fun v w' =>v=yI (xy s t c)) w):=by
 refine en func188 ntmps188 ?_
 have H:=(((((St.start w).arg xK).arg zI).arg zg).arg xI).arg xf
 have vk:=qK xf
 have jl:=qK xI
 have Qh:=qK zg
 have QW:=qK zI
 have jL:=qK xK
 clear xf xI zg zI xK
 have N:=Fresh.nil w.heap.size
 have p3:=p0.step p1.1 p1.2
 refine zcr (sw (vG H (yS s qC qB qN qJ) fun b1 w2 H=>sw (vG H (yT t qU qP xm xh qM qL) fun b3 w4 H=>sp (yI 0) (zjc (oF rfl (oL rfl (H.cell 1 rfl rfl) (sp (yI c) ?_)))))))
 obtain ⟨b5,o6,rfl⟩:=H.addr 0 rfl qf
 refine oI rfl rfl (oL rfl (H.jI 0 rfl c qf qf) (sp (yI (s.qw[c.toNat]!)) (zjn (xO (qW ?_)))))
 refine zo (fun m' ρ w8=>∃ (xP:Env) (p:Int) (n:Nat),ρ=upd (upd (upd xP 3 (pp b1 0)) 4 (pp b3 0)) 7 (yI p)∧(-1≤p∧p≤(s.qw.length:Int) - 1)∧(p < n)∧(xy s t c=climb s.qw t.qy n p)∧m' =(p+1).toNat∧Fresh w.heap.size []∧St w w8 [.box b3 (yT t qU qP xm xh qM qL) 38,.box b1 [yI s.xA,.slice (aa b5 o6) s.qw.length qB,.slice qN s.qx.length qJ] 36] [sF false qY (aa b5 o6) qB s.qw,sF false xF qN qJ s.qx,sF false xN qU qP t.qy,sF false zq xm xh t.qE,sF false xE qM qL t.qA]) (((s.qw[c.toNat]!)+1).toNat) ⟨_,s.qw[c.toNat]!,s.qw.length,uE3,qf,qf,(by rfl),rfl,N,H⟩ ?_
 clear H N
 rintro m' ρ w9 ⟨xP,p,n,rfl,i0,i1,i2,rfl,N,H⟩
 have up:=fun h=>p0.step (c:=p) h i0.2
 refine zcc (sps [yI p,.bool (decide ((p:Int)≥0)),.bool (decide ((p:Int)≥0))] ?_)
 cases h10:(decide ((p:Int)≥0))
 ·skip
  replace h10:=of_decide_eq_false h10
  refine zk [16,17,18,19,20,21] (sp (.bool false) (zjn (xH false rfl (fun h=>absurd h qj) (fun _=>zx4 (zcr (sps [yI p,yI p] (zjr (ret1 (yI p) rfl rfl ⟨_,rfl,?_,H.base⟩))))))))
  rw [i2,climb_end (by first | omega | simp_all)]
 replace h10:=of_decide_eq_true h10
 refine qQ 15 rfl rfl (oF rfl (qQ 15 rfl rfl (oL rfl (H.cell 0 rfl rfl) (qQ 15 rfl rfl (sp (yI p) (qQ 15 rfl rfl ?_))))))
 obtain ⟨b11,o12,rfl⟩:=H.addr 2 rfl qf
 refine oI rfl rfl (qQ 15 rfl rfl (oL rfl (H.XR 2 rfl p qf qf) (qQ 15 rfl rfl (sps [.bool (!(t.qy[p.toNat]!)),.bool (!(t.qy[p.toNat]!))] (zjn (xH (!(t.qy[p.toNat]!)) rfl (fun h14=>?_) (fun h14=>?_)))))))
 ·skip
  replace h14:=xn h14
  refine qV (t_n (qW (xR (oF rfl (oL rfl (H.cell 1 rfl rfl) (sp (yI p) (oI rfl rfl (oL rfl (H.jI 0 rfl p qf qf) (sp (yI (s.qw[p.toNat]!)) (xU (b_n ?_)))))))))))
  have up1:=up qf
  refine qZ (m' :=((s.qw[p.toNat]!)+1).toNat) qf ⟨_,s.qw[p.toNat]!,n - 1,uE3,?_,?_,?_,rfl,N,H⟩
  · omega
  · omega
  · exact i2.trans (climb_go qf qf ‹_›)
 replace h14:=xg h14
 refine zx4 (zcr (sps [yI p,yI p] (zjr (ret1 (yI p) rfl rfl ⟨_,rfl,?_,H.base⟩))))
 rw [i2,climb_end (by first | omega | simp_all)]

theorem Yc (w:World) (t:qH) {qU:yOA} {xN:yLN} {xm:yOA} {zq:yLN} {qM:yOA} {xE:yLN} (zg:qO.rep w xN [.slice qU t.qy.length qP] t.qy) (zI:qO.rep w zq [.slice xm t.qE.length xh] t.qE) (xK:qO.rep w xE [.slice qM t.qA.length qL] t.qA) (p0:t.qy.length≤1000000) (p1:t.qA.length≤1000000) (p2:t.qE.length≤1000000) (p3:∀ j,j < t.qE.length→(t.qE[j]!).length≤1000000):Calls Tryz.prog 79 #[.agg #[.slice qU t.qy.length qP,.slice xm t.qE.length xh,.slice qM t.qA.length qL]] w (Ret (fun v w' =>∃ (raAlive:yOA) (rnAlive:Nat) (rcAlive:Nat) (raBags:yOA) (rnBags:Nat) (rcBags:Nat) (rxBags:List Value) (rFBags:yLN) (raAround:yOA) (rnAround:Nat) (rcAround:Nat),v=.agg #[.slice raAlive rnAlive rcAlive,.slice raBags rnBags rcBags,.slice raAround rnAround rcAround]∧Fresh w.heap.size [rFBags]∧St w w' [rr raAlive rnAlive rcAlive 4 1 (t.qy.map (Value.bool)),rr raBags rnBags rcBags 22 1 rxBags,rr raAround rnAround rcAround 2 1 (t.qA.map (Value.int .i64))] [zh true rFBags rxBags t.qE]) w):=by
 refine en func79 ntmps79 ?_
 have H:=(((St.start w).arg xK).arg zI).arg zg
 have Qh:=qK zg
 have QW:=qK zI
 have jL:=qK xK
 clear zg zI xK
 have N:=Fresh.nil w.heap.size
 refine zcr (sw (vG H (yT t qU qP xm xh qM qL) fun b1 w2 H=>sw (xX H ti38 [yN,yN,yN] fun b3 w4 H=>zjn (xO ?_))))
 refine c_cut (fun ρ w10=>∃ (xP:Env) (b5:Nat) (ra6:yOA) (rc7:Nat) (a8:yOA) (c9:Nat),ρ=upd (upd (upd xP 1 (pp b1 0)) 2 (pp b3 0)) 3 (pp b5 0)∧Fresh w.heap.size []∧St w w10 [.box b5 [.slice ra6 t.qy.length rc7,yN,.slice a8 t.qA.length c9] 38,rr a8 t.qA.length c9 2 1 (t.qA.map (Value.int .i64)),rr ra6 t.qy.length rc7 4 1 (t.qy.map (Value.bool)),.box b3 [yN,yN,yN] 38,.box b1 (yT t qU qP xm xh qM qL) 38] [sF false xN qU qP t.qy,sF false zq xm xh t.qE,sF false xE qM qL t.qA]) ?_ ?_
 ·skip
  refine jd rfl H fun H=>tF 0 rfl rfl H ?_
  refine tL 1 rfl rfl (fun _ h=>h.cell 1 rfl rfl) H ?_
  refine tF 3 rfl rfl H ?_
  refine tL 4 rfl rfl (fun _ h=>h.cell 1 rfl rfl) H ?_
  refine jo [2,7] qh qm (Qj rfl ?_ (Qj rfl ?_ jq))
  ·skip
   have sz15:=H.base.size
   refine oc (cloneB_ok _ t.qy (H.get 0 rfl).1 qg) ?_
   rintro _ w13 ⟨ra12,rn12,rc12,rfl,M,K⟩ _
   replace H:=H.merge K M
   obtain rfl:=H.rowNB 0 rfl
   refine ⟨H.pick [1,2] [0,1,2],(jo [5,7] qh qm (Qj rfl ?_ (Qj rfl ?_ jq)))⟩
   ·skip
    have sz18:=H.base.size
    refine oc (cloneI_ok _ t.qA (H.get 2 rfl).1 qg) ?_
    rintro v23 w21 r23 x22
    replace H:=H.zB x22 r23
    obtain ⟨a24,c25,rfl,hc26,hm27⟩:=H.jm 0 rfl
    refine ⟨H.pick [2,3] [0,1,2],(jo [6,7] qh qm (Qj rfl ?_ (Qj rfl ?_ jq)))⟩
    ·skip
     refine jr [.slice ra12 t.qy.length rc12,yN,.slice a24 t.qA.length c25] [(0,.slice ra12 t.qy.length rc12),(2,.slice a24 t.qA.length c25)] (⟨H.pick [2,3] [0,1,2],(ro 7 rfl (xX H ti38 [yN,yN,yN] fun b28 w29 H=>⟨H.pick [3,4] [0,1,2],(ro 8 rfl (zt H 0 [.slice ra12 t.qy.length rc12,yN,.slice a24 t.qA.length c25] sizeOf38 fun w30 H=>⟨H.pick [3,4] [0,1,2],(xM qh ((meet ⟨_,b28,ra12,rc12,a24,c25,uE3,N,H⟩)))⟩))⟩))⟩)
    refine xX H ti38 [yN,yN,yN] fun b31 w32 H=>⟨H.pick [3,4] [0,1,2],(ro 6 rfl (jr [.slice ra12 t.qy.length rc12,yN,.slice a24 t.qA.length c25] [(0,.slice ra12 t.qy.length rc12),(2,.slice a24 t.qA.length c25)] (⟨H.pick [3,4] [0,1,2],(ro 8 rfl (zt H 0 [.slice ra12 t.qy.length rc12,yN,.slice a24 t.qA.length c25] sizeOf38 fun w33 H=>⟨H.pick [3,4] [0,1,2],(xM qh ((meet ⟨_,b31,ra12,rc12,a24,c25,uE3,N,H⟩)))⟩))⟩)))⟩
   refine xX H ti38 [yN,yN,yN] fun b34 w35 H=>⟨H.pick [2,3] [0,1,2],(ro 5 rfl ?_)⟩
   have sz36:=H.base.size
   refine oc (cloneI_ok _ t.qA (H.get 2 rfl).1 qg) ?_
   rintro v41 w39 r41 x40
   replace H:=H.zB x40 r41
   obtain ⟨a42,c43,rfl,hc44,hm45⟩:=H.jm 0 rfl
   refine ⟨H.pick [3,4] [0,1,2],(ro 6 rfl (jr [.slice ra12 t.qy.length rc12,yN,.slice a42 t.qA.length c43] [(0,.slice ra12 t.qy.length rc12),(2,.slice a42 t.qA.length c43)] (⟨H.pick [3,4] [0,1,2],(ro 8 rfl (zt H 1 [.slice ra12 t.qy.length rc12,yN,.slice a42 t.qA.length c43] sizeOf38 fun w46 H=>⟨H.pick [3,4] [0,1,2],(xM qh ((meet ⟨_,b34,ra12,rc12,a42,c43,uE3,N,H.pick [1,0,2,3,4] [0,1,2]⟩)))⟩))⟩)))⟩
  refine xX H ti38 [yN,yN,yN] fun b47 w48 H=>⟨H.pick [1,2] [0,1,2],(ro 2 rfl ?_)⟩
  have sz52:=H.base.size
  refine oc (cloneB_ok _ t.qy (H.get 0 rfl).1 qg) ?_
  rintro _ w50 ⟨ra49,rn49,rc49,rfl,M,K⟩ _
  replace H:=H.merge K M
  obtain rfl:=H.rowNB 0 rfl
  refine ⟨H.pick [2,3] [0,1,2],(ro 5 rfl ?_)⟩
  have sz55:=H.base.size
  refine oc (cloneI_ok _ t.qA (H.get 2 rfl).1 qg) ?_
  rintro v60 w58 r60 x59
  replace H:=H.zB x59 r60
  obtain ⟨a61,c62,rfl,hc63,hm64⟩:=H.jm 0 rfl
  refine ⟨H.pick [3,4] [0,1,2],(ro 6 rfl (jr [.slice ra49 t.qy.length rc49,yN,.slice a61 t.qA.length c62] [(0,.slice ra49 t.qy.length rc49),(2,.slice a61 t.qA.length c62)] (⟨H.pick [3,4] [0,1,2],(ro 8 rfl (zt H 2 [.slice ra49 t.qy.length rc49,yN,.slice a61 t.qA.length c62] sizeOf38 fun w65 H=>⟨H.pick [3,4] [0,1,2],(xM qh ((meet ⟨_,b47,ra49,rc49,a61,c62,uE3,N,H.pick [2,0,1,3,4] [0,1,2]⟩)))⟩))⟩)))⟩
 clear H N
 rintro ρ w66 ⟨xP,b5,ra6,rc7,a8,c9,rfl,N,H⟩
 refine t_n (zcc (oF rfl (oL rfl (H.cell 4 rfl rfl) (oN rfl (sp (yI 0) (zjn (qW ?_)))))))
 replace H:=H.nilRow 22 1
 replace H:=H.vP (α:=yLI)
 refine zo (fun m' ρ w67=>∃ (xP:Env) (k:Nat) (jT:yOA) (vw:Nat) (jS:Nat) (out_Bags:yLL) (zM:List Value) (xZ:yLN),ρ=upd (upd (upd (upd (upd xP 2 (pp b3 0)) 3 (pp b5 0)) 14 (.slice xm t.qE.length xh)) 15 (yI t.qE.length)) 16 (yI k)∧out_Bags=t.qE.take k∧((k:Int)≤t.qE.length)∧m' =(t.qE.length - (k:Int)).toNat∧Fresh w.heap.size [xZ]∧St w w67 [rr jT vw jS 22 1 zM,.box b5 [.slice ra6 t.qy.length rc7,.slice jT vw jS,.slice a8 t.qA.length c9] 38,rr a8 t.qA.length c9 2 1 (t.qA.map (Value.int .i64)),rr ra6 t.qy.length rc7 4 1 (t.qy.map (Value.bool)),.box b3 [yN,yN,yN] 38,.box b1 (yT t qU qP xm xh qM qL) 38] [zh true xZ zM out_Bags,sF false xN qU qP t.qy,sF false zq xm xh t.qE,sF false xE qM qL t.qA]) ((t.qE.length - (0:Int)).toNat) ⟨_,0,none,0,0,([]:yLL),[],[],uE5,(by rfl),qf,rfl,N.emp,H⟩ ?_
 clear H N
 rintro m' ρ w68 ⟨xP,k,jT,vw,jS,out_Bags,zM,xZ,rfl,rfl,i0,rfl,N,H⟩
 have YJ:=H.zl (α:=yLI) 0 rfl 0 rfl qj
 have p4:=p3 k
 rw [List.length_take_of_le qf] at YJ
 refine zcr (sp (.bool (decide ((k:Int) < t.qE.length))) (zjn (xO (cD rfl (fun h69=>?_) (fun h69=>?_)))))
 ·skip
  refine qV (t_n (xO (qW (zcr ?_))))
  obtain ⟨b70,o71,rfl⟩:=H.addr 2 rfl qf
  obtain ⟨ae73,ce73,Fe73,H⟩:=H.vN 2 rfl k k qf qf qf
  refine oI rfl rfl (oL rfl (H.xQ 1 rfl 0 rfl) (sp (.slice ae73 ((t.qE[k]!).length) ce73) (zjn ?_)))
  refine c_cut (fun ρ w79=>∃ (xP:Env) (a74:yOA) (c75:Nat) (a76:yOA) (c77:Nat) (G78:yLN),ρ=upd (upd (upd (upd (upd xP 2 (pp b3 0)) 3 (pp b5 0)) 14 (.slice (aa b70 o71) t.qE.length xh)) 15 (yI t.qE.length)) 16 (yI k)∧Fresh w.heap.size [(xZ++G78)]∧St w w79 [rr a74 (vw+1) c75 22 1 (zM++[.slice a76 ((t.qE[k]!).length) c77]),.box b5 [.slice ra6 t.qy.length rc7,.slice a74 (vw+1) c75,.slice a8 t.qA.length c9] 38,rr a8 t.qA.length c9 2 1 (t.qA.map (Value.int .i64)),rr ra6 t.qy.length rc7 4 1 (t.qy.map (Value.bool)),.box b3 [yN,yN,yN] 38,.box b1 [.slice qU t.qy.length qP,.slice (aa b70 o71) t.qE.length xh,.slice qM t.qA.length qL] 38] [zh true (xZ++G78) (zM++[.slice a76 ((t.qE[k]!).length) c77]) ((t.qE.take k)++[(t.qE[k]!)]),sF true G78 a76 c77 (t.qE[k]!),sF false Fe73 ae73 ce73 (t.qE[k]!),atF b70 (o71+(k:Int).toNat * 1) [.slice ae73 ((t.qE[k]!).length) ce73],sF false xN qU qP t.qy,sF false zq (aa b70 o71) xh t.qE,sF false xE qM qL t.qA]) ?_ ?_
  ·skip
   refine Qu rfl H [2,3,4,5] fun H=>?_
   have S:=H.yD [2,3,4,5] [0,1,2,3,4,5]
   refine tF 0 rfl rfl S ?_
   refine rtp 2 (.slice ae73 ((t.qE[k]!).length) ce73) S ?_
   refine jo [1,3] qh qm (Qj rfl ?_ (Qj rfl ?_ jq))
   ·skip
    refine zK (.slice jT vw jS) isAgg27 rfl (H.cell 1 rfl rfl) (⟨H.pick [2,3,4,5] [0,1,2,3,4,5],(ro 3 rfl ?_)⟩)
    have sz81:=H.base.size
    have lt82:=H.ltN (L:=[xZ]) [2]
    refine oc (cloneI_ok _ (t.qE[k]!) (H.get 0 rfl).1 qg) ?_
    rintro v86 w84 r86 x85
    replace H:=H.zB x85 r86
    obtain ⟨a87,c88,rfl,hc89,hm90⟩:=H.jm 0 rfl
    refine ⟨H.pick [3,4,5,6] [0,1,2,3,4,5],(ro 4 rfl (zG H underlying27 ti22 [.slice a87 ((t.qE[k]!).length) c88] fun b91 w92 H=>⟨H.pick [4,5,6,7] [0,1,2,3,4,5],(ro 5 rfl ?_)⟩))⟩
    obtain ⟨G96,N,hn97,H⟩:=H.vW 1 rfl N (H.jQ [2])
    refine zN H 2 rfl 0 rfl underlying27 ti22 rfl qj rfl rfl rfl (by simp [Value.oneCell',Value.cells]) qp qf fun a93 c94 w95 H=>?_
    replace H:=H.yB 3 rfl 0 rfl
    replace N:Fresh w.heap.size [(xZ++G96)]:=(N.pick [1,0]).join
    refine ⟨H.pick [4,5,6,7] [2,3,4,5,6,7],(tF 6 rfl rfl (H.pick [4,5,6,7] [2,3,4,5,6,7]) ?_)⟩
    refine ro 7 rfl (zF H 3 [.slice ra6 t.qy.length rc7,.slice a93 (vw+1) c94,.slice a8 t.qA.length c9] sizeOf27 fun w98 H=>⟨H.pick [4,5,6,7] [2,3,4,5,6,7],(xM qh ((meet ⟨_,a93,c94,a87,c88,G96,uE5,N,H.pick [2,3,4,5,6,7] [0,1,2,3,5,6,7]⟩)))⟩)
   have sz99:=H.base.size
   have lt100:=H.ltN (L:=[xZ]) [2]
   refine oc (cloneI_ok _ (t.qE[k]!) (H.get 0 rfl).1 qg) ?_
   rintro v104 w102 r104 x103
   replace H:=H.zB x103 r104
   obtain ⟨a105,c106,rfl,hc107,hm108⟩:=H.jm 0 rfl
   refine ⟨H.pick [3,4,5,6] [0,1,2,3,4,5],(jo [1,4] qh qm (Qj rfl ?_ (Qj rfl ?_ jq)))⟩
   ·skip
    refine zK (.slice jT vw jS) isAgg27 rfl (H.cell 2 rfl rfl) (⟨H.pick [3,4,5,6] [0,1,2,3,4,5],(ro 4 rfl (zG H underlying27 ti22 [.slice a105 ((t.qE[k]!).length) c106] fun b109 w110 H=>⟨H.pick [4,5,6,7] [0,1,2,3,4,5],(ro 5 rfl ?_)⟩))⟩)
    obtain ⟨G114,N,hn115,H⟩:=H.vW 1 rfl N (H.jQ [2])
    refine zN H 2 rfl 0 rfl underlying27 ti22 rfl qj rfl rfl rfl (by simp [Value.oneCell',Value.cells]) qp qf fun a111 c112 w113 H=>?_
    replace H:=H.yB 3 rfl 0 rfl
    replace N:Fresh w.heap.size [(xZ++G114)]:=(N.pick [1,0]).join
    refine ⟨H.pick [4,5,6,7] [2,3,4,5,6,7],(tF 6 rfl rfl (H.pick [4,5,6,7] [2,3,4,5,6,7]) ?_)⟩
    refine ro 7 rfl (zF H 3 [.slice ra6 t.qy.length rc7,.slice a111 (vw+1) c112,.slice a8 t.qA.length c9] sizeOf27 fun w116 H=>⟨H.pick [4,5,6,7] [2,3,4,5,6,7],(xM qh ((meet ⟨_,a111,c112,a105,c106,G114,uE5,N,H.pick [2,3,4,5,6,7] [0,1,2,3,5,6,7]⟩)))⟩)
   refine zG H underlying27 ti22 [.slice a105 ((t.qE[k]!).length) c106] fun b117 w118 H=>⟨H.pick [4,5,6,7] [0,1,2,3,4,5],(ro 1 rfl (zK (.slice jT vw jS) isAgg27 rfl (H.cell 3 rfl rfl) (⟨H.pick [4,5,6,7] [0,1,2,3,4,5],(ro 5 rfl ?_)⟩)))⟩
   obtain ⟨G122,N,hn123,H⟩:=H.vW 1 rfl N (H.jQ [2])
   refine zN H 2 rfl 0 rfl underlying27 ti22 rfl qj rfl rfl rfl (by simp [Value.oneCell',Value.cells]) qp qf fun a119 c120 w121 H=>?_
   replace H:=H.yB 3 rfl 0 rfl
   replace N:Fresh w.heap.size [(xZ++G122)]:=(N.pick [1,0]).join
   refine ⟨H.pick [4,5,6,7] [2,3,4,5,6,7],(tF 6 rfl rfl (H.pick [4,5,6,7] [2,3,4,5,6,7]) ?_)⟩
   refine ro 7 rfl (zF H 3 [.slice ra6 t.qy.length rc7,.slice a119 (vw+1) c120,.slice a8 t.qA.length c9] sizeOf27 fun w124 H=>⟨H.pick [4,5,6,7] [2,3,4,5,6,7],(xM qh ((meet ⟨_,a119,c120,a105,c106,G122,uE5,N,H.pick [2,3,4,5,6,7] [0,1,2,3,5,6,7]⟩)))⟩)
  clear H N
  rintro ρ w125 ⟨xP,a74,c75,a76,c77,G78,rfl,N,H⟩
  refine b_n (t_n (xR (sw (zu k 1 rfl rfl qf (sp (yI (k+1)) (xU (qZ (m' :=(t.qE.length - ((k+1):Int)).toNat) qf ⟨_,k+1,a74,vw+1,c75,((t.qE.take k)++[(t.qE[k]!)]),zM++[.slice a76 ((t.qE[k]!).length) c77],(xZ++G78),uE5,?_,?_,rfl,N,H.pick [0,1,2,3,4,5] [0,4,5,6]⟩)))))))
  · exact take_snoc qf
  · omega
 refine zx4 (zcr (sw (xY [.slice ra6 t.qy.length rc7,.slice jT vw jS,.slice a8 t.qA.length c9] isAgg38 sizeOf38 rfl (qF (H.cells 1 rfl) 0 3) (sw (zt H 4 [.slice ra6 t.qy.length rc7,.slice jT vw jS,.slice a8 t.qA.length c9] sizeOf38 fun w126 H=>zjr (retC H 4 rfl rfl isAgg38 sizeOf38 rfl ⟨_,rfl,?_,H.base⟩))))))
 obtain rfl:k=t.qE.length:=by omega
 rw [List.take_length] at H
 exact ⟨ra6,t.qy.length,rc7,jT,vw,jS,zM,xZ,a8,t.qA.length,c9,rfl,N,H.pick [3,0,2] [0]⟩
theorem l00Max_ok (w:World) (a:Int) (b:Int):Calls Tryz.prog 119 #[yI a,yI b] w (Ret (fun v w' =>v=yI (max a b)) w):=by
 refine en func119 ntmps119 ?_
 have H:=St.start w
 have N:=Fresh.nil w.heap.size
 refine zcr (sp (yI 0) (zjcc (sps [yI a,yI b,.bool (decide ((a:Int) > b))] (zjn (cD rfl (fun h1=>?_) (fun h1=>?_))))))
 ·skip
  refine zcr (sps [yI a,yI a] (zjr (t_r (ret1 (yI a) rfl rfl ⟨_,rfl,(congrArg (Value.int .i64) ?_),H.base⟩))))
  omega
 refine qV (t_n (zcr (sps [yI b,yI b] (zjr (ret1 (yI b) rfl rfl ⟨_,rfl,(congrArg (Value.int .i64) ?_),H.base⟩)))))
 omega

theorem l01Within_ok (w:World) (l:yLI) (m:yLI) {al:yOA} {Fl:yLN} {am:yOA} {Fm:yLN} (hl:qO.rep w Fl [.slice al l.length cl] l) (hm:qO.rep w Fm [.slice am m.length cm] m) (p0:l.length≤m.length):Calls Tryz.prog 192 #[.slice al l.length cl,.slice am m.length cm] w (Ret (fun v w' =>v=.bool (within l m)) w):=by
 refine en func192 ntmps192 ?_
 have H:=((St.start w).arg hm).arg hl
 have nhl:=qK hl
 have nhm:=qK hm
 clear hl hm
 have N:=Fresh.nil w.heap.size
 refine zcr (sp (.bool false) (zjcc (sp (yI 0) (zjn (qW ?_)))))
 refine zo (fun m' ρ w1=>∃ (xP:Env) (i:Nat),ρ=upd (upd (upd xP 0 (.slice al l.length cl)) 1 (.slice am m.length cm)) 5 (yI i)∧((i:Int)≤l.length)∧(withinTo l m i)∧m' =(l.length - (i:Int)).toNat∧Fresh w.heap.size []∧St w w1 [] [sF false Fl al cl l,sF false Fm am cm m]) ((l.length - (0:Int)).toNat) ⟨_,0,uE3,qf,(by exact withinTo_zero l m),rfl,N,H⟩ ?_
 clear H N
 rintro m' ρ w2 ⟨xP,i,rfl,i0,i1,rfl,N,H⟩
 refine zcc (sps [yI i,.slice al l.length cl] (oN rfl (sp (.bool (decide ((i:Int) < l.length))) (zjn (cD rfl (fun h3=>?_) (fun h3=>?_))))))
 ·skip
  refine qV (t_n (xO (qW (xO ?_))))
  refine jd rfl H fun H=>rtp 0 (.slice al l.length cl) H ?_
  refine rtp 1 (yI i) H ?_
  obtain ⟨b5,o6,rfl⟩:=H.addr 0 rfl qf
  refine tI 2 rfl rfl rfl H ?_
  refine tL 3 rfl rfl (fun _ h=>h.yt 0 rfl i qf) H ?_
  refine rtp 4 (.slice am m.length cm) H ?_
  refine rtp 5 (yI i) H ?_
  obtain ⟨b8,o9,rfl⟩:=H.addr 1 rfl qf
  refine tI 6 rfl rfl rfl H ?_
  refine tL 7 rfl rfl (fun _ h=>h.yt 1 rfl i qf) H ?_
  refine rtp 8 (.bool (decide ((l[i]! :Int) > (m[i]!)))) H ?_
  refine xM qh (t_n (cD rfl (fun h11=>?_) (fun h11=>?_)))
  ·skip
   refine zcr (sp (.bool false) (zjr (zr5 (ret1 (.bool false) rfl rfl ⟨_,rfl,?_,H.base⟩))))
   rw [within_no (k:=i) ‹_› qf]
  refine qV (b_n (t_n (xR (sp (yI i) (sw (zu i 1 rfl rfl qf (sp (yI (i+1)) (xU (qZ (m' :=(l.length - ((i+1):Int)).toNat) qf ⟨_,i+1,uE3,?_,?_,rfl,N,H⟩)))))))))
  · omega
  · exact withinTo_succ ‹_› qf
 refine zx4 (zcr (sp (.bool true) (zjr (ret1 (.bool true) rfl rfl ⟨_,rfl,?_,H.base⟩))))
 rw [within_yes ‹_› qf]

theorem l01Times_ok (w:World) (l:yLI) (m:yLI) {al:yOA} {Fl:yLN} {am:yOA} {Fm:yLN} (hl:qO.rep w Fl [.slice al l.length cl] l) (hm:qO.rep w Fm [.slice am m.length cm] m) (p0:l.length≤m.length) (p2:∀ k,k < l.length→0≤m[k]! ∧m[k]! ≤1000) (p3:∃ j,j < l.length∧0 < l[j]!):Calls Tryz.prog 199 #[.slice al l.length cl,.slice am m.length cm] w (Ret (fun v w' =>v=yI (jk l m)) w):=by
 refine en func199 ntmps199 ?_
 have H:=((St.start w).arg hm).arg hl
 have nhl:=qK hl
 have nhm:=qK hm
 clear hl hm
 have N:=Fresh.nil w.heap.size
 refine zcr (sp (yI 0) (zjc (sp (yI (-1)) (zjcc (sp (yI 0) (zjn (qW ?_)))))))
 refine zo (fun m' ρ w1=>∃ (xP:Env) (best:Int) (i:Nat),ρ=upd (upd (upd (upd xP 0 (.slice al l.length cl)) 1 (.slice am m.length cm)) 5 (yI best)) 6 (yI i)∧((i:Int)≤l.length)∧(XB l m i best)∧m' =(l.length - (i:Int)).toNat∧Fresh w.heap.size []∧St w w1 [] [sF false Fl al cl l,sF false Fm am cm m]) ((l.length - (0:Int)).toNat) ⟨_,(-1),0,uE4,qf,(by exact XB.zero l m),rfl,N,H⟩ ?_
 clear H N
 rintro m' ρ w2 ⟨xP,best,i,rfl,i0,i1,rfl,N,H⟩
 refine zcc (sps [yI i,.slice al l.length cl] (oN rfl (sp (.bool (decide ((i:Int) < l.length))) (zjn (cD rfl (fun h3=>?_) (fun h3=>?_))))))
 ·skip
  refine qV (t_n (xO (qW (xO ?_))))
  refine jd rfl H fun H=>rtp 0 (.slice al l.length cl) H ?_
  refine rtp 1 (yI i) H ?_
  obtain ⟨b5,o6,rfl⟩:=H.addr 0 rfl qf
  refine tI 2 rfl rfl rfl H ?_
  refine tL 3 rfl rfl (fun _ h=>h.yt 0 rfl i qf) H ?_
  refine rtp 4 (.bool (decide ((l[i]! :Int) > 0))) H ?_
  refine rtp 5 (.bool (decide ((l[i]! :Int) > 0))) H ?_
  cases h8:(decide ((l[i]! :Int) > 0))
  ·skip
   replace h8:=of_decide_eq_false h8
   refine zS [6,7,8,9,10,11,12,13,14,15,16,17,18,19,20] 15 (H) (rtp 21 (.bool false) H ?_)
   refine xM qh (t_n (xH false rfl (fun h=>absurd h qj) (fun _=>qV (b_n (t_n (xR (sp (yI i) (sw (zu i 1 rfl rfl (by (have:=p2 i qf;omega)) (sp (yI (i+1)) (xU (qZ (m' :=(l.length - ((i+1):Int)).toNat) qf ⟨_,best,i+1,uE4,?_,?_,rfl,N,H⟩))))))))))))
   · omega
   · first | exact i1.take (p2 i qf) qf qf (timesTo_bd (fun k hk=>(p2 k hk).1) i qf).1 | exact i1.keep qf | exact i1.keep2 qf qf qf
  replace h8:=of_decide_eq_true h8
  refine rgp 6 (yI best) 18 H ?_
  refine rgp 7 (.bool (decide ((best:Int) < 0))) 18 H ?_
  refine rgp 8 (.bool (decide ((best:Int) < 0))) 18 H ?_
  cases h9:(decide ((best:Int) < 0))
  ·skip
   replace h9:=of_decide_eq_false h9
   refine rgp 9 (.slice am m.length cm) 21 H ?_
   refine rgp 10 (yI i) 21 H ?_
   obtain ⟨b10,o11,rfl⟩:=H.addr 1 rfl qf
   refine gI 11 rfl rfl rfl H ?_
   refine gL 12 rfl rfl (fun _ h=>h.jI 1 rfl i qf qf) H ?_
   refine rgp 13 (.slice (aa b5 o6) l.length cl) 21 H ?_
   refine rgp 14 (yI i) 21 H ?_
   refine gI 15 rfl rfl rfl H ?_
   refine gL 16 rfl rfl (fun _ h=>h.jI 0 rfl i qf qf) H ?_
   refine rg 17 (yI ((m[i]!) / (l[i]!))) 21 (y_quo (m[i]!) (l[i]!) rfl rfl (by (have:=p2 i qf;omega)) (by (have:=p2 i qf;omega))) H ?_
   refine rgp 18 (yI best) 21 H ?_
   refine rgp 19 (.bool (decide (((m[i]!) / (l[i]!):Int) < best))) 21 H ?_
   refine rgp 20 (.bool (decide (((m[i]!) / (l[i]!):Int) < best))) 18 H ?_
   refine rtp 21 (.bool (decide (((m[i]!) / (l[i]!):Int) < best))) H ?_
   refine xM qh (t_n (cD rfl (fun h13=>?_) (fun h13=>?_)))
   ·skip
    refine jd rfl H fun H=>rtp 0 (.slice (aa b10 o11) m.length cm) H ?_
    refine rtp 1 (yI i) H ?_
    refine tI 2 rfl rfl rfl H ?_
    refine tL 3 rfl rfl (fun _ h=>h.yt 1 rfl i qf) H ?_
    refine rtp 4 (.slice (aa b5 o6) l.length cl) H ?_
    refine rtp 5 (yI i) H ?_
    refine tI 6 rfl rfl rfl H ?_
    refine tL 7 rfl rfl (fun _ h=>h.yt 0 rfl i qf) H ?_
    refine rt 8 (yI ((m[i]!) / (l[i]!))) (y_quo (m[i]!) (l[i]!) rfl rfl (by (have:=p2 i qf;omega)) (by (have:=p2 i qf;omega))) H ?_
    refine rtp 9 (yI ((m[i]!) / (l[i]!))) H ?_
    refine xM qh (b_n (t_n (xR (sp (yI i) (sw (zu i 1 rfl rfl (by (have:=p2 i qf;omega)) (sp (yI (i+1)) (xU (qZ (m' :=(l.length - ((i+1):Int)).toNat) qf ⟨_,(m[i]!) / (l[i]!),i+1,uE4,?_,?_,rfl,N,H⟩)))))))))
    · omega
    · first | exact i1.take (p2 i qf) qf qf (timesTo_bd (fun k hk=>(p2 k hk).1) i qf).1 | exact i1.keep qf | exact i1.keep2 qf qf qf
   refine qV (b_n (t_n (xR (sp (yI i) (sw (zu i 1 rfl rfl (by (have:=p2 i qf;omega)) (sp (yI (i+1)) (xU (qZ (m' :=(l.length - ((i+1):Int)).toNat) qf ⟨_,best,i+1,uE4,?_,?_,rfl,N,H⟩)))))))))
   · omega
   · first | exact i1.take (p2 i qf) qf qf (timesTo_bd (fun k hk=>(p2 k hk).1) i qf).1 | exact i1.keep qf | exact i1.keep2 qf qf qf
  replace h9:=of_decide_eq_true h9
  refine zS [9,10,11,12,13,14,15,16,17,18,19] 11 (H) (rgp 20 (.bool true) 18 H ?_)
  refine rtp 21 (.bool true) H ?_
  refine xM qh (t_n (xH true rfl (fun _=>?_) (fun h=>absurd h qj)))
  refine jd rfl H fun H=>rtp 0 (.slice am m.length cm) H ?_
  refine rtp 1 (yI i) H ?_
  obtain ⟨b16,o17,rfl⟩:=H.addr 1 rfl qf
  refine tI 2 rfl rfl rfl H ?_
  refine tL 3 rfl rfl (fun _ h=>h.yt 1 rfl i qf) H ?_
  refine rtp 4 (.slice (aa b5 o6) l.length cl) H ?_
  refine rtp 5 (yI i) H ?_
  refine tI 6 rfl rfl rfl H ?_
  refine tL 7 rfl rfl (fun _ h=>h.yt 0 rfl i qf) H ?_
  refine rt 8 (yI ((m[i]!) / (l[i]!))) (y_quo (m[i]!) (l[i]!) rfl rfl (by (have:=p2 i qf;omega)) (by (have:=p2 i qf;omega))) H ?_
  refine rtp 9 (yI ((m[i]!) / (l[i]!))) H ?_
  refine xM qh (b_n (t_n (xR (sp (yI i) (sw (zu i 1 rfl rfl (by (have:=p2 i qf;omega)) (sp (yI (i+1)) (xU (qZ (m' :=(l.length - ((i+1):Int)).toNat) qf ⟨_,(m[i]!) / (l[i]!),i+1,uE4,?_,?_,rfl,N,H⟩)))))))))
  · omega
  · first | exact i1.take (p2 i qf) qf qf (timesTo_bd (fun k hk=>(p2 k hk).1) i qf).1 | exact i1.keep qf | exact i1.keep2 qf qf qf
 refine zx4 (zcr (sps [yI best,yI best] (zjr (ret1 (yI best) rfl rfl ⟨_,rfl,?_,H.base⟩))))
 obtain rfl:i=l.length:=by omega
 rw [i1.done p3];rfl

theorem l03Both_ok (w:World) (s:qI) (t:qH) {qC:yOA} {qY:yLN} {qN:yOA} {xF:yLN} {qU:yOA} {xN:yLN} {xm:yOA} {zq:yLN} {qM:yOA} {xE:yLN} (hs:vz w bs os (yS s qC qB qN qJ)) (xf:qO.rep w qY [.slice qC s.qw.length qB] s.qw) (xI:qO.rep w xF [.slice qN s.qx.length qJ] s.qx) (ht:vz w bt ot (yT t qU qP xm xh qM qL)) (zg:qO.rep w xN [.slice qU t.qy.length qP] t.qy) (zI:qO.rep w zq [.slice xm t.qE.length xh] t.qE) (xK:qO.rep w xE [.slice qM t.qA.length qL] t.qA):Calls Tryz.prog 57 #[pp bs os,pp bt ot] w (Ret (fun v w' =>v=.bool (dec (yj s∧zH s t))) w):=by
 refine en func57 ntmps57 ?_
 have H:=(((((((St.start w).arg xK).arg zI).arg zg).VJ ht).arg xI).arg xf).VJ hs
 have vk:=qK xf
 have jl:=qK xI
 have Qh:=qK zg
 have QW:=qK zI
 have jL:=qK xK
 clear hs xf xI ht zg zI xK
 have N:=Fresh.nil w.heap.size
 refine zcr (sp (.bool false) (zjc (sp (pp bs os) (sw (oq (l02Ok_ok _ s (qF (H.get 0 rfl) 0 3) (H.get 1 rfl).1 (H.get 2 rfl).1) H fun w1 H=>sp (.bool (dec (yj s))) ?_)))))
 cases h3:(dec (yj s))
 ·skip
  replace h3:=zZ h3
  refine zk [8,9,10] (sps [.bool false,.bool false] (zjr (ret1 (.bool false) rfl rfl ⟨_,rfl,?_,H.base⟩)))
  rw [xw (fun h=>‹¬ yj s› h.1)]
 replace h3:=QG h3
 refine qQ 7 rfl rfl (sp (pp bs os) (qQ 7 rfl rfl (sp (pp bt ot) (qQ 7 rfl rfl (sw (oq (l02State_ok _ s t (qF (H.get 0 rfl) 0 3) (H.get 1 rfl).1 (H.get 2 rfl).1 (qF (H.get 3 rfl) 0 3) (H.get 4 rfl).1 (H.get 5 rfl).1 (H.get 6 rfl).1 (by first | assumption | exact (And.left (by assumption:yj _)))) H fun w4 H=>sps [.bool (dec (zH s t)),.bool (dec (zH s t))] (zjr (ret1 (.bool (dec (zH s t))) rfl rfl ⟨_,rfl,(congrArg Value.bool (dec_eq ?_)),H.base⟩))))))))
 first | exact ⟨fun h=>⟨‹_›,QG h⟩,fun h=>yu h.2⟩ | (simp_all;done)

theorem l03Enabled_ok (w:World) (s:qI) (t:qH) (r:QZ) {qC:yOA} {qY:yLN} {qN:yOA} {xF:yLN} {qU:yOA} {xN:yLN} {xm:yOA} {zq:yLN} {qM:yOA} {xE:yLN} {br or:Nat} {yL:yOA} {Yq:yLN} {yP:yOA} {Yu:yLN} {yM:yOA} {Yr:yLN} {yO:yOA} {Yt:yLN} {Xv:yOA} {FrOut:yLN} {yg:yOA} {FrInto:yLN} (hs:vz w bs os (yS s qC qB qN qJ)) (xf:qO.rep w qY [.slice qC s.qw.length qB] s.qw) (xI:qO.rep w xF [.slice qN s.qx.length qJ] s.qx) (ht:vz w bt ot (yT t qU qP xm xh qM qL)) (zg:qO.rep w xN [.slice qU t.qy.length qP] t.qy) (zI:qO.rep w zq [.slice xm t.qE.length xh] t.qE) (xK:qO.rep w xE [.slice qM t.qA.length qL] t.qA) (hr:vz w br or [yI r.qG,yI r.zJ,.slice yL r.xk.length yF,.slice yP r.xB.length yJ,.slice yM r.xG.length yG,.slice yO r.xJ.length yH,.slice Xv r.zT.length Xu,.slice yg r.qR.length yc,.bool r.zy]) (hrNeed:qO.rep w Yq [.slice yL r.xk.length yF] r.xk) (hrHave:qO.rep w Yu [.slice yP r.xB.length yJ] r.xB) (hrLack:qO.rep w Yr [.slice yM r.xG.length yG] r.xG) (hrHere:qO.rep w Yt [.slice yO r.xJ.length yH] r.xJ) (hrOut:qO.rep w FrOut [.slice Xv r.zT.length Xu] r.zT) (hrInto:qO.rep w FrInto [.slice yg r.qR.length yc] r.qR) (p0:yj s) (p1:zH s t) (p2:RuleOk s r):Calls Tryz.prog 157 #[pp bs os,pp bt ot,pp br or] w (Ret (fun v w' =>v=.bool (dec (EnOk s t r))) w):=by
 refine en func157 ntmps157 ?_
 have H:=((((((((((((((St.start w).arg hrInto).arg hrOut).arg hrHere).arg hrLack).arg hrHave).arg hrNeed).VJ hr).arg xK).arg zI).arg zg).VJ ht).arg xI).arg xf).VJ hs
 have vk:=qK xf
 have jl:=qK xI
 have Qh:=qK zg
 have QW:=qK zI
 have jL:=qK xK
 have nhrNeed:=qK hrNeed
 have nhrHave:=qK hrHave
 have nhrLack:=qK hrLack
 have nhrHere:=qK hrHere
 have nhrOut:=qK hrOut
 have nhrInto:=qK hrInto
 clear hs xf xI ht zg zI xK hr hrNeed hrHave hrLack hrHere hrOut hrInto
 have N:=Fresh.nil w.heap.size
 have p3:=p2.1
 have p4:=p1.1
 have p5:=p1.2.1
 have p6:=(p1.bagLen (k:=r.qG.toNat) qf).len
 have p7:=p2.2.2.2.2.1.len
 have p8:=p2.2.2.2.2.2.1.len
 have p9:=p2.2.2.2.2.2.2.1.len
 have p10:=vH p2.2.2.2.2.2.2.1
 have p11:=p0.1
 have p12:=p2.2.2.2.2.2.2.2.2.2.2
 refine zcr (sp (.bool false) (zjn (xO (xO ?_))))
 refine jd rfl H fun H=>rtp 0 (pp bt ot) H ?_
 refine rtp 1 (pp bt ot) H ?_
 refine tF 2 rfl rfl H ?_
 refine tL 3 rfl rfl (fun _ h=>h.xQ 3 rfl 0 rfl) H ?_
 refine rtp 4 (pp br or) H ?_
 refine rtp 5 (pp br or) H ?_
 refine tF 6 rfl rfl H ?_
 refine tL 7 rfl rfl (fun _ h=>h.xQ 7 rfl 0 rfl) H ?_
 obtain ⟨b2,o3,rfl⟩:=H.addr 4 rfl qf
 refine tI 8 rfl rfl rfl H ?_
 refine tL 9 rfl rfl (fun _ h=>h.XR 4 rfl r.qG qf qf) H ?_
 refine rtp 10 (.bool (!(t.qy[r.qG.toNat]!))) H ?_
 refine xM qh (t_n (xH (!(t.qy[r.qG.toNat]!)) rfl (fun h5=>?_) (fun h5=>?_)))
 ·skip
  replace h5:=xn h5
  refine zcr (sp (.bool false) (zjr (t_r (ret1 (.bool false) rfl rfl ⟨_,rfl,?_,H.base⟩))))
  rw [xw (fun h=>by obtain ⟨h1,h2,h3,h4,h5⟩:=h;first | exact ft h1 ‹_› | exact ft h2 ‹_› | exact ft h3 ‹_› | exact h4 ⟨‹_›,‹_›⟩ | (obtain ⟨q1,q2⟩:=h5 i qf;first | exact ft q1 ‹_› | exact absurd q2 ‹_›))]
 replace h5:=xg h5
 refine qV (t_n (xO ?_))
 refine jd rfl H fun H=>rtp 0 (pp bt ot) H ?_
 refine rtp 1 (pp bt ot) H ?_
 refine tF 2 rfl rfl H ?_
 refine tL 3 rfl rfl (fun _ h=>h.xQ 3 rfl 1 rfl) H ?_
 refine rtp 4 (pp br or) H ?_
 refine rtp 5 (pp br or) H ?_
 refine tF 6 rfl rfl H ?_
 refine tL 7 rfl rfl (fun _ h=>h.xQ 7 rfl 0 rfl) H ?_
 obtain ⟨b7,o8,rfl⟩:=H.addr 5 rfl qf
 obtain ⟨ae10,ce10,Fe10,H⟩:=H.vN 5 rfl r.qG r.qG.toNat qf qf qf
 refine tI 8 rfl rfl rfl (H.pick [] [2,3,4,5,6,7,8,9,10,11,12,13,14,15]) ?_
 refine ro 9 rfl (zK (.slice ae10 ((t.qE[r.qG.toNat]!).length) ce10) isAgg22 rfl (H.xQ 1 rfl 0 rfl) (⟨H.pick [] [2,3,4,5,6,7,8,9,10,11,12,13,14,15],(rtp 10 (.slice ae10 ((t.qE[r.qG.toNat]!).length) ce10) (H.pick [] [2,3,4,5,6,7,8,9,10,11,12,13,14,15]) ?_)⟩))
 refine xM qh (t_n (zcc (sps [pp br or,pp br or] (oF rfl (oL rfl (H.xQ 9 rfl 2 rfl) (sp (.slice ae10 ((t.qE[r.qG.toNat]!).length) ce10) (sw (oq (l01Within_ok _ r.xk (t.qE[r.qG.toNat]!) (H.get 10 rfl).1 (H.get 0 rfl).1 qg) H fun w12 H=>sps [.bool (!(within r.xk (t.qE[r.qG.toNat]!))),.bool (!(within r.xk (t.qE[r.qG.toNat]!)))] ?_))))))))
 cases h14:(!(within r.xk (t.qE[r.qG.toNat]!)))
 ·skip
  replace h14:=xg h14
  refine qQ 38 rfl rfl (sp (pp br or) (qQ 38 rfl rfl (sp (pp br or) (qQ 38 rfl rfl (oF rfl (qQ 38 rfl rfl (oL rfl (H.xQ 9 rfl 3 rfl) (qQ 38 rfl rfl (sp (.slice ae10 ((t.qE[r.qG.toNat]!).length) ce10) (qQ 38 rfl rfl (sw (oq (l01Within_ok _ r.xB (t.qE[r.qG.toNat]!) (H.get 11 rfl).1 (H.get 0 rfl).1 qg) H fun w16 H=>qQ 38 rfl rfl (sps [.bool (!(within r.xB (t.qE[r.qG.toNat]!))),.bool (!(within r.xB (t.qE[r.qG.toNat]!))),.bool (!(within r.xB (t.qE[r.qG.toNat]!)))] ?_)))))))))))))
  cases h18:(!(within r.xB (t.qE[r.qG.toNat]!)))
  ·skip
   replace h18:=xg h18
   refine qQ 47 rfl rfl (sp (pp br or) (qQ 47 rfl rfl (sp (pp br or) (qQ 47 rfl rfl (oF rfl (qQ 47 rfl rfl (oL rfl (H.xQ 9 rfl 4 rfl) (qQ 47 rfl rfl (sw (oq (YP _ r.xG (H.get 12 rfl).1 (by first | assumption | exact vH ql | exact Qo ql)) H fun w19 H=>qQ 47 rfl rfl (sp (.bool (decide ((VP r.xG:Int) > 0))) (qQ 47 rfl rfl (sp (.bool (decide ((VP r.xG:Int) > 0))) ?_)))))))))))))
   cases h21:(decide ((VP r.xG:Int) > 0))
   ·skip
    replace h21:=of_decide_eq_false h21
    refine zk [55,56,57,58,59,60] (qQ 47 rfl rfl (sps [.bool false,.bool false] (zjn (xH false rfl (fun h=>absurd h qj) (fun _=>qV (t_n (zcc (sp (yI 0) (zjn (qW ?_))))))))))
    refine zo (fun m' ρ w22=>∃ (xP:Env) (i:Nat),ρ=upd (upd (upd (upd xP 0 (pp bs os)) 1 (pp bt ot)) 2 (pp br or)) 8 (yI i)∧((i:Int)≤r.qR.length)∧(IntoUp s t r i)∧m' =(r.qR.length - (i:Int)).toNat∧Fresh w.heap.size []∧St w w22 [] [sF false Fe10 ae10 ce10 (t.qE[r.qG.toNat]!),atF b7 (o8+(r.qG:Int).toNat * 1) [.slice ae10 ((t.qE[r.qG.toNat]!).length) ce10],atF bs os (yS s qC qB qN qJ),sF false qY qC qB s.qw,sF false xF qN qJ s.qx,atF bt ot [.slice (aa b2 o3) t.qy.length qP,.slice (aa b7 o8) t.qE.length xh,.slice qM t.qA.length qL],sF false xN (aa b2 o3) qP t.qy,sF false zq (aa b7 o8) xh t.qE,sF false xE qM qL t.qA,atF br or [yI r.qG,yI r.zJ,.slice yL r.xk.length yF,.slice yP r.xB.length yJ,.slice yM r.xG.length yG,.slice yO r.xJ.length yH,.slice Xv r.zT.length Xu,.slice yg r.qR.length yc,.bool r.zy],sF false Yq yL yF r.xk,sF false Yu yP yJ r.xB,sF false Yr yM yG r.xG,sF false Yt yO yH r.xJ,sF false FrOut Xv Xu r.zT,sF false FrInto yg yc r.qR]) ((r.qR.length - (0:Int)).toNat) ⟨_,0,uE4,qf,(by exact fun j hj=>by omega),rfl,N,H⟩ ?_
    clear H N
    rintro m' ρ w23 ⟨xP,i,rfl,i0,i1,rfl,N,H⟩
    refine zcc (sps [yI i,pp br or,pp br or] (oF rfl (oL rfl (H.xQ 9 rfl 7 rfl) (oN rfl (sp (.bool (decide ((i:Int) < r.qR.length))) (zjn (cD rfl (fun h24=>?_) (fun h24=>?_))))))))
    ·skip
     have q:=(p12 i qf).1
     have q1:=q.1
     have q2:=q.2
     refine qV (t_n (xO (qW (zcr (sps [pp br or,pp br or] (oF rfl (oL rfl (H.xQ 9 rfl 7 rfl) (sp (yI i) ?_))))))))
     obtain ⟨b25,o26,rfl⟩:=H.addr 15 rfl qf
     obtain ⟨ae28Bag,ce28Bag,Fe28Bag,H⟩:=H.jR 15 rfl i i qf qf qf
     refine oI rfl rfl (oF rfl (oL rfl (H.xQ 1 rfl 0 rfl) (sp (yI ((r.qR[i]!).qG)) (zjn (xO ?_)))))
     refine jd rfl H fun H=>rtp 0 (pp bt ot) H ?_
     refine rtp 1 (pp bt ot) H ?_
     refine tF 2 rfl rfl H ?_
     refine tL 3 rfl rfl (fun _ h=>h.xQ 7 rfl 0 rfl) H ?_
     refine rtp 4 (yI ((r.qR[i]!).qG)) H ?_
     refine tI 5 rfl rfl rfl H ?_
     refine tL 6 rfl rfl (fun _ h=>h.XR 8 rfl ((r.qR[i]!).qG) qf qf) H ?_
     refine rtp 7 (.bool (!(t.qy[((r.qR[i]!).qG).toNat]!))) H ?_
     refine rtp 8 (.bool (!(t.qy[((r.qR[i]!).qG).toNat]!))) H ?_
     cases h30:(!(t.qy[((r.qR[i]!).qG).toNat]!))
     ·skip
      replace h30:=xg h30
      refine rgp 9 (pp bs os) 88 H ?_
      refine rgp 10 (pp bt ot) 88 H ?_
      refine rgp 11 (yI ((r.qR[i]!).qG)) 88 H ?_
      refine rgp 13 (pp br or) 88 H ?_
      refine rgp 14 (pp br or) 88 H ?_
      refine gF 15 rfl rfl H ?_
      refine gL 16 rfl rfl (fun _ h=>h.xQ 11 rfl 0 rfl) H ?_
      refine jo [12] qh qm (r_opG rfl (e:=88) rfl rfl (oq (l02Parent_ok _ s t ((r.qR[i]!).qG) (qF (H.get 4 rfl) 0 3) (H.get 5 rfl).1 (H.get 6 rfl).1 (qF (H.get 7 rfl) 0 3) (H.get 8 rfl).1 (H.get 9 rfl).1 (H.get 10 rfl).1 ql ql ql) H fun w31 H=>⟨H,(rgp 17 (.bool ((xy s t ((r.qR[i]!).qG):Int) != r.qG)) 88 H ?_)⟩) jq)
      refine rtp 18 (.bool ((xy s t ((r.qR[i]!).qG):Int) != r.qG)) H ?_
      refine xM qh (t_n (xH ((xy s t ((r.qR[i]!).qG):Int) != r.qG) rfl (fun h33=>?_) (fun h33=>?_)))
      ·skip
       replace h33:=bne_iff_ne.1 h33
       refine zcr (sp (.bool false) (zjr (zr5 (ret1 (.bool false) rfl rfl ⟨_,rfl,?_,H.base⟩))))
       rw [xw (fun h=>by obtain ⟨h1,h2,h3,h4,h5⟩:=h;first | exact ft h1 ‹_› | exact ft h2 ‹_› | exact ft h3 ‹_› | exact h4 ⟨‹_›,‹_›⟩ | (obtain ⟨q1,q2⟩:=h5 i qf;first | exact ft q1 ‹_› | exact absurd q2 ‹_›))]
      replace h33:=xq h33
      refine qV (b_n (t_n (xR (sp (yI i) (sw (zu i 1 rfl rfl qf (sp (yI (i+1)) (xU (qZ (m' :=(r.qR.length - ((i+1):Int)).toNat) qf ⟨_,i+1,uE4,?_,?_,rfl,N,H.pick [] [2,3,4,5,6,7,8,9,10,11,12,13,14,15,16,17]⟩)))))))))
      · omega
      · exact i1.succ ‹_› ‹_›
     replace h30:=xn h30
     refine zS [9,10,11,12,13,14,15,16,17] 9 (H) (rtp 18 (.bool true) H ?_)
     refine xM qh (t_n (xH true rfl (fun _=>zcr (sp (.bool false) (zjr (zr5 (ret1 (.bool false) rfl rfl ⟨_,rfl,?_,H.base⟩))))) (fun h=>absurd h qj)))
     rw [xw (fun h=>by obtain ⟨h1,h2,h3,h4,h5⟩:=h;first | exact ft h1 ‹_› | exact ft h2 ‹_› | exact ft h3 ‹_› | exact h4 ⟨‹_›,‹_›⟩ | (obtain ⟨q1,q2⟩:=h5 i qf;first | exact ft q1 ‹_› | exact absurd q2 ‹_›))]
    refine zx4 (zcr (sp (.bool true) (zjr (ret1 (.bool true) rfl rfl ⟨_,rfl,?_,H.base⟩))))
    rw [yu ⟨by assumption,by assumption,by assumption,fun ⟨u,v⟩=>by first | omega | exact ft v ‹_›,(show i=r.qR.length by omega)▸i1⟩]
   replace h21:=of_decide_eq_true h21
   refine qQ 54 rfl rfl (sp (pp br or) (qQ 54 rfl rfl (sp (pp br or) (qQ 54 rfl rfl (oF rfl (qQ 54 rfl rfl (oL rfl (H.xQ 9 rfl 4 rfl) (qQ 54 rfl rfl (sp (.slice ae10 ((t.qE[r.qG.toNat]!).length) ce10) (qQ 54 rfl rfl (sw (oq (l01Within_ok _ r.xG (t.qE[r.qG.toNat]!) (H.get 12 rfl).1 (H.get 0 rfl).1 qg) H fun w35 H=>qQ 47 rfl rfl (sps [.bool (within r.xG (t.qE[r.qG.toNat]!)),.bool (within r.xG (t.qE[r.qG.toNat]!))] (zjn (xH (within r.xG (t.qE[r.qG.toNat]!)) rfl (fun h37=>?_) (fun h37=>?_))))))))))))))))
   ·skip
    refine zcr (sp (.bool false) (zjr (t_r (ret1 (.bool false) rfl rfl ⟨_,rfl,?_,H.base⟩))))
    rw [xw (fun h=>by obtain ⟨h1,h2,h3,h4,h5⟩:=h;first | exact ft h1 ‹_› | exact ft h2 ‹_› | exact ft h3 ‹_› | exact h4 ⟨‹_›,‹_›⟩ | (obtain ⟨q1,q2⟩:=h5 i qf;first | exact ft q1 ‹_› | exact absurd q2 ‹_›))]
   refine qV (t_n (zcc (sp (yI 0) (zjn (qW ?_)))))
   refine zo (fun m' ρ w38=>∃ (xP:Env) (i:Nat),ρ=upd (upd (upd (upd xP 0 (pp bs os)) 1 (pp bt ot)) 2 (pp br or)) 8 (yI i)∧((i:Int)≤r.qR.length)∧(IntoUp s t r i)∧m' =(r.qR.length - (i:Int)).toNat∧Fresh w.heap.size []∧St w w38 [] [sF false Fe10 ae10 ce10 (t.qE[r.qG.toNat]!),atF b7 (o8+(r.qG:Int).toNat * 1) [.slice ae10 ((t.qE[r.qG.toNat]!).length) ce10],atF bs os (yS s qC qB qN qJ),sF false qY qC qB s.qw,sF false xF qN qJ s.qx,atF bt ot [.slice (aa b2 o3) t.qy.length qP,.slice (aa b7 o8) t.qE.length xh,.slice qM t.qA.length qL],sF false xN (aa b2 o3) qP t.qy,sF false zq (aa b7 o8) xh t.qE,sF false xE qM qL t.qA,atF br or [yI r.qG,yI r.zJ,.slice yL r.xk.length yF,.slice yP r.xB.length yJ,.slice yM r.xG.length yG,.slice yO r.xJ.length yH,.slice Xv r.zT.length Xu,.slice yg r.qR.length yc,.bool r.zy],sF false Yq yL yF r.xk,sF false Yu yP yJ r.xB,sF false Yr yM yG r.xG,sF false Yt yO yH r.xJ,sF false FrOut Xv Xu r.zT,sF false FrInto yg yc r.qR]) ((r.qR.length - (0:Int)).toNat) ⟨_,0,uE4,qf,(by exact fun j hj=>by omega),rfl,N,H⟩ ?_
   clear H N
   rintro m' ρ w39 ⟨xP,i,rfl,i0,i1,rfl,N,H⟩
   refine zcc (sps [yI i,pp br or,pp br or] (oF rfl (oL rfl (H.xQ 9 rfl 7 rfl) (oN rfl (sp (.bool (decide ((i:Int) < r.qR.length))) (zjn (cD rfl (fun h40=>?_) (fun h40=>?_))))))))
   ·skip
    have q:=(p12 i qf).1
    have q1:=q.1
    have q2:=q.2
    refine qV (t_n (xO (qW (zcr (sps [pp br or,pp br or] (oF rfl (oL rfl (H.xQ 9 rfl 7 rfl) (sp (yI i) ?_))))))))
    obtain ⟨b41,o42,rfl⟩:=H.addr 15 rfl qf
    obtain ⟨ae44Bag,ce44Bag,Fe44Bag,H⟩:=H.jR 15 rfl i i qf qf qf
    refine oI rfl rfl (oF rfl (oL rfl (H.xQ 1 rfl 0 rfl) (sp (yI ((r.qR[i]!).qG)) (zjn (xO ?_)))))
    refine jd rfl H fun H=>rtp 0 (pp bt ot) H ?_
    refine rtp 1 (pp bt ot) H ?_
    refine tF 2 rfl rfl H ?_
    refine tL 3 rfl rfl (fun _ h=>h.xQ 7 rfl 0 rfl) H ?_
    refine rtp 4 (yI ((r.qR[i]!).qG)) H ?_
    refine tI 5 rfl rfl rfl H ?_
    refine tL 6 rfl rfl (fun _ h=>h.XR 8 rfl ((r.qR[i]!).qG) qf qf) H ?_
    refine rtp 7 (.bool (!(t.qy[((r.qR[i]!).qG).toNat]!))) H ?_
    refine rtp 8 (.bool (!(t.qy[((r.qR[i]!).qG).toNat]!))) H ?_
    cases h46:(!(t.qy[((r.qR[i]!).qG).toNat]!))
    ·skip
     replace h46:=xg h46
     refine rgp 9 (pp bs os) 88 H ?_
     refine rgp 10 (pp bt ot) 88 H ?_
     refine rgp 11 (yI ((r.qR[i]!).qG)) 88 H ?_
     refine rgp 13 (pp br or) 88 H ?_
     refine rgp 14 (pp br or) 88 H ?_
     refine gF 15 rfl rfl H ?_
     refine gL 16 rfl rfl (fun _ h=>h.xQ 11 rfl 0 rfl) H ?_
     refine jo [12] qh qm (r_opG rfl (e:=88) rfl rfl (oq (l02Parent_ok _ s t ((r.qR[i]!).qG) (qF (H.get 4 rfl) 0 3) (H.get 5 rfl).1 (H.get 6 rfl).1 (qF (H.get 7 rfl) 0 3) (H.get 8 rfl).1 (H.get 9 rfl).1 (H.get 10 rfl).1 ql ql ql) H fun w47 H=>⟨H,(rgp 17 (.bool ((xy s t ((r.qR[i]!).qG):Int) != r.qG)) 88 H ?_)⟩) jq)
     refine rtp 18 (.bool ((xy s t ((r.qR[i]!).qG):Int) != r.qG)) H ?_
     refine xM qh (t_n (xH ((xy s t ((r.qR[i]!).qG):Int) != r.qG) rfl (fun h49=>?_) (fun h49=>?_)))
     ·skip
      replace h49:=bne_iff_ne.1 h49
      refine zcr (sp (.bool false) (zjr (zr5 (ret1 (.bool false) rfl rfl ⟨_,rfl,?_,H.base⟩))))
      rw [xw (fun h=>by obtain ⟨h1,h2,h3,h4,h5⟩:=h;first | exact ft h1 ‹_› | exact ft h2 ‹_› | exact ft h3 ‹_› | exact h4 ⟨‹_›,‹_›⟩ | (obtain ⟨q1,q2⟩:=h5 i qf;first | exact ft q1 ‹_› | exact absurd q2 ‹_›))]
     replace h49:=xq h49
     refine qV (b_n (t_n (xR (sp (yI i) (sw (zu i 1 rfl rfl qf (sp (yI (i+1)) (xU (qZ (m' :=(r.qR.length - ((i+1):Int)).toNat) qf ⟨_,i+1,uE4,?_,?_,rfl,N,H.pick [] [2,3,4,5,6,7,8,9,10,11,12,13,14,15,16,17]⟩)))))))))
     · omega
     · exact i1.succ ‹_› ‹_›
    replace h46:=xn h46
    refine zS [9,10,11,12,13,14,15,16,17] 9 (H) (rtp 18 (.bool true) H ?_)
    refine xM qh (t_n (xH true rfl (fun _=>zcr (sp (.bool false) (zjr (zr5 (ret1 (.bool false) rfl rfl ⟨_,rfl,?_,H.base⟩))))) (fun h=>absurd h qj)))
    rw [xw (fun h=>by obtain ⟨h1,h2,h3,h4,h5⟩:=h;first | exact ft h1 ‹_› | exact ft h2 ‹_› | exact ft h3 ‹_› | exact h4 ⟨‹_›,‹_›⟩ | (obtain ⟨q1,q2⟩:=h5 i qf;first | exact ft q1 ‹_› | exact absurd q2 ‹_›))]
   refine zx4 (zcr (sp (.bool true) (zjr (ret1 (.bool true) rfl rfl ⟨_,rfl,?_,H.base⟩))))
   rw [yu ⟨by assumption,by assumption,by assumption,fun ⟨u,v⟩=>by first | omega | exact ft v ‹_›,(show i=r.qR.length by omega)▸i1⟩]
  replace h18:=xn h18
  refine zk [48,49,50,51,52,53,54,55,56,57,58,59,60,61] (sp (.bool true) (zjn (xH true rfl (fun _=>zcr (sp (.bool false) (zjr (t_r (ret1 (.bool false) rfl rfl ⟨_,rfl,?_,H.base⟩))))) (fun h=>absurd h qj))))
  rw [xw (fun h=>by obtain ⟨h1,h2,h3,h4,h5⟩:=h;first | exact ft h1 ‹_› | exact ft h2 ‹_› | exact ft h3 ‹_› | exact h4 ⟨‹_›,‹_›⟩ | (obtain ⟨q1,q2⟩:=h5 i qf;first | exact ft q1 ‹_› | exact absurd q2 ‹_›))]
 replace h14:=xn h14
 refine zk [39,40,41,42,43,44,45] (sps [.bool true,.bool true] (zk [48,49,50,51,52,53,54,55,56,57,58,59,60,61] (sp (.bool true) (zjn (xH true rfl (fun _=>zcr (sp (.bool false) (zjr (t_r (ret1 (.bool false) rfl rfl ⟨_,rfl,?_,H.base⟩))))) (fun h=>absurd h qj))))))
 rw [xw (fun h=>by obtain ⟨h1,h2,h3,h4,h5⟩:=h;first | exact ft h1 ‹_› | exact ft h2 ‹_› | exact ft h3 ‹_› | exact h4 ⟨‹_›,‹_›⟩ | (obtain ⟨q1,q2⟩:=h5 i qf;first | exact ft q1 ‹_› | exact absurd q2 ‹_›))]

theorem l03Applicable_ok (w:World) (s:qI) (t:qH) {qC:yOA} {qY:yLN} {qN:yOA} {xF:yLN} {qU:yOA} {xN:yLN} {xm:yOA} {zq:yLN} {qM:yOA} {xE:yLN} (hs:vz w bs os (yS s qC qB qN qJ)) (xf:qO.rep w qY [.slice qC s.qw.length qB] s.qw) (xI:qO.rep w xF [.slice qN s.qx.length qJ] s.qx) (ht:vz w bt ot (yT t qU qP xm xh qM qL)) (zg:qO.rep w xN [.slice qU t.qy.length qP] t.qy) (zI:qO.rep w zq [.slice xm t.qE.length xh] t.qE) (xK:qO.rep w xE [.slice qM t.qA.length qL] t.qA) (p0:yj s) (p1:zH s t):Calls Tryz.prog 127 #[pp bs os,pp bt ot] w (Ret (fun v w' =>∃ (ra:yOA) (rn:Nat) (rc:Nat),v=.slice ra rn rc∧Fresh w.heap.size []∧St w w' [rr ra rn rc 4 1 ((appl s t).map (Value.bool))] []) w):=by
 refine en func127 ntmps127 ?_
 have H:=(((((((St.start w).arg xK).arg zI).arg zg).VJ ht).arg xI).arg xf).VJ hs
 have vk:=qK xf
 have jl:=qK xI
 have Qh:=qK zg
 have QW:=qK zI
 have jL:=qK xK
 clear hs xf xI ht zg zI xK
 have N:=Fresh.nil w.heap.size
 have p2:=p0.2.1
 have p3:=p0.1.2.1
 refine zcr (sp yN (zjc (sps [pp bs os,pp bs os] (oF rfl (oL rfl (H.xQ 0 rfl 1 rfl) (oN rfl (sw (XO H underlying22 ti2 s.qw.length rfl rfl qf qf qf fun b1 w2 H=>sp (.slice (aa b1 0) s.qw.length s.qw.length) (zjc (sw (vT H underlying26 ti4 fun b3 w4 H=>sp (.slice (aa b3 0) 0 0) (zjcc (sp (yI 0) (zjn (qW ?_)))))))))))))))
 replace H:=H.boxRowB 0 [] 0
 refine zo (fun m' ρ w5=>∃ (xP:Env) (zY:yOA) (zn:Nat) (zO:Nat) (out:List Bool) (i:Nat) (best:yLI),ρ=upd (upd (upd (upd (upd xP 0 (pp bs os)) 1 (pp bt ot)) 5 (.slice (aa b1 0) s.qw.length s.qw.length)) 6 (.slice zY zn zO)) 7 (yI i)∧out=applB s t 0 i∧best=bests s t 0 s.qw.length i∧((i:Int)≤s.qx.length)∧m' =(s.qx.length - (i:Int)).toNat∧Fresh w.heap.size []∧St w w5 [rr zY zn zO 4 1 (out.map (Value.bool)),rr (aa b1 0) s.qw.length s.qw.length 2 1 (best.map (Value.int .i64))] [atF bs os (yS s qC qB qN qJ),sF false qY qC qB s.qw,sF false xF qN qJ s.qx,atF bt ot (yT t qU qP xm xh qM qL),sF false xN qU qP t.qy,sF false zq xm xh t.qE,sF false xE qM qL t.qA]) ((s.qx.length - (0:Int)).toNat) ⟨_,(aa b3 0),0,0,([]:List Bool),0,(List.replicate s.qw.length (0:Int)),uE5,(by rfl),(by exact bests_zero s t 0 _),qf,rfl,N,H⟩ ?_
 clear H N
 rintro m' ρ w6 ⟨xP,zY,zn,zO,out,i,best,rfl,rfl,rfl,i0,rfl,N,H⟩
 have hn_out:=H.rowNB 0 rfl
 have hn_best:=H.YG 1 rfl
 have bl:=X3 s t 0 s.qw.length i
 have al:=applB_len s t 0 i
 refine zcc (sps [yI i,pp bs os,pp bs os] (oF rfl (oL rfl (H.xQ 0 rfl 2 rfl) (oN rfl (sp (.bool (decide ((i:Int) < s.qx.length))) (zjn (cD rfl (fun h7=>?_) (fun h7=>?_))))))))
 ·skip
  have q:=p0.rule (i:=i) qf
  have qc:=q.1
  have qk:=q.cell
  have qr:=q.2.1
  refine qV (t_n (xO (qW (zcr (sps [pp bs os,pp bs os] (oF rfl (oL rfl (H.xQ 0 rfl 2 rfl) (sp (yI i) ?_))))))))
  obtain ⟨b8,o9,rfl⟩:=H.addr 2 rfl qf
  obtain ⟨ae11Need,ce11Need,Fe11Need,ae11Have,ce11Have,Fe11Have,ae11Lack,ce11Lack,Fe11Lack,ae11Here,ce11Here,Fe11Here,ae11Out,ce11Out,Fe11Out,ae11Into,ce11Into,Fe11Into,H⟩:=H.yl 2 rfl i i qf qf qf
  refine oI rfl rfl (sp (pp b8 (o9+(i:Int).toNat * 9)) (zjc (sps [pp bs os,pp bt ot,pp b8 (o9+(i:Int).toNat * 9)] (sw (oq (l03Enabled_ok _ s t (s.qx[i]!) (qF (H.get 7 rfl) 0 3) (H.get 8 rfl).1 (H.get 9 rfl).1 (qF (H.get 10 rfl) 0 3) (H.get 11 rfl).1 (H.get 12 rfl).1 (H.get 13 rfl).1 (qF (H.get 6 rfl) 0 9) (H.get 0 rfl).1 (H.get 1 rfl).1 (H.get 2 rfl).1 (H.get 3 rfl).1 (H.get 4 rfl).1 (H.get 5 rfl).1 qg qg qg) H fun w13 H=>?_)))))
  refine sp (.bool (dec (EnOk s t (s.qx[i]!)))) (zjc (sps [.slice zY zn zO,.bool (dec (EnOk s t (s.qx[i]!)))] (sw (zG H underlying26 ti4 [.bool (dec (EnOk s t (s.qx[i]!)))] fun b15 w16 H=>sw (zN H 1 rfl 0 rfl underlying26 ti4 rfl qj rfl rfl rfl (by simp [Value.oneCell',Value.cells]) qp qf fun a17 c18 w19 H=>?_)))))
  rw [snocB] at H
  refine sp (.slice a17 (zn+1) c18) (zjc (sp (.bool (dec (EnOk s t (s.qx[i]!)))) (zjn (cP rfl (fun h20=>?_) (fun h20=>?_)))))
  ·skip
   refine Qu rfl H [0,1] fun H=>?_
   have S:=H.yD [0,1] [0,1,2,3,4,5,6,7,8,9,10,11,12,13]
   refine rtp 0 (.slice (aa b1 0) s.qw.length s.qw.length) S ?_
   refine rtp 1 (pp b8 (o9+(i:Int).toNat * 9)) S ?_
   refine rtp 2 (pp b8 (o9+(i:Int).toNat * 9)) S ?_
   refine tF 3 rfl rfl S ?_
   refine tL 4 rfl rfl (fun _ h=>h.xQ 6 rfl 0 rfl) S ?_
   refine rtp 5 (.slice (aa b1 0) s.qw.length s.qw.length) S ?_
   refine rtp 6 (pp b8 (o9+(i:Int).toNat * 9)) S ?_
   refine rtp 7 (pp b8 (o9+(i:Int).toNat * 9)) S ?_
   refine tF 8 rfl rfl S ?_
   refine tL 9 rfl rfl (fun _ h=>h.xQ 6 rfl 0 rfl) S ?_
   refine tI 10 rfl rfl rfl S ?_
   refine rtp 12 (pp b8 (o9+(i:Int).toNat * 9)) S ?_
   refine rtp 13 (pp b8 (o9+(i:Int).toNat * 9)) S ?_
   refine tF 14 rfl rfl S ?_
   refine tL 15 rfl rfl (fun _ h=>h.xQ 6 rfl 1 rfl) S ?_
   refine ro 11 rfl (zK (yI ((bests s t 0 s.qw.length i)[((s.qx[i]!).qG).toNat]!)) isAgg2 rfl (H.rowInt 2 rfl (iv:=(s.qx[i]!).qG) (i:=(((s.qx[i]!).qG).toNat)) qf qf) (⟨H.pick [0,1] [0,1,2,3,4,5,6,7,8,9,10,11,12,13],(ro 16 rfl (oq (l00Max_ok w19.drew ((bests s t 0 s.qw.length i)[((s.qx[i]!).qG).toNat]!) ((s.qx[i]!).zJ)) H fun w23 H=>⟨H.pick [0,1] [0,1,2,3,4,5,6,7,8,9,10,11,12,13],(tI 17 rfl rfl rfl (H.pick [0,1] [0,1,2,3,4,5,6,7,8,9,10,11,12,13]) ?_)⟩))⟩))
   refine ro 18 rfl (o_storeInt H 2 rfl (max ((bests s t 0 s.qw.length i)[((s.qx[i]!).qG).toNat]!) ((s.qx[i]!).zJ)) sizeOf2 rfl rfl (i:=(((s.qx[i]!).qG).toNat)) qf qf fun w25 H=>⟨H.pick [0,1] [0,1,2,3,4,5,6,7,8,9,10,11,12,13],(xM qh (b_n (t_n (xR (sp (yI i) (sw (zu i 1 rfl rfl qf (sp (yI (i+1)) (xU ?_)))))))))⟩)
   refine qZ (m' :=(s.qx.length - ((i+1):Int)).toNat) qf ⟨_,a17,zn+1,c18,((applB s t 0 i)++[dec (EnOk s t (s.qx[i]!))]),i+1,((bests s t 0 s.qw.length i).set (((s.qx[i]!).qG).toNat) (max ((bests s t 0 s.qw.length i)[((s.qx[i]!).qG).toNat]!) ((s.qx[i]!).zJ))),uE5,?_,?_,?_,rfl,N,H.pick [1,2] [7,8,9,10,11,12,13]⟩
   · exact applB_snoc s t i
   · first | exact bests_set ‹_› qf | exact bests_skip ‹_›
   · omega
  refine qV (b_n (t_n (xR (sp (yI i) (sw (zu i 1 rfl rfl qf (sp (yI (i+1)) (xU (qZ (m' :=(s.qx.length - ((i+1):Int)).toNat) qf ⟨_,a17,zn+1,c18,((applB s t 0 i)++[dec (EnOk s t (s.qx[i]!))]),i+1,(bests s t 0 s.qw.length i),uE5,?_,?_,?_,rfl,N,H.pick [1,2] [7,8,9,10,11,12,13]⟩)))))))))
  · exact applB_snoc s t i
  · first | exact bests_set ‹_› qf | exact bests_skip ‹_›
  · omega
 refine zx4 (zcc (sp (yI 0) (zjn (qW ?_))))
 refine zo (fun m' ρ w26=>∃ (xP:Env) (i_1:Nat) (out_1:List Bool),ρ=upd (upd (upd (upd xP 0 (pp bs os)) 5 (.slice (aa b1 0) s.qw.length s.qw.length)) 6 (.slice zY zn zO)) 10 (yI i_1)∧out_1=applB s t i_1 s.qx.length∧((i_1:Int)≤s.qx.length)∧m' =(s.qx.length - (i_1:Int)).toNat∧Fresh w.heap.size []∧St w w26 [rr zY zn zO 4 1 (out_1.map (Value.bool)),rr (aa b1 0) s.qw.length s.qw.length 2 1 ((bests s t 0 s.qw.length i).map (Value.int .i64))] [atF bs os (yS s qC qB qN qJ),sF false qY qC qB s.qw,sF false xF qN qJ s.qx]) ((s.qx.length - (0:Int)).toNat) ⟨_,0,(applB s t 0 i),uE4,(by rw [show i=s.qx.length by omega]),qf,rfl,N,H.pick [0,1] [0,1,2]⟩ ?_
 clear H N
 rintro m' ρ w27 ⟨xP,i_1,out_1,rfl,rfl,i0,rfl,N,H⟩
 have hn_out:=H.rowNB 0 rfl
 have bl:=X3 s t 0 s.qw.length i
 have al:=applB_len s t i_1 s.qx.length
 refine zcc (sps [yI i_1,pp bs os,pp bs os] (oF rfl (oL rfl (H.xQ 0 rfl 2 rfl) (oN rfl (sp (.bool (decide ((i_1:Int) < s.qx.length))) (zjn (cD rfl (fun h28=>?_) (fun h28=>?_))))))))
 ·skip
  have q:=p0.rule (i:=i_1) qf
  have qc:=q.1
  have qk:=q.cell
  have qr:=q.2.1
  refine qV (t_n (xO (qW ?_)))
  refine Qu rfl H [1] fun H=>?_
  have S:=H.yD [1] [0,1,2]
  refine rtp 0 (.slice zY zn zO) S ?_
  refine rtp 1 (yI i_1) S ?_
  refine rtp 2 (.slice zY zn zO) S ?_
  refine rtp 3 (yI i_1) S ?_
  obtain ⟨b30,rfl⟩:=H.Qz 0 rfl qf
  refine tI 4 rfl rfl rfl (H.pick [1] [0,1,2]) ?_
  refine ro 5 rfl (zK (.bool ((applB s t i_1 s.qx.length)[i_1]!)) isAgg4 rfl (H.rowBool 0 rfl (iv:=i_1) (i:=i_1) qf qf) (⟨H.pick [1] [0,1,2],(rtp 6 (.bool ((applB s t i_1 s.qx.length)[i_1]!)) (H.pick [1] [0,1,2]) ?_)⟩))
  cases h31:((applB s t i_1 s.qx.length)[i_1]!)
  ·skip
   refine zS [7,8,9,10,11,12,13,14,15,16,17,18,19,20,21,22,23,24,25,26] 20 (H.pick [1] [0,1,2]) ?_
   have S:=H.yD [1] [0,1,2]
   refine rtp 27 (.bool false) S ?_
   refine tI 28 rfl rfl rfl S ?_
   refine ro 29 rfl (Q9 H 0 rfl false sizeOf4 rfl rfl (i:=i_1) qf qf fun w32 H=>⟨H.pick [1] [0,1,2],(xM qh (b_n (t_n (xR (sp (yI i_1) (sw (zu i_1 1 rfl rfl qf (sp (yI (i_1+1)) (xU (qZ (m' :=(s.qx.length - ((i_1+1):Int)).toNat) qf ⟨_,i_1+1,((applB s t i_1 s.qx.length).set i_1 false),uE4,?_,?_,rfl,N,H⟩))))))))))⟩)
   · first | exact applB_set qf (applB_step0 (m:=s.qx.length) qf ‹_›) | exact applB_set qf (applB_step1 (m:=s.qx.length) (n:=s.qw.length) (z:=0) (i:=i) qf ‹_› rfl qf qf qf)
   · omega
  have S:=H.yD [1] [0,1,2]
  refine rgp 7 (pp bs os) 75 S ?_
  refine rgp 8 (pp bs os) 75 S ?_
  refine gF 9 rfl rfl S ?_
  refine gL 10 rfl rfl (fun _ h=>h.xQ 0 rfl 2 rfl) S ?_
  refine rgp 11 (yI i_1) 75 S ?_
  obtain ⟨b33,o34,rfl⟩:=H.addr 2 rfl qf
  obtain ⟨ae36Need,ce36Need,Fe36Need,ae36Have,ce36Have,Fe36Have,ae36Lack,ce36Lack,Fe36Lack,ae36Here,ce36Here,Fe36Here,ae36Out,ce36Out,Fe36Out,ae36Into,ce36Into,Fe36Into,H⟩:=H.yl 2 rfl i_1 i_1 qf qf qf
  have S:=H.yD [1] [7,8,9]
  refine gI 12 rfl rfl rfl S ?_
  refine gF 13 rfl rfl S ?_
  refine rgp 15 (.slice (aa b1 0) s.qw.length s.qw.length) 75 S ?_
  refine rgp 16 (pp bs os) 75 S ?_
  refine rgp 17 (pp bs os) 75 S ?_
  refine gF 18 rfl rfl S ?_
  refine gL 19 rfl rfl (fun _ h=>h.xQ 0 rfl 2 rfl) S ?_
  refine rgp 20 (yI i_1) 75 S ?_
  refine gI 21 rfl rfl rfl S ?_
  refine gF 22 rfl rfl S ?_
  refine jo [14,23] qh qm (r_opG rfl (e:=75) rfl rfl ?_ (r_opG rfl (e:=75) rfl rfl ?_ jq))
  ·skip
   refine zK (yI ((s.qx[i_1]!).zJ)) isAgg2 rfl (H.xQ 6 rfl 1 rfl) (⟨H.pick [1] [7,8,9],(jo [23] qh qm (r_opG rfl (e:=75) rfl rfl (zK (yI ((s.qx[i_1]!).qG)) isAgg2 rfl (H.xQ 6 rfl 0 rfl) (⟨H.pick [1] [7,8,9],?_⟩)) jq))⟩)
   have S:=H.yD [1] [7,8,9]
   refine gI 24 rfl rfl rfl S ?_
   refine gL 25 rfl rfl (fun _ h=>h.rowInt 0 rfl (iv:=(s.qx[i_1]!).qG) (i:=(((s.qx[i_1]!).qG).toNat)) qf qf) S ?_
   refine rgp 26 (.bool (((s.qx[i_1]!).zJ:Int) == ((bests s t 0 s.qw.length i)[((s.qx[i_1]!).qG).toNat]!))) 75 S ?_
   refine rtp 27 (.bool (((s.qx[i_1]!).zJ:Int) == ((bests s t 0 s.qw.length i)[((s.qx[i_1]!).qG).toNat]!))) S ?_
   refine tI 28 rfl rfl rfl S ?_
   refine ro 29 rfl (Q9 H 0 rfl (((s.qx[i_1]!).zJ:Int) == ((bests s t 0 s.qw.length i)[((s.qx[i_1]!).qG).toNat]!)) sizeOf4 rfl rfl (i:=i_1) qf qf fun w37 H=>⟨H.pick [1] [7,8,9],(xM qh (b_n (t_n (xR (sp (yI i_1) (sw (zu i_1 1 rfl rfl qf (sp (yI (i_1+1)) (xU (qZ (m' :=(s.qx.length - ((i_1+1):Int)).toNat) qf ⟨_,i_1+1,((applB s t i_1 s.qx.length).set i_1 (((s.qx[i_1]!).zJ:Int) == ((bests s t 0 s.qw.length i)[((s.qx[i_1]!).qG).toNat]!))),uE4,?_,?_,rfl,N,H.pick [0,1] [7,8,9]⟩))))))))))⟩)
   · first | exact applB_set qf (applB_step0 (m:=s.qx.length) qf ‹_›) | exact applB_set qf (applB_step1 (m:=s.qx.length) (n:=s.qw.length) (z:=0) (i:=i) qf ‹_› rfl qf qf qf)
   · omega
  refine zK (yI ((s.qx[i_1]!).qG)) isAgg2 rfl (H.xQ 6 rfl 0 rfl) (⟨H.pick [1] [7,8,9],?_⟩)
  have S:=H.yD [1] [7,8,9]
  refine gI 24 rfl rfl rfl S ?_
  refine gL 25 rfl rfl (fun _ h=>h.rowInt 0 rfl (iv:=(s.qx[i_1]!).qG) (i:=(((s.qx[i_1]!).qG).toNat)) qf qf) S ?_
  refine jo [14] qh qm (r_opG rfl (e:=75) rfl rfl (zK (yI ((s.qx[i_1]!).zJ)) isAgg2 rfl (H.xQ 6 rfl 1 rfl) (⟨H.pick [1] [7,8,9],?_⟩)) jq)
  have S:=H.yD [1] [7,8,9]
  refine rgp 26 (.bool (((s.qx[i_1]!).zJ:Int) == ((bests s t 0 s.qw.length i)[((s.qx[i_1]!).qG).toNat]!))) 75 S ?_
  refine rtp 27 (.bool (((s.qx[i_1]!).zJ:Int) == ((bests s t 0 s.qw.length i)[((s.qx[i_1]!).qG).toNat]!))) S ?_
  refine tI 28 rfl rfl rfl S ?_
  refine ro 29 rfl (Q9 H 0 rfl (((s.qx[i_1]!).zJ:Int) == ((bests s t 0 s.qw.length i)[((s.qx[i_1]!).qG).toNat]!)) sizeOf4 rfl rfl (i:=i_1) qf qf fun w38 H=>⟨H.pick [1] [7,8,9],(xM qh (b_n (t_n (xR (sp (yI i_1) (sw (zu i_1 1 rfl rfl qf (sp (yI (i_1+1)) (xU (qZ (m' :=(s.qx.length - ((i_1+1):Int)).toNat) qf ⟨_,i_1+1,((applB s t i_1 s.qx.length).set i_1 (((s.qx[i_1]!).zJ:Int) == ((bests s t 0 s.qw.length i)[((s.qx[i_1]!).qG).toNat]!))),uE4,?_,?_,rfl,N,H.pick [0,1] [7,8,9]⟩))))))))))⟩)
  · first | exact applB_set qf (applB_step0 (m:=s.qx.length) qf ‹_›) | exact applB_set qf (applB_step1 (m:=s.qx.length) (n:=s.qw.length) (z:=0) (i:=i) qf ‹_› rfl qf qf qf)
  · omega
 refine zx4 (zcr (sps [.slice zY zn zO,.slice zY zn zO] (zjr (ret1 (.slice zY zn zO) rfl rfl ⟨_,rfl,?_,H.base⟩))))
 obtain rfl:i_1=s.qx.length:=by omega
 exact ⟨zY,zn,zO,rfl,N,H.pick [0] []⟩

theorem l03Halted_ok (w:World) (s:qI) (t:qH) {qC:yOA} {qY:yLN} {qN:yOA} {xF:yLN} {qU:yOA} {xN:yLN} {xm:yOA} {zq:yLN} {qM:yOA} {xE:yLN} (hs:vz w bs os (yS s qC qB qN qJ)) (xf:qO.rep w qY [.slice qC s.qw.length qB] s.qw) (xI:qO.rep w xF [.slice qN s.qx.length qJ] s.qx) (ht:vz w bt ot (yT t qU qP xm xh qM qL)) (zg:qO.rep w xN [.slice qU t.qy.length qP] t.qy) (zI:qO.rep w zq [.slice xm t.qE.length xh] t.qE) (xK:qO.rep w xE [.slice qM t.qA.length qL] t.qA) (p0:yj s) (p1:zH s t):Calls Tryz.prog 90 #[pp bs os,pp bt ot] w (Ret (fun v w' =>v=.bool (dec (Halted s t))) w):=by
 refine en func90 ntmps90 ?_
 have H:=(((((((St.start w).arg xK).arg zI).arg zg).VJ ht).arg xI).arg xf).VJ hs
 have vk:=qK xf
 have jl:=qK xI
 have Qh:=qK zg
 have QW:=qK zI
 have jL:=qK xK
 clear hs xf xI ht zg zI xK
 have N:=Fresh.nil w.heap.size
 have p2:=p0.2.1
 refine zcr (sp (.bool false) (zjc (sps [pp bs os,pp bt ot] ?_)))
 have sz4:=H.base.size
 refine sw (oc (l03Applicable_ok _ s t (qF (H.get 0 rfl) 0 3) (H.get 1 rfl).1 (H.get 2 rfl).1 (qF (H.get 3 rfl) 0 3) (H.get 4 rfl).1 (H.get 5 rfl).1 (H.get 6 rfl).1 qg qg) ?_)
 rintro _ w2 ⟨ra1,rn1,rc1,rfl,M,K⟩ _
 replace H:=H.merge K M
 obtain rfl:=H.rowNB 0 rfl
 have al:=appl_len s t
 refine sp (.slice ra1 ((appl s t).length) rc1) (zjcc (sp (yI 0) (zjn (qW ?_))))
 refine zo (fun m' ρ w7=>∃ (xP:Env) (i:Nat),ρ=upd (upd xP 5 (.slice ra1 ((appl s t).length) rc1)) 6 (yI i)∧((i:Int)≤((appl s t).length))∧(HaltTo s t i)∧m' =(((appl s t).length) - (i:Int)).toNat∧Fresh w.heap.size []∧St w w7 [rr ra1 ((appl s t).length) rc1 4 1 ((appl s t).map (Value.bool))] []) ((((appl s t).length) - (0:Int)).toNat) ⟨_,0,uE2,qf,(by exact fun j hj=>by omega),rfl,N,H.pick [0] []⟩ ?_
 clear H N
 rintro m' ρ w8 ⟨xP,i,rfl,i0,i1,rfl,N,H⟩
 refine zcc (sps [yI i,.slice ra1 ((appl s t).length) rc1] (oN rfl (sp (.bool (decide ((i:Int) < ((appl s t).length)))) (zjn (cD rfl (fun h9=>?_) (fun h9=>?_))))))
 ·skip
  refine qV (t_n (xO (qW (zcr (sps [.slice ra1 ((appl s t).length) rc1,yI i] ?_)))))
  obtain ⟨b10,rfl⟩:=H.Qz 0 rfl qf
  refine oI rfl rfl (oL rfl (H.rowBool 0 rfl (iv:=i) (i:=i) qf qf) (zjn (xH ((appl s t)[i]!) rfl (fun h11=>?_) (fun h11=>?_))))
  ·skip
   refine zcr (sp (.bool false) (zjr (zr5 (ret1 (.bool false) rfl rfl ⟨_,rfl,?_,H.base⟩))))
   rw [xw (fun h=>h i qf (Xc qf ‹_›))]
  refine qV (b_n (t_n (xR (sp (yI i) (sw (zu i 1 rfl rfl qf (sp (yI (i+1)) (xU (qZ (m' :=(((appl s t).length) - ((i+1):Int)).toNat) qf ⟨_,i+1,uE2,?_,?_,rfl,N,H⟩)))))))))
  · omega
  · exact i1.succ (QC qf ‹_›)
 refine zx4 (zcr (sp (.bool true) (zjr (ret1 (.bool true) rfl rfl ⟨_,rfl,?_,H.base⟩))))
 obtain rfl:i=s.qx.length:=by omega
 rw [yu i1]

theorem l03Rest_ok (w:World) (s:qI) (t:qH) (counts:yLI) {qC:yOA} {qY:yLN} {qN:yOA} {xF:yLN} {qU:yOA} {xN:yLN} {xm:yOA} {zq:yLN} {qM:yOA} {xE:yLN} {acounts:yOA} {Fcounts:yLN} (hs:vz w bs os (yS s qC qB qN qJ)) (xf:qO.rep w qY [.slice qC s.qw.length qB] s.qw) (xI:qO.rep w xF [.slice qN s.qx.length qJ] s.qx) (ht:vz w bt ot (yT t qU qP xm xh qM qL)) (zg:qO.rep w xN [.slice qU t.qy.length qP] t.qy) (zI:qO.rep w zq [.slice xm t.qE.length xh] t.qE) (xK:qO.rep w xE [.slice qM t.qA.length qL] t.qA) (hcounts:qO.rep w Fcounts [.slice acounts counts.length ccounts] counts) (p0:yj s) (p1:zH s t) (p2:CntOk s counts):Calls Tryz.prog 180 #[pp bs os,pp bt ot,.slice acounts counts.length ccounts] w (Ret (fun v w' =>∃ (ra0:yOA) (rn0:Nat) (rc0:Nat) (rx0:List Value) (rF0:yLN),v=.tuple #[.slice ra0 rn0 rc0,.bool (dec (IsCh s t counts))]∧Fresh w.heap.size [rF0]∧St w w' [rr ra0 rn0 rc0 22 1 rx0] [zh true rF0 rx0 (Qk s t counts (QR (BadAt s t counts) counts.length))]) w):=by
 refine en func180 ntmps180 ?_
 have H:=((((((((St.start w).arg hcounts).arg xK).arg zI).arg zg).VJ ht).arg xI).arg xf).VJ hs
 have vk:=qK xf
 have jl:=qK xI
 have Qh:=qK zg
 have QW:=qK zI
 have jL:=qK xK
 have nhcounts:=qK hcounts
 clear hs xf xI ht zg zI xK hcounts
 have N:=Fresh.nil w.heap.size
 have p3:=p0.2.1
 have p6:=p2.1
 have p7:=p1.2.1
 have p8:=kinds_le p0
 have p9:=p0.1.2.1
 have p11:jg s=s.qw.length:=rfl
 refine zcr (sps [yN,.bool false] (zjc (sps [pp bs os,pp bt ot] ?_)))
 have sz4:=H.base.size
 refine sw (oc (l03Applicable_ok _ s t (qF (H.get 0 rfl) 0 3) (H.get 1 rfl).1 (H.get 2 rfl).1 (qF (H.get 3 rfl) 0 3) (H.get 4 rfl).1 (H.get 5 rfl).1 (H.get 6 rfl).1 qg qg) ?_)
 rintro _ w2 ⟨ra1,rn1,rc1,rfl,M,K⟩ _
 replace H:=H.merge K M
 obtain rfl:=H.rowNB 0 rfl
 have al:=appl_len s t
 refine sp (.slice ra1 ((appl s t).length) rc1) (zjc (sw (vT H underlying27 ti22 fun b7 w8 H=>sp (.slice (aa b7 0) 0 0) (zjcc (sp (yI 0) (zjn (qW ?_)))))))
 replace H:=H.boxRow 0 rfl 1 0 rfl qj
 replace H:=H.vP (α:=yLI)
 refine zo (fun m' ρ w9=>∃ (xP:Env) (Vl:yOA) (QD:Nat) (Xn:Nat) (rest:yLL) (x_rest:List Value) (F_rest:yLN) (c:Nat),ρ=upd (upd (upd (upd (upd (upd xP 0 (pp bs os)) 1 (pp bt ot)) 2 (.slice acounts counts.length ccounts)) 8 (.slice ra1 ((appl s t).length) rc1)) 9 (.slice Vl QD Xn)) 10 (yI c)∧rest=t.qE.take c∧((c:Int)≤t.qE.length)∧m' =(t.qE.length - (c:Int)).toNat∧Fresh w.heap.size [F_rest]∧St w w9 [rr Vl QD Xn 22 1 x_rest,rr ra1 ((appl s t).length) rc1 4 1 ((appl s t).map (Value.bool))] [zh true F_rest x_rest rest,atF bs os (yS s qC qB qN qJ),sF false qY qC qB s.qw,sF false xF qN qJ s.qx,atF bt ot (yT t qU qP xm xh qM qL),sF false xN qU qP t.qy,sF false zq xm xh t.qE,sF false xE qM qL t.qA,sF false Fcounts acounts ccounts counts]) ((t.qE.length - (0:Int)).toNat) ⟨_,(aa b7 0),0,0,([]:yLL),[],[],0,uE6,(by rfl),qf,rfl,N.emp,H⟩ ?_
 clear H N
 rintro m' ρ w10 ⟨xP,Vl,QD,Xn,rest,x_rest,F_rest,c,rfl,rfl,i0,rfl,N,H⟩
 have hn_rest:=H.zl (α:=yLI) 0 rfl 0 rfl qj
 have p4:=(p1.bagLen (k:=c))
 rw [List.length_take_of_le qf] at hn_rest
 refine zcc (sps [yI c,pp bt ot,pp bt ot] (oF rfl (oL rfl (H.xQ 4 rfl 1 rfl) (oN rfl (sp (.bool (decide ((c:Int) < t.qE.length))) (zjn (cD rfl (fun h11=>?_) (fun h11=>?_))))))))
 ·skip
  refine qV (t_n (xO (qW (xR (sps [.slice Vl QD Xn,pp bt ot,pp bt ot] (oF rfl (oL rfl (H.xQ 4 rfl 1 rfl) (sp (yI c) ?_))))))))
  obtain ⟨b12,o13,rfl⟩:=H.addr 6 rfl qf
  obtain ⟨ae15,ce15,Fe15,H⟩:=H.vN 6 rfl c c qf qf qf
  refine oI rfl rfl (oL rfl (H.xQ 1 rfl 0 rfl) ?_)
  have p5:=(p1.bagLen (k:=c) qf).len
  have sz16:=H.base.size
  have lt17:=H.ltN (L:=[F_rest]) [2]
  refine sw (oc (X0 _ (t.qE[c]!) (H.get 0 rfl).1 qg) ?_)
  rintro v21 w19 r21 x20
  replace H:=H.zB x20 r21
  obtain ⟨a22,c23,rfl,hc24,hm25⟩:=H.jm 0 rfl
  refine sw (zG H underlying27 ti22 [.slice a22 ((t.qE[c]!).length) c23] fun b26 w27 H=>?_)
  obtain ⟨G31,N,hn32,H⟩:=H.vW 1 rfl N (H.jQ [2])
  refine sw (zN H 2 rfl 0 rfl underlying27 ti22 rfl qj rfl rfl rfl (by simp [Value.oneCell',Value.cells]) qp qf fun a28 c29 w30 H=>?_)
  replace H:=H.yB 3 rfl 0 rfl
  replace N:Fresh w.heap.size [(F_rest++G31)]:=(N.pick [1,0]).join
  refine sp (.slice a28 (QD+1) c29) (xU (b_n (t_n (xR (sp (yI c) (sw (zu c 1 rfl rfl qf (sp (yI (c+1)) (xU (qZ (m' :=(t.qE.length - ((c+1):Int)).toNat) qf ⟨_,a28,QD+1,c29,((t.qE.take c)++[(t.qE[c]!)]),x_rest++[.slice a22 ((t.qE[c]!).length) c23],(F_rest++G31),c+1,uE6,?_,?_,rfl,N,H.pick [2,3] [0,5,6,7,8,9,10,11,12]⟩))))))))))
  · exact take_snoc qf
  · omega
 refine zx4 (zcc (sp (yI 0) (zjn (qW ?_))))
 refine zo (fun m' ρ w33=>∃ (xP:Env) (i:Nat) (rest_1:yLL) (x_rest_1:List Value) (YA:yLN),ρ=upd (upd (upd (upd (upd xP 0 (pp bs os)) 2 (.slice acounts counts.length ccounts)) 8 (.slice ra1 ((appl s t).length) rc1)) 9 (.slice Vl QD Xn)) 11 (yI i)∧rest_1=Qk s t counts i∧((i:Int)≤counts.length)∧(GoodTo s t counts i)∧m' =(counts.length - (i:Int)).toNat∧Fresh w.heap.size [YA]∧St w w33 [rr Vl QD Xn 22 1 x_rest_1,rr ra1 ((appl s t).length) rc1 4 1 ((appl s t).map (Value.bool))] [zh true YA x_rest_1 rest_1,atF bs os (yS s qC qB qN qJ),sF false qY qC qB s.qw,sF false xF qN qJ s.qx,sF false Fcounts acounts ccounts counts]) ((counts.length - (0:Int)).toNat) ⟨_,0,(t.qE.take c),x_rest,F_rest,uE5,(by rw [List.take_of_length_le qf];rfl),qf,(by exact fun j hj=>by omega),rfl,N,H.pick [0,1] [0,1,2,3,8]⟩ ?_
 clear H N
 rintro m' ρ w34 ⟨xP,i,rest_1,x_rest_1,YA,rfl,rfl,i0,i1,rfl,N,H⟩
 have hn_rest:=H.zl (α:=yLI) 0 rfl 0 rfl qj
 have rl:=restR_len (s:=s) (t:=t) (counts:=counts) i
 refine zcc (sps [yI i,.slice acounts counts.length ccounts] (oN rfl (sp (.bool (decide ((i:Int) < counts.length))) (zjn (cD rfl (fun h35=>?_) (fun h35=>?_))))))
 ·skip
  have q:=p0.rule (i:=i) qf
  have qc:=q.1
  have qk:=q.cell
  have qr:=q.2.1
  have b1:=q.2.2.2.2.1
  have p10:=p2.bd (i:=i) qf
  refine qV (t_n (xO (qW (zcc (sps [.slice acounts counts.length ccounts,yI i] ?_)))))
  obtain ⟨b36,o37,rfl⟩:=H.addr 4 rfl qf
  refine oI rfl rfl (oL rfl (H.jI 4 rfl i qf qf) (sps [.bool (decide ((counts[i]! :Int) > 0)),.bool (decide ((counts[i]! :Int) > 0))] ?_))
  cases h39:(decide ((counts[i]! :Int) > 0))
  ·skip
   replace h39:=of_decide_eq_false h39
   refine zk [51,52,53,54,55] (sp (.bool false) (zjn (xH false rfl (fun h=>absurd h qj) (fun _=>qV (t_n (zcr (sps [pp bs os,pp bs os] (oF rfl (oL rfl (H.xQ 1 rfl 2 rfl) (sp (yI i) ?_))))))))))
   obtain ⟨b40,o41,rfl⟩:=H.addr 3 rfl qf
   obtain ⟨ae43Need,ce43Need,Fe43Need,ae43Have,ce43Have,Fe43Have,ae43Lack,ce43Lack,Fe43Lack,ae43Here,ce43Here,Fe43Here,ae43Out,ce43Out,Fe43Out,ae43Into,ce43Into,Fe43Into,H⟩:=H.yl 3 rfl i i qf qf qf
   refine oI rfl rfl (oF rfl (oL rfl (H.xQ 6 rfl 0 rfl) (sp (yI ((s.qx[i]!).qG)) (zjn ?_))))
   refine Qu rfl H [1] fun H=>?_
   have S:=H.yD [1] [0,1,2,3,4,5,6,7,8,9,10,11]
   refine rtp 0 (.slice Vl QD Xn) S ?_
   refine rtp 1 (yI ((s.qx[i]!).qG)) S ?_
   refine rtp 2 (.slice Vl QD Xn) S ?_
   refine rtp 3 (yI ((s.qx[i]!).qG)) S ?_
   obtain ⟨b45,rfl⟩:=H.Qz 0 rfl qf
   have S:=H.yD [1] [0,1,2,3,4,5,6,7,8,9,10,11]
   refine tI 4 rfl rfl rfl S ?_
   refine rtp 6 (pp bs os) S ?_
   refine rtp 7 (pp bs os) S ?_
   refine tF 8 rfl rfl S ?_
   refine tL 9 rfl rfl (fun _ h=>h.xQ 8 rfl 2 rfl) S ?_
   refine rtp 10 (yI i) S ?_
   refine tI 11 rfl rfl rfl S ?_
   refine tF 12 rfl rfl S ?_
   refine tL 13 rfl rfl (fun _ h=>h.xQ 6 rfl 2 rfl) S ?_
   refine rtp 14 (.slice (aa b36 o37) counts.length ccounts) S ?_
   refine rtp 15 (yI i) S ?_
   refine tI 16 rfl rfl rfl S ?_
   refine tL 17 rfl rfl (fun _ h=>h.yt 11 rfl i qf) S ?_
   refine rt 18 (yI (-(counts[i]!))) (y_neg (counts[i]!) rfl qf) S ?_
   refine ro 5 rfl ?_
   obtain ⟨a46,c47,G48,s49,h50,H⟩:=H.jW 0 rfl 7 rfl (iv:=(s.qx[i]!).qG) (((s.qx[i]!).qG).toNat) qf qf
   refine zK (.slice a46 (((Qk s t counts i)[((s.qx[i]!).qG).toNat]!).length) c47) isAgg22 rfl (h50) (⟨H.pick [1] [1,2,3,4,5,6,7,8,9,10,11,12],(ro 19 rfl ?_)⟩)
   obtain ⟨u1,u2⟩:=restR_row (c:=(s.qx[i]!).qG.toNat) p0 p1 p2 (show i≤_ by omega) qk
   have u3:=b1.len
   have u4:=b1.yY (t:= -(counts[i]!)) qf
   have sz51:=H.base.size
   have lt52:=H.ltN (L:=[YA]) [8]
   refine oc (X5 _ ((Qk s t counts i)[((s.qx[i]!).qG).toNat]!) ((s.qx[i]!).xk) (-(counts[i]!)) (H.get 0 rfl).1 (H.get 1 rfl).1 qg qg qg) ?_
   rintro v56 w54 r56 x55
   replace H:=H.zB x55 r56
   obtain ⟨a57,c58,rfl,hc59,hm60⟩:=H.jm 0 rfl
   refine ⟨H.pick [2] [1,2,3,4,5,6,7,8,9,10,11,12],(tI 20 rfl rfl rfl (H.pick [2] [1,2,3,4,5,6,7,8,9,10,11,12]) ?_)⟩
   refine ro 21 rfl ?_
   obtain ⟨G62,N,hn63,H⟩:=H.vW 0 rfl N (H.jQ [8])
   refine jH true H 1 rfl 9 rfl (.slice a57 ((jb ((Qk s t counts i)[((s.qx[i]!).qG).toNat]!) ((s.qx[i]!).xk) (-(counts[i]!))).length) c58) 0 rfl rfl sizeOf22 rfl rfl (i:=(((s.qx[i]!).qG).toNat)) qf qf qm fun w61 xs64 F65 hs66 H=>?_
   replace N:Fresh w.heap.size [F65]:=(N.pick [1,0]).repl hs66
   refine ⟨H.pick [2] [3,4,5,6,7,8,9,10,11,12,13,14],(xM qh (b_n (t_n (xR (sp (yI i) (sw (zu i 1 rfl rfl qf (sp (yI (i+1)) (xU (qZ (m' :=(counts.length - ((i+1):Int)).toNat) qf ⟨_,i+1,((Qk s t counts i).set (((s.qx[i]!).qG).toNat) (jb ((Qk s t counts i)[((s.qx[i]!).qG).toNat]!) ((s.qx[i]!).xk) (-(counts[i]!)))),xs64,F65,uE5,?_,?_,?_,rfl,N,H.pick [1,2] [0,11,12,13,14]⟩))))))))))⟩
   · rfl
   · omega
   · exact i1.succ (fun h=>by obtain ⟨u,v⟩:=h;first | omega | exact v (Xc qf ‹_›))
  replace h39:=of_decide_eq_true h39
  refine qQ 50 rfl rfl (sp (.slice ra1 ((appl s t).length) rc1) (qQ 50 rfl rfl (sp (yI i) (qQ 50 rfl rfl ?_))))
  obtain ⟨b67,rfl⟩:=H.Qz 1 rfl qf
  refine oI rfl rfl (qQ 50 rfl rfl (oL rfl (H.rowBool 1 rfl (iv:=i) (i:=i) qf qf) (qQ 50 rfl rfl (sps [.bool (!((appl s t)[i]!)),.bool (!((appl s t)[i]!))] (zjn (xH (!((appl s t)[i]!)) rfl (fun h68=>?_) (fun h68=>?_)))))))
  ·skip
   replace h68:=xn h68
   refine zcr (sps [.slice Vl QD Xn,.slice Vl QD Xn,.bool false] (zjr (t_r (zr5 (ret2 (.slice Vl QD Xn) (.bool false) rfl rfl rfl ⟨_,rfl,?_,H.base⟩)))))
   rw [stop_first (k:=i) i1 qf ⟨by omega,QC qf ‹_›⟩,xw (fun h=>h.1 i qf ⟨by omega,QC qf ‹_›⟩)]
   exact ⟨Vl,QD,Xn,x_rest_1,YA,rfl,N,H.pick [0] [0]⟩
  replace h68:=xg h68
  refine qV (t_n (zcr (sps [pp bs os,pp bs os] (oF rfl (oL rfl (H.xQ 1 rfl 2 rfl) (sp (yI i) ?_))))))
  obtain ⟨b69,o70,rfl⟩:=H.addr 3 rfl qf
  obtain ⟨ae72Need,ce72Need,Fe72Need,ae72Have,ce72Have,Fe72Have,ae72Lack,ce72Lack,Fe72Lack,ae72Here,ce72Here,Fe72Here,ae72Out,ce72Out,Fe72Out,ae72Into,ce72Into,Fe72Into,H⟩:=H.yl 3 rfl i i qf qf qf
  refine oI rfl rfl (oF rfl (oL rfl (H.xQ 6 rfl 0 rfl) (sp (yI ((s.qx[i]!).qG)) (zjn ?_))))
  refine Qu rfl H [1] fun H=>?_
  have S:=H.yD [1] [0,1,2,3,4,5,6,7,8,9,10,11]
  refine rtp 0 (.slice Vl QD Xn) S ?_
  refine rtp 1 (yI ((s.qx[i]!).qG)) S ?_
  refine rtp 2 (.slice Vl QD Xn) S ?_
  refine rtp 3 (yI ((s.qx[i]!).qG)) S ?_
  obtain ⟨b74,rfl⟩:=H.Qz 0 rfl qf
  have S:=H.yD [1] [0,1,2,3,4,5,6,7,8,9,10,11]
  refine tI 4 rfl rfl rfl S ?_
  refine rtp 6 (pp bs os) S ?_
  refine rtp 7 (pp bs os) S ?_
  refine tF 8 rfl rfl S ?_
  refine tL 9 rfl rfl (fun _ h=>h.xQ 8 rfl 2 rfl) S ?_
  refine rtp 10 (yI i) S ?_
  refine tI 11 rfl rfl rfl S ?_
  refine tF 12 rfl rfl S ?_
  refine tL 13 rfl rfl (fun _ h=>h.xQ 6 rfl 2 rfl) S ?_
  refine rtp 14 (.slice (aa b36 o37) counts.length ccounts) S ?_
  refine rtp 15 (yI i) S ?_
  refine tI 16 rfl rfl rfl S ?_
  refine tL 17 rfl rfl (fun _ h=>h.yt 11 rfl i qf) S ?_
  refine rt 18 (yI (-(counts[i]!))) (y_neg (counts[i]!) rfl qf) S ?_
  refine ro 5 rfl ?_
  obtain ⟨a75,c76,G77,s78,h79,H⟩:=H.jW 0 rfl 7 rfl (iv:=(s.qx[i]!).qG) (((s.qx[i]!).qG).toNat) qf qf
  refine zK (.slice a75 (((Qk s t counts i)[((s.qx[i]!).qG).toNat]!).length) c76) isAgg22 rfl (h79) (⟨H.pick [1] [1,2,3,4,5,6,7,8,9,10,11,12],(ro 19 rfl ?_)⟩)
  obtain ⟨u1,u2⟩:=restR_row (c:=(s.qx[i]!).qG.toNat) p0 p1 p2 (show i≤_ by omega) qk
  have u3:=b1.len
  have u4:=b1.yY (t:= -(counts[i]!)) qf
  have sz80:=H.base.size
  have lt81:=H.ltN (L:=[YA]) [8]
  refine oc (X5 _ ((Qk s t counts i)[((s.qx[i]!).qG).toNat]!) ((s.qx[i]!).xk) (-(counts[i]!)) (H.get 0 rfl).1 (H.get 1 rfl).1 qg qg qg) ?_
  rintro v85 w83 r85 x84
  replace H:=H.zB x84 r85
  obtain ⟨a86,c87,rfl,hc88,hm89⟩:=H.jm 0 rfl
  refine ⟨H.pick [2] [1,2,3,4,5,6,7,8,9,10,11,12],(tI 20 rfl rfl rfl (H.pick [2] [1,2,3,4,5,6,7,8,9,10,11,12]) ?_)⟩
  refine ro 21 rfl ?_
  obtain ⟨G91,N,hn92,H⟩:=H.vW 0 rfl N (H.jQ [8])
  refine jH true H 1 rfl 9 rfl (.slice a86 ((jb ((Qk s t counts i)[((s.qx[i]!).qG).toNat]!) ((s.qx[i]!).xk) (-(counts[i]!))).length) c87) 0 rfl rfl sizeOf22 rfl rfl (i:=(((s.qx[i]!).qG).toNat)) qf qf qm fun w90 xs93 F94 hs95 H=>?_
  replace N:Fresh w.heap.size [F94]:=(N.pick [1,0]).repl hs95
  refine ⟨H.pick [2] [3,4,5,6,7,8,9,10,11,12,13,14],(xM qh (b_n (t_n (xR (sp (yI i) (sw (zu i 1 rfl rfl qf (sp (yI (i+1)) (xU (qZ (m' :=(counts.length - ((i+1):Int)).toNat) qf ⟨_,i+1,((Qk s t counts i).set (((s.qx[i]!).qG).toNat) (jb ((Qk s t counts i)[((s.qx[i]!).qG).toNat]!) ((s.qx[i]!).xk) (-(counts[i]!)))),xs93,F94,uE5,?_,?_,?_,rfl,N,H.pick [1,2] [0,11,12,13,14]⟩))))))))))⟩
  · rfl
  · omega
  · exact i1.succ (fun h=>by obtain ⟨u,v⟩:=h;first | omega | exact v (Xc qf ‹_›))
 refine zx4 (zcc (sp (yI 0) (zjn (qW ?_))))
 refine zo (fun m' ρ w96=>∃ (xP:Env) (c_1:Nat),ρ=upd (upd xP 9 (.slice Vl QD Xn)) 13 (yI c_1)∧((c_1:Int)≤QD)∧(NonNeg (Qk s t counts i) c_1)∧m' =(QD - (c_1:Int)).toNat∧Fresh w.heap.size [YA]∧St w w96 [rr Vl QD Xn 22 1 x_rest_1,rr ra1 ((appl s t).length) rc1 4 1 ((appl s t).map (Value.bool))] [zh true YA x_rest_1 (Qk s t counts i)]) ((QD - (0:Int)).toNat) ⟨_,0,uE2,qf,(by exact fun j hj=>by omega),rfl,N,H.pick [0,1] [0]⟩ ?_
 clear H N
 rintro m' ρ w97 ⟨xP,c_1,rfl,i0,i2,rfl,N,H⟩
 refine zcc (sps [yI c_1,.slice Vl QD Xn] (oN rfl (sp (.bool (decide ((c_1:Int) < QD))) (zjn (cD rfl (fun h98=>?_) (fun h98=>?_))))))
 ·skip
  have r1:=(restR_row (c:=c_1) p0 p1 p2 (show i≤_ by omega) (show c_1 < jg s by omega)).1
  refine qV (t_n (xO (qW (zcr (sp (yI 0) (zjn (qW ?_)))))))
  refine zo (fun m' ρ w99=>∃ (xP:Env) (k:Nat),ρ=upd (upd (upd xP 9 (.slice Vl QD Xn)) 13 (yI c_1)) 14 (yI k)∧((k:Int)≤(((Qk s t counts i)[c_1]!).length))∧(∀ j,j < k→0≤((Qk s t counts i)[c_1]!)[j]!)∧m' =((((Qk s t counts i)[c_1]!).length) - (k:Int)).toNat∧Fresh w.heap.size [YA]∧St w w99 [rr Vl QD Xn 22 1 x_rest_1,rr ra1 ((appl s t).length) rc1 4 1 ((appl s t).map (Value.bool))] [zh true YA x_rest_1 (Qk s t counts i)]) (((((Qk s t counts i)[c_1]!).length) - (0:Int)).toNat) ⟨_,0,uE3,qf,(by exact fun j hj=>by omega),rfl,N,H⟩ ?_
  clear H N
  rintro m' ρ w100 ⟨xP,k,rfl,i0,i3,rfl,N,H⟩
  refine zcc (sps [yI k,.slice Vl QD Xn,yI c_1] ?_)
  obtain ⟨b101,rfl⟩:=H.Qz 0 rfl qf
  refine oI rfl rfl ?_
  obtain ⟨a102,c103,G104,s105,h106,H⟩:=H.jW 0 rfl 0 rfl (iv:=c_1) c_1 qf qf
  refine oL rfl (h106) (oN rfl (sp (.bool (decide ((k:Int) < (((Qk s t counts i)[c_1]!).length)))) (zjn (cD rfl (fun h107=>?_) (fun h107=>?_)))))
  ·skip
   refine qV (t_n (xO (qW (zcr (sps [.slice (aa b101 0) QD Xn,yI c_1] (oI rfl rfl ?_))))))
   obtain ⟨a108,c109,G110,s111,h112,H⟩:=H.jW 0 rfl 1 rfl (iv:=c_1) c_1 qf qf
   refine oL rfl (h112) (sp (yI k) ?_)
   obtain ⟨b113,o114,rfl⟩:=H.addr 0 rfl qf
   refine oI rfl rfl (oL rfl (H.jI 0 rfl k qf qf) (sp (.bool (decide ((((Qk s t counts i)[c_1]!)[k]! :Int) < 0))) (zjn (cD rfl (fun h116=>?_) (fun h116=>?_)))))
   ·skip
    refine zcr (sps [.slice (aa b101 0) QD Xn,.slice (aa b101 0) QD Xn,.bool false] (zjr (b_r (t_r (t_r (b_r (zr5 (ret2 (.slice (aa b101 0) QD Xn) (.bool false) rfl rfl rfl ⟨_,rfl,?_,H.base⟩))))))))
    obtain rfl:i=counts.length:=by omega
    rw [stop_none (n:=counts.length) i1,xw (fun h=>by have:=h.2 c_1 qf k qf;omega)]
    exact ⟨(aa b101 0),QD,Xn,x_rest_1,YA,rfl,N,H.pick [0] [2]⟩
   refine qV (b_n (t_n (xR (sp (yI k) (sw (zu k 1 rfl rfl qf (sp (yI (k+1)) (xU (qZ (m' :=((((Qk s t counts i)[c_1]!).length) - ((k+1):Int)).toNat) qf ⟨_,k+1,uE3,?_,?_,rfl,N,H.pick [0,1] [2]⟩)))))))))
   · omega
   · exact fun j hj=>by (by_cases e:j=k;(subst e;omega);exact i3 j qf)
  refine c_exit (t_x (t_x (b_x (b_n (t_n (xR (sp (yI c_1) (sw (zu c_1 1 rfl rfl qf (sp (yI (c_1+1)) (xU (qZ (m' :=(QD - ((c_1+1):Int)).toNat) qf ⟨_,c_1+1,uE2,?_,?_,rfl,N,H.pick [0,1] [1]⟩))))))))))))
  · omega
  · exact i2.succ (fun j hj=>i3 j qf)
 refine zx4 (zcr (sps [.slice Vl QD Xn,.slice Vl QD Xn,.bool true] (zjr (ret2 (.slice Vl QD Xn) (.bool true) rfl rfl rfl ⟨_,rfl,?_,H.base⟩))))
 obtain rfl:i=counts.length:=by omega
 rw [stop_none (n:=counts.length) i1,yu ⟨i1,(show c_1=t.qE.length by omega)▸i2⟩]
 exact ⟨Vl,QD,Xn,x_rest_1,YA,rfl,N,H.pick [0] [0]⟩
theorem l03Step_ok (w:World) (s:qI) (t:qH) (counts:yLI) {qC:yOA} {qY:yLN} {qN:yOA} {xF:yLN} {qU:yOA} {xN:yLN} {xm:yOA} {zq:yLN} {qM:yOA} {xE:yLN} {acounts:yOA} {Fcounts:yLN} (hs:vz w bs os (yS s qC qB qN qJ)) (xf:qO.rep w qY [.slice qC s.qw.length qB] s.qw) (xI:qO.rep w xF [.slice qN s.qx.length qJ] s.qx) (ht:vz w bt ot (yT t qU qP xm xh qM qL)) (zg:qO.rep w xN [.slice qU t.qy.length qP] t.qy) (zI:qO.rep w zq [.slice xm t.qE.length xh] t.qE) (xK:qO.rep w xE [.slice qM t.qA.length qL] t.qA) (hcounts:qO.rep w Fcounts [.slice acounts counts.length ccounts] counts) (p0:yj s) (p1:zH s t) (p2:CntOk s counts):Calls Tryz.prog 144 #[pp bs os,pp bt ot,.slice acounts counts.length ccounts] w (Ret (fun v w' =>∃ (ra0Alive:yOA) (rn0Alive:Nat) (rc0Alive:Nat) (ra0Bags:yOA) (rn0Bags:Nat) (rc0Bags:Nat) (rx0Bags:List Value) (rF0Bags:yLN) (ra0Around:yOA) (rn0Around:Nat) (rc0Around:Nat),v=.tuple #[.agg #[.slice ra0Alive rn0Alive rc0Alive,.slice ra0Bags rn0Bags rc0Bags,.slice ra0Around rn0Around rc0Around],yI ((zA s t counts).2)]∧Fresh w.heap.size [rF0Bags]∧St w w' [rr ra0Alive rn0Alive rc0Alive 4 1 ((((zA s t counts).1).qy).map (Value.bool)),rr ra0Bags rn0Bags rc0Bags 22 1 rx0Bags,rr ra0Around rn0Around rc0Around 2 1 ((((zA s t counts).1).qA).map (Value.int .i64))] [zh true rF0Bags rx0Bags (((zA s t counts).1).qE)]) w):=by
 refine en func144 ntmps144 ?_
 have H:=((((((((St.start w).arg hcounts).arg xK).arg zI).arg zg).VJ ht).arg xI).arg xf).VJ hs
 have vk:=qK xf
 have jl:=qK xI
 have Qh:=qK zg
 have QW:=qK zI
 have jL:=qK xK
 have nhcounts:=qK hcounts
 clear hs xf xI ht zg zI xK hcounts
 have N:=Fresh.nil w.heap.size
 have p3:=p0.2.1
 have p6:=p2.1
 have p7:=p1.2.1
 have p8:=kinds_le p0
 have p9:=p0.1.2.1
 have p11:jg s=s.qw.length:=rfl
 have p12:=p1.1
 have p15:=p0.1
 have p16:=p0.1.1
 obtain ⟨q7,q8,q9,q10⟩:=p1.sizes p0.1
 have q13:=fun k hk=>Nat.le_trans (q10 k hk) (by decide:8≤1000000)
 have p14:=restR_len (s:=s) (t:=t) (counts:=counts)
 refine zcr (sw (xX H ti38 [yN,yN,yN] fun b1 w2 H=>sp (yI 0) (zjc (sps [pp bs os,pp bt ot,.slice acounts counts.length ccounts] ?_))))
 have sz6:=H.base.size
 refine sw (oc (l03Rest_ok _ s t counts (qF (H.get 0 rfl) 0 3) (H.get 1 rfl).1 (H.get 2 rfl).1 (qF (H.get 3 rfl) 0 3) (H.get 4 rfl).1 (H.get 5 rfl).1 (H.get 6 rfl).1 (H.get 7 rfl).1 qg qg qg) ?_)
 rintro _ w4 ⟨ra3a,rn3a,rc3a,rx3a,rF3a,rfl,M,K⟩ _
 replace N:=N.merge sz6 qm M
 replace H:=H.merge K M
 obtain rfl:=H.zl (α:=yLI) 0 rfl 0 rfl qj
 refine sps [.tuple #[.slice ra3a ((Qk s t counts (QR (BadAt s t counts) counts.length)).length) rc3a,.bool (dec (IsCh s t counts))],.slice ra3a ((Qk s t counts (QR (BadAt s t counts) counts.length)).length) rc3a,.bool (dec (IsCh s t counts)),.slice ra3a ((Qk s t counts (QR (BadAt s t counts) counts.length)).length) rc3a,.bool (dec (IsCh s t counts))] (zjcc (sps [.bool (dec (IsCh s t counts)),.bool (!(dec (IsCh s t counts)))] (zjn (cQ rfl (fun h9=>?_) (fun h9=>?_)))))
 ·skip
  refine zcr (sw (jr [yN,yN,yN] [] (sw (zt H 1 [yN,yN,yN] sizeOf38 fun w10 H=>sp (yI 4) (zjr (t_r ?_))))))
  replace H:=H.nilRowB 4
  replace H:=H.nilRow 22 1
  replace H:=H.vP (α:=yLI)
  replace H:=H.nilRowI 2
  refine retC2 H 4 rfl (yI 4) rfl isAgg38 sizeOf38 rfl rfl ⟨_,rfl,?_,H.base⟩
  rw [stepBy_no ‹_›]
  exact ⟨none,0,0,none,0,0,[],[],none,0,0,rfl,(N.emp.pick [0]),H.pick [2,1,0] [0]⟩
 have st:=stop_none (n:=counts.length) (P:=BadAt s t counts) (‹IsCh s t counts›).1
 have r1:=restR_len (s:=s) (t:=t) (counts:=counts) (QR (BadAt s t counts) counts.length)
 refine qV (t_n (zcr (sp (pp bt ot) ?_)))
 have sz14:=H.base.size
 have lt15:=H.ltN (L:=[rF3a]) [0]
 refine sw (oc (l02Own_ok _ t (qF (H.get 4 rfl) 0 3) (H.get 5 rfl).1 (H.get 6 rfl).1 (H.get 7 rfl).1 qg qg qg qg) ?_)
 rintro _ w12 ⟨Qa,rn11Alive,yZ,ra11Bags,rn11Bags,rc11Bags,Yw,yC,ra11Around,rn11Around,rc11Around,rfl,M,K⟩ _
 replace N:=N.merge sz14 lt15 M
 replace H:=H.merge K M
 obtain rfl:=H.rowNB 0 rfl
 obtain rfl:=H.zl (α:=yLI) 1 rfl 0 rfl qj
 obtain rfl:=H.YG 2 rfl
 refine sw (xX H ti38 [yN,yN,yN] fun b19 w20 H=>sw (zt H 0 (yT t Qa yZ ra11Bags rc11Bags ra11Around rc11Around) sizeOf38 fun w21 H=>zjc (sp (.slice ra3a ((Qk s t counts (QR (BadAt s t counts) counts.length)).length) rc3a) (oF rfl (sw (zF H 0 [.slice Qa t.qy.length yZ,.slice ra3a ((Qk s t counts (QR (BadAt s t counts) counts.length)).length) rc3a,.slice ra11Around t.qA.length rc11Around] sizeOf27 fun w22 H=>zjcc (sp (yI 0) ?_)))))))
 refine zjn (qW ?_)
 refine zo (fun m' ρ w23=>∃ (xP:Env) (i:Nat) (ja:yOA) (vY:Nat) (vZ:Nat) (out_Around:yLI) (rest:yLL) (x_rest:List Value) (F_rest:yLN),ρ=upd (upd (upd (upd (upd (upd xP 0 (pp bs os)) 1 (pp bt ot)) 2 (.slice acounts counts.length ccounts)) 6 (pp b1 0)) 10 (pp b19 0)) 11 (yI i)∧((i:Int)≤counts.length)∧(Ent (s.qw.length+1) (QL s) (fun p q=>base0 s t p q+needS s counts s.qx.length p q+putS s t counts i p q) (20000000+6000000 * i) (rest++[out_Around]))∧(rest.length=s.qw.length)∧m' =(counts.length - (i:Int)).toNat∧Fresh w.heap.size [yC,F_rest]∧St w w23 [.box b19 [.slice Qa t.qy.length yZ,.slice ra3a ((Qk s t counts (QR (BadAt s t counts) counts.length)).length) rc3a,.slice ja vY vZ] 38,rr Qa t.qy.length yZ 4 1 (t.qy.map (Value.bool)),rr ra11Bags t.qE.length rc11Bags 22 1 Yw,rr ja vY vZ 2 1 (out_Around.map (Value.int .i64)),rr ra3a ((Qk s t counts (QR (BadAt s t counts) counts.length)).length) rc3a 22 1 x_rest,.box b1 [yN,yN,yN] 38] [zh true yC Yw t.qE,zh true F_rest x_rest rest,atF bs os (yS s qC qB qN qJ),sF false qY qC qB s.qw,sF false xF qN qJ s.qx,atF bt ot (yT t qU qP xm xh qM qL),sF false xN qU qP t.qy,sF false zq xm xh t.qE,sF false xE qM qL t.qA,sF false Fcounts acounts ccounts counts]) ((counts.length - (0:Int)).toNat) ⟨_,0,ra11Around,t.qA.length,rc11Around,t.qA,Qk s t counts (QR (BadAt s t counts) counts.length),rx3a,rF3a,uE6,qf,(by rw [st,p6];exact (rest_ent p0 p1 p2).to (fun _ _=>rfl) qf),qf,rfl,N,H⟩ ?_
 clear H N
 rintro m' ρ w24 ⟨xP,i,ja,vY,vZ,out_Around,rest,x_rest,F_rest,rfl,i0,E_rest,z_rest,rfl,N,H⟩
 have hn_out_Around:=H.YG 3 rfl
 have hn_rest:=H.zl (α:=yLI) 4 rfl 1 rfl qj
 refine zcc (sps [yI i,.slice acounts counts.length ccounts] (oN rfl (sp (.bool (decide ((i:Int) < counts.length))) (zjn (cD rfl (fun h25=>?_) (fun h25=>?_))))))
 ·skip
  have q:=p0.rule (i:=i) qf
  have qc:=q.1
  have qk:=q.cell
  have qr:=q.2.1
  have bn1:=q.2.2.2.2.1
  have bn2:=q.2.2.2.2.2.2.2.1
  have bn3:=q.2.2.2.2.2.2.2.2.1
  have ln1:=bn1.len
  have ln2:=bn2.len
  have ln3:=bn3.len
  have p10:=p2.bd (i:=i) qf
  have qn:=q.2.2.2.1
  refine qV (t_n (xO (qW (zcr (sps [pp bs os,pp bs os] (oF rfl (oL rfl (H.xQ 2 rfl 2 rfl) (sp (yI i) ?_))))))))
  obtain ⟨b26,o27,rfl⟩:=H.addr 4 rfl qf
  obtain ⟨ae29Need,ce29Need,Fe29Need,ae29Have,ce29Have,Fe29Have,ae29Lack,ce29Lack,Fe29Lack,ae29Here,ce29Here,Fe29Here,ae29Out,ce29Out,Fe29Out,ae29Into,ce29Into,Fe29Into,H⟩:=H.yl 4 rfl i i qf qf qf
  refine oI rfl rfl (sp (pp b26 (o27+(i:Int).toNat * 9)) (zjcc (sps [.slice acounts counts.length ccounts,yI i] ?_)))
  obtain ⟨b30,o31,rfl⟩:=H.addr 16 rfl qf
  refine oI rfl rfl (oL rfl (H.jI 16 rfl i qf qf) (sp (.bool ((counts[i]! :Int) == 0)) (zjn (cE rfl (fun h33=>?_) (fun h33=>?_)))))
  ·skip
   refine c_exit (t_x (b_x (t_n (xR (sp (yI i) (sw (zu i 1 rfl rfl qf (sp (yI (i+1)) (xU (qZ (m' :=(counts.length - ((i+1):Int)).toNat) qf ⟨_,i+1,ja,vY,vZ,out_Around,rest,x_rest,F_rest,uE6,?_,?_,?_,rfl,N,H.pick [0,1,2,3,4,5] [7,8,9,10,11,12,13,14,15,16]⟩))))))))))
   · omega
   · first | exact E_rest.to (fun p q=>by simp only [putS_skip (s:=s) (t:=t) (counts:=counts) (i:=i) ‹_›]) qf | exact E_out_Bags.to (fun p q=>by rw [show k=((s.qx[i]!).qR).length by omega];simp only [putS,putF];omega) qf
   · omega
  refine qV (t_n (xO ?_))
  refine Qu rfl H [0,1,2,3,5] fun H=>?_
  have S:=H.yD [0,1,2,3,5] [0,1,2,3,4,5,6,7,8,9,10,11,12,13,14,15,16]
  refine tF 0 rfl rfl S ?_
  refine tL 1 rfl rfl (fun _ h=>h.cell 0 rfl rfl) S ?_
  refine rtp 2 (pp b26 (o27+(i:Int).toNat * 9)) S ?_
  refine rtp 3 (pp b26 (o27+(i:Int).toNat * 9)) S ?_
  refine tF 4 rfl rfl S ?_
  refine tL 5 rfl rfl (fun _ h=>h.xQ 6 rfl 0 rfl) S ?_
  refine tF 6 rfl rfl S ?_
  refine tL 7 rfl rfl (fun _ h=>h.cell 0 rfl rfl) S ?_
  refine rtp 8 (pp b26 (o27+(i:Int).toNat * 9)) S ?_
  refine rtp 9 (pp b26 (o27+(i:Int).toNat * 9)) S ?_
  refine tF 10 rfl rfl S ?_
  refine tL 11 rfl rfl (fun _ h=>h.xQ 6 rfl 0 rfl) S ?_
  obtain ⟨b35,rfl⟩:=H.Qz 4 rfl qf
  have S:=H.yD [0,1,2,3,5] [0,1,2,3,4,5,6,7,8,9,10,11,12,13,14,15,16]
  refine tI 12 rfl rfl rfl S ?_
  refine rtp 14 (pp b26 (o27+(i:Int).toNat * 9)) S ?_
  refine rtp 15 (pp b26 (o27+(i:Int).toNat * 9)) S ?_
  refine tF 16 rfl rfl S ?_
  refine tL 17 rfl rfl (fun _ h=>h.xQ 6 rfl 5 rfl) S ?_
  refine rtp 18 (.slice (aa b30 o31) counts.length ccounts) S ?_
  refine rtp 19 (yI i) S ?_
  refine tI 20 rfl rfl rfl S ?_
  refine tL 21 rfl rfl (fun _ h=>h.yt 16 rfl i qf) S ?_
  refine ro 13 rfl ?_
  obtain ⟨a36,c37,G38,s39,h40,H⟩:=H.jW 4 rfl 8 rfl (iv:=(s.qx[i]!).qG) (((s.qx[i]!).qG).toNat) qf qf
  refine zK (.slice a36 ((rest[((s.qx[i]!).qG).toNat]!).length) c37) isAgg22 rfl (h40) (⟨H.pick [0,1,2,3,5] [1,2,3,4,5,6,7,8,9,10,11,12,13,14,15,16,17],(ro 22 rfl ?_)⟩)
  obtain ⟨u1,u2⟩:=Ent.rowL E_rest (c:=((s.qx[i]!).qG).toNat) qf qf qf qf
  have u4:=(by first | exact bn2.yY qf | exact bn3.yY qf | exact bn4.yY qf:SmallT ((s.qx[i]!).xJ) (counts[i]!))
  have sz41:=H.base.size
  have lt42:=H.ltN (L:=[yC,F_rest]) [8,9]
  refine oc (X5 _ (rest[((s.qx[i]!).qG).toNat]!) ((s.qx[i]!).xJ) (counts[i]!) (H.get 0 rfl).1 (H.get 4 rfl).1 qg qg qg) ?_
  rintro v46 w44 r46 x45
  replace H:=H.zB x45 r46
  obtain ⟨a47,c48,rfl,hc49,hm50⟩:=H.jm 0 rfl
  refine ⟨H.pick [1,2,3,4,6] [1,2,3,4,5,6,7,8,9,10,11,12,13,14,15,16,17],(tI 23 rfl rfl rfl (H.pick [1,2,3,4,6] [1,2,3,4,5,6,7,8,9,10,11,12,13,14,15,16,17]) ?_)⟩
  refine ro 24 rfl ?_
  obtain ⟨G52,N,hn53,H⟩:=H.vW 0 rfl N (H.jQ [8,9])
  refine jH true H 5 rfl 10 rfl (.slice a47 ((jb (rest[((s.qx[i]!).qG).toNat]!) ((s.qx[i]!).xJ) (counts[i]!)).length) c48) 0 rfl rfl sizeOf22 rfl rfl (i:=(((s.qx[i]!).qG).toNat)) qf qf qm fun w51 xs54 F55 hs56 H=>?_
  replace N:Fresh w.heap.size [F55,yC]:=(N.pick [2,0,1]).repl hs56
  refine ⟨H.pick [1,2,3,4,6] [3,4,5,6,7,8,9,10,11,12,13,14,15,16,17,18,19],(xM qh (t_n (zcc (sps [pp b26 (o27+(i:Int).toNat * 9),pp b26 (o27+(i:Int).toNat * 9)] (oF rfl (oL rfl (H.xQ 9 rfl 0 rfl) (sp (.bool (((s.qx[i]!).qG:Int) == 0)) (zjn (cE rfl (fun h57=>?_) (fun h57=>?_))))))))))⟩
  ·skip
   obtain ⟨bg58,e_bg58⟩:∃ z,z=(rest.set (((s.qx[i]!).qG).toNat) (jb (rest[((s.qx[i]!).qG).toNat]!) ((s.qx[i]!).xJ) (counts[i]!))):=⟨_,rfl⟩
   rw [← e_bg58] at H
   have E_bg58:=Ent.addL (D:=1000000) E_rest e_bg58 qf qf (by first | exact bn2.mul qf | exact bn3.mul qf | exact bn4.mul qf) qf
   have z_bg58:bg58.length=s.qw.length:=by rw [e_bg58,List.length_set];omega
   have E_cur:=E_bg58
   refine Qu rfl H [0,2,3,4,5,6] fun H=>?_
   have S:=H.yD [0,2,3,4,5,6] [0,1,2,3,4,5,6,7,8,9,10,11,12,13,14,15,16,17,18,19]
   refine tF 0 rfl rfl S ?_
   refine rtp 2 (pp b26 (o27+(i:Int).toNat * 9)) S ?_
   refine rtp 3 (pp b26 (o27+(i:Int).toNat * 9)) S ?_
   refine tF 4 rfl rfl S ?_
   refine tL 5 rfl rfl (fun _ h=>h.xQ 9 rfl 6 rfl) S ?_
   refine rtp 6 (.slice (aa b30 o31) counts.length ccounts) S ?_
   refine rtp 7 (yI i) S ?_
   refine tI 8 rfl rfl rfl S ?_
   refine tL 9 rfl rfl (fun _ h=>h.yt 19 rfl i qf) S ?_
   refine ro 1 rfl (zK (.slice ja vY vZ) isAgg22 rfl (H.cell 1 rfl rfl) (⟨H.pick [0,2,3,4,5,6] [0,1,2,3,4,5,6,7,8,9,10,11,12,13,14,15,16,17,18,19],(ro 10 rfl ?_)⟩))
   obtain ⟨G60,hn61,h62⟩:=H.rowIsI 4 rfl
   obtain ⟨u1,u2⟩:=Ent.rowN E_bg58 qf qf qf
   have u4:=(by first | exact bn2.yY qf | exact bn3.yY qf | exact bn4.yY qf:SmallT ((s.qx[i]!).zT) (counts[i]!))
   have sz63:=H.base.size
   have lt64:=H.ltN (L:=[F55,yC]) [0,10]
   refine oc (args_eq (by rw [← hn61]) (X5 _ out_Around ((s.qx[i]!).zT) (counts[i]!) (hn61▸h62) (H.get 7 rfl).1 qg qg qg)) ?_
   rintro v68 w66 r68 x67
   replace H:=H.zB x67 r68
   obtain ⟨a69,c70,rfl,hc71,hm72⟩:=H.jm 0 rfl
   refine ⟨H.pick [1,3,4,5,6,7] [0,1,2,3,4,5,6,7,8,9,10,11,12,13,14,15,16,17,18,19],(tF 11 rfl rfl (H.pick [1,3,4,5,6,7] [0,1,2,3,4,5,6,7,8,9,10,11,12,13,14,15,16,17,18,19]) ?_)⟩
   refine ro 12 rfl (zF H 2 [.slice Qa t.qy.length yZ,.slice (aa b35 0) ((Qk s t counts (QR (BadAt s t counts) counts.length)).length) rc3a,.slice a69 ((jb out_Around ((s.qx[i]!).zT) (counts[i]!)).length) c70] sizeOf22 fun w73 H=>⟨H.pick [1,3,4,5,6,7] [0,1,2,3,4,5,6,7,8,9,10,11,12,13,14,15,16,17,18,19],(xM qh (t_n (zcr (sp (yI 0) (zjn (qW ?_))))))⟩)
   replace E_bg58:=Ent.addN (D:=1000000) (a' :=jb out_Around ((s.qx[i]!).zT) (counts[i]!)) E_bg58 rfl qf (by first | exact bn2.mul qf | exact bn3.mul qf | exact bn4.mul qf) qf
   have E_cur:=E_bg58
   refine zo (fun m' ρ w74=>∃ (xP:Env) (k:Nat) (out_Bags:yLL) (zM:List Value) (xZ:yLN),ρ=upd (upd (upd (upd (upd (upd (upd (upd xP 0 (pp bs os)) 1 (pp bt ot)) 2 (.slice (aa b30 o31) counts.length ccounts)) 6 (pp b1 0)) 10 (pp b19 0)) 11 (yI i)) 12 (pp b26 (o27+(i:Int).toNat * 9))) 14 (yI k)∧((k:Int)≤(((s.qx[i]!).qR).length))∧(Ent (s.qw.length+1) (QL s) (fun p q=>base0 s t p q+needS s counts s.qx.length p q+putS s t counts i p q+at' p (s.qx[i]!).qG.toNat (counts[i]! * ((s.qx[i]!).xJ)[q]!)+at' p (outPl s t (s.qx[i]!)) (counts[i]! * ((s.qx[i]!).zT)[q]!)+intoF (s.qx[i]!) (counts[i]!) k p q) (22000000+6000000 * i+1000000 * k) (out_Bags++[jb out_Around ((s.qx[i]!).zT) (counts[i]!)]))∧(out_Bags.length=s.qw.length)∧m' =((((s.qx[i]!).qR).length) - (k:Int)).toNat∧Fresh w.heap.size [yC,xZ]∧St w w74 [rr a69 ((jb out_Around ((s.qx[i]!).zT) (counts[i]!)).length) c70 2 1 ((jb out_Around ((s.qx[i]!).zT) (counts[i]!)).map (Value.int .i64)),.box b19 [.slice Qa t.qy.length yZ,.slice (aa b35 0) ((Qk s t counts (QR (BadAt s t counts) counts.length)).length) rc3a,.slice a69 ((jb out_Around ((s.qx[i]!).zT) (counts[i]!)).length) c70] 38,rr Qa t.qy.length yZ 4 1 (t.qy.map (Value.bool)),rr ra11Bags t.qE.length rc11Bags 22 1 Yw,rr ja vY vZ 2 1 (out_Around.map (Value.int .i64)),rr (aa b35 0) ((Qk s t counts (QR (BadAt s t counts) counts.length)).length) rc3a 22 1 zM,.box b1 [yN,yN,yN] 38] [zh true xZ zM out_Bags,sF false Fe29Need ae29Need ce29Need ((s.qx[i]!).xk),sF false Fe29Have ae29Have ce29Have ((s.qx[i]!).xB),sF false Fe29Lack ae29Lack ce29Lack ((s.qx[i]!).xG),sF false Fe29Here ae29Here ce29Here ((s.qx[i]!).xJ),sF false Fe29Out ae29Out ce29Out ((s.qx[i]!).zT),sF false Fe29Into ae29Into ce29Into ((s.qx[i]!).qR),atF b26 (o27+(i:Int).toNat * 9) [yI ((s.qx[i]!).qG),yI ((s.qx[i]!).zJ),.slice ae29Need (((s.qx[i]!).xk).length) ce29Need,.slice ae29Have (((s.qx[i]!).xB).length) ce29Have,.slice ae29Lack (((s.qx[i]!).xG).length) ce29Lack,.slice ae29Here (((s.qx[i]!).xJ).length) ce29Here,.slice ae29Out (((s.qx[i]!).zT).length) ce29Out,.slice ae29Into (((s.qx[i]!).qR).length) ce29Into,.bool ((s.qx[i]!).zy)],zh true yC Yw t.qE,atF bs os [yI s.xA,.slice qC s.qw.length qB,.slice (aa b26 o27) s.qx.length qJ],sF false qY qC qB s.qw,sF false xF (aa b26 o27) qJ s.qx,atF bt ot (yT t qU qP xm xh qM qL),sF false xN qU qP t.qy,sF false zq xm xh t.qE,sF false xE qM qL t.qA,sF false Fcounts (aa b30 o31) ccounts counts]) (((((s.qx[i]!).qR).length) - (0:Int)).toNat) ⟨_,0,bg58,xs54,F55,uE8,qf,(by exact E_cur.to (fun p q=>by first | (simp only [intoF,outPl_root (s:=s) (t:=t) (r:=s.qx[i]!) ‹_›,jg];omega) | (simp only [intoF,outPl_up (s:=s) (t:=t) (r:=s.qx[i]!) ‹_›];omega)) qf),qf,rfl,(N.pick [1,0]),H.pick [0,2,3,4,5,6,7] [0,3,4,5,6,7,8,9,10,12,13,14,15,16,17,18,19]⟩ ?_
   clear H N
   rintro m' ρ w75 ⟨xP,k,out_Bags,zM,xZ,rfl,i0,E_out_Bags,z_out_Bags,rfl,N,H⟩
   have YJ:=H.zl (α:=yLI) 5 rfl 0 rfl qj
   refine zcc (sps [yI k,pp b26 (o27+(i:Int).toNat * 9),pp b26 (o27+(i:Int).toNat * 9)] (oF rfl (oL rfl (H.xQ 7 rfl 7 rfl) (oN rfl (sp (.bool (decide ((k:Int) < (((s.qx[i]!).qR).length)))) (zjn (cD rfl (fun h76=>?_) (fun h76=>?_))))))))
   ·skip
    have qi:=q.2.2.2.2.2.2.2.2.2.2 k qf
    have qi1:=qi.1
    have bn4:=qi.2.2.1
    have ln4:=bn4.len
    refine qV (t_n (xO (qW (zcr (sps [pp b26 (o27+(i:Int).toNat * 9),pp b26 (o27+(i:Int).toNat * 9)] (oF rfl (oL rfl (H.xQ 7 rfl 7 rfl) (sp (yI k) ?_))))))))
    obtain ⟨b77,o78,rfl⟩:=H.addr 6 rfl qf
    obtain ⟨ae80Bag,ce80Bag,Fe80Bag,H⟩:=H.jR 6 rfl k k qf qf qf
    refine oI rfl rfl (oF rfl (oL rfl (H.xQ 1 rfl 0 rfl) (sp (yI ((((s.qx[i]!).qR)[k]!).qG)) (zjn ?_))))
    refine Qu rfl H [0,1,2,3,4,6] fun H=>?_
    have S:=H.yD [0,1,2,3,4,6] [0,1,2,3,4,5,6,7,8,9,10,11,12,13,14,15,16,17,18]
    refine tF 0 rfl rfl S ?_
    refine tL 1 rfl rfl (fun _ h=>h.cell 1 rfl rfl) S ?_
    refine rtp 2 (yI ((((s.qx[i]!).qR)[k]!).qG)) S ?_
    refine tF 3 rfl rfl S ?_
    refine tL 4 rfl rfl (fun _ h=>h.cell 1 rfl rfl) S ?_
    refine rtp 5 (yI ((((s.qx[i]!).qR)[k]!).qG)) S ?_
    refine tI 6 rfl rfl rfl S ?_
    refine rtp 8 (pp b26 (o27+(i:Int).toNat * 9)) S ?_
    refine rtp 9 (pp b26 (o27+(i:Int).toNat * 9)) S ?_
    refine tF 10 rfl rfl S ?_
    refine tL 11 rfl rfl (fun _ h=>h.xQ 9 rfl 7 rfl) S ?_
    refine rtp 12 (yI k) S ?_
    refine tI 13 rfl rfl rfl S ?_
    refine tF 14 rfl rfl S ?_
    refine tL 15 rfl rfl (fun _ h=>h.xQ 1 rfl 1 rfl) S ?_
    refine rtp 16 (.slice (aa b30 o31) counts.length ccounts) S ?_
    refine rtp 17 (yI i) S ?_
    refine tI 18 rfl rfl rfl S ?_
    refine tL 19 rfl rfl (fun _ h=>h.yt 18 rfl i qf) S ?_
    refine ro 7 rfl ?_
    obtain ⟨a82,c83,G84,s85,h86,H⟩:=H.jW 5 rfl 2 rfl (iv:=(((s.qx[i]!).qR)[k]!).qG) (((((s.qx[i]!).qR)[k]!).qG).toNat) qf qf
    refine zK (.slice a82 ((out_Bags[((((s.qx[i]!).qR)[k]!).qG).toNat]!).length) c83) isAgg22 rfl (h86) (⟨H.pick [0,1,2,3,4,6] [1,2,3,4,5,6,7,8,9,10,11,12,13,14,15,16,17,18,19],(ro 20 rfl ?_)⟩)
    obtain ⟨u1,u2⟩:=Ent.rowL E_out_Bags (c:=((((s.qx[i]!).qR)[k]!).qG).toNat) qf qf qf qf
    have u4:=(by first | exact bn2.yY qf | exact bn3.yY qf | exact bn4.yY qf:SmallT ((((s.qx[i]!).qR)[k]!).jw) (counts[i]!))
    have sz87:=H.base.size
    have lt88:=H.ltN (L:=[yC,xZ]) [11,3]
    refine oc (X5 _ (out_Bags[((((s.qx[i]!).qR)[k]!).qG).toNat]!) ((((s.qx[i]!).qR)[k]!).jw) (counts[i]!) (H.get 0 rfl).1 (H.get 1 rfl).1 qg qg qg) ?_
    rintro v92 w90 r92 x91
    replace H:=H.zB x91 r92
    obtain ⟨a93,c94,rfl,hc95,hm96⟩:=H.jm 0 rfl
    refine ⟨H.pick [1,2,3,4,5,7] [1,2,3,4,5,6,7,8,9,10,11,12,13,14,15,16,17,18,19],(tI 21 rfl rfl rfl (H.pick [1,2,3,4,5,7] [1,2,3,4,5,6,7,8,9,10,11,12,13,14,15,16,17,18,19]) ?_)⟩
    refine ro 22 rfl ?_
    obtain ⟨G98,N,hn99,H⟩:=H.vW 0 rfl N (H.jQ [11,3])
    refine jH true H 6 rfl 4 rfl (.slice a93 ((jb (out_Bags[((((s.qx[i]!).qR)[k]!).qG).toNat]!) ((((s.qx[i]!).qR)[k]!).jw) (counts[i]!)).length) c94) 0 rfl rfl sizeOf22 rfl rfl (i:=(((((s.qx[i]!).qR)[k]!).qG).toNat)) qf qf qm fun w97 xs100 F101 hs102 H=>?_
    replace N:Fresh w.heap.size [F101,yC]:=(N.pick [2,0,1]).repl hs102
    refine ⟨H.pick [1,2,3,4,5,7] [3,4,5,6,7,8,9,10,11,12,13,14,15,16,17,18,19,20,21],(xM qh (b_n (t_n (xR (sp (yI k) (sw (zu k 1 rfl rfl qf (sp (yI (k+1)) (xU ?_)))))))))⟩
    obtain ⟨bg103,e_bg103⟩:∃ z,z=(out_Bags.set (((((s.qx[i]!).qR)[k]!).qG).toNat) (jb (out_Bags[((((s.qx[i]!).qR)[k]!).qG).toNat]!) ((((s.qx[i]!).qR)[k]!).jw) (counts[i]!))):=⟨_,rfl⟩
    rw [← e_bg103] at H
    have E_bg103:=Ent.addL (D:=1000000) E_out_Bags e_bg103 qf qf (by first | exact bn2.mul qf | exact bn3.mul qf | exact bn4.mul qf) qf
    have z_bg103:bg103.length=s.qw.length:=by rw [e_bg103,List.length_set];omega
    have E_cur:=E_bg103
    refine qZ (m' :=((((s.qx[i]!).qR).length) - ((k+1):Int)).toNat) qf ⟨_,k+1,bg103,xs100,F101,uE8,?_,?_,?_,rfl,(N.pick [1,0]),H.pick [1,2,3,4,5,6,7] [0,6,7,8,9,10,11,12,13,14,15,16,17,18,19,20,21]⟩
    · omega
    · exact E_cur.to (fun p q=>by simp only [intoF];omega) qf
    · omega
   refine c_exit (t_x (t_x (b_x (b_n (t_n (xR (sp (yI i) (sw (zu i 1 rfl rfl qf (sp (yI (i+1)) (xU (qZ (m' :=(counts.length - ((i+1):Int)).toNat) qf ⟨_,i+1,a69,(jb out_Around ((s.qx[i]!).zT) (counts[i]!)).length,c70,jb out_Around ((s.qx[i]!).zT) (counts[i]!),out_Bags,zM,xZ,uE6,?_,?_,?_,rfl,N,H.pick [1,2,3,0,5,6] [8,0,9,10,11,12,13,14,15,16]⟩))))))))))))
   · omega
   · first | exact E_rest.to (fun p q=>by simp only [putS_skip (s:=s) (t:=t) (counts:=counts) (i:=i) ‹_›]) qf | exact E_out_Bags.to (fun p q=>by rw [show k=((s.qx[i]!).qR).length by omega];simp only [putS,putF];omega) qf
   · omega
  obtain ⟨bg104,e_bg104⟩:∃ z,z=(rest.set (((s.qx[i]!).qG).toNat) (jb (rest[((s.qx[i]!).qG).toNat]!) ((s.qx[i]!).xJ) (counts[i]!))):=⟨_,rfl⟩
  rw [← e_bg104] at H
  have E_bg104:=Ent.addL (D:=1000000) E_rest e_bg104 qf qf (by first | exact bn2.mul qf | exact bn3.mul qf | exact bn4.mul qf) qf
  have z_bg104:bg104.length=s.qw.length:=by rw [e_bg104,List.length_set];omega
  have E_cur:=E_bg104
  refine zcr (sps [pp bs os,pp bt ot,pp b26 (o27+(i:Int).toNat * 9),pp b26 (o27+(i:Int).toNat * 9)] (oF rfl (oL rfl (H.xQ 9 rfl 0 rfl) (sw (oq (l02Parent_ok _ s t ((s.qx[i]!).qG) (qF (H.get 12 rfl) 0 3) (H.get 13 rfl).1 (H.get 14 rfl).1 (qF (H.get 15 rfl) 0 3) (H.get 16 rfl).1 (H.get 17 rfl).1 (H.get 18 rfl).1 ql ql ql) H fun w105 H=>?_)))))
  have pin:=YO (s:=s) (t:=t) (c:=((s.qx[i]!).qG)) p0.1 p1.2.2.1 qf qf
  refine sp (yI (xy s t ((s.qx[i]!).qG))) (zjn ?_)
  refine Qu rfl H [0,1,2,3,4,6] fun H=>?_
  have S:=H.yD [0,1,2,3,4,6] [0,1,2,3,4,5,6,7,8,9,10,11,12,13,14,15,16,17,18,19]
  refine tF 0 rfl rfl S ?_
  refine tL 1 rfl rfl (fun _ h=>h.cell 1 rfl rfl) S ?_
  refine rtp 2 (yI (xy s t ((s.qx[i]!).qG))) S ?_
  refine tF 3 rfl rfl S ?_
  refine tL 4 rfl rfl (fun _ h=>h.cell 1 rfl rfl) S ?_
  refine rtp 5 (yI (xy s t ((s.qx[i]!).qG))) S ?_
  refine tI 6 rfl rfl rfl S ?_
  refine rtp 8 (pp b26 (o27+(i:Int).toNat * 9)) S ?_
  refine rtp 9 (pp b26 (o27+(i:Int).toNat * 9)) S ?_
  refine tF 10 rfl rfl S ?_
  refine tL 11 rfl rfl (fun _ h=>h.xQ 9 rfl 6 rfl) S ?_
  refine rtp 12 (.slice (aa b30 o31) counts.length ccounts) S ?_
  refine rtp 13 (yI i) S ?_
  refine tI 14 rfl rfl rfl S ?_
  refine tL 15 rfl rfl (fun _ h=>h.yt 19 rfl i qf) S ?_
  refine ro 7 rfl ?_
  obtain ⟨a108,c109,G110,s111,h112,H⟩:=H.jW 5 rfl 0 rfl (iv:=xy s t ((s.qx[i]!).qG)) ((xy s t ((s.qx[i]!).qG)).toNat) qf qf
  refine zK (.slice a108 ((bg104[(xy s t ((s.qx[i]!).qG)).toNat]!).length) c109) isAgg22 rfl (h112) (⟨H.pick [0,1,2,3,4,6] [1,2,3,4,5,6,7,8,9,10,11,12,13,14,15,16,17,18,19,20],(ro 16 rfl ?_)⟩)
  obtain ⟨u1,u2⟩:=Ent.rowL E_bg104 (c:=(xy s t ((s.qx[i]!).qG)).toNat) qf qf qf qf
  have u4:=(by first | exact bn2.yY qf | exact bn3.yY qf | exact bn4.yY qf:SmallT ((s.qx[i]!).zT) (counts[i]!))
  have sz113:=H.base.size
  have lt114:=H.ltN (L:=[F55,yC]) [1,11]
  refine oc (X5 _ (bg104[(xy s t ((s.qx[i]!).qG)).toNat]!) ((s.qx[i]!).zT) (counts[i]!) (H.get 0 rfl).1 (H.get 8 rfl).1 qg qg qg) ?_
  rintro v118 w116 r118 x117
  replace H:=H.zB x117 r118
  obtain ⟨a119,c120,rfl,hc121,hm122⟩:=H.jm 0 rfl
  refine ⟨H.pick [1,2,3,4,5,7] [1,2,3,4,5,6,7,8,9,10,11,12,13,14,15,16,17,18,19,20],(tI 17 rfl rfl rfl (H.pick [1,2,3,4,5,7] [1,2,3,4,5,6,7,8,9,10,11,12,13,14,15,16,17,18,19,20]) ?_)⟩
  refine ro 18 rfl ?_
  obtain ⟨G124,N,hn125,H⟩:=H.vW 0 rfl N (H.jQ [1,11])
  refine jH true H 6 rfl 2 rfl (.slice a119 ((jb (bg104[(xy s t ((s.qx[i]!).qG)).toNat]!) ((s.qx[i]!).zT) (counts[i]!)).length) c120) 0 rfl rfl sizeOf22 rfl rfl (i:=((xy s t ((s.qx[i]!).qG)).toNat)) qf qf qm fun w123 xs126 F127 hs128 H=>?_
  replace N:Fresh w.heap.size [F127,yC]:=(N.pick [1,0,2]).repl hs128
  refine ⟨H.pick [1,2,3,4,5,7] [3,4,5,6,7,8,9,10,11,12,13,14,15,16,17,18,19,20,21,22],(xM qh (t_n (zcr (sp (yI 0) (zjn (qW ?_))))))⟩
  obtain ⟨bg129,e_bg129⟩:∃ z,z=(bg104.set ((xy s t ((s.qx[i]!).qG)).toNat) (jb (bg104[(xy s t ((s.qx[i]!).qG)).toNat]!) ((s.qx[i]!).zT) (counts[i]!))):=⟨_,rfl⟩
  rw [← e_bg129] at H
  have E_bg129:=Ent.addL (D:=1000000) E_bg104 e_bg129 qf qf (by first | exact bn2.mul qf | exact bn3.mul qf | exact bn4.mul qf) qf
  have z_bg129:bg129.length=s.qw.length:=by rw [e_bg129,List.length_set];omega
  have E_cur:=E_bg129
  refine zo (fun m' ρ w130=>∃ (xP:Env) (k:Nat) (out_Bags:yLL) (zM:List Value) (xZ:yLN),ρ=upd (upd (upd (upd (upd (upd (upd (upd xP 0 (pp bs os)) 1 (pp bt ot)) 2 (.slice (aa b30 o31) counts.length ccounts)) 6 (pp b1 0)) 10 (pp b19 0)) 11 (yI i)) 12 (pp b26 (o27+(i:Int).toNat * 9))) 14 (yI k)∧((k:Int)≤(((s.qx[i]!).qR).length))∧(Ent (s.qw.length+1) (QL s) (fun p q=>base0 s t p q+needS s counts s.qx.length p q+putS s t counts i p q+at' p (s.qx[i]!).qG.toNat (counts[i]! * ((s.qx[i]!).xJ)[q]!)+at' p (outPl s t (s.qx[i]!)) (counts[i]! * ((s.qx[i]!).zT)[q]!)+intoF (s.qx[i]!) (counts[i]!) k p q) (22000000+6000000 * i+1000000 * k) (out_Bags++[out_Around]))∧(out_Bags.length=s.qw.length)∧m' =((((s.qx[i]!).qR).length) - (k:Int)).toNat∧Fresh w.heap.size [yC,xZ]∧St w w130 [.box b19 [.slice Qa t.qy.length yZ,.slice (aa b35 0) ((Qk s t counts (QR (BadAt s t counts) counts.length)).length) rc3a,.slice ja vY vZ] 38,rr Qa t.qy.length yZ 4 1 (t.qy.map (Value.bool)),rr ra11Bags t.qE.length rc11Bags 22 1 Yw,rr ja vY vZ 2 1 (out_Around.map (Value.int .i64)),rr (aa b35 0) ((Qk s t counts (QR (BadAt s t counts) counts.length)).length) rc3a 22 1 zM,.box b1 [yN,yN,yN] 38] [zh true xZ zM out_Bags,sF false Fe29Need ae29Need ce29Need ((s.qx[i]!).xk),sF false Fe29Have ae29Have ce29Have ((s.qx[i]!).xB),sF false Fe29Lack ae29Lack ce29Lack ((s.qx[i]!).xG),sF false Fe29Here ae29Here ce29Here ((s.qx[i]!).xJ),sF false Fe29Out ae29Out ce29Out ((s.qx[i]!).zT),sF false Fe29Into ae29Into ce29Into ((s.qx[i]!).qR),atF b26 (o27+(i:Int).toNat * 9) [yI ((s.qx[i]!).qG),yI ((s.qx[i]!).zJ),.slice ae29Need (((s.qx[i]!).xk).length) ce29Need,.slice ae29Have (((s.qx[i]!).xB).length) ce29Have,.slice ae29Lack (((s.qx[i]!).xG).length) ce29Lack,.slice ae29Here (((s.qx[i]!).xJ).length) ce29Here,.slice ae29Out (((s.qx[i]!).zT).length) ce29Out,.slice ae29Into (((s.qx[i]!).qR).length) ce29Into,.bool ((s.qx[i]!).zy)],zh true yC Yw t.qE,atF bs os [yI s.xA,.slice qC s.qw.length qB,.slice (aa b26 o27) s.qx.length qJ],sF false qY qC qB s.qw,sF false xF (aa b26 o27) qJ s.qx,atF bt ot (yT t qU qP xm xh qM qL),sF false xN qU qP t.qy,sF false zq xm xh t.qE,sF false xE qM qL t.qA,sF false Fcounts (aa b30 o31) ccounts counts]) (((((s.qx[i]!).qR).length) - (0:Int)).toNat) ⟨_,0,bg129,xs126,F127,uE8,qf,(by exact E_cur.to (fun p q=>by first | (simp only [intoF,outPl_root (s:=s) (t:=t) (r:=s.qx[i]!) ‹_›,jg];omega) | (simp only [intoF,outPl_up (s:=s) (t:=t) (r:=s.qx[i]!) ‹_›];omega)) qf),qf,rfl,(N.pick [1,0]),H.pick [2,3,4,5,6,7] [0,6,7,8,9,10,11,12,13,15,16,17,18,19,20,21,22]⟩ ?_
  clear H N
  rintro m' ρ w131 ⟨xP,k,out_Bags,zM,xZ,rfl,i0,E_out_Bags,z_out_Bags,rfl,N,H⟩
  have YJ:=H.zl (α:=yLI) 4 rfl 0 rfl qj
  refine zcc (sps [yI k,pp b26 (o27+(i:Int).toNat * 9),pp b26 (o27+(i:Int).toNat * 9)] (oF rfl (oL rfl (H.xQ 7 rfl 7 rfl) (oN rfl (sp (.bool (decide ((k:Int) < (((s.qx[i]!).qR).length)))) (zjn (cD rfl (fun h132=>?_) (fun h132=>?_))))))))
  ·skip
   have qi:=q.2.2.2.2.2.2.2.2.2.2 k qf
   have qi1:=qi.1
   have bn4:=qi.2.2.1
   have ln4:=bn4.len
   refine qV (t_n (xO (qW (zcr (sps [pp b26 (o27+(i:Int).toNat * 9),pp b26 (o27+(i:Int).toNat * 9)] (oF rfl (oL rfl (H.xQ 7 rfl 7 rfl) (sp (yI k) ?_))))))))
   obtain ⟨b133,o134,rfl⟩:=H.addr 6 rfl qf
   obtain ⟨ae136Bag,ce136Bag,Fe136Bag,H⟩:=H.jR 6 rfl k k qf qf qf
   refine oI rfl rfl (oF rfl (oL rfl (H.xQ 1 rfl 0 rfl) (sp (yI ((((s.qx[i]!).qR)[k]!).qG)) (zjn ?_))))
   refine Qu rfl H [0,1,2,3,5] fun H=>?_
   have S:=H.yD [0,1,2,3,5] [0,1,2,3,4,5,6,7,8,9,10,11,12,13,14,15,16,17,18]
   refine tF 0 rfl rfl S ?_
   refine tL 1 rfl rfl (fun _ h=>h.cell 0 rfl rfl) S ?_
   refine rtp 2 (yI ((((s.qx[i]!).qR)[k]!).qG)) S ?_
   refine tF 3 rfl rfl S ?_
   refine tL 4 rfl rfl (fun _ h=>h.cell 0 rfl rfl) S ?_
   refine rtp 5 (yI ((((s.qx[i]!).qR)[k]!).qG)) S ?_
   refine tI 6 rfl rfl rfl S ?_
   refine rtp 8 (pp b26 (o27+(i:Int).toNat * 9)) S ?_
   refine rtp 9 (pp b26 (o27+(i:Int).toNat * 9)) S ?_
   refine tF 10 rfl rfl S ?_
   refine tL 11 rfl rfl (fun _ h=>h.xQ 9 rfl 7 rfl) S ?_
   refine rtp 12 (yI k) S ?_
   refine tI 13 rfl rfl rfl S ?_
   refine tF 14 rfl rfl S ?_
   refine tL 15 rfl rfl (fun _ h=>h.xQ 1 rfl 1 rfl) S ?_
   refine rtp 16 (.slice (aa b30 o31) counts.length ccounts) S ?_
   refine rtp 17 (yI i) S ?_
   refine tI 18 rfl rfl rfl S ?_
   refine tL 19 rfl rfl (fun _ h=>h.yt 18 rfl i qf) S ?_
   refine ro 7 rfl ?_
   obtain ⟨a138,c139,G140,s141,h142,H⟩:=H.jW 4 rfl 2 rfl (iv:=(((s.qx[i]!).qR)[k]!).qG) (((((s.qx[i]!).qR)[k]!).qG).toNat) qf qf
   refine zK (.slice a138 ((out_Bags[((((s.qx[i]!).qR)[k]!).qG).toNat]!).length) c139) isAgg22 rfl (h142) (⟨H.pick [0,1,2,3,5] [1,2,3,4,5,6,7,8,9,10,11,12,13,14,15,16,17,18,19],(ro 20 rfl ?_)⟩)
   obtain ⟨u1,u2⟩:=Ent.rowL E_out_Bags (c:=((((s.qx[i]!).qR)[k]!).qG).toNat) qf qf qf qf
   have u4:=(by first | exact bn2.yY qf | exact bn3.yY qf | exact bn4.yY qf:SmallT ((((s.qx[i]!).qR)[k]!).jw) (counts[i]!))
   have sz143:=H.base.size
   have lt144:=H.ltN (L:=[yC,xZ]) [11,3]
   refine oc (X5 _ (out_Bags[((((s.qx[i]!).qR)[k]!).qG).toNat]!) ((((s.qx[i]!).qR)[k]!).jw) (counts[i]!) (H.get 0 rfl).1 (H.get 1 rfl).1 qg qg qg) ?_
   rintro v148 w146 r148 x147
   replace H:=H.zB x147 r148
   obtain ⟨a149,c150,rfl,hc151,hm152⟩:=H.jm 0 rfl
   refine ⟨H.pick [1,2,3,4,6] [1,2,3,4,5,6,7,8,9,10,11,12,13,14,15,16,17,18,19],(tI 21 rfl rfl rfl (H.pick [1,2,3,4,6] [1,2,3,4,5,6,7,8,9,10,11,12,13,14,15,16,17,18,19]) ?_)⟩
   refine ro 22 rfl ?_
   obtain ⟨G154,N,hn155,H⟩:=H.vW 0 rfl N (H.jQ [11,3])
   refine jH true H 5 rfl 4 rfl (.slice a149 ((jb (out_Bags[((((s.qx[i]!).qR)[k]!).qG).toNat]!) ((((s.qx[i]!).qR)[k]!).jw) (counts[i]!)).length) c150) 0 rfl rfl sizeOf22 rfl rfl (i:=(((((s.qx[i]!).qR)[k]!).qG).toNat)) qf qf qm fun w153 xs156 F157 hs158 H=>?_
   replace N:Fresh w.heap.size [F157,yC]:=(N.pick [2,0,1]).repl hs158
   refine ⟨H.pick [1,2,3,4,6] [3,4,5,6,7,8,9,10,11,12,13,14,15,16,17,18,19,20,21],(xM qh (b_n (t_n (xR (sp (yI k) (sw (zu k 1 rfl rfl qf (sp (yI (k+1)) (xU ?_)))))))))⟩
   obtain ⟨bg159,e_bg159⟩:∃ z,z=(out_Bags.set (((((s.qx[i]!).qR)[k]!).qG).toNat) (jb (out_Bags[((((s.qx[i]!).qR)[k]!).qG).toNat]!) ((((s.qx[i]!).qR)[k]!).jw) (counts[i]!))):=⟨_,rfl⟩
   rw [← e_bg159] at H
   have E_bg159:=Ent.addL (D:=1000000) E_out_Bags e_bg159 qf qf (by first | exact bn2.mul qf | exact bn3.mul qf | exact bn4.mul qf) qf
   have z_bg159:bg159.length=s.qw.length:=by rw [e_bg159,List.length_set];omega
   have E_cur:=E_bg159
   refine qZ (m' :=((((s.qx[i]!).qR).length) - ((k+1):Int)).toNat) qf ⟨_,k+1,bg159,xs156,F157,uE8,?_,?_,?_,rfl,(N.pick [1,0]),H.pick [1,2,3,4,5,6] [0,6,7,8,9,10,11,12,13,14,15,16,17,18,19,20,21]⟩
   · omega
   · exact E_cur.to (fun p q=>by simp only [intoF];omega) qf
   · omega
  refine c_exit (t_x (t_x (b_x (b_n (t_n (xR (sp (yI i) (sw (zu i 1 rfl rfl qf (sp (yI (i+1)) (xU (qZ (m' :=(counts.length - ((i+1):Int)).toNat) qf ⟨_,i+1,ja,vY,vZ,out_Around,out_Bags,zM,xZ,uE6,?_,?_,?_,rfl,N,H.pick [0,1,2,3,4,5] [8,0,9,10,11,12,13,14,15,16]⟩))))))))))))
  · omega
  · first | exact E_rest.to (fun p q=>by simp only [putS_skip (s:=s) (t:=t) (counts:=counts) (i:=i) ‹_›]) qf | exact E_out_Bags.to (fun p q=>by rw [show k=((s.qx[i]!).qR).length by omega];simp only [putS,putF];omega) qf
  · omega
 refine zx4 (zcc (sps [pp bs os,pp bs os] (oF rfl (oL rfl (H.xQ 2 rfl 1 rfl) (oN rfl (sw (o_sub s.qw.length 1 rfl rfl qf (sp (yI (s.qw.length - 1)) (zjn (qW ?_))))))))))
 obtain rfl:i=s.qx.length:=by omega
 have hl:=stepped_live (counts:=counts) p1 (E_rest.to (g:=fun p k=>base0 s t p k+allS s t counts s.qx.length p k) (fun p k=>by rw [allS_eq];omega) (Int.le_refl _)) qf
 obtain ⟨s1,s2⟩:=step_tab2 qf E_rest
 subst s1 s2
 refine zo (fun m' ρ w160=>∃ (xP:Env) (c:Int) (out_Alive:List Bool) (out_Bags:yLL) (zM:List Value) (xZ:yLN) (j:Nat),ρ=upd (upd (upd (upd (upd xP 0 (pp bs os)) 2 (.slice acounts counts.length ccounts)) 6 (pp b1 0)) 10 (pp b19 0)) 16 (yI c)∧out_Alive=(xu s counts (xx s t counts) j).qy∧out_Bags=(xu s counts (xx s t counts) j).qE∧(c=(s.qw.length:Int) - 1 - j)∧(j+1≤s.qw.length)∧m' =(c:Int).toNat∧Fresh w.heap.size [yC,xZ]∧St w w160 [.box b19 [.slice Qa t.qy.length yZ,.slice ra3a ((Qk s t counts (QR (BadAt s t counts) counts.length)).length) rc3a,.slice ja vY vZ] 38,rr Qa t.qy.length yZ 4 1 (out_Alive.map (Value.bool)),rr ra11Bags t.qE.length rc11Bags 22 1 Yw,rr ja vY vZ 2 1 (((xx s t counts).qA).map (Value.int .i64)),rr ra3a ((Qk s t counts (QR (BadAt s t counts) counts.length)).length) rc3a 22 1 zM,.box b1 [yN,yN,yN] 38] [zh true yC Yw t.qE,zh true xZ zM out_Bags,atF bs os (yS s qC qB qN qJ),sF false qY qC qB s.qw,sF false xF qN qJ s.qx,sF false Fcounts acounts ccounts counts]) (((s.qw.length - 1):Int).toNat) ⟨_,s.qw.length - 1,t.qy,(xx s t counts).qE,x_rest,F_rest,0,uE5,(by rfl),(by rfl),qf,qf,rfl,N,H.pick [0,1,2,3,4,5] [0,1,2,3,4,9]⟩ ?_
 clear H N
 rintro m' ρ w161 ⟨xP,c,out_Alive,out_Bags,zM,xZ,j,rfl,rfl,rfl,ic,jc,rfl,N,H⟩
 have hn_out_Alive:=H.rowNB 1 rfl
 have YJ:=H.zl (α:=yLI) 4 rfl 1 rfl qj
 have L:=meltDown_live (counts:=counts) p0 hl j qf
 have L1:=L.alive
 have L2:=L.root
 have L3:=L.bags.1
 rw [← QH s counts (xx s t counts) j] at H
 refine zcc (sps [yI c,.bool (decide ((c:Int) > 0))] (zjn (cD rfl (fun h162=>?_) (fun h162=>?_))))
 ·skip
  have cin:CellIn s c:=⟨by omega,by omega⟩
  refine qV (t_n (xO (qW (zcr (sp (.bool false) (zjcc (sp (yI 0) (zjn (qW ?_)))))))))
  refine zo (fun m' ρ w163=>∃ (xP:Env) (melts:Bool) (i_1:Nat),ρ=upd (upd (upd (upd (upd (upd (upd xP 0 (pp bs os)) 2 (.slice acounts counts.length ccounts)) 6 (pp b1 0)) 10 (pp b19 0)) 16 (yI c)) 17 (.bool melts)) 18 (yI i_1)∧melts=dec (Xi s counts c i_1)∧((i_1:Int)≤counts.length)∧m' =(counts.length - (i_1:Int)).toNat∧Fresh w.heap.size [yC,xZ]∧St w w163 [.box b19 [.slice Qa t.qy.length yZ,.slice ra3a ((Qk s t counts (QR (BadAt s t counts) counts.length)).length) rc3a,.slice ja vY vZ] 38,rr Qa t.qy.length yZ 4 1 (((xu s counts (xx s t counts) j).qy).map (Value.bool)),rr ra11Bags t.qE.length rc11Bags 22 1 Yw,rr ja vY vZ 2 1 (((xu s counts (xx s t counts) j).qA).map (Value.int .i64)),rr ra3a ((Qk s t counts (QR (BadAt s t counts) counts.length)).length) rc3a 22 1 zM,.box b1 [yN,yN,yN] 38] [zh true yC Yw t.qE,zh true xZ zM ((xu s counts (xx s t counts) j).qE),atF bs os (yS s qC qB qN qJ),sF false qY qC qB s.qw,sF false xF qN qJ s.qx,sF false Fcounts acounts ccounts counts]) ((counts.length - (0:Int)).toNat) ⟨_,false,0,uE7,(by exact (xw (melts_zero _ _ _)).symm),qf,rfl,N,H⟩ ?_
  clear H N
  rintro m' ρ w164 ⟨xP,melts,i_1,rfl,rfl,i0,rfl,N,H⟩
  refine zcc (sps [yI i_1,.slice acounts counts.length ccounts] (oN rfl (sp (.bool (decide ((i_1:Int) < counts.length))) (zjn (cD rfl (fun h165=>?_) (fun h165=>?_))))))
  ·skip
   refine qV (t_n (xO (qW (xR (sps [.bool (dec (Xi s counts c i_1)),.bool (dec (Xi s counts c i_1))] ?_)))))
   cases h166:((dec (Xi s counts c i_1)))
   ·skip
    refine qQ 172 rfl rfl (sp (.slice acounts counts.length ccounts) (qQ 172 rfl rfl (sp (yI i_1) (qQ 172 rfl rfl ?_))))
    obtain ⟨b167,o168,rfl⟩:=H.addr 5 rfl qf
    refine oI rfl rfl (qQ 172 rfl rfl (oL rfl (H.jI 5 rfl i_1 qf qf) (qQ 172 rfl rfl (sp (.bool (decide ((counts[i_1]! :Int) > 0))) (qQ 172 rfl rfl (sp (.bool (decide ((counts[i_1]! :Int) > 0))) ?_))))))
    cases h170:(decide ((counts[i_1]! :Int) > 0))
    ·skip
     replace h170:=of_decide_eq_false h170
     refine zk [179,180,181,182,183,184,185,186] (qQ 172 rfl rfl (sp (.bool false) (qQ 172 rfl rfl (sp (.bool false) (zk [189,190,191,192,193,194,195,196,197,198] (qQ 172 rfl rfl (sps [.bool false,.bool false,.bool false] (xU (b_n (t_n (xR (sp (yI i_1) (sw (zu i_1 1 rfl rfl qf (sp (yI (i_1+1)) (xU (qZ (m' :=(counts.length - ((i_1+1):Int)).toNat) qf ⟨_,false,i_1+1,uE7,?_,?_,rfl,N,H⟩)))))))))))))))))
     · first | exact melts_1 ‹_› | exact melts_2 ‹_› qf | exact melts_3 ‹_› ‹_› | exact melts_4 ‹_› qf ‹_›
     · omega
    replace h170:=of_decide_eq_true h170
    refine qQ 178 rfl rfl (sp (pp bs os) (qQ 178 rfl rfl (sp (pp bs os) (qQ 178 rfl rfl (oF rfl (qQ 178 rfl rfl (oL rfl (H.xQ 2 rfl 2 rfl) (qQ 178 rfl rfl (sp (yI i_1) (qQ 178 rfl rfl ?_))))))))))
    obtain ⟨b171,o172,rfl⟩:=H.addr 4 rfl qf
    obtain ⟨ae174Need,ce174Need,Fe174Need,ae174Have,ce174Have,Fe174Have,ae174Lack,ce174Lack,Fe174Lack,ae174Here,ce174Here,Fe174Here,ae174Out,ce174Out,Fe174Out,ae174Into,ce174Into,Fe174Into,H⟩:=H.yl 4 rfl i_1 i_1 qf qf qf
    refine oI rfl rfl (qQ 178 rfl rfl (oF rfl (qQ 178 rfl rfl (oL rfl (H.xQ 6 rfl 8 rfl) (qQ 172 rfl rfl (sp (.bool ((s.qx[i_1]!).zy)) (qQ 172 rfl rfl (sp (.bool ((s.qx[i_1]!).zy)) ?_))))))))
    cases h175:((s.qx[i_1]!).zy)
    ·skip
     rw [h175] at H
     refine zk [189,190,191,192,193,194,195,196,197,198] (qQ 172 rfl rfl (sps [.bool false,.bool false,.bool false] (xU (b_n (t_n (xR (sp (yI i_1) (sw (zu i_1 1 rfl rfl qf (sp (yI (i_1+1)) (xU (qZ (m' :=(counts.length - ((i_1+1):Int)).toNat) qf ⟨_,false,i_1+1,uE7,?_,?_,rfl,N,H.pick [0,1,2,3,4,5] [7,8,9,10,11,12]⟩))))))))))))
     · first | exact melts_1 ‹_› | exact melts_2 ‹_› qf | exact melts_3 ‹_› ‹_› | exact melts_4 ‹_› qf ‹_›
     · omega
    rw [h175] at H
    refine qQ 188 rfl rfl (sp (pp bs os) (qQ 188 rfl rfl (sp (pp bs os) (qQ 188 rfl rfl (oF rfl (qQ 188 rfl rfl (oL rfl (H.xQ 9 rfl 2 rfl) (qQ 188 rfl rfl (sp (yI i_1) (qQ 188 rfl rfl (oI rfl rfl (qQ 188 rfl rfl (oF rfl (qQ 188 rfl rfl (oL rfl (H.xQ 6 rfl 0 rfl) (qQ 188 rfl rfl (sp (yI c) (qQ 188 rfl rfl (sp (.bool (((s.qx[i_1]!).qG:Int) == c)) (qQ 172 rfl rfl (sps [.bool (((s.qx[i_1]!).qG:Int) == c),.bool (((s.qx[i_1]!).qG:Int) == c),.bool (((s.qx[i_1]!).qG:Int) == c)] (xU (b_n (t_n (xR (sp (yI i_1) ?_))))))))))))))))))))))))))
    refine sw (zu i_1 1 rfl rfl qf (sp (yI (i_1+1)) (xU (qZ (m' :=(counts.length - ((i_1+1):Int)).toNat) qf ⟨_,((s.qx[i_1]!).qG:Int) == c,i_1+1,uE7,?_,?_,rfl,N,H.pick [0,1,2,3,4,5] [7,8,9,10,11,12]⟩))))
    · first | exact melts_1 ‹_› | exact melts_2 ‹_› qf | exact melts_3 ‹_› ‹_› | exact melts_4 ‹_› qf ‹_›
    · omega
   refine zk [173,174,175,176,177,178,179,180,181,182,183,184,185,186,187,188,189,190,191,192,193,194,195,196,197,198,199] (sps [.bool true,.bool true] (xU (b_n (t_n (xR (sp (yI i_1) (sw (zu i_1 1 rfl rfl qf (sp (yI (i_1+1)) (xU (qZ (m' :=(counts.length - ((i_1+1):Int)).toNat) qf ⟨_,true,i_1+1,uE7,?_,?_,rfl,N,H⟩)))))))))))
   · first | exact melts_1 ‹_› | exact melts_2 ‹_› qf | exact melts_3 ‹_› ‹_› | exact melts_4 ‹_› qf ‹_›
   · omega
  refine zx4 (zcr (sp (.bool (dec (Xi s counts c i_1))) (zjn (xH ((dec (Xi s counts c i_1))) rfl (fun h176=>?_) (fun h176=>?_)))))
  ·skip
   refine xR (sps [pp bs os,yI c] (sw (vC #[pp bs os,pp b19 0,yI c] rfl rfl call183 (en func183 ntmps183 ?_))))
   refine zcr (sps [pp bs os,pp b19 0,yI c] ?_)
   obtain ⟨G177,hn178,h179⟩:=H.rowIsB 1 rfl
   obtain ⟨G180,hn181,h182⟩:=H.rowIsR (α:=yLI) 4 rfl 1 rfl qj
   obtain ⟨G183,hn184,h185⟩:=H.rowIsI 3 rfl
   refine sw (oq (l02Parent_ok _ s (xu s counts (xx s t counts) j) c (qF (H.get 2 rfl) 0 3) (H.get 3 rfl).1 (H.get 4 rfl).1 (by have hz:=(qF (H.cells 0 rfl) 0 3);rw [hn178,hn181,hn184] at hz;exact hz) (hn178▸h179) (hn181▸h182) (hn184▸h185) ql ql ql) H fun w186 H=>?_)
   have pin:=YO (s:=s) (t:=(xu s counts (xx s t counts) j)) (c:=c) p0.1 L2 qf qf
   refine sp (yI (xy s (xu s counts (xx s t counts) j) c)) (zjn (xO ?_))
   obtain ⟨b188,rfl⟩:=H.Qz 4 rfl qf
   refine c_cut (fun ρ w191=>∃ (xP:Env) (xs189:List Value) (F190:yLN),ρ=upd (upd (upd xP 0 (pp bs os)) 1 (pp b19 0)) 2 (yI c)∧Fresh w.heap.size [F190,yC]∧St w w191 [.box b19 [.slice Qa t.qy.length yZ,.slice (aa b188 0) ((Qk s t counts (QR (BadAt s t counts) counts.length)).length) rc3a,.slice ja vY vZ] 38,rr Qa t.qy.length yZ 4 1 (((xu s counts (xx s t counts) j).qy).map (Value.bool)),rr ra11Bags t.qE.length rc11Bags 22 1 Yw,rr ja vY vZ 2 1 (((xu s counts (xx s t counts) j).qA).map (Value.int .i64)),rr (aa b188 0) ((Qk s t counts (QR (BadAt s t counts) counts.length)).length) rc3a 22 1 xs189,.box b1 [yN,yN,yN] 38] [zh true F190 xs189 (((xu s counts (xx s t counts) j).qE).set ((xy s (xu s counts (xx s t counts) j) c).toNat) (jb (((xu s counts (xx s t counts) j).qE)[(xy s (xu s counts (xx s t counts) j) c).toNat]!) (((xu s counts (xx s t counts) j).qE)[c.toNat]!) 1)),zh true yC Yw t.qE,atF bs os (yS s qC qB qN qJ),sF false qY qC qB s.qw,sF false xF qN qJ s.qx,sF false Fcounts acounts ccounts counts]) ?_ ?_
   ·skip
    refine Qu rfl H [0,1,2,3,5] fun H=>?_
    have S:=H.yD [0,1,2,3,5] [0,1,2,3,4,5]
    refine rtp 0 (pp b19 0) S ?_
    refine rtp 1 (pp b19 0) S ?_
    refine tF 2 rfl rfl S ?_
    refine tL 3 rfl rfl (fun _ h=>h.cell 0 rfl rfl) S ?_
    refine rtp 4 (yI (xy s (xu s counts (xx s t counts) j) c)) S ?_
    refine rtp 5 (pp b19 0) S ?_
    refine rtp 6 (pp b19 0) S ?_
    refine tF 7 rfl rfl S ?_
    refine tL 8 rfl rfl (fun _ h=>h.cell 0 rfl rfl) S ?_
    refine rtp 9 (yI (xy s (xu s counts (xx s t counts) j) c)) S ?_
    refine tI 10 rfl rfl rfl S ?_
    refine rtp 12 (pp b19 0) S ?_
    refine rtp 13 (pp b19 0) S ?_
    refine tF 14 rfl rfl S ?_
    refine tL 15 rfl rfl (fun _ h=>h.cell 0 rfl rfl) S ?_
    refine rtp 16 (yI c) S ?_
    refine tI 17 rfl rfl rfl S ?_
    refine jo [11,18] qh qm (Qj rfl ?_ (Qj rfl ?_ jq))
    ·skip
     obtain ⟨a193,c194,G195,s196,h197,H⟩:=H.jW 4 rfl 1 rfl (iv:=xy s (xu s counts (xx s t counts) j) c) ((xy s (xu s counts (xx s t counts) j) c).toNat) qf qf
     refine zK (.slice a193 ((((xu s counts (xx s t counts) j).qE)[(xy s (xu s counts (xx s t counts) j) c).toNat]!).length) c194) isAgg22 rfl (h197) (⟨H.pick [0,1,2,3,5] [1,2,3,4,5,6],(ro 18 rfl ?_)⟩)
     obtain ⟨a198,c199,G200,s201,h202,H⟩:=H.jW 4 rfl 2 rfl (iv:=c) c.toNat qf qf
     refine zK (.slice a198 ((((xu s counts (xx s t counts) j).qE)[c.toNat]!).length) c199) isAgg22 rfl (h202) (⟨H.pick [0,1,2,3,5] [2,3,4,5,6,7],(ro 19 rfl ?_)⟩)
     obtain ⟨u1,u2,u4⟩:=L.rows p0 (bnd_le qf) (p:=(xy s (xu s counts (xx s t counts) j) c).toNat) (c:=c.toNat) qf qf
     have sz203:=H.base.size
     have lt204:=H.ltN (L:=[yC,xZ]) [2,3]
     refine oc (X5 _ (((xu s counts (xx s t counts) j).qE)[(xy s (xu s counts (xx s t counts) j) c).toNat]!) (((xu s counts (xx s t counts) j).qE)[c.toNat]!) 1 (H.get 1 rfl).1 (H.get 0 rfl).1 qg qg qg) ?_
     rintro v208 w206 r208 x207
     replace H:=H.zB x207 r208
     obtain ⟨a209,c210,rfl,hc211,hm212⟩:=H.jm 0 rfl
     refine ⟨H.pick [1,2,3,4,6] [2,3,4,5,6,7],(tI 20 rfl rfl rfl (H.pick [1,2,3,4,6] [2,3,4,5,6,7]) ?_)⟩
     refine ro 21 rfl ?_
     obtain ⟨G214,N,hn215,H⟩:=H.vW 0 rfl N (H.jQ [2,3])
     refine jH true H 5 rfl 4 rfl (.slice a209 ((jb (((xu s counts (xx s t counts) j).qE)[(xy s (xu s counts (xx s t counts) j) c).toNat]!) (((xu s counts (xx s t counts) j).qE)[c.toNat]!) 1).length) c210) 0 rfl rfl sizeOf22 rfl rfl (i:=((xy s (xu s counts (xx s t counts) j) c).toNat)) qf qf qm fun w213 xs216 F217 hs218 H=>?_
     replace N:Fresh w.heap.size [F217,yC]:=(N.pick [2,0,1]).repl hs218
     refine ⟨H.pick [1,2,3,4,6] [4,5,6,7,8,9],(xM qh ((meet ⟨_,xs216,F217,uE3,N,H.pick [1,2,3,4,5,6] [0,4,6,7,8,9]⟩)))⟩
    obtain ⟨a219,c220,G221,s222,h223,H⟩:=H.jW 4 rfl 1 rfl (iv:=c) c.toNat qf qf
    refine zK (.slice a219 ((((xu s counts (xx s t counts) j).qE)[c.toNat]!).length) c220) isAgg22 rfl (h223) (⟨H.pick [0,1,2,3,5] [1,2,3,4,5,6],(ro 11 rfl ?_)⟩)
    obtain ⟨a224,c225,G226,s227,h228,H⟩:=H.jW 4 rfl 2 rfl (iv:=xy s (xu s counts (xx s t counts) j) c) ((xy s (xu s counts (xx s t counts) j) c).toNat) qf qf
    refine zK (.slice a224 ((((xu s counts (xx s t counts) j).qE)[(xy s (xu s counts (xx s t counts) j) c).toNat]!).length) c225) isAgg22 rfl (h228) (⟨H.pick [0,1,2,3,5] [2,3,4,5,6,7],(ro 19 rfl ?_)⟩)
    obtain ⟨u1,u2,u4⟩:=L.rows p0 (bnd_le qf) (p:=(xy s (xu s counts (xx s t counts) j) c).toNat) (c:=c.toNat) qf qf
    have sz229:=H.base.size
    have lt230:=H.ltN (L:=[yC,xZ]) [2,3]
    refine oc (X5 _ (((xu s counts (xx s t counts) j).qE)[(xy s (xu s counts (xx s t counts) j) c).toNat]!) (((xu s counts (xx s t counts) j).qE)[c.toNat]!) 1 (H.get 0 rfl).1 (H.get 1 rfl).1 qg qg qg) ?_
    rintro v234 w232 r234 x233
    replace H:=H.zB x233 r234
    obtain ⟨a235,c236,rfl,hc237,hm238⟩:=H.jm 0 rfl
    refine ⟨H.pick [1,2,3,4,6] [2,3,4,5,6,7],(tI 20 rfl rfl rfl (H.pick [1,2,3,4,6] [2,3,4,5,6,7]) ?_)⟩
    refine ro 21 rfl ?_
    obtain ⟨G240,N,hn241,H⟩:=H.vW 0 rfl N (H.jQ [2,3])
    refine jH true H 5 rfl 4 rfl (.slice a235 ((jb (((xu s counts (xx s t counts) j).qE)[(xy s (xu s counts (xx s t counts) j) c).toNat]!) (((xu s counts (xx s t counts) j).qE)[c.toNat]!) 1).length) c236) 0 rfl rfl sizeOf22 rfl rfl (i:=((xy s (xu s counts (xx s t counts) j) c).toNat)) qf qf qm fun w239 xs242 F243 hs244 H=>?_
    replace N:Fresh w.heap.size [F243,yC]:=(N.pick [2,0,1]).repl hs244
    refine ⟨H.pick [1,2,3,4,6] [4,5,6,7,8,9],(xM qh ((meet ⟨_,xs242,F243,uE3,N,H.pick [1,2,3,4,5,6] [0,4,6,7,8,9]⟩)))⟩
   clear H N
   rintro ρ w245 ⟨xP,xs189,F190,rfl,N,H⟩
   refine t_n (xO ?_)
   refine Qu rfl H [0,1,2,3,5] fun H=>?_
   have S:=H.yD [0,1,2,3,5] [0,1,2,3,4,5]
   refine rtp 0 (pp b19 0) S ?_
   refine rtp 1 (pp b19 0) S ?_
   refine tF 2 rfl rfl S ?_
   refine tL 3 rfl rfl (fun _ h=>h.cell 0 rfl rfl) S ?_
   refine rtp 4 (yI c) S ?_
   refine rtp 5 (pp bs os) S ?_
   refine rtp 6 (pp bs os) S ?_
   refine tF 7 rfl rfl S ?_
   refine tL 8 rfl rfl (fun _ h=>h.xQ 2 rfl 0 rfl) S ?_
   refine ro 9 rfl (XO H underlying22 ti2 s.xA.toNat rfl rfl qf qf qf fun b247 w248 H=>⟨H.pick [1,2,3,4,6] [0,1,2,3,4,5],(tI 10 rfl rfl rfl (H.pick [1,2,3,4,6] [0,1,2,3,4,5]) ?_)⟩)
   refine ro 11 rfl ?_
   obtain ⟨G250,N,hn251,H⟩:=H.vW 0 rfl N (H.jQ [0,1])
   refine jH true H 5 rfl 1 rfl (.slice (aa b247 0) s.xA.toNat s.xA.toNat) 0 rfl rfl sizeOf22 rfl rfl (i:=c.toNat) qf qf qm fun w249 xs252 F253 hs254 H=>?_
   replace N:Fresh w.heap.size [F253,yC]:=(N.pick [1,0,2]).repl hs254
   refine ⟨H.pick [1,2,3,4,6] [2,3,4,5,6,7],(xM qh (t_n (xR (sps [pp b19 0,pp b19 0] (oF rfl (oL rfl (H.cell 1 rfl rfl) (sp (yI c) ?_)))))))⟩
   obtain ⟨b255,rfl⟩:=H.Qz 2 rfl qf
   refine oI rfl rfl (sw (Q9 H 2 rfl false sizeOf4 rfl rfl (i:=c.toNat) qf qf fun w256 H=>xU (ret0 rfl ⟨_,rfl,?_⟩)))
   replace H:=H.erases [0]
   dsimp only [vX,List.eraseIdx] at H
   refine xU (b_n (t_n (xR (sp (yI c) (sw (o_sub c 1 rfl rfl qf (sp (yI (c - 1)) (xU ?_))))))))
   rw [QH] at H
   refine qZ (m' :=((c - 1):Int).toNat) qf ⟨_,c - 1,(((xu s counts (xx s t counts) j).qy).set c.toNat false),((((xu s counts (xx s t counts) j).qE).set ((xy s (xu s counts (xx s t counts) j) c).toNat) (jb (((xu s counts (xx s t counts) j).qE)[(xy s (xu s counts (xx s t counts) j) c).toNat]!) (((xu s counts (xx s t counts) j).qE)[c.toNat]!) 1)).set c.toNat (List.replicate s.xA.toNat (0:Int))),xs252,F253,j+1,uE5,?_,?_,?_,?_,rfl,(N.pick [1,0]),H.pick [0,1,2,3,4,5] [3,0,4,5,6,7]⟩
   · first | (rw [QX (c:=c) (i:=i_1) ‹_› qf ic];done) | (rw [QX (c:=c) (i:=i_1) ‹_› qf ic];rfl) | rw [meltDown_no' (c:=c) (i:=i_1) ‹_› qf ic]
   · first | (rw [QX (c:=c) (i:=i_1) ‹_› qf ic];done) | (rw [QX (c:=c) (i:=i_1) ‹_› qf ic];rfl) | rw [meltDown_no' (c:=c) (i:=i_1) ‹_› qf ic]
   · omega
   · omega
  refine qV (b_n (t_n (xR (sp (yI c) (sw (o_sub c 1 rfl rfl qf (sp (yI (c - 1)) (xU ?_))))))))
  rw [QH] at H
  refine qZ (m' :=((c - 1):Int).toNat) qf ⟨_,c - 1,((xu s counts (xx s t counts) j).qy),((xu s counts (xx s t counts) j).qE),zM,xZ,j+1,uE5,?_,?_,?_,?_,rfl,N,H⟩
  · first | (rw [QX (c:=c) (i:=i_1) ‹_› qf ic];done) | (rw [QX (c:=c) (i:=i_1) ‹_› qf ic];rfl) | rw [meltDown_no' (c:=c) (i:=i_1) ‹_› qf ic]
  · first | (rw [QX (c:=c) (i:=i_1) ‹_› qf ic];done) | (rw [QX (c:=c) (i:=i_1) ‹_› qf ic];rfl) | rw [meltDown_no' (c:=c) (i:=i_1) ‹_› qf ic]
  · omega
  · omega
 refine zx4 (zcr (sp (pp bs os) (sw (vC #[pp bs os,pp b19 0] rfl rfl call184 (en func184 ntmps184 ?_)))))
 refine zcr (sw (xX H ti38 [yN,yN,yN] fun b257 w258 H=>sp (yI 0) (zjcc (sps [pp bs os,pp b19 0] ?_))))
 obtain ⟨G259,hn260,h261⟩:=H.rowIsB 2 rfl
 obtain ⟨G262,hn263,h264⟩:=H.rowIsR (α:=yLI) 5 rfl 1 rfl qj
 obtain ⟨G265,hn266,h267⟩:=H.rowIsI 4 rfl
 refine sw (oq (l02State_ok _ s (xu s counts (xx s t counts) j) (qF (H.get 2 rfl) 0 3) (H.get 3 rfl).1 (H.get 4 rfl).1 (by have hz:=(qF (H.cells 1 rfl) 0 3);rw [hn260,hn263,hn266] at hz;exact hz) (hn260▸h261) (hn263▸h264) (hn266▸h267) (by first | assumption | exact (And.left (by assumption:yj _)))) H fun w268 H=>sp (.bool (!(dec (zH s (xu s counts (xx s t counts) j))))) (zjn (cQ rfl (fun h270=>?_) (fun h270=>?_))))
 ·skip
  refine zcr (sw (jr [yN,yN,yN] [] (sw (zt H 0 [yN,yN,yN] sizeOf38 fun w271 H=>sp (yI 3) (zjr (t_r (retC2 H 0 rfl (yI 3) rfl isAgg38 sizeOf38 rfl rfl ⟨_,rfl,?_⟩)))))))
  replace H:=H.erases [0]
  dsimp only [vX,List.eraseIdx] at H
  refine sps [.agg #[yN,yN,yN],yI 3] (sw (zt H 5 [yN,yN,yN] sizeOf38 fun w272 H=>sp (yI 3) (zjr ?_)))
  replace H:=H.nilRowB 4
  replace H:=H.nilRow 22 1
  replace H:=H.vP (α:=yLI)
  replace H:=H.nilRowI 2
  refine retC2 H 8 rfl (yI 3) rfl isAgg38 sizeOf38 rfl rfl ⟨_,rfl,?_,H.base⟩
  rw [stepBy_yes ‹_›,stepRes,show jg s - 1=j by omega,told_no ‹_›]
  exact ⟨none,0,0,none,0,0,[],[],none,0,0,rfl,(N.emp.pick [0]),H.pick [2,1,0] [0]⟩
 refine qV (t_n (zcr (sps [pp b19 0,pp b19 0] (sw (xY [.slice Qa t.qy.length yZ,.slice ra3a ((Qk s t counts (QR (BadAt s t counts) counts.length)).length) rc3a,.slice ja vY vZ] isAgg38 sizeOf38 rfl (qF (H.cells 1 rfl) 0 3) (sw (zt H 0 [.slice Qa t.qy.length yZ,.slice ra3a ((Qk s t counts (QR (BadAt s t counts) counts.length)).length) rc3a,.slice ja vY vZ] sizeOf38 fun w273 H=>sp (yI 0) (zjr ?_))))))))
 refine retC2 H 0 rfl (yI 0) rfl isAgg38 sizeOf38 rfl rfl ⟨_,rfl,?_⟩
 replace H:=H.erases [0]
 dsimp only [vX,List.eraseIdx] at H
 refine sps [.agg #[.slice Qa t.qy.length yZ,.slice ra3a ((Qk s t counts (QR (BadAt s t counts) counts.length)).length) rc3a,.slice ja vY vZ],yI 0] (sw (zt H 5 [.slice Qa t.qy.length yZ,.slice ra3a ((Qk s t counts (QR (BadAt s t counts) counts.length)).length) rc3a,.slice ja vY vZ] sizeOf38 fun w274 H=>sp (yI 0) (zjr (retC2 H 5 rfl (yI 0) rfl isAgg38 sizeOf38 rfl rfl ⟨_,rfl,?_,H.base⟩))))
 rw [stepBy_yes ‹_›,stepRes,show jg s - 1=j by omega,told_yes ‹_›]
 exact ⟨Qa,t.qy.length,yZ,ra3a,(Qk s t counts (QR (BadAt s t counts) counts.length)).length,rc3a,zM,xZ,ja,vY,vZ,rfl,(N.pick [1]),H.pick [1,4,3] [1]⟩
theorem isEnabled_ok (w:World) (s:qI) (t:qH) (r:QZ) {qC:yOA} {qY:yLN} {qN:yOA} {xF:yLN} {qU:yOA} {xN:yLN} {xm:yOA} {zq:yLN} {qM:yOA} {xE:yLN} {yL:yOA} {Yq:yLN} {yP:yOA} {Yu:yLN} {yM:yOA} {Yr:yLN} {yO:yOA} {Yt:yLN} {Xv:yOA} {FrOut:yLN} {yg:yOA} {FrInto:yLN} (xf:qO.rep w qY [.slice qC s.qw.length qB] s.qw) (xI:qO.rep w xF [.slice qN s.qx.length qJ] s.qx) (zg:qO.rep w xN [.slice qU t.qy.length qP] t.qy) (zI:qO.rep w zq [.slice xm t.qE.length xh] t.qE) (xK:qO.rep w xE [.slice qM t.qA.length qL] t.qA) (hrNeed:qO.rep w Yq [.slice yL r.xk.length yF] r.xk) (hrHave:qO.rep w Yu [.slice yP r.xB.length yJ] r.xB) (hrLack:qO.rep w Yr [.slice yM r.xG.length yG] r.xG) (hrHere:qO.rep w Yt [.slice yO r.xJ.length yH] r.xJ) (hrOut:qO.rep w FrOut [.slice Xv r.zT.length Xu] r.zT) (hrInto:qO.rep w FrInto [.slice yg r.qR.length yc] r.qR) (p0:yj s) (p1:zH s t) (p2:RuleOk s r):Calls Tryz.prog 145 #[.agg #[yI s.xA,.slice qC s.qw.length qB,.slice qN s.qx.length qJ],.agg #[.slice qU t.qy.length qP,.slice xm t.qE.length xh,.slice qM t.qA.length qL],.agg #[yI r.qG,yI r.zJ,.slice yL r.xk.length yF,.slice yP r.xB.length yJ,.slice yM r.xG.length yG,.slice yO r.xJ.length yH,.slice Xv r.zT.length Xu,.slice yg r.qR.length yc,.bool r.zy]] w (Ret (fun v w' =>v=.bool (dec (EnOk s t r))) w):=by
 refine en func145 ntmps145 ?_
 have H:=(((((((((((St.start w).arg hrInto).arg hrOut).arg hrHere).arg hrLack).arg hrHave).arg hrNeed).arg xK).arg zI).arg zg).arg xI).arg xf
 have vk:=qK xf
 have jl:=qK xI
 have Qh:=qK zg
 have QW:=qK zI
 have jL:=qK xK
 have nhrNeed:=qK hrNeed
 have nhrHave:=qK hrHave
 have nhrLack:=qK hrLack
 have nhrHere:=qK hrHere
 have nhrOut:=qK hrOut
 have nhrInto:=qK hrInto
 clear xf xI zg zI xK hrNeed hrHave hrLack hrHere hrOut hrInto
 have N:=Fresh.nil w.heap.size
 have p3:=p2.1
 have p4:=p1.1
 have p5:=p1.2.1
 have p6:=(p1.bagLen (k:=r.qG.toNat) qf).len
 have p7:=p2.2.2.2.2.1.len
 have p8:=p2.2.2.2.2.2.1.len
 have p9:=p2.2.2.2.2.2.2.1.len
 have p10:=vH p2.2.2.2.2.2.2.1
 have p11:=p0.1
 have p12:=p2.2.2.2.2.2.2.2.2.2.2
 have p13:=kinds_le p0
 refine zcr (sw (vG H (yS s qC qB qN qJ) fun b1 w2 H=>sw (vG H (yT t qU qP xm xh qM qL) fun b3 w4 H=>sw (vG H [yI r.qG,yI r.zJ,.slice yL r.xk.length yF,.slice yP r.xB.length yJ,.slice yM r.xG.length yG,.slice yO r.xJ.length yH,.slice Xv r.zT.length Xu,.slice yg r.qR.length yc,.bool r.zy] fun b5 w6 H=>sp (.bool false) (zjcc (oF rfl ?_))))))
 refine oL rfl (H.cell 1 rfl rfl) (oF rfl (oL rfl (H.cell 0 rfl rfl) ?_))
 obtain ⟨b7,o8,rfl⟩:=H.addr 2 rfl qf
 refine oI rfl rfl (oL rfl (H.XR 2 rfl r.qG qf qf) (sp (.bool (!(t.qy[r.qG.toNat]!))) (zjn (xH (!(t.qy[r.qG.toNat]!)) rfl (fun h10=>?_) (fun h10=>?_)))))
 ·skip
  replace h10:=xn h10
  refine zcr (sp (.bool false) (zjr (t_r (ret1 (.bool false) rfl rfl ⟨_,rfl,?_,H.base⟩))))
  rw [xw (fun h=>by obtain ⟨h1,h2,h3,h4,h5⟩:=h;first | exact ft h1 ‹_› | exact ft h2 ‹_› | exact ft h3 ‹_› | exact h4 ⟨‹_›,‹_›⟩ | (obtain ⟨q1,q2⟩:=h5 i qf;first | exact ft q1 ‹_› | exact absurd q2 ‹_›))]
 replace h10:=xg h10
 refine qV (t_n (zcr (oF rfl (oL rfl (H.cell 1 rfl rfl) (oF rfl (oL rfl (H.cell 0 rfl rfl) ?_))))))
 obtain ⟨b11,o12,rfl⟩:=H.addr 3 rfl qf
 obtain ⟨ae14,ce14,Fe14,H⟩:=H.vN 3 rfl r.qG r.qG.toNat qf qf qf
 refine oI rfl rfl (oL rfl (H.xQ 1 rfl 0 rfl) (sp (.slice ae14 ((t.qE[r.qG.toNat]!).length) ce14) (zjcc (oF rfl (oL rfl (H.cell 0 rfl rfl) (sp (.slice ae14 ((t.qE[r.qG.toNat]!).length) ce14) (sw (oq (isWithin_ok _ r.xk (t.qE[r.qG.toNat]!) (H.get 7 rfl).1 (H.get 0 rfl).1 qg qg) H fun w15 H=>sps [.bool (!(within r.xk (t.qE[r.qG.toNat]!))),.bool (!(within r.xk (t.qE[r.qG.toNat]!)))] ?_))))))))
 cases h17:(!(within r.xk (t.qE[r.qG.toNat]!)))
 ·skip
  replace h17:=xg h17
  refine qQ 26 rfl rfl (oF rfl (qQ 26 rfl rfl (oL rfl (H.cell 0 rfl rfl) (qQ 26 rfl rfl (sp (.slice ae14 ((t.qE[r.qG.toNat]!).length) ce14) (qQ 26 rfl rfl (sw (oq (isWithin_ok _ r.xB (t.qE[r.qG.toNat]!) (H.get 8 rfl).1 (H.get 0 rfl).1 qg qg) H fun w18 H=>qQ 26 rfl rfl (sps [.bool (!(within r.xB (t.qE[r.qG.toNat]!))),.bool (!(within r.xB (t.qE[r.qG.toNat]!))),.bool (!(within r.xB (t.qE[r.qG.toNat]!)))] ?_)))))))))
  cases h20:(!(within r.xB (t.qE[r.qG.toNat]!)))
  ·skip
   replace h20:=xg h20
   refine qQ 33 rfl rfl (oF rfl (qQ 33 rfl rfl (oL rfl (H.cell 0 rfl rfl) (qQ 33 rfl rfl (sw (oq (VI _ r.xG (H.get 9 rfl).1 (by first | assumption | exact vH ql | exact Qo ql)) H fun w21 H=>qQ 33 rfl rfl (sp (.bool (decide ((VP r.xG:Int) > 0))) (qQ 33 rfl rfl (sp (.bool (decide ((VP r.xG:Int) > 0))) ?_)))))))))
   cases h23:(decide ((VP r.xG:Int) > 0))
   ·skip
    replace h23:=of_decide_eq_false h23
    refine zk [39,40,41,42] (qQ 33 rfl rfl (sps [.bool false,.bool false] (zjn (xH false rfl (fun h=>absurd h qj) (fun _=>qV (t_n (zcr (oF rfl (oL rfl (H.cell 0 rfl rfl) (sp (.func (.func 187) #[] #[pp b3 0,pp b1 0,pp b5 0]) (sw (vC #[.slice yg r.qR.length yc,.func (.func 187) #[] #[pp b3 0,pp b1 0,pp b5 0]] rfl rfl call186 (en func186 ntmps186 ?_)))))))))))))
    refine zcr (sp (.bool false) (zjc (sps [.slice yg r.qR.length yc,.func (.func 187) #[] #[pp b3 0,pp b1 0,pp b5 0]] (sw (vC #[.slice yg r.qR.length yc,.func (.func 187) #[] #[pp b3 0,pp b1 0,pp b5 0]] rfl rfl call207 (en func207 ntmps207 ?_))))))
    refine zcr (sp (yI 0) (zjcc (sp (.slice yg r.qR.length yc) (oN rfl (sp (yI 0) (zjn (qW ?_)))))))
    refine zo (fun m' ρ w24=>∃ (xP:Env) (i:Nat),ρ=upd (upd (upd (upd xP 0 (.slice yg r.qR.length yc)) 1 (.func (.func 187) #[] #[pp b3 0,pp b1 0,pp b5 0])) 7 (yI r.qR.length)) 8 (yI i)∧((i:Int)≤r.qR.length)∧(IntoUp s t r i)∧m' =(r.qR.length - (i:Int)).toNat∧Fresh w.heap.size []∧St w w24 [.box b5 [yI r.qG,yI r.zJ,.slice yL r.xk.length yF,.slice yP r.xB.length yJ,.slice yM r.xG.length yG,.slice yO r.xJ.length yH,.slice Xv r.zT.length Xu,.slice yg r.qR.length yc,.bool r.zy] 121,.box b3 [.slice (aa b7 o8) t.qy.length qP,.slice (aa b11 o12) t.qE.length xh,.slice qM t.qA.length qL] 38,.box b1 (yS s qC qB qN qJ) 36] [sF false Fe14 ae14 ce14 (t.qE[r.qG.toNat]!),atF b11 (o12+(r.qG:Int).toNat * 1) [.slice ae14 ((t.qE[r.qG.toNat]!).length) ce14],sF false qY qC qB s.qw,sF false xF qN qJ s.qx,sF false xN (aa b7 o8) qP t.qy,sF false zq (aa b11 o12) xh t.qE,sF false xE qM qL t.qA,sF false Yq yL yF r.xk,sF false Yu yP yJ r.xB,sF false Yr yM yG r.xG,sF false Yt yO yH r.xJ,sF false FrOut Xv Xu r.zT,sF false FrInto yg yc r.qR]) ((r.qR.length - (0:Int)).toNat) ⟨_,0,uE4,qf,(by exact fun j hj=>by omega),rfl,N,H⟩ ?_
    clear H N
    rintro m' ρ w25 ⟨xP,i,rfl,i0,i1,rfl,N,H⟩
    refine zcr (sp (.bool (decide ((i:Int) < r.qR.length))) (zjn (xO (cD rfl (fun h26=>?_) (fun h26=>?_)))))
    ·skip
     have q:=(p12 i qf).1
     have q1:=q.1
     have q2:=q.2
     refine qV (t_n (xO (qW (zcr (sps [yI i,yI i] (zjc (sps [.func (.func 187) #[] #[pp b3 0,pp b1 0,pp b5 0],.slice yg r.qR.length yc,yI i] ?_)))))))
     obtain ⟨b27,o28,rfl⟩:=H.addr 12 rfl qf
     obtain ⟨ae30Bag,ce30Bag,Fe30Bag,H⟩:=H.jR 12 rfl i i qf qf qf
     refine oI rfl rfl (sw (xY [yI ((r.qR[i]!).qG),.slice ae30Bag (((r.qR[i]!).jw).length) ce30Bag] isAgg164 sizeOf164 rfl (qF (H.get 1 rfl) 0 2) (sw (vC #[.agg #[yI ((r.qR[i]!).qG),.slice ae30Bag (((r.qR[i]!).jw).length) ce30Bag],pp b3 0,pp b1 0,pp b5 0] rfl rfl call187 (en func187 ntmps187 ?_)))))
     refine zcr (sw (vG H [yI ((r.qR[i]!).qG),.slice ae30Bag (((r.qR[i]!).jw).length) ce30Bag] fun b31 w32 H=>sp (.bool false) (zjn (xO ?_))))
     refine jd rfl H fun H=>tF 0 rfl rfl H ?_
     refine tL 1 rfl rfl (fun _ h=>h.cell 2 rfl rfl) H ?_
     refine tF 2 rfl rfl H ?_
     refine tL 3 rfl rfl (fun _ h=>h.cell 0 rfl rfl) H ?_
     refine tI 4 rfl rfl rfl H ?_
     refine tL 5 rfl rfl (fun _ h=>h.XR 6 rfl ((r.qR[i]!).qG) qf qf) H ?_
     refine rtp 6 (.bool (!(t.qy[((r.qR[i]!).qG).toNat]!))) H ?_
     refine rtp 7 (.bool (!(t.qy[((r.qR[i]!).qG).toNat]!))) H ?_
     cases h34:(!(t.qy[((r.qR[i]!).qG).toNat]!))
     ·skip
      replace h34:=xg h34
      refine rg 8 (.agg #[yI s.xA,.slice qC s.qw.length qB,.slice qN s.qx.length qJ]) 13 (Qy (cs:=(yS s qC qB qN qJ)) isAgg36 sizeOf36 rfl (fun _ h=>qF (h.cells 3 rfl) 0 3)) H ?_
      refine rg 9 (.agg #[.slice (aa b7 o8) t.qy.length qP,.slice (aa b11 o12) t.qE.length xh,.slice qM t.qA.length qL]) 13 (Qy (cs:=[.slice (aa b7 o8) t.qy.length qP,.slice (aa b11 o12) t.qE.length xh,.slice qM t.qA.length qL]) isAgg38 sizeOf38 rfl (fun _ h=>qF (h.cells 2 rfl) 0 3)) H ?_
      refine gF 10 rfl rfl H ?_
      refine gL 11 rfl rfl (fun _ h=>h.cell 0 rfl rfl) H ?_
      refine gF 13 rfl rfl H ?_
      refine gL 14 rfl rfl (fun _ h=>h.cell 1 rfl rfl) H ?_
      refine jo [12] qh qm (r_opG rfl (e:=13) rfl rfl (oq (parentNow_ok _ s t ((r.qR[i]!).qG) (H.get 4 rfl).1 (H.get 5 rfl).1 (H.get 6 rfl).1 (H.get 7 rfl).1 (H.get 8 rfl).1 qg qg qg) H fun w36 H=>⟨H,(rgp 15 (.bool ((xy s t ((r.qR[i]!).qG):Int) != r.qG)) 13 H ?_)⟩) jq)
      refine rtp 16 (.bool ((xy s t ((r.qR[i]!).qG):Int) != r.qG)) H ?_
      refine rtp 17 (.bool ((xy s t ((r.qR[i]!).qG):Int) != r.qG)) H ?_
      refine xM qh (t_n (c_ret (ret1 (.bool ((xy s t ((r.qR[i]!).qG):Int) != r.qG)) rfl rfl ⟨_,rfl,?_⟩)))
      replace H:=H.erases [0]
      dsimp only [vX,List.eraseIdx] at H
      refine zjn (xH ((xy s t ((r.qR[i]!).qG):Int) != r.qG) rfl (fun h38=>?_) (fun h38=>?_))
      ·skip
       replace h38:=bne_iff_ne.1 h38
       refine zcr (sps [yI i,yI i] (zjr (zr5 (ret1 (yI i) rfl rfl ⟨_,rfl,(sw (o_pure (.bool true) (by show some (Value.bool (decide ((i:Int)≥0)))=some (Value.bool true);rw [decide_eq_true qf]) (sp (.bool true) (zjr (ret1 (.bool true) rfl rfl ⟨_,rfl,(sps [.bool false,.bool false] (zjr (ret1 (.bool false) rfl rfl ⟨_,rfl,?_,H.base⟩)))⟩)))))⟩))))
       rw [xw (fun h=>by obtain ⟨h1,h2,h3,h4,h5⟩:=h;first | exact ft h1 ‹_› | exact ft h2 ‹_› | exact ft h3 ‹_› | exact h4 ⟨‹_›,‹_›⟩ | (obtain ⟨q1,q2⟩:=h5 i qf;first | exact ft q1 ‹_› | exact absurd q2 ‹_›))]
      replace h38:=xq h38
      refine qV (b_n (t_n (xR (sw (zu i 1 rfl rfl qf (sp (yI (i+1)) (xU (qZ (m' :=(r.qR.length - ((i+1):Int)).toNat) qf ⟨_,i+1,uE4,?_,?_,rfl,N,H.pick [0,1,2] [2,3,4,5,6,7,8,9,10,11,12,13,14]⟩))))))))
      · omega
      · exact i1.succ ‹_› ‹_›
     replace h34:=xn h34
     refine zS [8,9,10,11,12,13,14,15] 8 (H) (rtp 16 (.bool true) H ?_)
     refine rtp 17 (.bool true) H ?_
     refine xM qh (t_n (c_ret (ret1 (.bool true) rfl rfl ⟨_,rfl,?_⟩)))
     replace H:=H.erases [0]
     dsimp only [vX,List.eraseIdx] at H
     refine zjn (xH true rfl (fun _=>zcr (sps [yI i,yI i] (zjr (zr5 (ret1 (yI i) rfl rfl ⟨_,rfl,(sw (o_pure (.bool true) (by show some (Value.bool (decide ((i:Int)≥0)))=some (Value.bool true);rw [decide_eq_true qf]) (sp (.bool true) (zjr (ret1 (.bool true) rfl rfl ⟨_,rfl,(sps [.bool false,.bool false] (zjr (ret1 (.bool false) rfl rfl ⟨_,rfl,?_,H.base⟩)))⟩)))))⟩))))) (fun h=>absurd h qj))
     rw [xw (fun h=>by obtain ⟨h1,h2,h3,h4,h5⟩:=h;first | exact ft h1 ‹_› | exact ft h2 ‹_› | exact ft h3 ‹_› | exact h4 ⟨‹_›,‹_›⟩ | (obtain ⟨q1,q2⟩:=h5 i qf;first | exact ft q1 ‹_› | exact absurd q2 ‹_›))]
    refine zx4 (zcr (sp (yI (-1)) (zjr (ret1 (yI (-1)) rfl rfl ⟨_,rfl,(sps [.bool false,.bool false] (zjr (ret1 (.bool false) rfl rfl ⟨_,rfl,(sps [.bool true,.bool true] (zjr (ret1 (.bool true) rfl rfl ⟨_,rfl,?_,H.base⟩)))⟩)))⟩))))
    rw [yu ⟨by assumption,by assumption,by assumption,fun ⟨u,v⟩=>by first | omega | exact ft v ‹_›,(show i=r.qR.length by omega)▸i1⟩]
   replace h23:=of_decide_eq_true h23
   refine qQ 38 rfl rfl (oF rfl (qQ 38 rfl rfl (oL rfl (H.cell 0 rfl rfl) (qQ 38 rfl rfl (sp (.slice ae14 ((t.qE[r.qG.toNat]!).length) ce14) (qQ 38 rfl rfl (sw (oq (isWithin_ok _ r.xG (t.qE[r.qG.toNat]!) (H.get 9 rfl).1 (H.get 0 rfl).1 qg qg) H fun w39 H=>qQ 33 rfl rfl (sps [.bool (within r.xG (t.qE[r.qG.toNat]!)),.bool (within r.xG (t.qE[r.qG.toNat]!))] (zjn (xH (within r.xG (t.qE[r.qG.toNat]!)) rfl (fun h41=>?_) (fun h41=>?_))))))))))))
   ·skip
    refine zcr (sp (.bool false) (zjr (t_r (ret1 (.bool false) rfl rfl ⟨_,rfl,?_,H.base⟩))))
    rw [xw (fun h=>by obtain ⟨h1,h2,h3,h4,h5⟩:=h;first | exact ft h1 ‹_› | exact ft h2 ‹_› | exact ft h3 ‹_› | exact h4 ⟨‹_›,‹_›⟩ | (obtain ⟨q1,q2⟩:=h5 i qf;first | exact ft q1 ‹_› | exact absurd q2 ‹_›))]
   refine qV (t_n (zcr (oF rfl (oL rfl (H.cell 0 rfl rfl) (sp (.func (.func 187) #[] #[pp b3 0,pp b1 0,pp b5 0]) (sw (vC #[.slice yg r.qR.length yc,.func (.func 187) #[] #[pp b3 0,pp b1 0,pp b5 0]] rfl rfl call186 (en func186 ntmps186 ?_))))))))
   refine zcr (sp (.bool false) (zjc (sps [.slice yg r.qR.length yc,.func (.func 187) #[] #[pp b3 0,pp b1 0,pp b5 0]] (sw (vC #[.slice yg r.qR.length yc,.func (.func 187) #[] #[pp b3 0,pp b1 0,pp b5 0]] rfl rfl call207 (en func207 ntmps207 ?_))))))
   refine zcr (sp (yI 0) (zjcc (sp (.slice yg r.qR.length yc) (oN rfl (sp (yI 0) (zjn (qW ?_)))))))
   refine zo (fun m' ρ w42=>∃ (xP:Env) (i:Nat),ρ=upd (upd (upd (upd xP 0 (.slice yg r.qR.length yc)) 1 (.func (.func 187) #[] #[pp b3 0,pp b1 0,pp b5 0])) 7 (yI r.qR.length)) 8 (yI i)∧((i:Int)≤r.qR.length)∧(IntoUp s t r i)∧m' =(r.qR.length - (i:Int)).toNat∧Fresh w.heap.size []∧St w w42 [.box b5 [yI r.qG,yI r.zJ,.slice yL r.xk.length yF,.slice yP r.xB.length yJ,.slice yM r.xG.length yG,.slice yO r.xJ.length yH,.slice Xv r.zT.length Xu,.slice yg r.qR.length yc,.bool r.zy] 121,.box b3 [.slice (aa b7 o8) t.qy.length qP,.slice (aa b11 o12) t.qE.length xh,.slice qM t.qA.length qL] 38,.box b1 (yS s qC qB qN qJ) 36] [sF false Fe14 ae14 ce14 (t.qE[r.qG.toNat]!),atF b11 (o12+(r.qG:Int).toNat * 1) [.slice ae14 ((t.qE[r.qG.toNat]!).length) ce14],sF false qY qC qB s.qw,sF false xF qN qJ s.qx,sF false xN (aa b7 o8) qP t.qy,sF false zq (aa b11 o12) xh t.qE,sF false xE qM qL t.qA,sF false Yq yL yF r.xk,sF false Yu yP yJ r.xB,sF false Yr yM yG r.xG,sF false Yt yO yH r.xJ,sF false FrOut Xv Xu r.zT,sF false FrInto yg yc r.qR]) ((r.qR.length - (0:Int)).toNat) ⟨_,0,uE4,qf,(by exact fun j hj=>by omega),rfl,N,H⟩ ?_
   clear H N
   rintro m' ρ w43 ⟨xP,i,rfl,i0,i1,rfl,N,H⟩
   refine zcr (sp (.bool (decide ((i:Int) < r.qR.length))) (zjn (xO (cD rfl (fun h44=>?_) (fun h44=>?_)))))
   ·skip
    have q:=(p12 i qf).1
    have q1:=q.1
    have q2:=q.2
    refine qV (t_n (xO (qW (zcr (sps [yI i,yI i] (zjc (sps [.func (.func 187) #[] #[pp b3 0,pp b1 0,pp b5 0],.slice yg r.qR.length yc,yI i] ?_)))))))
    obtain ⟨b45,o46,rfl⟩:=H.addr 12 rfl qf
    obtain ⟨ae48Bag,ce48Bag,Fe48Bag,H⟩:=H.jR 12 rfl i i qf qf qf
    refine oI rfl rfl (sw (xY [yI ((r.qR[i]!).qG),.slice ae48Bag (((r.qR[i]!).jw).length) ce48Bag] isAgg164 sizeOf164 rfl (qF (H.get 1 rfl) 0 2) (sw (vC #[.agg #[yI ((r.qR[i]!).qG),.slice ae48Bag (((r.qR[i]!).jw).length) ce48Bag],pp b3 0,pp b1 0,pp b5 0] rfl rfl call187 (en func187 ntmps187 ?_)))))
    refine zcr (sw (vG H [yI ((r.qR[i]!).qG),.slice ae48Bag (((r.qR[i]!).jw).length) ce48Bag] fun b49 w50 H=>sp (.bool false) (zjn (xO ?_))))
    refine jd rfl H fun H=>tF 0 rfl rfl H ?_
    refine tL 1 rfl rfl (fun _ h=>h.cell 2 rfl rfl) H ?_
    refine tF 2 rfl rfl H ?_
    refine tL 3 rfl rfl (fun _ h=>h.cell 0 rfl rfl) H ?_
    refine tI 4 rfl rfl rfl H ?_
    refine tL 5 rfl rfl (fun _ h=>h.XR 6 rfl ((r.qR[i]!).qG) qf qf) H ?_
    refine rtp 6 (.bool (!(t.qy[((r.qR[i]!).qG).toNat]!))) H ?_
    refine rtp 7 (.bool (!(t.qy[((r.qR[i]!).qG).toNat]!))) H ?_
    cases h52:(!(t.qy[((r.qR[i]!).qG).toNat]!))
    ·skip
     replace h52:=xg h52
     refine rg 8 (.agg #[yI s.xA,.slice qC s.qw.length qB,.slice qN s.qx.length qJ]) 13 (Qy (cs:=(yS s qC qB qN qJ)) isAgg36 sizeOf36 rfl (fun _ h=>qF (h.cells 3 rfl) 0 3)) H ?_
     refine rg 9 (.agg #[.slice (aa b7 o8) t.qy.length qP,.slice (aa b11 o12) t.qE.length xh,.slice qM t.qA.length qL]) 13 (Qy (cs:=[.slice (aa b7 o8) t.qy.length qP,.slice (aa b11 o12) t.qE.length xh,.slice qM t.qA.length qL]) isAgg38 sizeOf38 rfl (fun _ h=>qF (h.cells 2 rfl) 0 3)) H ?_
     refine gF 10 rfl rfl H ?_
     refine gL 11 rfl rfl (fun _ h=>h.cell 0 rfl rfl) H ?_
     refine gF 13 rfl rfl H ?_
     refine gL 14 rfl rfl (fun _ h=>h.cell 1 rfl rfl) H ?_
     refine jo [12] qh qm (r_opG rfl (e:=13) rfl rfl (oq (parentNow_ok _ s t ((r.qR[i]!).qG) (H.get 4 rfl).1 (H.get 5 rfl).1 (H.get 6 rfl).1 (H.get 7 rfl).1 (H.get 8 rfl).1 qg qg qg) H fun w54 H=>⟨H,(rgp 15 (.bool ((xy s t ((r.qR[i]!).qG):Int) != r.qG)) 13 H ?_)⟩) jq)
     refine rtp 16 (.bool ((xy s t ((r.qR[i]!).qG):Int) != r.qG)) H ?_
     refine rtp 17 (.bool ((xy s t ((r.qR[i]!).qG):Int) != r.qG)) H ?_
     refine xM qh (t_n (c_ret (ret1 (.bool ((xy s t ((r.qR[i]!).qG):Int) != r.qG)) rfl rfl ⟨_,rfl,?_⟩)))
     replace H:=H.erases [0]
     dsimp only [vX,List.eraseIdx] at H
     refine zjn (xH ((xy s t ((r.qR[i]!).qG):Int) != r.qG) rfl (fun h56=>?_) (fun h56=>?_))
     ·skip
      replace h56:=bne_iff_ne.1 h56
      refine zcr (sps [yI i,yI i] (zjr (zr5 (ret1 (yI i) rfl rfl ⟨_,rfl,(sw (o_pure (.bool true) (by show some (Value.bool (decide ((i:Int)≥0)))=some (Value.bool true);rw [decide_eq_true qf]) (sp (.bool true) (zjr (ret1 (.bool true) rfl rfl ⟨_,rfl,(sps [.bool false,.bool false] (zjr (ret1 (.bool false) rfl rfl ⟨_,rfl,?_,H.base⟩)))⟩)))))⟩))))
      rw [xw (fun h=>by obtain ⟨h1,h2,h3,h4,h5⟩:=h;first | exact ft h1 ‹_› | exact ft h2 ‹_› | exact ft h3 ‹_› | exact h4 ⟨‹_›,‹_›⟩ | (obtain ⟨q1,q2⟩:=h5 i qf;first | exact ft q1 ‹_› | exact absurd q2 ‹_›))]
     replace h56:=xq h56
     refine qV (b_n (t_n (xR (sw (zu i 1 rfl rfl qf (sp (yI (i+1)) (xU (qZ (m' :=(r.qR.length - ((i+1):Int)).toNat) qf ⟨_,i+1,uE4,?_,?_,rfl,N,H.pick [0,1,2] [2,3,4,5,6,7,8,9,10,11,12,13,14]⟩))))))))
     · omega
     · exact i1.succ ‹_› ‹_›
    replace h52:=xn h52
    refine zS [8,9,10,11,12,13,14,15] 8 (H) (rtp 16 (.bool true) H ?_)
    refine rtp 17 (.bool true) H ?_
    refine xM qh (t_n (c_ret (ret1 (.bool true) rfl rfl ⟨_,rfl,?_⟩)))
    replace H:=H.erases [0]
    dsimp only [vX,List.eraseIdx] at H
    refine zjn (xH true rfl (fun _=>zcr (sps [yI i,yI i] (zjr (zr5 (ret1 (yI i) rfl rfl ⟨_,rfl,(sw (o_pure (.bool true) (by show some (Value.bool (decide ((i:Int)≥0)))=some (Value.bool true);rw [decide_eq_true qf]) (sp (.bool true) (zjr (ret1 (.bool true) rfl rfl ⟨_,rfl,(sps [.bool false,.bool false] (zjr (ret1 (.bool false) rfl rfl ⟨_,rfl,?_,H.base⟩)))⟩)))))⟩))))) (fun h=>absurd h qj))
    rw [xw (fun h=>by obtain ⟨h1,h2,h3,h4,h5⟩:=h;first | exact ft h1 ‹_› | exact ft h2 ‹_› | exact ft h3 ‹_› | exact h4 ⟨‹_›,‹_›⟩ | (obtain ⟨q1,q2⟩:=h5 i qf;first | exact ft q1 ‹_› | exact absurd q2 ‹_›))]
   refine zx4 (zcr (sp (yI (-1)) (zjr (ret1 (yI (-1)) rfl rfl ⟨_,rfl,(sps [.bool false,.bool false] (zjr (ret1 (.bool false) rfl rfl ⟨_,rfl,(sps [.bool true,.bool true] (zjr (ret1 (.bool true) rfl rfl ⟨_,rfl,?_,H.base⟩)))⟩)))⟩))))
   rw [yu ⟨by assumption,by assumption,by assumption,fun ⟨u,v⟩=>by first | omega | exact ft v ‹_›,(show i=r.qR.length by omega)▸i1⟩]
  replace h20:=xn h20
  refine zk [34,35,36,37,38,39,40,41,42,43] (sp (.bool true) (zjn (xH true rfl (fun _=>zcr (sp (.bool false) (zjr (t_r (ret1 (.bool false) rfl rfl ⟨_,rfl,?_,H.base⟩))))) (fun h=>absurd h qj))))
  rw [xw (fun h=>by obtain ⟨h1,h2,h3,h4,h5⟩:=h;first | exact ft h1 ‹_› | exact ft h2 ‹_› | exact ft h3 ‹_› | exact h4 ⟨‹_›,‹_›⟩ | (obtain ⟨q1,q2⟩:=h5 i qf;first | exact ft q1 ‹_› | exact absurd q2 ‹_›))]
 replace h17:=xn h17
 refine zk [27,28,29,30,31] (sps [.bool true,.bool true] (zk [34,35,36,37,38,39,40,41,42,43] (sp (.bool true) (zjn (xH true rfl (fun _=>zcr (sp (.bool false) (zjr (t_r (ret1 (.bool false) rfl rfl ⟨_,rfl,?_,H.base⟩))))) (fun h=>absurd h qj))))))
 rw [xw (fun h=>by obtain ⟨h1,h2,h3,h4,h5⟩:=h;first | exact ft h1 ‹_› | exact ft h2 ‹_› | exact ft h3 ‹_› | exact h4 ⟨‹_›,‹_›⟩ | (obtain ⟨q1,q2⟩:=h5 i qf;first | exact ft q1 ‹_› | exact absurd q2 ‹_›))]

theorem cloneSS_ok (w:World) (l:yLL) {al:yOA} {Fl:yLN} (hl:qO.rep w Fl [.slice al l.length cl] l) (p0:l.length≤1000000):Calls Tryz.prog 151 #[.slice al l.length cl] w (Ret (fun v w' =>∃ (ra:yOA) (rn:Nat) (rc:Nat) (rx:List Value) (rF:yLN),v=.slice ra rn rc∧(∀ b∈rF,b∈Fl)∧St w w' [rr ra rn rc 22 1 rx] [zh false rF rx l]) w):=by
 refine en func151 ntmps151 ?_
 have H:=(St.start w).arg hl
 have nhl:=qK hl
 clear hl
 have N:=Fresh.nil w.heap.size
 refine zcr (sp yN (zjcc (sp (.slice al l.length cl) (sw (o_eqnil underlying27 al l.length cl rfl (zjn (xH (al.isNone) rfl (fun h1=>?_) (fun h1=>?_))))))))
 ·skip
  refine zcr (sp yN (zjr (t_r ?_)))
  replace H:=H.nilRow 22 1
  replace H:=H.vP (α:=yLI)
  refine ret1 yN rfl rfl ⟨_,rfl,?_,H.base⟩
  obtain rfl:=H.nilOf 1 rfl ‹_›
  replace H:=H.unfree 0 rfl
  exact ⟨none,0,0,[],[],rfl,(by intro b hb;first | (simp at hb;done) | exact id b (by simpa using hb)),H.pick [0] [0]⟩
 refine qV (t_n (zcr (sw (vT H underlying27 ti22 fun b2 w3 H=>sp (.slice al l.length cl) ?_))))
 replace H:=H.boxRow 0 rfl 1 0 rfl qj
 replace H:=H.vP (α:=yLI)
 refine sw (o_appendFR H 0 rfl 1 rfl underlying27 ti22 rfl qj rfl rfl qp qf fun a4 c5 w6 us7 G8 H hG9=>?_)
 replace H:=H.repsCat false 1 rfl 0 rfl qm
 refine sp (.slice a4 (0+l.length) c5) (zjr (ret1 (.slice a4 (0+l.length) c5) rfl rfl ⟨_,rfl,(⟨a4,0+l.length,c5,[]++us7,([]++G8),rfl,(by intro b hb;first | (simp at hb;done) | exact hG9 b (by simpa using hb)),H.pick [0] [0]⟩),H.base⟩))

theorem timesIn_ok (w:World) (l:yLI) (m:yLI) {al:yOA} {Fl:yLN} {am:yOA} {Fm:yLN} (hl:qO.rep w Fl [.slice al l.length cl] l) (hm:qO.rep w Fm [.slice am m.length cm] m) (p0:l.length≤m.length) (p2:∀ q,q < l.length→0≤m[q]! ∧m[q]! ≤1000):Calls Tryz.prog 203 #[.slice al l.length cl,.slice am m.length cm] w (Ret (fun v w' =>v=yI (jk l m)) w):=by
 refine en func203 ntmps203 ?_
 have H:=((St.start w).arg hm).arg hl
 have nhl:=qK hl
 have nhm:=qK hm
 clear hl hm
 have N:=Fresh.nil w.heap.size
 refine zcr (sp (yI 0) (zjc (sp (yI 1000) (zjcc (sp (.slice al l.length cl) (oN rfl (sp (yI 0) (zjn (qW ?_)))))))))
 refine zo (fun m' ρ w1=>∃ (xP:Env) (most:Int) (k:Nat),ρ=upd (upd (upd (upd (upd xP 1 (.slice am m.length cm)) 5 (yI most)) 8 (.slice al l.length cl)) 9 (yI l.length)) 10 (yI k)∧most=yU l m k∧((k:Int)≤l.length)∧m' =(l.length - (k:Int)).toNat∧Fresh w.heap.size []∧St w w1 [] [sF false Fl al cl l,sF false Fm am cm m]) ((l.length - (0:Int)).toNat) ⟨_,1000,0,uE5,(by rfl),qf,rfl,N,H⟩ ?_
 clear H N
 rintro m' ρ w2 ⟨xP,most,k,rfl,rfl,i0,rfl,N,H⟩
 refine zcr (sp (.bool (decide ((k:Int) < l.length))) (zjn (xO (cD rfl (fun h3=>?_) (fun h3=>?_)))))
 ·skip
  refine qV (t_n (xO (qW (zcr (sp (yI k) ?_)))))
  obtain ⟨b4,o5,rfl⟩:=H.addr 0 rfl qf
  refine oI rfl rfl (oL rfl (H.jI 0 rfl k qf qf) (sps [yI k,yI (l[k]!)] (zjc (sps [yI (l[k]!),.bool (decide ((l[k]! :Int) > 0))] (zjn (cD rfl (fun h7=>?_) (fun h7=>?_)))))))
  ·skip
   refine xR (sps [yI (yU l m k),.slice am m.length cm,yI k] ?_)
   obtain ⟨b8,o9,rfl⟩:=H.addr 1 rfl qf
   refine oI rfl rfl (oL rfl (H.jI 1 rfl k qf qf) (sp (yI (l[k]!)) (sw (o_quo (m[k]!) (l[k]!) rfl rfl (by (have:=p2 k qf;omega)) (by (have:=p2 k qf;omega)) (sw (o_min (yU l m k) ((m[k]!) / (l[k]!)) rfl rfl (sp (yI (min (yU l m k) ((m[k]!) / (l[k]!)))) (xU (b_n (t_n (xR (sw (zu k 1 rfl rfl (by (have:=p2 k qf;omega)) (sp (yI (k+1)) (xU (qZ (m' :=(l.length - ((k+1):Int)).toNat) qf ⟨_,min (yU l m k) ((m[k]!) / (l[k]!)),k+1,uE5,?_,?_,rfl,N,H⟩))))))))))))))))
   · first | exact (timesTo_pos qf).symm | exact (timesTo_skip qf).symm
   · omega
  refine qV (b_n (t_n (xR (sw (zu k 1 rfl rfl (by (have:=p2 k qf;omega)) (sp (yI (k+1)) (xU (qZ (m' :=(l.length - ((k+1):Int)).toNat) qf ⟨_,(yU l m k),k+1,uE5,?_,?_,rfl,N,H⟩))))))))
  · first | exact (timesTo_pos qf).symm | exact (timesTo_skip qf).symm
  · omega
 refine zx4 (zcr (sps [yI (yU l m k),yI (yU l m k)] (zjr (ret1 (yI (yU l m k)) rfl rfl ⟨_,rfl,?_,H.base⟩))))
 obtain rfl:k=l.length:=by omega
 rfl

theorem applicable_ok (w:World) (s:qI) (t:qH) {qC:yOA} {qY:yLN} {qN:yOA} {xF:yLN} {qU:yOA} {xN:yLN} {xm:yOA} {zq:yLN} {qM:yOA} {xE:yLN} (xf:qO.rep w qY [.slice qC s.qw.length qB] s.qw) (xI:qO.rep w xF [.slice qN s.qx.length qJ] s.qx) (zg:qO.rep w xN [.slice qU t.qy.length qP] t.qy) (zI:qO.rep w zq [.slice xm t.qE.length xh] t.qE) (xK:qO.rep w xE [.slice qM t.qA.length qL] t.qA) (p0:yj s) (p1:zH s t):Calls Tryz.prog 112 #[.agg #[yI s.xA,.slice qC s.qw.length qB,.slice qN s.qx.length qJ],.agg #[.slice qU t.qy.length qP,.slice xm t.qE.length xh,.slice qM t.qA.length qL]] w (Ret (fun v w' =>∃ (ra:yOA) (rn:Nat) (rc:Nat),v=.slice ra rn rc∧Fresh w.heap.size []∧St w w' [rr ra rn rc 2 1 ((appls s t).map (Value.int .i64))] []) w):=by
 refine en func112 ntmps112 ?_
 have H:=(((((St.start w).arg xK).arg zI).arg zg).arg xI).arg xf
 have vk:=qK xf
 have jl:=qK xI
 have Qh:=qK zg
 have QW:=qK zI
 have jL:=qK xK
 clear xf xI zg zI xK
 have N:=Fresh.nil w.heap.size
 have p2:=p0.2.1
 have p3:=p0.1.2.1
 refine zcr (sw (vG H (yS s qC qB qN qJ) fun b1 w2 H=>sw (vG H (yT t qU qP xm xh qM qL) fun b3 w4 H=>sp yN (zjc (sw (jr [yI 0,yI 0,yI 0,yI 0,yI 0,yI 0] [] (sw (xX H ti166 [yI 0,yI 0,yI 0,yI 0,yI 0,yI 0] fun b5 w6 H=>?_))))))))
 refine sw (zt H 0 [yI 0,yI 0,yI 0,yI 0,yI 0,yI 0] sizeOf166 fun w7 H=>zjcc (sp (yI 0) (zjn (qW ?_))))
 refine zo (fun m' ρ w8=>∃ (xP:Env) (c:Nat) (top:yLI),ρ=upd (upd (upd (upd xP 2 (pp b1 0)) 3 (pp b3 0)) 5 (pp b5 0)) 13 (yI c)∧top=minus c∧((c:Int)≤6)∧m' =(6 - (c:Int)).toNat∧Fresh w.heap.size []∧St w w8 [.box b5 (top.map (Value.int .i64)) 166,.box b3 (yT t qU qP xm xh qM qL) 38,.box b1 (yS s qC qB qN qJ) 36] [sF false qY qC qB s.qw,sF false xF qN qJ s.qx,sF false xN qU qP t.qy,sF false zq xm xh t.qE,sF false xE qM qL t.qA]) ((6 - (0:Int)).toNat) ⟨_,0,[0,0,0,0,0,0],uE4,(by rfl),qf,rfl,N,H⟩ ?_
 clear H N
 rintro m' ρ w9 ⟨xP,c,top,rfl,rfl,i0,rfl,N,H⟩
 refine zcr (sp (.bool (decide ((c:Int) < 6))) (zjn (xO (cD rfl (fun h10=>?_) (fun h10=>?_)))))
 ·skip
  refine qV (t_n (xO (qW (zcr (sps [yI c,yI c] (zjn (xR (sp (yI c) (sw (o_idxArr c underlying166 ti2 rfl rfl qf qf (sw (o_storeArr H 0 rfl (-1) sizeOf2 rfl rfl (i:=c) qf (by simp only [List.length_set,List.length_cons,List.length_nil,minus_len,X3];omega) fun w11 H=>xU (b_n (t_n (xR (sw (zu c 1 rfl rfl qf (sp (yI (c+1)) (xU (qZ (m' :=(6 - ((c+1):Int)).toNat) qf ⟨_,c+1,((minus c).set c (-1)),uE4,?_,?_,rfl,N,H⟩))))))))))))))))))))
  · exact minus_set qf
  · omega
 refine zx4 (zcc (oF rfl (oL rfl (H.cell 2 rfl rfl) (oN rfl (sp (yI 0) (zjn (qW ?_)))))))
 refine zo (fun m' ρ w12=>∃ (xP:Env) (k:Nat) (top_1:yLI),ρ=upd (upd (upd (upd (upd (upd xP 2 (pp b1 0)) 3 (pp b3 0)) 5 (pp b5 0)) 20 (.slice qN s.qx.length qJ)) 21 (yI s.qx.length)) 22 (yI k)∧top_1=bests s t (-1) 6 k∧((k:Int)≤s.qx.length)∧m' =(s.qx.length - (k:Int)).toNat∧Fresh w.heap.size []∧St w w12 [.box b5 (top_1.map (Value.int .i64)) 166,.box b3 (yT t qU qP xm xh qM qL) 38,.box b1 (yS s qC qB qN qJ) 36] [sF false qY qC qB s.qw,sF false xF qN qJ s.qx,sF false xN qU qP t.qy,sF false zq xm xh t.qE,sF false xE qM qL t.qA]) ((s.qx.length - (0:Int)).toNat) ⟨_,0,(minus c),uE6,(by exact minus_six qf s t),qf,rfl,N,H⟩ ?_
 clear H N
 rintro m' ρ w13 ⟨xP,k,top_1,rfl,rfl,i0,rfl,N,H⟩
 refine zcr (sp (.bool (decide ((k:Int) < s.qx.length))) (zjn (xO (cD rfl (fun h14=>?_) (fun h14=>?_)))))
 ·skip
  have q:=p0.rule (i:=k) qf
  have qc:=q.1
  have qk:=q.cell
  have qr:=q.2.1
  have q6:(s.qx[k]!).qG.toNat < 6:=by omega
  refine qV (t_n (xO (qW (zcr ?_))))
  obtain ⟨b15,o16,rfl⟩:=H.addr 1 rfl qf
  obtain ⟨ae18Need,ce18Need,Fe18Need,ae18Have,ce18Have,Fe18Have,ae18Lack,ce18Lack,Fe18Lack,ae18Here,ce18Here,Fe18Here,ae18Out,ce18Out,Fe18Out,ae18Into,ce18Into,Fe18Into,H⟩:=H.yl 1 rfl k k qf qf qf
  refine oI rfl rfl (sw (xY [yI ((s.qx[k]!).qG),yI ((s.qx[k]!).zJ),.slice ae18Need (((s.qx[k]!).xk).length) ce18Need,.slice ae18Have (((s.qx[k]!).xB).length) ce18Have,.slice ae18Lack (((s.qx[k]!).xG).length) ce18Lack,.slice ae18Here (((s.qx[k]!).xJ).length) ce18Here,.slice ae18Out (((s.qx[k]!).zT).length) ce18Out,.slice ae18Into (((s.qx[k]!).qR).length) ce18Into,.bool ((s.qx[k]!).zy)] isAgg121 sizeOf121 rfl (qF (H.get 6 rfl) 0 9) ?_))
  refine sw (xX H ti121 [yI 0,yI 0,yN,yN,yN,yN,yN,yN,.bool false] fun b19 w20 H=>sw (zt H 0 [yI ((s.qx[k]!).qG),yI ((s.qx[k]!).zJ),.slice ae18Need (((s.qx[k]!).xk).length) ce18Need,.slice ae18Have (((s.qx[k]!).xB).length) ce18Have,.slice ae18Lack (((s.qx[k]!).xG).length) ce18Lack,.slice ae18Here (((s.qx[k]!).xJ).length) ce18Here,.slice ae18Out (((s.qx[k]!).zT).length) ce18Out,.slice ae18Into (((s.qx[k]!).qR).length) ce18Into,.bool ((s.qx[k]!).zy)] sizeOf121 fun w21 H=>?_))
  refine zjc (sw (xY [yI s.xA,.slice qC s.qw.length qB,.slice (aa b15 o16) s.qx.length qJ] isAgg36 sizeOf36 rfl (qF (H.cells 3 rfl) 0 3) (sw (xY (yT t qU qP xm xh qM qL) isAgg38 sizeOf38 rfl (qF (H.cells 2 rfl) 0 3) ?_))))
  refine sw (xY [yI ((s.qx[k]!).qG),yI ((s.qx[k]!).zJ),.slice ae18Need (((s.qx[k]!).xk).length) ce18Need,.slice ae18Have (((s.qx[k]!).xB).length) ce18Have,.slice ae18Lack (((s.qx[k]!).xG).length) ce18Lack,.slice ae18Here (((s.qx[k]!).xJ).length) ce18Here,.slice ae18Out (((s.qx[k]!).zT).length) ce18Out,.slice ae18Into (((s.qx[k]!).qR).length) ce18Into,.bool ((s.qx[k]!).zy)] isAgg121 sizeOf121 rfl (qF (H.cells 0 rfl) 0 9) ?_)
  refine sw (oq (isEnabled_ok _ s t (s.qx[k]!) (H.get 7 rfl).1 (H.get 8 rfl).1 (H.get 9 rfl).1 (H.get 10 rfl).1 (H.get 11 rfl).1 (H.get 0 rfl).1 (H.get 1 rfl).1 (H.get 2 rfl).1 (H.get 3 rfl).1 (H.get 4 rfl).1 (H.get 5 rfl).1 qg qg qg) H fun w23 H=>zjn (cP rfl (fun h25=>?_) (fun h25=>?_)))
  ·skip
   refine Qu rfl H [0,2,3] fun H=>?_
   have S:=H.yD [0,2,3] [0,1,2,3,4,5,6,7,8,9,10,11]
   refine tF 0 rfl rfl S ?_
   refine tL 1 rfl rfl (fun _ h=>h.cell 0 rfl rfl) S ?_
   refine tF 2 rfl rfl S ?_
   refine tL 3 rfl rfl (fun _ h=>h.cell 0 rfl rfl) S ?_
   refine rt 4 (pp b5 (0+((s.qx[k]!).qG:Int).toNat * 1)) (y_idxArr b5 (0) 6 ((s.qx[k]!).qG) underlying166 ti2 rfl rfl qf qf) S ?_
   refine tF 6 rfl rfl S ?_
   refine tL 7 rfl rfl (fun _ h=>h.cell 0 rfl rfl) S ?_
   refine ro 5 rfl (zK (yI ((bests s t (-1) 6 k)[((s.qx[k]!).qG).toNat]!)) isAgg2 rfl (H.cell 1 rfl (ints_at (iv:=(s.qx[k]!).qG) (i:=(((s.qx[k]!).qG).toNat)) qf (by simp only [List.length_set,List.length_cons,List.length_nil,minus_len,X3];omega))) (⟨H.pick [0,2,3] [0,1,2,3,4,5,6,7,8,9,10,11],?_⟩))
   have S:=H.yD [0,2,3] [0,1,2,3,4,5,6,7,8,9,10,11]
   refine rt 8 (yI (max ((bests s t (-1) 6 k)[((s.qx[k]!).qG).toNat]!) ((s.qx[k]!).zJ))) (y_max ((bests s t (-1) 6 k)[((s.qx[k]!).qG).toNat]!) ((s.qx[k]!).zJ) rfl rfl) S ?_
   refine rt 9 (pp b5 (0+((s.qx[k]!).qG:Int).toNat * 1)) (y_idxArr b5 (0) 6 ((s.qx[k]!).qG) underlying166 ti2 rfl rfl qf qf) S ?_
   refine ro 10 rfl (o_storeArr H 1 rfl (max ((bests s t (-1) 6 k)[((s.qx[k]!).qG).toNat]!) ((s.qx[k]!).zJ)) sizeOf2 rfl rfl (i:=(((s.qx[k]!).qG).toNat)) qf (by simp only [List.length_set,List.length_cons,List.length_nil,minus_len,X3];omega) fun w27 H=>⟨H.pick [0,2,3] [0,1,2,3,4,5,6,7,8,9,10,11],(xM qh (b_n (t_n (xR (sw (zu k 1 rfl rfl qf (sp (yI (k+1)) (xU ?_))))))))⟩)
   refine qZ (m' :=(s.qx.length - ((k+1):Int)).toNat) qf ⟨_,k+1,((bests s t (-1) 6 k).set (((s.qx[k]!).qG).toNat) (max ((bests s t (-1) 6 k)[((s.qx[k]!).qG).toNat]!) ((s.qx[k]!).zJ))),uE6,?_,?_,rfl,N,H.pick [1,2,3] [7,8,9,10,11]⟩
   · first | exact bests_set ‹_› qf | exact bests_skip ‹_›
   · omega
  refine qV (b_n (t_n (xR (sw (zu k 1 rfl rfl qf (sp (yI (k+1)) (xU (qZ (m' :=(s.qx.length - ((k+1):Int)).toNat) qf ⟨_,k+1,(bests s t (-1) 6 k),uE6,?_,?_,rfl,N,H.pick [1,2,3] [7,8,9,10,11]⟩))))))))
  · first | exact bests_set ‹_› qf | exact bests_skip ‹_›
  · omega
 refine zx4 (zcr (sw (vT H underlying22 ti2 fun b28 w29 H=>sp (.slice (aa b28 0) 0 0) (zjcc (oF rfl (oL rfl (H.cell 3 rfl rfl) (oN rfl (sp (yI 0) (zjn (qW ?_))))))))))
 replace H:=H.boxRowI 0 [] 0
 refine zo (fun m' ρ w30=>∃ (xP:Env) (zY:yOA) (zn:Nat) (zO:Nat) (out:yLI) (i:Nat),ρ=upd (upd (upd (upd (upd (upd (upd xP 2 (pp b1 0)) 3 (pp b3 0)) 5 (pp b5 0)) 9 (.slice zY zn zO)) 43 (.slice qN s.qx.length qJ)) 44 (yI s.qx.length)) 45 (yI i)∧out=applL s t i∧((i:Int)≤s.qx.length)∧m' =(s.qx.length - (i:Int)).toNat∧Fresh w.heap.size []∧St w w30 [rr zY zn zO 2 1 (out.map (Value.int .i64)),.box b5 ((bests s t (-1) 6 k).map (Value.int .i64)) 166,.box b3 (yT t qU qP xm xh qM qL) 38,.box b1 (yS s qC qB qN qJ) 36] [sF false qY qC qB s.qw,sF false xF qN qJ s.qx,sF false xN qU qP t.qy,sF false zq xm xh t.qE,sF false xE qM qL t.qA]) ((s.qx.length - (0:Int)).toNat) ⟨_,(aa b28 0),0,0,([]:yLI),0,uE7,(by rfl),qf,rfl,N,H⟩ ?_
 clear H N
 rintro m' ρ w31 ⟨xP,zY,zn,zO,out,i,rfl,rfl,i0,rfl,N,H⟩
 have hn_out:=H.YG 0 rfl
 have ll:=applL_le s t i
 refine zcr (sp (.bool (decide ((i:Int) < s.qx.length))) (zjn (xO (cD rfl (fun h32=>?_) (fun h32=>?_)))))
 ·skip
  have q:=p0.rule (i:=i) qf
  have qc:=q.1
  have qk:=q.cell
  have qr:=q.2.1
  have q6:(s.qx[i]!).qG.toNat < 6:=by omega
  refine qV (t_n (xO (qW (zcr (sp (yI i) ?_)))))
  obtain ⟨b33,o34,rfl⟩:=H.addr 1 rfl qf
  obtain ⟨ae36Need,ce36Need,Fe36Need,ae36Have,ce36Have,Fe36Have,ae36Lack,ce36Lack,Fe36Lack,ae36Here,ce36Here,Fe36Here,ae36Out,ce36Out,Fe36Out,ae36Into,ce36Into,Fe36Into,H⟩:=H.yl 1 rfl i i qf qf qf
  refine oI rfl rfl (sw (xY [yI ((s.qx[i]!).qG),yI ((s.qx[i]!).zJ),.slice ae36Need (((s.qx[i]!).xk).length) ce36Need,.slice ae36Have (((s.qx[i]!).xB).length) ce36Have,.slice ae36Lack (((s.qx[i]!).xG).length) ce36Lack,.slice ae36Here (((s.qx[i]!).xJ).length) ce36Here,.slice ae36Out (((s.qx[i]!).zT).length) ce36Out,.slice ae36Into (((s.qx[i]!).qR).length) ce36Into,.bool ((s.qx[i]!).zy)] isAgg121 sizeOf121 rfl (qF (H.get 6 rfl) 0 9) ?_))
  refine sw (xX H ti121 [yI 0,yI 0,yN,yN,yN,yN,yN,yN,.bool false] fun b37 w38 H=>sp (yI i) ?_)
  refine sw (zt H 0 [yI ((s.qx[i]!).qG),yI ((s.qx[i]!).zJ),.slice ae36Need (((s.qx[i]!).xk).length) ce36Need,.slice ae36Have (((s.qx[i]!).xB).length) ce36Have,.slice ae36Lack (((s.qx[i]!).xG).length) ce36Lack,.slice ae36Here (((s.qx[i]!).xJ).length) ce36Here,.slice ae36Out (((s.qx[i]!).zT).length) ce36Out,.slice ae36Into (((s.qx[i]!).qR).length) ce36Into,.bool ((s.qx[i]!).zy)] sizeOf121 fun w39 H=>zjn (xO ?_))
  refine jd rfl H fun H=>tF 0 rfl rfl H ?_
  refine tL 1 rfl rfl (fun _ h=>h.cell 0 rfl rfl) H ?_
  refine tF 2 rfl rfl H ?_
  refine tL 3 rfl rfl (fun _ h=>h.cell 0 rfl rfl) H ?_
  refine rt 4 (pp b5 (0+((s.qx[i]!).qG:Int).toNat * 1)) (y_idxArr b5 (0) 6 ((s.qx[i]!).qG) underlying166 ti2 rfl rfl qf qf) H ?_
  refine tL 5 rfl rfl (fun _ h=>h.cell 2 rfl (ints_at (iv:=(s.qx[i]!).qG) (i:=(((s.qx[i]!).qG).toNat)) qf (by simp only [List.length_set,List.length_cons,List.length_nil,minus_len,X3];omega))) H ?_
  refine rtp 6 (.bool (((s.qx[i]!).zJ:Int) == ((bests s t (-1) 6 k)[((s.qx[i]!).qG).toNat]!))) H ?_
  refine rtp 7 (.bool (((s.qx[i]!).zJ:Int) == ((bests s t (-1) 6 k)[((s.qx[i]!).qG).toNat]!))) H ?_
  cases h41:(((s.qx[i]!).zJ:Int) == ((bests s t (-1) 6 k)[((s.qx[i]!).qG).toNat]!))
  ·skip
   replace h41:=ne_of_beq_false h41
   refine zS [8,9,10,11] 4 (H) (rtp 12 (.bool false) H ?_)
   refine xM qh (t_n (xH false rfl (fun h=>absurd h qj) (fun _=>qV (b_n (t_n (xR (sw (zu i 1 rfl rfl qf (sp (yI (i+1)) (xU (qZ (m' :=(s.qx.length - ((i+1):Int)).toNat) qf ⟨_,zY,zn,zO,(applL s t i),i+1,uE7,?_,?_,rfl,N,H.pick [1,2,3,4] [7,8,9,10,11]⟩)))))))))))
   · first | exact applL_yes (appl_yes (n:=6) (z:= -1) (k:=k) qf qf qf q6 ‹_› ‹_›) | exact applL_no (appl_no (n:=6) (z:= -1) (k:=k) qf qf qf q6 ‹_›) | exact applL_no (fun h=>‹¬ EnOk _ _ _› h.1)
   · omega
  replace h41:=eq_of_beq h41
  refine rg 8 (.agg #[yI s.xA,.slice qC s.qw.length qB,.slice (aa b33 o34) s.qx.length qJ]) 57 (Qy (cs:=[yI s.xA,.slice qC s.qw.length qB,.slice (aa b33 o34) s.qx.length qJ]) isAgg36 sizeOf36 rfl (fun _ h=>qF (h.cells 4 rfl) 0 3)) H ?_
  refine rg 9 (.agg #[.slice qU t.qy.length qP,.slice xm t.qE.length xh,.slice qM t.qA.length qL]) 57 (Qy (cs:=(yT t qU qP xm xh qM qL)) isAgg38 sizeOf38 rfl (fun _ h=>qF (h.cells 3 rfl) 0 3)) H ?_
  refine rg 10 (.agg #[yI ((s.qx[i]!).qG),yI ((s.qx[i]!).zJ),.slice ae36Need (((s.qx[i]!).xk).length) ce36Need,.slice ae36Have (((s.qx[i]!).xB).length) ce36Have,.slice ae36Lack (((s.qx[i]!).xG).length) ce36Lack,.slice ae36Here (((s.qx[i]!).xJ).length) ce36Here,.slice ae36Out (((s.qx[i]!).zT).length) ce36Out,.slice ae36Into (((s.qx[i]!).qR).length) ce36Into,.bool ((s.qx[i]!).zy)]) 57 (Qy (cs:=[yI ((s.qx[i]!).qG),yI ((s.qx[i]!).zJ),.slice ae36Need (((s.qx[i]!).xk).length) ce36Need,.slice ae36Have (((s.qx[i]!).xB).length) ce36Have,.slice ae36Lack (((s.qx[i]!).xG).length) ce36Lack,.slice ae36Here (((s.qx[i]!).xJ).length) ce36Here,.slice ae36Out (((s.qx[i]!).zT).length) ce36Out,.slice ae36Into (((s.qx[i]!).qR).length) ce36Into,.bool ((s.qx[i]!).zy)]) isAgg121 sizeOf121 rfl (fun _ h=>qF (h.cells 0 rfl) 0 9)) H ?_
  refine jo [11] qh qm (r_opG rfl (e:=57) rfl rfl (oq (isEnabled_ok _ s t (s.qx[i]!) (H.get 7 rfl).1 (H.get 8 rfl).1 (H.get 9 rfl).1 (H.get 10 rfl).1 (H.get 11 rfl).1 (H.get 0 rfl).1 (H.get 1 rfl).1 (H.get 2 rfl).1 (H.get 3 rfl).1 (H.get 4 rfl).1 (H.get 5 rfl).1 qg qg qg) H fun w43 H=>⟨H,(rtp 12 (.bool (dec (EnOk s t (s.qx[i]!)))) H ?_)⟩) jq)
  refine xM qh (t_n (cP rfl (fun h45=>?_) (fun h45=>?_)))
  ·skip
   refine xR (sps [.slice zY zn zO,yI i] (sw (zG H underlying22 ti2 [yI i] fun b46 w47 H=>sw (zN H 2 rfl 0 rfl underlying22 ti2 rfl qj rfl rfl rfl (by simp [Value.oneCell',Value.cells]) qp qf fun a48 c49 w50 H=>?_))))
   rw [snocI] at H
   refine sp (.slice a48 (zn+1) c49) (xU (b_n (t_n (xR (sw (zu i 1 rfl rfl qf (sp (yI (i+1)) (xU (qZ (m' :=(s.qx.length - ((i+1):Int)).toNat) qf ⟨_,a48,zn+1,c49,((applL s t i)++[(i:Int)]),i+1,uE7,?_,?_,rfl,N,H.pick [2,3,4,5] [7,8,9,10,11]⟩)))))))))
   · first | exact applL_yes (appl_yes (n:=6) (z:= -1) (k:=k) qf qf qf q6 ‹_› ‹_›) | exact applL_no (appl_no (n:=6) (z:= -1) (k:=k) qf qf qf q6 ‹_›) | exact applL_no (fun h=>‹¬ EnOk _ _ _› h.1)
   · omega
  refine qV (b_n (t_n (xR (sw (zu i 1 rfl rfl qf (sp (yI (i+1)) (xU (qZ (m' :=(s.qx.length - ((i+1):Int)).toNat) qf ⟨_,zY,zn,zO,(applL s t i),i+1,uE7,?_,?_,rfl,N,H.pick [1,2,3,4] [7,8,9,10,11]⟩))))))))
  · first | exact applL_yes (appl_yes (n:=6) (z:= -1) (k:=k) qf qf qf q6 ‹_› ‹_›) | exact applL_no (appl_no (n:=6) (z:= -1) (k:=k) qf qf qf q6 ‹_›) | exact applL_no (fun h=>‹¬ EnOk _ _ _› h.1)
  · omega
 refine zx4 (zcr (sps [.slice zY zn zO,.slice zY zn zO] (zjr (ret1 (.slice zY zn zO) rfl rfl ⟨_,rfl,?_,H.base⟩))))
 obtain rfl:i=s.qx.length:=by omega
 exact ⟨zY,zn,zO,rfl,N,H.pick [0] []⟩
end
end Go.Proofs.YtgjnaocffdhnbaaGreat
