/- Walks and laws, printed by program and by hand: what each function comes to, for all arguments, part 3. -/
import Derived.Test.YtdhklgjmiamiaaaGreatA2
namespace Go.Proofs.YtdhklgjmiamiaaaGreat
set_option linter.unusedVariables false
set_option linter.unusedSimpArgs false
open Go.Proofs.YtdhklgjmiamiaaaGreat.Tot (tot)
open Go.Proofs.YtdhklgjmiamiaaaGreat.Mark (cnt mrk mkd mkd_mark cnt_mark)
section
open Go.Proofs.Tryz
open Go.RowKit
set_option linter.unusedVariables false
set_option linter.unusedSimpArgs false
set_option maxRecDepth 100000
set_option maxHeartbeats 4000000
variable {qI qQ crNeed crHave crLack crHere crOut X0 xf xA qR cl : Nat}
theorem isShell_ok (w:World) (s:qE) {qJ:yOA} {xu:yLN} {qV:yOA} {zh:yLN} (qX:qO.rep w xu [.slice qJ s.qA.length qI] s.qA) (xn:qO.rep w zh [.slice qV s.qB.length qQ] s.qB):Calls Tryz.prog 142 #[.agg #[yI s.xP,.slice qJ s.qA.length qI,.slice qV s.qB.length qQ]] w (Ret (fun v w' =>v=.bool (dec (jL s))) w):=by
 refine en func142 ntmps142 ?_
 have H:=((St.start w).arg xn).arg qX
 have zN:=qM qX
 have vW:=qM xn
 clear qX xn
 have N:=Fresh.nil w.heap.size
 refine zcr (sw (zS H (yS s qJ qI qV qQ) fun b1 w2 H=>sp (.bool false) (zjcc (oF rfl (oL rfl (H.cell 0 rfl rfl) (sw (oq (Xj w2 s.xP 1 8) H fun w3 H=>sp (.bool (!(inR s.xP 1 8))) (sp (.bool (!(inR s.xP 1 8))) ?_))))))))
 cases h5:(!(inR s.xP 1 8))
 ·skip
  replace h5:=xw h5
  replace h5:=QJ.1 h5
  refine qL 9 rfl rfl (oF rfl (qL 9 rfl rfl (oL rfl (H.cell 0 rfl rfl) (qL 9 rfl rfl (sw (oq (sizeI_ok _ s.qA (H.get 0 rfl).1) H fun w6 H=>qL 9 rfl rfl (sw (oq (Xj w6 (s.qA.length:Int) 1 6) H fun w8 H=>qL 9 rfl rfl (sp (.bool (!(inR (s.qA.length:Int) 1 6))) (sp (.bool (!(inR (s.qA.length:Int) 1 6))) (sp (.bool (!(inR (s.qA.length:Int) 1 6))) ?_)))))))))))
  cases h10:(!(inR (s.qA.length:Int) 1 6))
  ·skip
   replace h10:=xw h10
   replace h10:=QJ.1 h10
   refine qL 16 rfl rfl (oF rfl (qL 16 rfl rfl (oL rfl (H.cell 0 rfl rfl) (qL 16 rfl rfl ?_))))
   obtain ⟨b11,o12,rfl⟩:=H.addr 0 rfl qf
   refine oI rfl rfl (qL 16 rfl rfl (oL rfl (H.zH 0 rfl 0 qf) (qL 16 rfl rfl (sp (.bool ((s.qA[0]! :Int) != (-1))) (sp (.bool ((s.qA[0]! :Int) != (-1))) (zjn (xE ((s.qA[0]! :Int) != (-1)) rfl (fun h14=>?_) (fun h14=>?_))))))))
   ·skip
    replace h14:=bne_iff_ne.1 h14
    refine zcr (sp (.bool false) (zjr (t_r (ret1 (.bool false) rfl rfl ⟨_,rfl,?_,H.base⟩))))
    rw [xk (fun h=>by obtain ⟨h1,h2,h3,h4⟩:=h;first | omega | (have:=h4 (c+1) qf qf;rw [← dg qf] at this;omega))]
   replace h14:=xm h14
   refine qW (t_n (zcc (oF rfl (oL rfl (H.cell 0 rfl rfl) (sw (o_tail H 0 rfl 1 underlying24 ti2 rfl qf fun a15 G16 hG17 H=>?_))))))
   have hl18:(s.qA.drop 1).length=s.qA.length - 1:=List.length_drop
   refine oN rfl (sp (yI 0) (zjn (qY ?_)))
   refine zq ((fun Z0 Z1 Z2 Z3=>fun m' ρ w19=>∃ (xM:Env) (c:Nat),ρ=upd (upd (upd xM 25 (.slice a15 ((s.qA.drop 1).length) (qI - 1))) 26 (yI ((s.qA.drop 1).length))) 27 (yI c)∧((c:Int)≤((s.qA.drop 1).length))∧(FrameTo s (c+1))∧m' =(((s.qA.drop 1).length) - (c:Int)).toNat∧Fresh w.heap.size []∧St w w19 [Z0] [Z1,Z2,Z3]) _ _ _ _) ((((s.qA.drop 1).length) - (0:Int)).toNat) ⟨_,0,uE3,qf,(by exact FrameTo.one s),rfl,N,H⟩ ?_
   clear H N
   rintro m' ρ w20 ⟨xM,c,rfl,i0,i1,rfl,N,H⟩
   have dg:=drop_get (l:=s.qA) (k:=c)
   refine zcr (sq 1 (zjn (xQ (cD rfl (fun h21=>?_) (fun h21=>?_)))))
   ·skip
    refine qW (t_n (xQ (qY (zcr (sp (yI c) ?_)))))
    obtain ⟨b22,o23,rfl⟩:=H.addr 0 rfl qf
    refine oI rfl rfl (oL rfl (H.zH 0 rfl c qf) (sp (yI c) (sq 1 (zjc (sq 1 (sp (yI c) (sw (oq (Xj w20 ((s.qA.drop 1)[c]!) 0 c) H fun w25 H=>sq 1 (zjn (xE _ rfl (fun h27=>?_) (fun h27=>?_)))))))))))
    ·skip
     replace h27:=xJ h27
     replace h27:=Xk h27
     refine zcr (sp (.bool false) (zjr (zr5 (ret1 (.bool false) rfl rfl ⟨_,rfl,?_,H.base⟩))))
     rw [xk (fun h=>by obtain ⟨h1,h2,h3,h4⟩:=h;first | omega | (have:=h4 (c+1) qf qf;rw [← dg qf] at this;omega))]
    replace h27:=xw h27
    replace h27:=QJ.1 h27
    refine qW (b_n (t_n (xU (sw (zA c 1 rfl rfl qf (sq 1 (xY (xe (m' :=(((s.qA.drop 1).length) - ((c+1):Int)).toNat) qf ⟨_,c+1,uE3,?_,?_,rfl,N,H⟩))))))))
    · omega
    · exact i1.succ (by rw [← dg qf];omega)
   refine zx4 (zcr (sp (.bool true) (zjr (ret1 (.bool true) rfl rfl ⟨_,rfl,?_,H.base⟩))))
   rw [jY ⟨by omega,by omega,by omega,(show s.qA.length=c+1 by omega)▸i1⟩]
  replace h10:=xJ h10
  replace h10:=Xk h10
  refine xZ [17,18,19,20,21] (sp (.bool true) (zjn (xE true rfl (fun _=>zcr (sp (.bool false) (zjr (t_r (ret1 (.bool false) rfl rfl ⟨_,rfl,?_,H.base⟩))))) (fun h=>absurd h qj))))
  rw [xk (fun h=>by obtain ⟨h1,h2,h3,h4⟩:=h;first | omega | (have:=h4 (c+1) qf qf;rw [← dg qf] at this;omega))]
 replace h5:=xJ h5
 replace h5:=Xk h5
 refine xZ [10,11,12,13,14] (sp (.bool true) (sp (.bool true) (xZ [17,18,19,20,21] (sp (.bool true) (zjn (xE true rfl (fun _=>zcr (sp (.bool false) (zjr (t_r (ret1 (.bool false) rfl rfl ⟨_,rfl,?_,H.base⟩))))) (fun h=>absurd h qj)))))))
 rw [xk (fun h=>by obtain ⟨h1,h2,h3,h4⟩:=h;first | omega | (have:=h4 (c+1) qf qf;rw [← dg qf] at this;omega))]

theorem isCell_ok (w:World) (s:qE) (c:Int) {qJ:yOA} {xu:yLN} {qV:yOA} {zh:yLN} (qX:qO.rep w xu [.slice qJ s.qA.length qI] s.qA) (xn:qO.rep w zh [.slice qV s.qB.length qQ] s.qB):Calls Tryz.prog 184 #[.agg #[yI s.xP,.slice qJ s.qA.length qI,.slice qV s.qB.length qQ],yI c] w (Ret (fun v w' =>v=.bool (inR c 0 ((s.qA.length:Int) - 1))) w):=by
 refine en func184 ntmps184 ?_
 have H:=((St.start w).arg xn).arg qX
 have zN:=qM qX
 have vW:=qM xn
 clear qX xn
 have N:=Fresh.nil w.heap.size
 refine zcr (sw (zS H (yS s qJ qI qV qQ) fun b1 w2 H=>sp (.bool false) (zjc (sp (yI c) (oF rfl (oL rfl (H.cell 0 rfl rfl) (sw (oq (sizeI_ok _ s.qA (H.get 0 rfl).1) H fun w3 H=>sw (o_sub (s.qA.length:Int) 1 rfl rfl qf (sw (oq (Xj w3 c 0 ((s.qA.length:Int) - 1)) H fun w5 H=>sq 1 (zjr (ret1 (.bool (inR c 0 ((s.qA.length:Int) - 1))) rfl rfl ⟨_,rfl,?_,H.base⟩)))))))))))))
 rfl

theorem lies_ok (w:World) (s:qE) (c:Int) (within:Int) {qJ:yOA} {xu:yLN} {qV:yOA} {zh:yLN} (qX:qO.rep w xu [.slice qJ s.qA.length qI] s.qA) (xn:qO.rep w zh [.slice qV s.qB.length qQ] s.qB) (p0:jL s) (p1:CellIn s c):Calls Tryz.prog 185 #[.agg #[yI s.xP,.slice qJ s.qA.length qI,.slice qV s.qB.length qQ],yI c,yI within] w (Ret (fun v w' =>v=.bool (dec (Lies s.qA within c))) w):=by
 refine en func185 ntmps185 ?_
 have H:=((St.start w).arg xn).arg qX
 have zN:=qM qX
 have vW:=qM xn
 clear qX xn
 have N:=Fresh.nil w.heap.size
 have p2:=p0.step p1.1 p1.2
 refine zcr (sw (zS H (yS s qJ qI qV qQ) fun b1 w2 H=>sp (.bool false) (zjcc (oF rfl (oL rfl (H.cell 0 rfl rfl) (sp (yI c) ?_))))))
 obtain ⟨b3,o4,rfl⟩:=H.addr 0 rfl qf
 refine oI rfl rfl (oL rfl (H.elemInt 0 rfl c qf qf) (sq 1 (zjn (qY ?_))))
 refine zq ((fun Z0 Z1 Z2=>fun m' ρ w6=>∃ (xM:Env) (c_1:Int),ρ=upd (upd (upd xM 1 (yI c_1)) 2 (yI within)) 3 (pp b1 0)∧(-1≤c_1∧c_1≤(s.qA.length:Int) - 1)∧(Lies s.qA within c↔0≤c_1∧(c_1=within∨Lies s.qA within c_1))∧m' =(c_1+1).toNat∧Fresh w.heap.size []∧St w w6 [Z0] [Z1,Z2]) _ _ _) (((s.qA[c.toNat]!)+1).toNat) ⟨_,s.qA[c.toNat]!,uE3,qf,(by exact lies_up p0 p1),rfl,N,H⟩ ?_
 clear H N
 rintro m' ρ w7 ⟨xM,c_1,rfl,i0,i1,rfl,N,H⟩
 have up:=fun h=>p0.step (c:=c_1) h i0.2
 refine zcc (sq 1 (sp (.bool (decide ((c_1:Int)≥0))) (zjn (cD rfl (fun h8=>?_) (fun h8=>?_)))))
 ·skip
  refine qW (t_n (xQ (qY (zcr (sq 3 (zjn (cE rfl (fun h9=>?_) (fun h9=>?_))))))))
  ·skip
   refine zcr (sp (.bool true) (zjr (zr5 (ret1 (.bool true) rfl rfl ⟨_,rfl,?_,H.base⟩))))
   rw [jY (i1.2 ⟨by omega,.inl ‹_›⟩)]
  refine qW (b_n (t_n (xU (oF rfl (oL rfl (H.cell 0 rfl rfl) (sq 1 (oI rfl rfl (oL rfl (H.elemInt 0 rfl c_1 qf qf) (sq 1 (xY ?_))))))))))
  have up1:=up qf
  refine xe (m' :=((s.qA[c_1.toNat]!)+1).toNat) qf ⟨_,_,uE3,?_,?_,rfl,N,H⟩
  · omega
  · exact i1.trans ⟨fun h=>(lies_up p0 ⟨by omega,by omega⟩).1 (h.2.resolve_left ‹_›),fun h=>⟨by omega,.inr ((lies_up p0 ⟨by omega,by omega⟩).2 h)⟩⟩
 refine zx4 (zcr (sp (.bool false) (zjr (ret1 (.bool false) rfl rfl ⟨_,rfl,?_,H.base⟩))))
 rw [xk (fun h=>by have:=(i1.1 h).1;omega)]

theorem isRule_ok (w:World) (s:qE) (r:jw) {qJ:yOA} {xu:yLN} {qV:yOA} {zh:yLN} {arNeed:yOA} {FrNeed:yLN} {arHave:yOA} {FrHave:yLN} {arLack:yOA} {FrLack:yLN} {arHere:yOA} {FrHere:yLN} {arOut:yOA} {FrOut:yLN} {X4:yOA} {FrInto:yLN} (qX:qO.rep w xu [.slice qJ s.qA.length qI] s.qA) (xn:qO.rep w zh [.slice qV s.qB.length qQ] s.qB) (hrNeed:qO.rep w FrNeed [.slice arNeed r.zB.length crNeed] r.zB) (hrHave:qO.rep w FrHave [.slice arHave r.vJ.length crHave] r.vJ) (hrLack:qO.rep w FrLack [.slice arLack r.vP.length crLack] r.vP) (hrHere:qO.rep w FrHere [.slice arHere r.vT.length crHere] r.vT) (hrOut:qO.rep w FrOut [.slice arOut r.yP.length crOut] r.yP) (hrInto:qO.rep w FrInto [.slice X4 r.xh.length X0] r.xh) (p0:jL s):Calls Tryz.prog 143 #[.agg #[yI s.xP,.slice qJ s.qA.length qI,.slice qV s.qB.length qQ],.agg #[yI r.qP,yI r.jI,.slice arNeed r.zB.length crNeed,.slice arHave r.vJ.length crHave,.slice arLack r.vP.length crLack,.slice arHere r.vT.length crHere,.slice arOut r.yP.length crOut,.slice X4 r.xh.length X0,.bool r.jB]] w (Ret (fun v w' =>v=.bool (dec (RuleOk s r))) w):=by
 refine en func143 ntmps143 ?_
 have H:=((((((((St.start w).arg hrInto).arg hrOut).arg hrHere).arg hrLack).arg hrHave).arg hrNeed).arg xn).arg qX
 have zN:=qM qX
 have vW:=qM xn
 have nhrNeed:=qM hrNeed
 have nhrHave:=qM hrHave
 have nhrLack:=qM hrLack
 have nhrHere:=qM hrHere
 have nhrOut:=qM hrOut
 have nhrInto:=qM hrInto
 clear qX xn hrNeed hrHave hrLack hrHere hrOut hrInto
 have N:=Fresh.nil w.heap.size
 refine zcr (sw (zS H (yS s qJ qI qV qQ) fun b1 w2 H=>sw (zS H [yI r.qP,yI r.jI,.slice arNeed r.zB.length crNeed,.slice arHave r.vJ.length crHave,.slice arLack r.vP.length crLack,.slice arHere r.vT.length crHere,.slice arOut r.yP.length crOut,.slice X4 r.xh.length X0,.bool r.jB] fun b3 w4 H=>sp (.bool false) (zjcc ?_))))
 refine sw (xI (yS s qJ qI qV qQ) isAgg27 sizeOf27 rfl (qC (H.cells 1 rfl) 0 3) (oF rfl (oL rfl (H.cell 0 rfl rfl) (sw (oq (isCell_ok _ s r.qP (H.get 0 rfl).1 (H.get 1 rfl).1) H fun w6 H=>sp (.bool (!(inR r.qP 0 ((s.qA.length:Int) - 1)))) (sp (.bool (!(inR r.qP 0 ((s.qA.length:Int) - 1)))) ?_))))))
 cases h8:(!(inR r.qP 0 ((s.qA.length:Int) - 1)))
 ·skip
  replace h8:=xw h8
  replace h8:=QJ.1 h8
  refine qL 14 rfl rfl (oF rfl (qL 14 rfl rfl (oL rfl (H.cell 0 rfl rfl) (qL 14 rfl rfl (sw (oq (Xj w6 r.jI 0 9) H fun w9 H=>qL 14 rfl rfl (sp (.bool (!(inR r.jI 0 9))) (sp (.bool (!(inR r.jI 0 9))) (sp (.bool (!(inR r.jI 0 9))) ?_)))))))))
  cases h11:(!(inR r.jI 0 9))
  ·skip
   replace h11:=xw h11
   replace h11:=QJ.1 h11
   refine qL 20 rfl rfl (oF rfl (qL 20 rfl rfl (oL rfl (H.cell 0 rfl rfl) (qL 20 rfl rfl (sp (.bool r.jB) ?_)))))
   cases h12:(r.jB)
   ·skip
    rw [h12] at H
    refine xZ [24,25,26] (qL 20 rfl rfl (sp (.bool false) (sp (.bool false) (sp (.bool false) (qL 29 rfl rfl (oF rfl (qL 29 rfl rfl (oL rfl (H.cell 0 rfl rfl) (qL 29 rfl rfl (oN rfl (qL 29 rfl rfl (sp (.bool (decide ((r.xh.length:Int) > 3))) (sp (.bool (decide ((r.xh.length:Int) > 3))) (zjn (cD rfl (fun h13=>?_) (fun h13=>?_))))))))))))))))
    ·skip
     refine zcr (sp (.bool false) (zjr (t_r (ret1 (.bool false) rfl rfl ⟨_,rfl,?_,H.base⟩))))
     rw [xk (fun h=>by obtain ⟨h1,h2,h3,h4,h5,h6,h7,h8,h9,h10,h11⟩:=h;first | contradiction | omega | exact h3 ⟨‹_›,‹_›⟩ | (obtain ⟨q1,q2,q3,q4,q5⟩:=h11 i qf;first | contradiction | omega | (have:=q5 qf;omega)) | (refine absurd ?_ ‹¬ vw _ _›;rcases (show k=0∨k=1∨k=2∨k=3∨k=4 by omega) with e | e | e | e | e <;> subst e <;> assumption))]
    refine qW (t_n (zcc (oF rfl (oL rfl (H.cell 0 rfl rfl) (oF rfl (oL rfl (H.cell 0 rfl rfl) (oF rfl (oL rfl (H.cell 0 rfl rfl) (oF rfl (oL rfl (H.cell 0 rfl rfl) (oF rfl (oL rfl (H.cell 0 rfl rfl) (sw (o_buildF H underlying29 ti24 [.slice arNeed r.zB.length crNeed,.slice arHave r.vJ.length crHave,.slice arLack r.vP.length crLack,.slice arHere r.vT.length crHere,.slice arOut r.yP.length crOut] rfl (by simp [Value.cells]) rfl qj qj fun b14 w15 H=>oN rfl (sp (yI 0) (zjn (qY ?_)))))))))))))))))
    replace H:=H.boxRow 0 rfl 1 5 rfl qj
    replace H:=H.zW (α:=yLI)
    replace H:=H.X8 false 7 rfl 0 rfl qm
    replace H:=H.X8 false 7 rfl 0 rfl qm
    replace H:=H.X8 false 7 rfl 0 rfl qm
    replace H:=H.X8 false 7 rfl 0 rfl qm
    replace H:=H.X8 false 7 rfl 0 rfl qm
    refine zq ((fun Z0 Z1 Z2 Z3 Z4 Z5 Z6 Z7 Z8 Z9 Z10 Z11=>fun m' ρ w16=>∃ (xM:Env) (k:Nat),ρ=upd (upd (upd (upd (upd xM 2 (pp b1 0)) 3 (pp b3 0)) 45 (.slice (aa b14 0) 5 5)) 46 (yI 5)) 47 (yI k)∧((k:Int)≤5)∧(∀ j,j < k→vw s.xP ([r.zB,r.vJ,r.vP,r.vT,r.yP][j]!))∧m' =(5 - (k:Int)).toNat∧Fresh w.heap.size []∧St w w16 [Z0,Z1,Z2] [Z3,Z4,Z5,Z6,Z7,Z8,Z9,Z10,Z11]) _ _ _ _ _ _ _ _ _ _ _ _) ((5 - (0:Int)).toNat) ⟨_,0,uE5,qf,(by intro j hj;omega),rfl,N,H.pick [0,1,2] [0,6,7,8,9,10,11,12,13]⟩ ?_
    clear H N
    rintro m' ρ w17 ⟨xM,k,rfl,i0,i1,rfl,N,H⟩
    refine zcr (sp (.bool (decide ((k:Int) < 5))) (zjn (xQ (cD rfl (fun h18=>?_) (fun h18=>?_)))))
    ·skip
     refine qW (t_n (xQ (qY (zcr (oI rfl rfl ?_)))))
     obtain ⟨a19,c20,G21,s22,h23,H⟩:=H.jy 0 rfl 0 rfl (iv:=k) k qf qf
     refine oL rfl (h23) (sq 1 (zjc (oF rfl (oL rfl (H.cell 2 rfl rfl) (sq 1 (sw (oq (Vj _ s.xP ([r.zB,r.vJ,r.vP,r.vT,r.yP][k]!) (H.get 0 rfl).1) H fun w24 H=>sq 1 (zjn (cQ rfl (fun h26=>?_) (fun h26=>?_))))))))))
     ·skip
      refine zcr (sp (.bool false) (zjr (zr5 (ret1 (.bool false) rfl rfl ⟨_,rfl,?_,H.base⟩))))
      rw [xk (fun h=>by obtain ⟨h1,h2,h3,h4,h5,h6,h7,h8,h9,h10,h11⟩:=h;first | contradiction | omega | exact h3 ⟨‹_›,‹_›⟩ | (obtain ⟨q1,q2,q3,q4,q5⟩:=h11 i qf;first | contradiction | omega | (have:=q5 qf;omega)) | (refine absurd ?_ ‹¬ vw _ _›;rcases (show k=0∨k=1∨k=2∨k=3∨k=4 by omega) with e | e | e | e | e <;> subst e <;> assumption))]
     refine qW (b_n (t_n (xU (sw (zA k 1 rfl rfl qf (sq 1 (xY (xe (m' :=(5 - ((k+1):Int)).toNat) qf ⟨_,k+1,uE5,?_,?_,rfl,N,H.pick [0,1,2] [1,2,3,4,5,6,7,8,9]⟩))))))))
     · omega
     · intro j hj;by_cases e:j=k;(subst e;assumption);exact i1 j qf
    refine zx4 (zcc (oF rfl (oL rfl (H.cell 1 rfl rfl) (oN rfl (sp (yI 0) (zjn (qY ?_)))))))
    have n1:vw s.xP r.zB:=i1 0 qf
    have n2:vw s.xP r.vJ:=i1 1 qf
    have n3:vw s.xP r.vP:=i1 2 qf
    have n4:vw s.xP r.vT:=i1 3 qf
    have n5:vw s.xP r.yP:=i1 4 qf
    refine zq ((fun Z0 Z1 Z2 Z3 Z4 Z5 Z6 Z7 Z8 Z9 Z10 Z11=>fun m' ρ w27=>∃ (xM:Env) (i:Nat),ρ=upd (upd (upd (upd (upd xM 2 (pp b1 0)) 3 (pp b3 0)) 58 (.slice X4 r.xh.length X0)) 59 (yI r.xh.length)) 60 (yI i)∧((i:Int)≤r.xh.length)∧(IntosTo s r i)∧m' =(r.xh.length - (i:Int)).toNat∧Fresh w.heap.size []∧St w w27 [Z0,Z1,Z2] [Z3,Z4,Z5,Z6,Z7,Z8,Z9,Z10,Z11]) _ _ _ _ _ _ _ _ _ _ _ _) ((r.xh.length - (0:Int)).toNat) ⟨_,0,uE5,qf,qx,rfl,N,H⟩ ?_
    clear H N
    rintro m' ρ w28 ⟨xM,i,rfl,i0,i2,rfl,N,H⟩
    refine zcr (sq 1 (zjn (xQ (cD rfl (fun h29=>?_) (fun h29=>?_)))))
    ·skip
     refine qW (t_n (xQ (qY (zcr (sp (yI i) ?_)))))
     obtain ⟨b30,o31,rfl⟩:=H.addr 8 rfl qf
     obtain ⟨ae33Bag,ce33Bag,Fe33Bag,H⟩:=H.yM 8 rfl i i qf qf qf
     refine oI rfl rfl (sw (xI [yI ((r.xh[i]!).qP),.slice ae33Bag (((r.xh[i]!).QG).length) ce33Bag] isAgg128 sizeOf128 rfl (qC (H.get 1 rfl) 0 2) (sw (xx H ti128 [yI 0,yN] fun b34 w35 H=>sp (yI i) (sw (xG H 0 [yI ((r.xh[i]!).qP),.slice ae33Bag (((r.xh[i]!).QG).length) ce33Bag] sizeOf128 fun w36 H=>zjn (xQ ?_)))))))
     refine jf rfl H fun H=>rt 0 _ (yh (cs:=(yS s qJ qI qV qQ)) isAgg27 sizeOf27 rfl (fun _ h=>qC (h.cells 3 rfl) 0 3)) H ?_
     refine tF 1 rfl rfl H ?_
     refine tL 2 rfl rfl (fun _ h=>h.cell 0 rfl rfl) H ?_
     refine ro 3 rfl (oq (isCell_ok _ s ((r.xh[i]!).qP) (H.get 3 rfl).1 (H.get 4 rfl).1) H fun w39 H=>⟨H,(rtp 4 (.bool (!(inR ((r.xh[i]!).qP) 0 ((s.qA.length:Int) - 1)))) H ?_)⟩)
     refine rtp 5 (.bool (!(inR ((r.xh[i]!).qP) 0 ((s.qA.length:Int) - 1)))) H ?_
     cases h41:(!(inR ((r.xh[i]!).qP) 0 ((s.qA.length:Int) - 1)))
     ·skip
      replace h41:=xw h41
      replace h41:=QJ.1 h41
      refine rg 6 _ 70 (yh (cs:=(yS s qJ qI qV qQ)) isAgg27 sizeOf27 rfl (fun _ h=>qC (h.cells 3 rfl) 0 3)) H ?_
      refine gF 7 rfl rfl H ?_
      refine gL 8 rfl rfl (fun _ h=>h.cell 0 rfl rfl) H ?_
      refine gF 9 rfl rfl H ?_
      refine gL 10 rfl rfl (fun _ h=>h.cell 2 rfl rfl) H ?_
      refine zY [11] qh qm (XD rfl (e:=70) rfl rfl (oq (lies_ok _ s ((r.xh[i]!).qP) r.qP (H.get 3 rfl).1 (H.get 4 rfl).1 qg qg) H fun w43 H=>⟨H,(rgp 12 (.bool (!(dec (Lies s.qA r.qP ((r.xh[i]!).qP))))) 70 H ?_)⟩) zZ)
      refine rtp 13 (.bool (!(dec (Lies s.qA r.qP ((r.xh[i]!).qP))))) H ?_
      refine rtp 14 (.bool (!(dec (Lies s.qA r.qP ((r.xh[i]!).qP))))) H ?_
      cases h45:(!(dec (Lies s.qA r.qP ((r.xh[i]!).qP))))
      ·skip
       replace h45:=xw h45
       replace h45:=yX h45
       refine gF 15 rfl rfl H ?_
       refine gL 16 rfl rfl (fun _ h=>h.cell 3 rfl rfl) H ?_
       refine gF 17 rfl rfl H ?_
       refine gL 18 rfl rfl (fun _ h=>h.cell 0 rfl rfl) H ?_
       refine zY [19] qh qm (XD rfl (e:=79) rfl rfl (oq (Vj _ s.xP ((r.xh[i]!).QG) (H.get 0 rfl).1) H fun w46 H=>⟨H,(rgp 20 (.bool (!(dec (vw s.xP ((r.xh[i]!).QG))))) 79 H ?_)⟩) zZ)
       refine rtp 21 (.bool (!(dec (vw s.xP ((r.xh[i]!).QG))))) H ?_
       refine rtp 22 (.bool (!(dec (vw s.xP ((r.xh[i]!).QG))))) H ?_
       cases h48:(!(dec (vw s.xP ((r.xh[i]!).QG))))
       ·skip
        replace h48:=xw h48
        replace h48:=yX h48
        refine gF 23 rfl rfl H ?_
        refine gL 24 rfl rfl (fun _ h=>h.cell 0 rfl rfl) H ?_
        refine zY [25] qh qm (XD rfl (e:=87) rfl rfl ?_ zZ)
        have sm:Small ((r.xh[i]!).QG):=vg (by first | assumption | exact i1 0 qf)
        refine oq (XM _ ((r.xh[i]!).QG) (H.get 0 rfl).1 (by first | assumption | exact vg ql | exact yB ql)) H fun w49 H=>⟨H,(rgp 26 (.bool ((QM ((r.xh[i]!).QG):Int) == 0)) 87 H ?_)⟩
        refine rtp 27 (.bool ((QM ((r.xh[i]!).QG):Int) == 0)) H ?_
        refine rtp 28 (.bool ((QM ((r.xh[i]!).QG):Int) == 0)) H ?_
        cases h51:((QM ((r.xh[i]!).QG):Int) == 0)
        ·skip
         replace h51:=ne_of_beq_false h51
         refine rgp 29 (yI i) 93 H ?_
         refine rgp 30 (.bool (decide ((i:Int) > 0))) 93 H ?_
         refine rgp 31 (.bool (decide ((i:Int) > 0))) 93 H ?_
         cases h52:(decide ((i:Int) > 0))
         ·skip
          replace h52:=of_decide_eq_false h52
          refine zI [32,33,34,35,36,37,38,39,40,41] 10 (H) (rgp 42 (.bool false) 93 H ?_)
          refine rtp 43 (.bool false) H ?_
          refine xq qh (t_n (xE false rfl (fun h=>absurd h qj) (fun _=>qW (b_n (t_n (xU (sw (zA i 1 rfl rfl qf (sq 1 (xY (xe (m' :=(r.xh.length - ((i+1):Int)).toNat) qf ⟨_,i+1,uE5,?_,?_,rfl,N,H.pick [1,2,3] [2,3,4,5,6,7,8,9,10]⟩)))))))))))
          · omega
          · exact i2.succ ⟨‹_›,‹_›,‹_›,‹_›,fun hk=>by omega⟩
         replace h52:=of_decide_eq_true h52
         refine gF 32 rfl rfl H ?_
         refine gL 33 rfl rfl (fun _ h=>h.cell 0 rfl rfl) H ?_
         refine gF 34 rfl rfl H ?_
         refine gL 35 rfl rfl (fun _ h=>h.cell 2 rfl rfl) H ?_
         refine rgp 36 (yI i) 96 H ?_
         refine rg 37 _ 96 (y_sub i 1 rfl rfl qf) H ?_
         obtain ⟨ae53Bag,ce53Bag,Fe53Bag,H⟩:=H.yM 10 rfl (i - 1) (i - 1) qf qf qf
         have S:=H.jo [0,1,2,3] [2,3,4,5,6,7,8,9,10,11,12]
         refine gI 38 rfl rfl rfl S ?_
         refine gF 39 rfl rfl S ?_
         refine zY [40] qh qm (XD rfl (e:=96) rfl rfl (zl (yI ((r.xh[i - 1]!).qP)) isAgg2 rfl (H.x8 1 rfl 0 rfl) (⟨H.pick [0,1,2,3] [2,3,4,5,6,7,8,9,10,11,12],?_⟩)) zZ)
         have S:=H.jo [0,1,2,3] [2,3,4,5,6,7,8,9,10,11,12]
         refine rgl 41 96 S ?_
         refine rgl 42 93 S ?_
         refine rtl 43 S ?_
         refine xq qh (t_n (cD rfl (fun h54=>?_) (fun h54=>?_)))
         ·skip
          refine zcr (sp (.bool false) (zjr (zr5 (ret1 (.bool false) rfl rfl ⟨_,rfl,?_,H.base⟩))))
          rw [xk (fun h=>by obtain ⟨h1,h2,h3,h4,h5,h6,h7,h8,h9,h10,h11⟩:=h;first | contradiction | omega | exact h3 ⟨‹_›,‹_›⟩ | (obtain ⟨q1,q2,q3,q4,q5⟩:=h11 i qf;first | contradiction | omega | (have:=q5 qf;omega)) | (refine absurd ?_ ‹¬ vw _ _›;rcases (show k=0∨k=1∨k=2∨k=3∨k=4 by omega) with e | e | e | e | e <;> subst e <;> assumption))]
         refine qW (b_n (t_n (xU (sw (zA i 1 rfl rfl qf (sq 1 (xY (xe (m' :=(r.xh.length - ((i+1):Int)).toNat) qf ⟨_,i+1,uE5,?_,?_,rfl,N,H.pick [1,2,3] [4,5,6,7,8,9,10,11,12]⟩))))))))
         · omega
         · exact i2.succ ⟨‹_›,‹_›,‹_›,‹_›,fun hk=>by omega⟩
        replace h51:=eq_of_beq h51
        refine zI [29,30,31,32,33,34,35,36,37,38,39,40,41,42] 14 (H) (rtp 43 (.bool true) H ?_)
        refine xq qh (t_n (xE true rfl (fun _=>zcr (sp (.bool false) (zjr (zr5 (ret1 (.bool false) rfl rfl ⟨_,rfl,?_,H.base⟩))))) (fun h=>absurd h qj)))
        rw [xk (fun h=>by obtain ⟨h1,h2,h3,h4,h5,h6,h7,h8,h9,h10,h11⟩:=h;first | contradiction | omega | exact h3 ⟨‹_›,‹_›⟩ | (obtain ⟨q1,q2,q3,q4,q5⟩:=h11 i qf;first | contradiction | omega | (have:=q5 qf;omega)) | (refine absurd ?_ ‹¬ vw _ _›;rcases (show k=0∨k=1∨k=2∨k=3∨k=4 by omega) with e | e | e | e | e <;> subst e <;> assumption))]
       replace h48:=xJ h48
       replace h48:=zT h48
       refine zI [23,24,25,26] 4 (H) (rtp 27 (.bool true) H ?_)
       refine rtp 28 (.bool true) H ?_
       refine zI [29,30,31,32,33,34,35,36,37,38,39,40,41,42] 14 (H) (rtp 43 (.bool true) H ?_)
       refine xq qh (t_n (xE true rfl (fun _=>zcr (sp (.bool false) (zjr (zr5 (ret1 (.bool false) rfl rfl ⟨_,rfl,?_,H.base⟩))))) (fun h=>absurd h qj)))
       rw [xk (fun h=>by obtain ⟨h1,h2,h3,h4,h5,h6,h7,h8,h9,h10,h11⟩:=h;first | contradiction | omega | exact h3 ⟨‹_›,‹_›⟩ | (obtain ⟨q1,q2,q3,q4,q5⟩:=h11 i qf;first | contradiction | omega | (have:=q5 qf;omega)) | (refine absurd ?_ ‹¬ vw _ _›;rcases (show k=0∨k=1∨k=2∨k=3∨k=4 by omega) with e | e | e | e | e <;> subst e <;> assumption))]
      replace h45:=xJ h45
      replace h45:=zT h45
      refine zI [15,16,17,18,19,20] 6 (H) (rtp 21 (.bool true) H ?_)
      refine rtp 22 (.bool true) H ?_
      refine zI [23,24,25,26] 4 (H) (rtp 27 (.bool true) H ?_)
      refine rtp 28 (.bool true) H ?_
      refine zI [29,30,31,32,33,34,35,36,37,38,39,40,41,42] 14 (H) (rtp 43 (.bool true) H ?_)
      refine xq qh (t_n (xE true rfl (fun _=>zcr (sp (.bool false) (zjr (zr5 (ret1 (.bool false) rfl rfl ⟨_,rfl,?_,H.base⟩))))) (fun h=>absurd h qj)))
      rw [xk (fun h=>by obtain ⟨h1,h2,h3,h4,h5,h6,h7,h8,h9,h10,h11⟩:=h;first | contradiction | omega | exact h3 ⟨‹_›,‹_›⟩ | (obtain ⟨q1,q2,q3,q4,q5⟩:=h11 i qf;first | contradiction | omega | (have:=q5 qf;omega)) | (refine absurd ?_ ‹¬ vw _ _›;rcases (show k=0∨k=1∨k=2∨k=3∨k=4 by omega) with e | e | e | e | e <;> subst e <;> assumption))]
     replace h41:=xJ h41
     replace h41:=Xk h41
     refine zI [6,7,8,9,10,11,12] 7 (H) (rtp 13 (.bool true) H ?_)
     refine rtp 14 (.bool true) H ?_
     refine zI [15,16,17,18,19,20] 6 (H) (rtp 21 (.bool true) H ?_)
     refine rtp 22 (.bool true) H ?_
     refine zI [23,24,25,26] 4 (H) (rtp 27 (.bool true) H ?_)
     refine rtp 28 (.bool true) H ?_
     refine zI [29,30,31,32,33,34,35,36,37,38,39,40,41,42] 14 (H) (rtp 43 (.bool true) H ?_)
     refine xq qh (t_n (xE true rfl (fun _=>zcr (sp (.bool false) (zjr (zr5 (ret1 (.bool false) rfl rfl ⟨_,rfl,?_,H.base⟩))))) (fun h=>absurd h qj)))
     rw [xk (fun h=>by obtain ⟨h1,h2,h3,h4,h5,h6,h7,h8,h9,h10,h11⟩:=h;first | contradiction | omega | exact h3 ⟨‹_›,‹_›⟩ | (obtain ⟨q1,q2,q3,q4,q5⟩:=h11 i qf;first | contradiction | omega | (have:=q5 qf;omega)) | (refine absurd ?_ ‹¬ vw _ _›;rcases (show k=0∨k=1∨k=2∨k=3∨k=4 by omega) with e | e | e | e | e <;> subst e <;> assumption))]
    refine zx4 (zcr (oF rfl (oL rfl (H.cell 1 rfl rfl) ?_)))
    have sm:Small r.zB:=vg (by first | assumption | exact i1 0 qf)
    refine sw (oq (XM _ r.zB (H.get 3 rfl).1 (by first | assumption | exact vg ql | exact yB ql)) H fun w55 H=>sp (.bool (decide ((QM r.zB:Int) > 0))) (sp (.bool (decide ((QM r.zB:Int) > 0))) (zjr (ret1 (.bool (decide ((QM r.zB:Int) > 0))) rfl rfl ⟨_,rfl,(congrArg Value.bool (dec_eq ?_)),H.base⟩))))
    rw [decide_eq_true_iff]
    exact ⟨fun h=>⟨by omega,by omega,by simp_all,by omega,n1,n2,n3,n4,n5,by omega,(show i=r.xh.length by omega)▸i2⟩,fun h=>by have:=h.2.2.2.2.2.2.2.2.2.1;have:=sum_nonneg n1.1;omega⟩
   rw [h12] at H
   refine qL 23 rfl rfl (oF rfl (qL 23 rfl rfl (oL rfl (H.cell 0 rfl rfl) (qL 23 rfl rfl (sp (.bool ((r.qP:Int) == 0)) (qL 20 rfl rfl (sp (.bool ((r.qP:Int) == 0)) (sp (.bool ((r.qP:Int) == 0)) (sp (.bool ((r.qP:Int) == 0)) ?_)))))))))
   cases h57:((r.qP:Int) == 0)
   ·skip
    replace h57:=ne_of_beq_false h57
    refine qL 29 rfl rfl (oF rfl (qL 29 rfl rfl (oL rfl (H.cell 0 rfl rfl) (qL 29 rfl rfl (oN rfl (qL 29 rfl rfl (sp (.bool (decide ((r.xh.length:Int) > 3))) (sp (.bool (decide ((r.xh.length:Int) > 3))) (zjn (cD rfl (fun h58=>?_) (fun h58=>?_)))))))))))
    ·skip
     refine zcr (sp (.bool false) (zjr (t_r (ret1 (.bool false) rfl rfl ⟨_,rfl,?_,H.base⟩))))
     rw [xk (fun h=>by obtain ⟨h1,h2,h3,h4,h5,h6,h7,h8,h9,h10,h11⟩:=h;first | contradiction | omega | exact h3 ⟨‹_›,‹_›⟩ | (obtain ⟨q1,q2,q3,q4,q5⟩:=h11 i qf;first | contradiction | omega | (have:=q5 qf;omega)) | (refine absurd ?_ ‹¬ vw _ _›;rcases (show k=0∨k=1∨k=2∨k=3∨k=4 by omega) with e | e | e | e | e <;> subst e <;> assumption))]
    refine qW (t_n (zcc (oF rfl (oL rfl (H.cell 0 rfl rfl) (oF rfl (oL rfl (H.cell 0 rfl rfl) (oF rfl (oL rfl (H.cell 0 rfl rfl) (oF rfl (oL rfl (H.cell 0 rfl rfl) (oF rfl (oL rfl (H.cell 0 rfl rfl) (sw (o_buildF H underlying29 ti24 [.slice arNeed r.zB.length crNeed,.slice arHave r.vJ.length crHave,.slice arLack r.vP.length crLack,.slice arHere r.vT.length crHere,.slice arOut r.yP.length crOut] rfl (by simp [Value.cells]) rfl qj qj fun b59 w60 H=>oN rfl (sp (yI 0) (zjn (qY ?_)))))))))))))))))
    replace H:=H.boxRow 0 rfl 1 5 rfl qj
    replace H:=H.zW (α:=yLI)
    replace H:=H.X8 false 7 rfl 0 rfl qm
    replace H:=H.X8 false 7 rfl 0 rfl qm
    replace H:=H.X8 false 7 rfl 0 rfl qm
    replace H:=H.X8 false 7 rfl 0 rfl qm
    replace H:=H.X8 false 7 rfl 0 rfl qm
    refine zq ((fun Z0 Z1 Z2 Z3 Z4 Z5 Z6 Z7 Z8 Z9 Z10 Z11=>fun m' ρ w61=>∃ (xM:Env) (k:Nat),ρ=upd (upd (upd (upd (upd xM 2 (pp b1 0)) 3 (pp b3 0)) 45 (.slice (aa b59 0) 5 5)) 46 (yI 5)) 47 (yI k)∧((k:Int)≤5)∧(∀ j,j < k→vw s.xP ([r.zB,r.vJ,r.vP,r.vT,r.yP][j]!))∧m' =(5 - (k:Int)).toNat∧Fresh w.heap.size []∧St w w61 [Z0,Z1,Z2] [Z3,Z4,Z5,Z6,Z7,Z8,Z9,Z10,Z11]) _ _ _ _ _ _ _ _ _ _ _ _) ((5 - (0:Int)).toNat) ⟨_,0,uE5,qf,(by intro j hj;omega),rfl,N,H.pick [0,1,2] [0,6,7,8,9,10,11,12,13]⟩ ?_
    clear H N
    rintro m' ρ w62 ⟨xM,k,rfl,i0,i1,rfl,N,H⟩
    refine zcr (sp (.bool (decide ((k:Int) < 5))) (zjn (xQ (cD rfl (fun h63=>?_) (fun h63=>?_)))))
    ·skip
     refine qW (t_n (xQ (qY (zcr (oI rfl rfl ?_)))))
     obtain ⟨a64,c65,G66,s67,h68,H⟩:=H.jy 0 rfl 0 rfl (iv:=k) k qf qf
     refine oL rfl (h68) (sq 1 (zjc (oF rfl (oL rfl (H.cell 2 rfl rfl) (sq 1 (sw (oq (Vj _ s.xP ([r.zB,r.vJ,r.vP,r.vT,r.yP][k]!) (H.get 0 rfl).1) H fun w69 H=>sq 1 (zjn (cQ rfl (fun h71=>?_) (fun h71=>?_))))))))))
     ·skip
      refine zcr (sp (.bool false) (zjr (zr5 (ret1 (.bool false) rfl rfl ⟨_,rfl,?_,H.base⟩))))
      rw [xk (fun h=>by obtain ⟨h1,h2,h3,h4,h5,h6,h7,h8,h9,h10,h11⟩:=h;first | contradiction | omega | exact h3 ⟨‹_›,‹_›⟩ | (obtain ⟨q1,q2,q3,q4,q5⟩:=h11 i qf;first | contradiction | omega | (have:=q5 qf;omega)) | (refine absurd ?_ ‹¬ vw _ _›;rcases (show k=0∨k=1∨k=2∨k=3∨k=4 by omega) with e | e | e | e | e <;> subst e <;> assumption))]
     refine qW (b_n (t_n (xU (sw (zA k 1 rfl rfl qf (sq 1 (xY (xe (m' :=(5 - ((k+1):Int)).toNat) qf ⟨_,k+1,uE5,?_,?_,rfl,N,H.pick [0,1,2] [1,2,3,4,5,6,7,8,9]⟩))))))))
     · omega
     · intro j hj;by_cases e:j=k;(subst e;assumption);exact i1 j qf
    refine zx4 (zcc (oF rfl (oL rfl (H.cell 1 rfl rfl) (oN rfl (sp (yI 0) (zjn (qY ?_)))))))
    have n1:vw s.xP r.zB:=i1 0 qf
    have n2:vw s.xP r.vJ:=i1 1 qf
    have n3:vw s.xP r.vP:=i1 2 qf
    have n4:vw s.xP r.vT:=i1 3 qf
    have n5:vw s.xP r.yP:=i1 4 qf
    refine zq ((fun Z0 Z1 Z2 Z3 Z4 Z5 Z6 Z7 Z8 Z9 Z10 Z11=>fun m' ρ w72=>∃ (xM:Env) (i:Nat),ρ=upd (upd (upd (upd (upd xM 2 (pp b1 0)) 3 (pp b3 0)) 58 (.slice X4 r.xh.length X0)) 59 (yI r.xh.length)) 60 (yI i)∧((i:Int)≤r.xh.length)∧(IntosTo s r i)∧m' =(r.xh.length - (i:Int)).toNat∧Fresh w.heap.size []∧St w w72 [Z0,Z1,Z2] [Z3,Z4,Z5,Z6,Z7,Z8,Z9,Z10,Z11]) _ _ _ _ _ _ _ _ _ _ _ _) ((r.xh.length - (0:Int)).toNat) ⟨_,0,uE5,qf,qx,rfl,N,H⟩ ?_
    clear H N
    rintro m' ρ w73 ⟨xM,i,rfl,i0,i2,rfl,N,H⟩
    refine zcr (sq 1 (zjn (xQ (cD rfl (fun h74=>?_) (fun h74=>?_)))))
    ·skip
     refine qW (t_n (xQ (qY (zcr (sp (yI i) ?_)))))
     obtain ⟨b75,o76,rfl⟩:=H.addr 8 rfl qf
     obtain ⟨ae78Bag,ce78Bag,Fe78Bag,H⟩:=H.yM 8 rfl i i qf qf qf
     refine oI rfl rfl (sw (xI [yI ((r.xh[i]!).qP),.slice ae78Bag (((r.xh[i]!).QG).length) ce78Bag] isAgg128 sizeOf128 rfl (qC (H.get 1 rfl) 0 2) (sw (xx H ti128 [yI 0,yN] fun b79 w80 H=>sp (yI i) (sw (xG H 0 [yI ((r.xh[i]!).qP),.slice ae78Bag (((r.xh[i]!).QG).length) ce78Bag] sizeOf128 fun w81 H=>zjn (xQ ?_)))))))
     refine jf rfl H fun H=>rt 0 _ (yh (cs:=(yS s qJ qI qV qQ)) isAgg27 sizeOf27 rfl (fun _ h=>qC (h.cells 3 rfl) 0 3)) H ?_
     refine tF 1 rfl rfl H ?_
     refine tL 2 rfl rfl (fun _ h=>h.cell 0 rfl rfl) H ?_
     refine ro 3 rfl (oq (isCell_ok _ s ((r.xh[i]!).qP) (H.get 3 rfl).1 (H.get 4 rfl).1) H fun w84 H=>⟨H,(rtp 4 (.bool (!(inR ((r.xh[i]!).qP) 0 ((s.qA.length:Int) - 1)))) H ?_)⟩)
     refine rtp 5 (.bool (!(inR ((r.xh[i]!).qP) 0 ((s.qA.length:Int) - 1)))) H ?_
     cases h86:(!(inR ((r.xh[i]!).qP) 0 ((s.qA.length:Int) - 1)))
     ·skip
      replace h86:=xw h86
      replace h86:=QJ.1 h86
      refine rg 6 _ 70 (yh (cs:=(yS s qJ qI qV qQ)) isAgg27 sizeOf27 rfl (fun _ h=>qC (h.cells 3 rfl) 0 3)) H ?_
      refine gF 7 rfl rfl H ?_
      refine gL 8 rfl rfl (fun _ h=>h.cell 0 rfl rfl) H ?_
      refine gF 9 rfl rfl H ?_
      refine gL 10 rfl rfl (fun _ h=>h.cell 2 rfl rfl) H ?_
      refine zY [11] qh qm (XD rfl (e:=70) rfl rfl (oq (lies_ok _ s ((r.xh[i]!).qP) r.qP (H.get 3 rfl).1 (H.get 4 rfl).1 qg qg) H fun w88 H=>⟨H,(rgp 12 (.bool (!(dec (Lies s.qA r.qP ((r.xh[i]!).qP))))) 70 H ?_)⟩) zZ)
      refine rtp 13 (.bool (!(dec (Lies s.qA r.qP ((r.xh[i]!).qP))))) H ?_
      refine rtp 14 (.bool (!(dec (Lies s.qA r.qP ((r.xh[i]!).qP))))) H ?_
      cases h90:(!(dec (Lies s.qA r.qP ((r.xh[i]!).qP))))
      ·skip
       replace h90:=xw h90
       replace h90:=yX h90
       refine gF 15 rfl rfl H ?_
       refine gL 16 rfl rfl (fun _ h=>h.cell 3 rfl rfl) H ?_
       refine gF 17 rfl rfl H ?_
       refine gL 18 rfl rfl (fun _ h=>h.cell 0 rfl rfl) H ?_
       refine zY [19] qh qm (XD rfl (e:=79) rfl rfl (oq (Vj _ s.xP ((r.xh[i]!).QG) (H.get 0 rfl).1) H fun w91 H=>⟨H,(rgp 20 (.bool (!(dec (vw s.xP ((r.xh[i]!).QG))))) 79 H ?_)⟩) zZ)
       refine rtp 21 (.bool (!(dec (vw s.xP ((r.xh[i]!).QG))))) H ?_
       refine rtp 22 (.bool (!(dec (vw s.xP ((r.xh[i]!).QG))))) H ?_
       cases h93:(!(dec (vw s.xP ((r.xh[i]!).QG))))
       ·skip
        replace h93:=xw h93
        replace h93:=yX h93
        refine gF 23 rfl rfl H ?_
        refine gL 24 rfl rfl (fun _ h=>h.cell 0 rfl rfl) H ?_
        refine zY [25] qh qm (XD rfl (e:=87) rfl rfl ?_ zZ)
        have sm:Small ((r.xh[i]!).QG):=vg (by first | assumption | exact i1 0 qf)
        refine oq (XM _ ((r.xh[i]!).QG) (H.get 0 rfl).1 (by first | assumption | exact vg ql | exact yB ql)) H fun w94 H=>⟨H,(rgp 26 (.bool ((QM ((r.xh[i]!).QG):Int) == 0)) 87 H ?_)⟩
        refine rtp 27 (.bool ((QM ((r.xh[i]!).QG):Int) == 0)) H ?_
        refine rtp 28 (.bool ((QM ((r.xh[i]!).QG):Int) == 0)) H ?_
        cases h96:((QM ((r.xh[i]!).QG):Int) == 0)
        ·skip
         replace h96:=ne_of_beq_false h96
         refine rgp 29 (yI i) 93 H ?_
         refine rgp 30 (.bool (decide ((i:Int) > 0))) 93 H ?_
         refine rgp 31 (.bool (decide ((i:Int) > 0))) 93 H ?_
         cases h97:(decide ((i:Int) > 0))
         ·skip
          replace h97:=of_decide_eq_false h97
          refine zI [32,33,34,35,36,37,38,39,40,41] 10 (H) (rgp 42 (.bool false) 93 H ?_)
          refine rtp 43 (.bool false) H ?_
          refine xq qh (t_n (xE false rfl (fun h=>absurd h qj) (fun _=>qW (b_n (t_n (xU (sw (zA i 1 rfl rfl qf (sq 1 (xY (xe (m' :=(r.xh.length - ((i+1):Int)).toNat) qf ⟨_,i+1,uE5,?_,?_,rfl,N,H.pick [1,2,3] [2,3,4,5,6,7,8,9,10]⟩)))))))))))
          · omega
          · exact i2.succ ⟨‹_›,‹_›,‹_›,‹_›,fun hk=>by omega⟩
         replace h97:=of_decide_eq_true h97
         refine gF 32 rfl rfl H ?_
         refine gL 33 rfl rfl (fun _ h=>h.cell 0 rfl rfl) H ?_
         refine gF 34 rfl rfl H ?_
         refine gL 35 rfl rfl (fun _ h=>h.cell 2 rfl rfl) H ?_
         refine rgp 36 (yI i) 96 H ?_
         refine rg 37 _ 96 (y_sub i 1 rfl rfl qf) H ?_
         obtain ⟨ae98Bag,ce98Bag,Fe98Bag,H⟩:=H.yM 10 rfl (i - 1) (i - 1) qf qf qf
         have S:=H.jo [0,1,2,3] [2,3,4,5,6,7,8,9,10,11,12]
         refine gI 38 rfl rfl rfl S ?_
         refine gF 39 rfl rfl S ?_
         refine zY [40] qh qm (XD rfl (e:=96) rfl rfl (zl (yI ((r.xh[i - 1]!).qP)) isAgg2 rfl (H.x8 1 rfl 0 rfl) (⟨H.pick [0,1,2,3] [2,3,4,5,6,7,8,9,10,11,12],?_⟩)) zZ)
         have S:=H.jo [0,1,2,3] [2,3,4,5,6,7,8,9,10,11,12]
         refine rgl 41 96 S ?_
         refine rgl 42 93 S ?_
         refine rtl 43 S ?_
         refine xq qh (t_n (cD rfl (fun h99=>?_) (fun h99=>?_)))
         ·skip
          refine zcr (sp (.bool false) (zjr (zr5 (ret1 (.bool false) rfl rfl ⟨_,rfl,?_,H.base⟩))))
          rw [xk (fun h=>by obtain ⟨h1,h2,h3,h4,h5,h6,h7,h8,h9,h10,h11⟩:=h;first | contradiction | omega | exact h3 ⟨‹_›,‹_›⟩ | (obtain ⟨q1,q2,q3,q4,q5⟩:=h11 i qf;first | contradiction | omega | (have:=q5 qf;omega)) | (refine absurd ?_ ‹¬ vw _ _›;rcases (show k=0∨k=1∨k=2∨k=3∨k=4 by omega) with e | e | e | e | e <;> subst e <;> assumption))]
         refine qW (b_n (t_n (xU (sw (zA i 1 rfl rfl qf (sq 1 (xY (xe (m' :=(r.xh.length - ((i+1):Int)).toNat) qf ⟨_,i+1,uE5,?_,?_,rfl,N,H.pick [1,2,3] [4,5,6,7,8,9,10,11,12]⟩))))))))
         · omega
         · exact i2.succ ⟨‹_›,‹_›,‹_›,‹_›,fun hk=>by omega⟩
        replace h96:=eq_of_beq h96
        refine zI [29,30,31,32,33,34,35,36,37,38,39,40,41,42] 14 (H) (rtp 43 (.bool true) H ?_)
        refine xq qh (t_n (xE true rfl (fun _=>zcr (sp (.bool false) (zjr (zr5 (ret1 (.bool false) rfl rfl ⟨_,rfl,?_,H.base⟩))))) (fun h=>absurd h qj)))
        rw [xk (fun h=>by obtain ⟨h1,h2,h3,h4,h5,h6,h7,h8,h9,h10,h11⟩:=h;first | contradiction | omega | exact h3 ⟨‹_›,‹_›⟩ | (obtain ⟨q1,q2,q3,q4,q5⟩:=h11 i qf;first | contradiction | omega | (have:=q5 qf;omega)) | (refine absurd ?_ ‹¬ vw _ _›;rcases (show k=0∨k=1∨k=2∨k=3∨k=4 by omega) with e | e | e | e | e <;> subst e <;> assumption))]
       replace h93:=xJ h93
       replace h93:=zT h93
       refine zI [23,24,25,26] 4 (H) (rtp 27 (.bool true) H ?_)
       refine rtp 28 (.bool true) H ?_
       refine zI [29,30,31,32,33,34,35,36,37,38,39,40,41,42] 14 (H) (rtp 43 (.bool true) H ?_)
       refine xq qh (t_n (xE true rfl (fun _=>zcr (sp (.bool false) (zjr (zr5 (ret1 (.bool false) rfl rfl ⟨_,rfl,?_,H.base⟩))))) (fun h=>absurd h qj)))
       rw [xk (fun h=>by obtain ⟨h1,h2,h3,h4,h5,h6,h7,h8,h9,h10,h11⟩:=h;first | contradiction | omega | exact h3 ⟨‹_›,‹_›⟩ | (obtain ⟨q1,q2,q3,q4,q5⟩:=h11 i qf;first | contradiction | omega | (have:=q5 qf;omega)) | (refine absurd ?_ ‹¬ vw _ _›;rcases (show k=0∨k=1∨k=2∨k=3∨k=4 by omega) with e | e | e | e | e <;> subst e <;> assumption))]
      replace h90:=xJ h90
      replace h90:=zT h90
      refine zI [15,16,17,18,19,20] 6 (H) (rtp 21 (.bool true) H ?_)
      refine rtp 22 (.bool true) H ?_
      refine zI [23,24,25,26] 4 (H) (rtp 27 (.bool true) H ?_)
      refine rtp 28 (.bool true) H ?_
      refine zI [29,30,31,32,33,34,35,36,37,38,39,40,41,42] 14 (H) (rtp 43 (.bool true) H ?_)
      refine xq qh (t_n (xE true rfl (fun _=>zcr (sp (.bool false) (zjr (zr5 (ret1 (.bool false) rfl rfl ⟨_,rfl,?_,H.base⟩))))) (fun h=>absurd h qj)))
      rw [xk (fun h=>by obtain ⟨h1,h2,h3,h4,h5,h6,h7,h8,h9,h10,h11⟩:=h;first | contradiction | omega | exact h3 ⟨‹_›,‹_›⟩ | (obtain ⟨q1,q2,q3,q4,q5⟩:=h11 i qf;first | contradiction | omega | (have:=q5 qf;omega)) | (refine absurd ?_ ‹¬ vw _ _›;rcases (show k=0∨k=1∨k=2∨k=3∨k=4 by omega) with e | e | e | e | e <;> subst e <;> assumption))]
     replace h86:=xJ h86
     replace h86:=Xk h86
     refine zI [6,7,8,9,10,11,12] 7 (H) (rtp 13 (.bool true) H ?_)
     refine rtp 14 (.bool true) H ?_
     refine zI [15,16,17,18,19,20] 6 (H) (rtp 21 (.bool true) H ?_)
     refine rtp 22 (.bool true) H ?_
     refine zI [23,24,25,26] 4 (H) (rtp 27 (.bool true) H ?_)
     refine rtp 28 (.bool true) H ?_
     refine zI [29,30,31,32,33,34,35,36,37,38,39,40,41,42] 14 (H) (rtp 43 (.bool true) H ?_)
     refine xq qh (t_n (xE true rfl (fun _=>zcr (sp (.bool false) (zjr (zr5 (ret1 (.bool false) rfl rfl ⟨_,rfl,?_,H.base⟩))))) (fun h=>absurd h qj)))
     rw [xk (fun h=>by obtain ⟨h1,h2,h3,h4,h5,h6,h7,h8,h9,h10,h11⟩:=h;first | contradiction | omega | exact h3 ⟨‹_›,‹_›⟩ | (obtain ⟨q1,q2,q3,q4,q5⟩:=h11 i qf;first | contradiction | omega | (have:=q5 qf;omega)) | (refine absurd ?_ ‹¬ vw _ _›;rcases (show k=0∨k=1∨k=2∨k=3∨k=4 by omega) with e | e | e | e | e <;> subst e <;> assumption))]
    refine zx4 (zcr (oF rfl (oL rfl (H.cell 1 rfl rfl) ?_)))
    have sm:Small r.zB:=vg (by first | assumption | exact i1 0 qf)
    refine sw (oq (XM _ r.zB (H.get 3 rfl).1 (by first | assumption | exact vg ql | exact yB ql)) H fun w100 H=>sp (.bool (decide ((QM r.zB:Int) > 0))) (sp (.bool (decide ((QM r.zB:Int) > 0))) (zjr (ret1 (.bool (decide ((QM r.zB:Int) > 0))) rfl rfl ⟨_,rfl,(congrArg Value.bool (dec_eq ?_)),H.base⟩))))
    rw [decide_eq_true_iff]
    exact ⟨fun h=>⟨by omega,by omega,by simp_all,by omega,n1,n2,n3,n4,n5,by omega,(show i=r.xh.length by omega)▸i2⟩,fun h=>by have:=h.2.2.2.2.2.2.2.2.2.1;have:=sum_nonneg n1.1;omega⟩
   replace h57:=eq_of_beq h57
   refine xZ [30,31,32,33] (sp (.bool true) (zjn (xE true rfl (fun _=>zcr (sp (.bool false) (zjr (t_r (ret1 (.bool false) rfl rfl ⟨_,rfl,?_,H.base⟩))))) (fun h=>absurd h qj))))
   rw [xk (fun h=>by obtain ⟨h1,h2,h3,h4,h5,h6,h7,h8,h9,h10,h11⟩:=h;first | contradiction | omega | exact h3 ⟨‹_›,‹_›⟩ | (obtain ⟨q1,q2,q3,q4,q5⟩:=h11 i qf;first | contradiction | omega | (have:=q5 qf;omega)) | (refine absurd ?_ ‹¬ vw _ _›;rcases (show k=0∨k=1∨k=2∨k=3∨k=4 by omega) with e | e | e | e | e <;> subst e <;> assumption))]
  replace h11:=xJ h11
  replace h11:=Xk h11
  refine xZ [21,22,23,24,25,26,27] (sp (.bool true) (sp (.bool true) (xZ [30,31,32,33] (sp (.bool true) (zjn (xE true rfl (fun _=>zcr (sp (.bool false) (zjr (t_r (ret1 (.bool false) rfl rfl ⟨_,rfl,?_,H.base⟩))))) (fun h=>absurd h qj)))))))
  rw [xk (fun h=>by obtain ⟨h1,h2,h3,h4,h5,h6,h7,h8,h9,h10,h11⟩:=h;first | contradiction | omega | exact h3 ⟨‹_›,‹_›⟩ | (obtain ⟨q1,q2,q3,q4,q5⟩:=h11 i qf;first | contradiction | omega | (have:=q5 qf;omega)) | (refine absurd ?_ ‹¬ vw _ _›;rcases (show k=0∨k=1∨k=2∨k=3∨k=4 by omega) with e | e | e | e | e <;> subst e <;> assumption))]
 replace h8:=xJ h8
 replace h8:=Xk h8
 refine xZ [15,16,17,18] (sp (.bool true) (sp (.bool true) (xZ [21,22,23,24,25,26,27] (sp (.bool true) (sp (.bool true) (xZ [30,31,32,33] (sp (.bool true) (zjn (xE true rfl (fun _=>zcr (sp (.bool false) (zjr (t_r (ret1 (.bool false) rfl rfl ⟨_,rfl,?_,H.base⟩))))) (fun h=>absurd h qj))))))))))
 rw [xk (fun h=>by obtain ⟨h1,h2,h3,h4,h5,h6,h7,h8,h9,h10,h11⟩:=h;first | contradiction | omega | exact h3 ⟨‹_›,‹_›⟩ | (obtain ⟨q1,q2,q3,q4,q5⟩:=h11 i qf;first | contradiction | omega | (have:=q5 qf;omega)) | (refine absurd ?_ ‹¬ vw _ _›;rcases (show k=0∨k=1∨k=2∨k=3∨k=4 by omega) with e | e | e | e | e <;> subst e <;> assumption))]
theorem validSystem_ok (w:World) (s:qE) {qJ:yOA} {xu:yLN} {qV:yOA} {zh:yLN} (qX:qO.rep w xu [.slice qJ s.qA.length qI] s.qA) (xn:qO.rep w zh [.slice qV s.qB.length qQ] s.qB):Calls Tryz.prog 90 #[.agg #[yI s.xP,.slice qJ s.qA.length qI,.slice qV s.qB.length qQ]] w (Ret (fun v w' =>v=.bool (dec (vK s))) w):=by
 refine en func90 ntmps90 ?_
 have H:=((St.start w).arg xn).arg qX
 have zN:=qM qX
 have vW:=qM xn
 clear qX xn
 have N:=Fresh.nil w.heap.size
 have p1:=fun h:jL s=>h.2.1
 refine zcr (sw (zS H (yS s qJ qI qV qQ) fun b1 w2 H=>sp (.bool false) (zjcc (sw (xI (yS s qJ qI qV qQ) isAgg27 sizeOf27 rfl (qC (H.cells 0 rfl) 0 3) (sw (oq (isShell_ok _ s (H.get 0 rfl).1 (H.get 1 rfl).1) H fun w4 H=>sp (.bool (!(dec (jL s)))) (sp (.bool (!(dec (jL s)))) ?_))))))))
 cases h6:(!(dec (jL s)))
 ·skip
  replace h6:=xw h6
  replace h6:=yX h6
  refine qL 9 rfl rfl (oF rfl (qL 9 rfl rfl (oL rfl (H.cell 0 rfl rfl) (qL 9 rfl rfl (oN rfl (qL 9 rfl rfl (sp (.bool (decide ((s.qB.length:Int) > 16))) (sp (.bool (decide ((s.qB.length:Int) > 16))) (zjn (cD rfl (fun h7=>?_) (fun h7=>?_)))))))))))
  ·skip
   refine zcr (sp (.bool false) (zjr (t_r (ret1 (.bool false) rfl rfl ⟨_,rfl,?_,H.base⟩))))
   rw [xk (fun h=>by obtain ⟨h1,h2,h3⟩:=h;first | contradiction | omega | (obtain ⟨r1,r2⟩:=h3 k qf;first | contradiction | (have:=Vo (s:=s) (k:=k+1) q1 q2;omega)))]
  refine qW (t_n (zcr (sw (zO [yI 0,yI 0,yI 0,yI 0,yI 0,yI 0] [] (sw (xx H ti162 [yI 0,yI 0,yI 0,yI 0,yI 0,yI 0] fun b8 w9 H=>sw (xG H 0 [yI 0,yI 0,yI 0,yI 0,yI 0,yI 0] sizeOf162 fun w10 H=>zjcc (oF rfl (oL rfl (H.cell 1 rfl rfl) (oN rfl (sp (yI 0) (zjn (qY ?_)))))))))))))
  have p2:=p1 ‹_›
  refine zq ((fun Z0 Z1 Z2=>fun m' ρ w11=>∃ (xM:Env) (k:Nat) (many:yLI),ρ=upd (upd (upd (upd (upd xM 1 (pp b1 0)) 3 (pp b8 0)) 17 (.slice qV s.qB.length qQ)) 18 (yI s.qB.length)) 19 (yI k)∧many=counts6 s k∧((k:Int)≤s.qB.length)∧(RulesTo s k)∧m' =(s.qB.length - (k:Int)).toNat∧Fresh w.heap.size []∧St w w11 [.box b8 (many.map (Value.int .i64)) 162,Z0] [Z1,Z2]) _ _ _) ((s.qB.length - (0:Int)).toNat) ⟨_,0,[0,0,0,0,0,0],uE5,(by exact counts6_zero s),qf,qx,rfl,N,H⟩ ?_
  clear H N
  rintro m' ρ w12 ⟨xM,k,many,rfl,rfl,i0,i1,rfl,N,H⟩
  refine zcr (sq 1 (zjn (xQ (cD rfl (fun h13=>?_) (fun h13=>?_)))))
  ·skip
   refine qW (t_n (xQ (qY (zcr ?_))))
   obtain ⟨b14,o15,rfl⟩:=H.addr 1 rfl qf
   obtain ⟨ae17Need,ce17Need,Fe17Need,ae17Have,ce17Have,Fe17Have,ae17Lack,ce17Lack,Fe17Lack,ae17Here,ce17Here,Fe17Here,ae17Out,ce17Out,Fe17Out,ae17Into,ce17Into,Fe17Into,H⟩:=H.yA 1 rfl k k qf qf qf
   refine oI rfl rfl (sw (xI [yI ((s.qB[k]!).qP),yI ((s.qB[k]!).jI),.slice ae17Need (((s.qB[k]!).zB).length) ce17Need,.slice ae17Have (((s.qB[k]!).vJ).length) ce17Have,.slice ae17Lack (((s.qB[k]!).vP).length) ce17Lack,.slice ae17Here (((s.qB[k]!).vT).length) ce17Here,.slice ae17Out (((s.qB[k]!).yP).length) ce17Out,.slice ae17Into (((s.qB[k]!).xh).length) ce17Into,.bool ((s.qB[k]!).jB)] isAgg70 sizeOf70 rfl (qC (H.get 6 rfl) 0 9) ?_))
   refine sw (xx H ti70 [yI 0,yI 0,yN,yN,yN,yN,yN,yN,.bool false] fun b18 w19 H=>sw (xG H 0 [yI ((s.qB[k]!).qP),yI ((s.qB[k]!).jI),.slice ae17Need (((s.qB[k]!).zB).length) ce17Need,.slice ae17Have (((s.qB[k]!).vJ).length) ce17Have,.slice ae17Lack (((s.qB[k]!).vP).length) ce17Lack,.slice ae17Here (((s.qB[k]!).vT).length) ce17Here,.slice ae17Out (((s.qB[k]!).yP).length) ce17Out,.slice ae17Into (((s.qB[k]!).xh).length) ce17Into,.bool ((s.qB[k]!).jB)] sizeOf70 fun w20 H=>?_))
   refine zjcc (sw (xI [yI s.xP,.slice qJ s.qA.length qI,.slice (aa b14 o15) s.qB.length qQ] isAgg27 sizeOf27 rfl (qC (H.cells 2 rfl) 0 3) ?_))
   refine sw (xI [yI ((s.qB[k]!).qP),yI ((s.qB[k]!).jI),.slice ae17Need (((s.qB[k]!).zB).length) ce17Need,.slice ae17Have (((s.qB[k]!).vJ).length) ce17Have,.slice ae17Lack (((s.qB[k]!).vP).length) ce17Lack,.slice ae17Here (((s.qB[k]!).vT).length) ce17Here,.slice ae17Out (((s.qB[k]!).yP).length) ce17Out,.slice ae17Into (((s.qB[k]!).xh).length) ce17Into,.bool ((s.qB[k]!).jB)] isAgg70 sizeOf70 rfl (qC (H.cells 0 rfl) 0 9) ?_)
   refine sw (oq (isRule_ok _ s (s.qB[k]!) (H.get 7 rfl).1 (H.get 8 rfl).1 (H.get 0 rfl).1 (H.get 1 rfl).1 (H.get 2 rfl).1 (H.get 3 rfl).1 (H.get 4 rfl).1 (H.get 5 rfl).1 qg) H fun w22 H=>?_)
   have q:=fun h:RuleOk s (s.qB[k]!)=>(show 0≤(s.qB[k]!).qP∧(s.qB[k]!).qP≤5 from ⟨h.1.1,by have:=h.1.2;omega⟩)
   refine sq 1 (zjn (cQ rfl (fun h24=>?_) (fun h24=>?_)))
   ·skip
    refine zcr (sp (.bool false) (zjr (t_r (zr5 (ret1 (.bool false) rfl rfl ⟨_,rfl,?_,H.base⟩)))))
    rw [xk (fun h=>by obtain ⟨h1,h2,h3⟩:=h;first | contradiction | omega | (obtain ⟨r1,r2⟩:=h3 k qf;first | contradiction | (have:=Vo (s:=s) (k:=k+1) q1 q2;omega)))]
   obtain ⟨q1,q2⟩:=q ‹_›
   have q3:=Vo (s:=s) (k:=k) q1 q2
   have q4:=ofCell_bd s.qB (s.qB[k]!).qP k
   refine qW (t_n (zcr (oF rfl (oL rfl (H.cell 0 rfl rfl) (sw (o_idxArr ((s.qB[k]!).qP) underlying162 ti3 rfl rfl qf qf (oL rfl (H.cell 1 rfl (ints_at (iv:=(s.qB[k]!).qP) (i:=(((s.qB[k]!).qP).toNat)) qf (by simp only [List.length_set,List.length_cons,List.length_nil,counts6_len];omega))) (sw (zA ((counts6 s k)[((s.qB[k]!).qP).toNat]!) 1 rfl rfl qf (sw (o_idxArr ((s.qB[k]!).qP) underlying162 ti3 rfl rfl qf qf ?_)))))))))))
   refine sw (o_storeArr H 1 rfl (((counts6 s k)[((s.qB[k]!).qP).toNat]!)+1) sizeOf3 rfl rfl (i:=(((s.qB[k]!).qP).toNat)) qf (by simp only [List.length_set,List.length_cons,List.length_nil,counts6_len];omega) fun w25 H=>?_)
   rw [counts6_succ q1 q2] at H
   refine zjc (oF rfl (oL rfl (H.cell 0 rfl rfl) (sw (o_idxArr ((s.qB[k]!).qP) underlying162 ti3 rfl rfl qf qf (oL rfl (H.cell 1 rfl (ints_at (iv:=(s.qB[k]!).qP) (i:=(((s.qB[k]!).qP).toNat)) qf (by simp only [List.length_set,List.length_cons,List.length_nil,counts6_len];omega))) (sp (.bool (decide (((counts6 s (k+1))[((s.qB[k]!).qP).toNat]! :Int) > 8))) (zjn (cD rfl (fun h26=>?_) (fun h26=>?_)))))))))
   ·skip
    refine zcr (sp (.bool false) (zjr (zr5 (ret1 (.bool false) rfl rfl ⟨_,rfl,?_,H.base⟩))))
    rw [xk (fun h=>by obtain ⟨h1,h2,h3⟩:=h;first | contradiction | omega | (obtain ⟨r1,r2⟩:=h3 k qf;first | contradiction | (have:=Vo (s:=s) (k:=k+1) q1 q2;omega)))]
   refine qW (b_n (t_n (xU (sw (zA k 1 rfl rfl qf (sq 1 (xY (xe (m' :=(s.qB.length - ((k+1):Int)).toNat) qf ⟨_,k+1,_,uE5,?_,?_,?_,rfl,N,H.pick [1,2] [7,8]⟩))))))))
   · rfl
   · omega
   · exact i1.succ ‹_› (by have:=Vo (s:=s) (k:=k+1) q1 q2;omega)
  refine zx4 (zcr (sp (.bool true) (zjr (ret1 (.bool true) rfl rfl ⟨_,rfl,?_,H.base⟩))))
  rw [jY ⟨by assumption,by omega,(show s.qB.length=k by omega)▸i1⟩]
 replace h6:=xJ h6
 replace h6:=zT h6
 refine xZ [10,11,12,13] (sp (.bool true) (zjn (xE true rfl (fun _=>zcr (sp (.bool false) (zjr (t_r (ret1 (.bool false) rfl rfl ⟨_,rfl,?_,H.base⟩))))) (fun h=>absurd h qj))))
 rw [xk (fun h=>by obtain ⟨h1,h2,h3⟩:=h;first | contradiction | omega | (obtain ⟨r1,r2⟩:=h3 k qf;first | contradiction | (have:=Vo (s:=s) (k:=k+1) q1 q2;omega)))]

theorem QZ (w:World) (s:qE) (t:qF) {qJ:yOA} {xu:yLN} {qV:yOA} {zh:yLN} {xg:yOA} {zu:yLN} {xF:yOA} {zU:yLN} {qU:yOA} {x9:yLN} (qX:qO.rep w xu [.slice qJ s.qA.length qI] s.qA) (xn:qO.rep w zh [.slice qV s.qB.length qQ] s.qB) (xR:qO.rep w zu [.slice xg t.qG.length xf] t.qG) (zn:qO.rep w zU [.slice xF t.qN.length xA] t.qN) (xy:qO.rep w x9 [.slice qU t.qH.length qR] t.qH):Calls Tryz.prog 51 #[.agg #[yI s.xP,.slice qJ s.qA.length qI,.slice qV s.qB.length qQ],.agg #[.slice xg t.qG.length xf,.slice xF t.qN.length xA,.slice qU t.qH.length qR]] w (Ret (fun v w' =>v=.bool (dec (vK s∧xX s t))) w):=by
 refine en func51 ntmps51 ?_
 have H:=(((((St.start w).arg xy).arg zn).arg xR).arg xn).arg qX
 have zN:=qM qX
 have vW:=qM xn
 have jO:=qM xR
 have yH:=qM zn
 have jg:=qM xy
 clear qX xn xR zn xy
 have N:=Fresh.nil w.heap.size
 refine zcr (sw (zS H (yS s qJ qI qV qQ) fun b1 w2 H=>sw (zS H (yT t xg xf xF xA qU qR) fun b3 w4 H=>sp (.bool false) (zjcc (sw (xI (yS s qJ qI qV qQ) isAgg27 sizeOf27 rfl (qC (H.cells 1 rfl) 0 3) (sw (oq (validSystem_ok _ s (H.get 0 rfl).1 (H.get 1 rfl).1) H fun w6 H=>sp (.bool (!(dec (vK s)))) (sp (.bool (!(dec (vK s)))) ?_)))))))))
 cases h8:(!(dec (vK s)))
 ·skip
  replace h8:=xw h8
  replace h8:=yX h8
  have z1:=(‹vK s›:vK s).1.2.1
  refine qL 10 rfl rfl (oF rfl (qL 10 rfl rfl (oL rfl (H.cell 0 rfl rfl) (qL 10 rfl rfl (oN rfl (qL 10 rfl rfl (oF rfl (qL 10 rfl rfl (oL rfl (H.cell 1 rfl rfl) (qL 10 rfl rfl (oN rfl (qL 10 rfl rfl (sp (.bool ((t.qG.length:Int) != s.qA.length)) (sp (.bool ((t.qG.length:Int) != s.qA.length)) (sp (.bool ((t.qG.length:Int) != s.qA.length)) ?_)))))))))))))))
  cases h9:((t.qG.length:Int) != s.qA.length)
  ·skip
   replace h9:=xm h9
   refine qL 19 rfl rfl (oF rfl (qL 19 rfl rfl (oL rfl (H.cell 0 rfl rfl) (qL 19 rfl rfl (oN rfl (qL 19 rfl rfl (oF rfl (qL 19 rfl rfl (oL rfl (H.cell 1 rfl rfl) (qL 19 rfl rfl (oN rfl (qL 19 rfl rfl (sp (.bool ((t.qN.length:Int) != s.qA.length)) (sp (.bool ((t.qN.length:Int) != s.qA.length)) (sp (.bool ((t.qN.length:Int) != s.qA.length)) ?_)))))))))))))))
   cases h10:((t.qN.length:Int) != s.qA.length)
   ·skip
    replace h10:=xm h10
    refine qL 28 rfl rfl (oF rfl (qL 28 rfl rfl (oL rfl (H.cell 0 rfl rfl) (qL 28 rfl rfl ?_))))
    obtain ⟨b11,o12,rfl⟩:=H.addr 2 rfl qf
    refine oI rfl rfl (qL 28 rfl rfl (oL rfl (H.elemBoolN 2 rfl 0 qf) (qL 28 rfl rfl (sp (.bool (!(t.qG[0]!))) (sp (.bool (!(t.qG[0]!))) (sp (.bool (!(t.qG[0]!))) ?_))))))
    cases h14:(!(t.qG[0]!))
    ·skip
     replace h14:=xw h14
     refine qL 35 rfl rfl (oF rfl (qL 35 rfl rfl (oL rfl (H.cell 1 rfl rfl) (qL 35 rfl rfl (oF rfl (qL 35 rfl rfl (oL rfl (H.cell 0 rfl rfl) (qL 35 rfl rfl (sw (oq (Vj _ s.xP t.qH (H.get 4 rfl).1) H fun w15 H=>qL 35 rfl rfl (sq 2 (zjn (cQ rfl (fun h17=>?_) (fun h17=>?_))))))))))))))
     ·skip
      refine zcr (sp (.bool false) (zjr (t_r (ret1 (.bool false) rfl rfl ⟨_,rfl,?_,H.base⟩))))
      rw [xk (fun h=>by obtain ⟨h0,h1,h2,h3,h4,h5⟩:=h;first | contradiction | omega | (simp_all;done) | (obtain ⟨q1,q2⟩:=h5 c qf;first | contradiction | (have:=q2 ql;omega)))]
     refine qW (t_n (zcc (oF rfl (oL rfl (H.cell 0 rfl rfl) (oN rfl (sp (yI 0) (zjn (qY ?_))))))))
     refine zq ((fun Z0 Z1 Z2 Z3 Z4 Z5 Z6=>fun m' ρ w18=>∃ (xM:Env) (c:Nat),ρ=upd (upd (upd (upd (upd xM 2 (pp b1 0)) 3 (pp b3 0)) 44 (.slice xF t.qN.length xA)) 45 (yI t.qN.length)) 46 (yI c)∧((c:Int)≤t.qN.length)∧(BagsTo s t c)∧m' =(t.qN.length - (c:Int)).toNat∧Fresh w.heap.size []∧St w w18 [Z0,Z1] [Z2,Z3,Z4,Z5,Z6]) _ _ _ _ _ _ _) ((t.qN.length - (0:Int)).toNat) ⟨_,0,uE5,qf,qx,rfl,N,H⟩ ?_
     clear H N
     rintro m' ρ w19 ⟨xM,c,rfl,i0,i1,rfl,N,H⟩
     refine zcr (sq 1 (zjn (xQ (cD rfl (fun h20=>?_) (fun h20=>?_)))))
     ·skip
      refine qW (t_n (xQ (qY (zcr (sp (yI c) ?_)))))
      obtain ⟨b21,o22,rfl⟩:=H.addr 3 rfl qf
      obtain ⟨ae24,ce24,Fe24,H⟩:=H.vX 3 rfl c c qf qf qf
      refine oI rfl rfl (oL rfl (H.x8 1 rfl 0 rfl) (sp (yI c) (sq 1 (zjc (oF rfl (oL rfl (H.cell 1 rfl rfl) (sq 1 (sw (oq (Vj _ s.xP (t.qN[c]!) (H.get 0 rfl).1) H fun w25 H=>sp (.bool (!(dec (vw s.xP (t.qN[c]!))))) (sp (.bool (!(dec (vw s.xP (t.qN[c]!))))) ?_))))))))))
      cases h27:(!(dec (vw s.xP (t.qN[c]!))))
      ·skip
       replace h27:=xw h27
       replace h27:=yX h27
       refine qL 56 rfl rfl (oF rfl (qL 56 rfl rfl (oL rfl (H.cell 0 rfl rfl) (qL 56 rfl rfl (sp (yI c) (qL 56 rfl rfl (oI rfl rfl (qL 56 rfl rfl (oL rfl (H.elemBoolN 4 rfl c qf) (qL 56 rfl rfl (sp (.bool (!(t.qG[c]!))) (qL 56 rfl rfl (sp (.bool (!(t.qG[c]!))) ?_)))))))))))))
       cases h28:(!(t.qG[c]!))
       ·skip
        replace h28:=xw h28
        refine xZ [64,65,66] (qL 56 rfl rfl (sp (.bool false) (sp (.bool false) (zjn (xE false rfl (fun h=>absurd h qj) (fun _=>qW (b_n (t_n (xU (sw (zA c 1 rfl rfl qf (sq 1 (xY (xe (m' :=(t.qN.length - ((c+1):Int)).toNat) qf ⟨_,c+1,uE5,?_,?_,rfl,N,H.pick [0,1] [2,3,4,5,6]⟩))))))))))))))
        · omega
        · exact i1.succ ‹_› (fun hk=>by first | omega | simp_all)
       replace h28:=xJ h28
       refine qL 63 rfl rfl (sq 1 (qL 63 rfl rfl (sw (oq (XM _ (t.qN[c]!) (H.get 0 rfl).1 (by first | assumption | exact vg ql | exact yB ql)) H fun w29 H=>qL 63 rfl rfl (sp (.bool (decide ((QM (t.qN[c]!):Int) > 0))) (qL 56 rfl rfl (sp (.bool (decide ((QM (t.qN[c]!):Int) > 0))) (sp (.bool (decide ((QM (t.qN[c]!):Int) > 0))) (zjn (cD rfl (fun h31=>?_) (fun h31=>?_)))))))))))
       ·skip
        refine zcr (sp (.bool false) (zjr (zr5 (ret1 (.bool false) rfl rfl ⟨_,rfl,?_,H.base⟩))))
        rw [xk (fun h=>by obtain ⟨h0,h1,h2,h3,h4,h5⟩:=h;first | contradiction | omega | (simp_all;done) | (obtain ⟨q1,q2⟩:=h5 c qf;first | contradiction | (have:=q2 ql;omega)))]
       refine qW (b_n (t_n (xU (sw (zA c 1 rfl rfl qf (sq 1 (xY (xe (m' :=(t.qN.length - ((c+1):Int)).toNat) qf ⟨_,c+1,uE5,?_,?_,rfl,N,H.pick [0,1] [2,3,4,5,6]⟩))))))))
       · omega
       · exact i1.succ ‹_› (fun hk=>by first | omega | simp_all)
      replace h27:=xJ h27
      replace h27:=zT h27
      refine xZ [57,58,59,60,61,62,63,64,65,66,67] (sp (.bool true) (zjn (xE true rfl (fun _=>zcr (sp (.bool false) (zjr (zr5 (ret1 (.bool false) rfl rfl ⟨_,rfl,?_,H.base⟩))))) (fun h=>absurd h qj))))
      rw [xk (fun h=>by obtain ⟨h0,h1,h2,h3,h4,h5⟩:=h;first | contradiction | omega | (simp_all;done) | (obtain ⟨q1,q2⟩:=h5 c qf;first | contradiction | (have:=q2 ql;omega)))]
     refine zx4 (zcr (sp (.bool true) (zjr (ret1 (.bool true) rfl rfl ⟨_,rfl,?_,H.base⟩))))
     rw [jY ⟨by assumption,by omega,by omega,by first | assumption | simp_all,by assumption,(show t.qN.length=c by omega)▸i1⟩]
    replace h14:=xJ h14
    refine xZ [36,37,38,39,40,41] (sp (.bool true) (zjn (xE true rfl (fun _=>zcr (sp (.bool false) (zjr (t_r (ret1 (.bool false) rfl rfl ⟨_,rfl,?_,H.base⟩))))) (fun h=>absurd h qj))))
    rw [xk (fun h=>by obtain ⟨h0,h1,h2,h3,h4,h5⟩:=h;first | contradiction | omega | (simp_all;done) | (obtain ⟨q1,q2⟩:=h5 c qf;first | contradiction | (have:=q2 ql;omega)))]
   replace h10:=bne_iff_ne.1 h10
   refine xZ [29,30,31,32,33] (sp (.bool true) (sp (.bool true) (xZ [36,37,38,39,40,41] (sp (.bool true) (zjn (xE true rfl (fun _=>zcr (sp (.bool false) (zjr (t_r (ret1 (.bool false) rfl rfl ⟨_,rfl,?_,H.base⟩))))) (fun h=>absurd h qj)))))))
   rw [xk (fun h=>by obtain ⟨h0,h1,h2,h3,h4,h5⟩:=h;first | contradiction | omega | (simp_all;done) | (obtain ⟨q1,q2⟩:=h5 c qf;first | contradiction | (have:=q2 ql;omega)))]
  replace h9:=bne_iff_ne.1 h9
  refine xZ [20,21,22,23,24,25,26] (sp (.bool true) (sp (.bool true) (xZ [29,30,31,32,33] (sp (.bool true) (sp (.bool true) (xZ [36,37,38,39,40,41] (sp (.bool true) (zjn (xE true rfl (fun _=>zcr (sp (.bool false) (zjr (t_r (ret1 (.bool false) rfl rfl ⟨_,rfl,?_,H.base⟩))))) (fun h=>absurd h qj))))))))))
  rw [xk (fun h=>by obtain ⟨h0,h1,h2,h3,h4,h5⟩:=h;first | contradiction | omega | (simp_all;done) | (obtain ⟨q1,q2⟩:=h5 c qf;first | contradiction | (have:=q2 ql;omega)))]
 replace h8:=xJ h8
 replace h8:=zT h8
 refine xZ [11,12,13,14,15,16,17] (sp (.bool true) (sp (.bool true) (xZ [20,21,22,23,24,25,26] (sp (.bool true) (sp (.bool true) (xZ [29,30,31,32,33] (sp (.bool true) (sp (.bool true) (xZ [36,37,38,39,40,41] (sp (.bool true) (zjn (xE true rfl (fun _=>zcr (sp (.bool false) (zjr (t_r (ret1 (.bool false) rfl rfl ⟨_,rfl,?_,H.base⟩))))) (fun h=>absurd h qj)))))))))))))
 rw [xk (fun h=>by obtain ⟨h0,h1,h2,h3,h4,h5⟩:=h;first | contradiction | omega | (simp_all;done) | (obtain ⟨q1,q2⟩:=h5 c qf;first | contradiction | (have:=q2 ql;omega)))]

theorem parentNow_ok (w:World) (s:qE) (t:qF) (c:Int) {qJ:yOA} {xu:yLN} {qV:yOA} {zh:yLN} {xg:yOA} {zu:yLN} {xF:yOA} {zU:yLN} {qU:yOA} {x9:yLN} (qX:qO.rep w xu [.slice qJ s.qA.length qI] s.qA) (xn:qO.rep w zh [.slice qV s.qB.length qQ] s.qB) (xR:qO.rep w zu [.slice xg t.qG.length xf] t.qG) (zn:qO.rep w zU [.slice xF t.qN.length xA] t.qN) (xy:qO.rep w x9 [.slice qU t.qH.length qR] t.qH) (p0:jL s) (p1:CellIn s c) (p2:t.qG.length=s.qA.length):Calls Tryz.prog 167 #[.agg #[yI s.xP,.slice qJ s.qA.length qI,.slice qV s.qB.length qQ],.agg #[.slice xg t.qG.length xf,.slice xF t.qN.length xA,.slice qU t.qH.length qR],yI c] w (Ret (fun v w' =>v=yI (xW s t c)) w):=by
 refine en func167 ntmps167 ?_
 have H:=(((((St.start w).arg xy).arg zn).arg xR).arg xn).arg qX
 have zN:=qM qX
 have vW:=qM xn
 have jO:=qM xR
 have yH:=qM zn
 have jg:=qM xy
 clear qX xn xR zn xy
 have N:=Fresh.nil w.heap.size
 have p3:=p0.step p1.1 p1.2
 refine zcr (sw (zS H (yS s qJ qI qV qQ) fun b1 w2 H=>sw (zS H (yT t xg xf xF xA qU qR) fun b3 w4 H=>sp (yI 0) (zjc (oF rfl (oL rfl (H.cell 1 rfl rfl) (sp (yI c) ?_)))))))
 obtain ⟨b5,o6,rfl⟩:=H.addr 0 rfl qf
 refine oI rfl rfl (oL rfl (H.elemInt 0 rfl c qf qf) (sq 1 (zjn (xQ (qY ?_)))))
 refine zq ((fun Z0 Z1 Z2 Z3 Z4 Z5 Z6=>fun m' ρ w8=>∃ (xM:Env) (p:Int) (n:Nat),ρ=upd (upd (upd xM 3 (pp b1 0)) 4 (pp b3 0)) 7 (yI p)∧(-1≤p∧p≤(s.qA.length:Int) - 1)∧(p < n)∧(xW s t c=climb s.qA t.qG n p)∧m' =(p+1).toNat∧Fresh w.heap.size []∧St w w8 [Z0,Z1] [Z2,Z3,Z4,Z5,Z6]) _ _ _ _ _ _ _) (((s.qA[c.toNat]!)+1).toNat) ⟨_,s.qA[c.toNat]!,s.qA.length,uE3,qf,qf,(by rfl),rfl,N,H⟩ ?_
 clear H N
 rintro m' ρ w9 ⟨xM,p,n,rfl,i0,i1,i2,rfl,N,H⟩
 have up:=fun h=>p0.step (c:=p) h i0.2
 refine zcc (sp (yI p) (sp (.bool (decide ((p:Int)≥0))) (sp (.bool (decide ((p:Int)≥0))) ?_)))
 cases h10:(decide ((p:Int)≥0))
 ·skip
  replace h10:=of_decide_eq_false h10
  refine xZ [16,17,18,19,20,21] (sp (.bool false) (zjn (xE false rfl (fun h=>absurd h qj) (fun _=>zx4 (zcr (sp (yI p) (sp (yI p) (zjr (ret1 (yI p) rfl rfl ⟨_,rfl,?_,H.base⟩)))))))))
  rw [i2,climb_end (by first | omega | simp_all)]
 replace h10:=of_decide_eq_true h10
 refine qL 15 rfl rfl (oF rfl (qL 15 rfl rfl (oL rfl (H.cell 0 rfl rfl) (qL 15 rfl rfl (sp (yI p) (qL 15 rfl rfl ?_))))))
 obtain ⟨b11,o12,rfl⟩:=H.addr 2 rfl qf
 refine oI rfl rfl (qL 15 rfl rfl (oL rfl (H.elemBool 2 rfl p qf qf) (qL 15 rfl rfl (sq 2 (zjn (xE _ rfl (fun h14=>?_) (fun h14=>?_)))))))
 ·skip
  replace h14:=xJ h14
  refine qW (t_n (qY (xU (oF rfl (oL rfl (H.cell 1 rfl rfl) (sp (yI p) (oI rfl rfl (oL rfl (H.elemInt 0 rfl p qf qf) (sq 1 (xY (b_n ?_)))))))))))
  have up1:=up qf
  refine xe (m' :=((s.qA[p.toNat]!)+1).toNat) qf ⟨_,_,n - 1,uE3,?_,?_,?_,rfl,N,H⟩
  · omega
  · omega
  · exact i2.trans (climb_go qf qf ‹_›)
 replace h14:=xw h14
 refine zx4 (zcr (sp (yI p) (sp (yI p) (zjr (ret1 (yI p) rfl rfl ⟨_,rfl,?_,H.base⟩)))))
 rw [i2,climb_end (by first | omega | simp_all)]

theorem Xd (w:World) (t:qF) {xg:yOA} {zu:yLN} {xF:yOA} {zU:yLN} {qU:yOA} {x9:yLN} (xR:qO.rep w zu [.slice xg t.qG.length xf] t.qG) (zn:qO.rep w zU [.slice xF t.qN.length xA] t.qN) (xy:qO.rep w x9 [.slice qU t.qH.length qR] t.qH) (p0:t.qG.length≤1000000) (p1:t.qH.length≤1000000) (p2:t.qN.length≤1000000) (p3:∀ j,j < t.qN.length→(t.qN[j]!).length≤1000000):Calls Tryz.prog 71 #[.agg #[.slice xg t.qG.length xf,.slice xF t.qN.length xA,.slice qU t.qH.length qR]] w (Ret (fun v w' =>∃ (raAlive:yOA) (rnAlive:Nat) (rcAlive:Nat) (raBags:yOA) (rnBags:Nat) (rcBags:Nat) (rxBags:List Value) (rFBags:yLN) (raAround:yOA) (rnAround:Nat) (rcAround:Nat),v=.agg #[.slice raAlive rnAlive rcAlive,.slice raBags rnBags rcBags,.slice raAround rnAround rcAround]∧Fresh w.heap.size [rFBags]∧St w w' [rr raAlive rnAlive rcAlive 4 1 (t.qG.map (Value.bool)),rr raBags rnBags rcBags 24 1 rxBags,rr raAround rnAround rcAround 2 1 (t.qH.map (Value.int .i64))] [xB true rFBags rxBags t.qN]) w):=by
 refine en func71 ntmps71 ?_
 have H:=(((St.start w).arg xy).arg zn).arg xR
 have jO:=qM xR
 have yH:=qM zn
 have jg:=qM xy
 clear xR zn xy
 have N:=Fresh.nil w.heap.size
 refine zcr (sw (zS H (yT t xg xf xF xA qU qR) fun b1 w2 H=>sw (xx H ti31 [yN,yN,yN] fun b3 w4 H=>zjn (xQ ?_))))
 refine c_cut (fun ρ w10=>∃ (xM:Env) (b5:Nat) (ra6:yOA) (rc7:Nat) (a8:yOA) (c9:Nat),ρ=upd (upd (upd xM 1 (pp b1 0)) 2 (pp b3 0)) 3 (pp b5 0)∧Fresh w.heap.size []∧St w w10 [.box b5 [.slice ra6 t.qG.length rc7,yN,.slice a8 t.qH.length c9] 31,rr a8 t.qH.length c9 2 1 (t.qH.map (Value.int .i64)),rr ra6 t.qG.length rc7 4 1 (t.qG.map (Value.bool)),.box b3 [yN,yN,yN] 31,.box b1 (yT t xg xf xF xA qU qR) 31] [sF false zu xg xf t.qG,sF false zU xF xA t.qN,sF false x9 qU qR t.qH]) ?_ ?_
 ·skip
  refine jf rfl H fun H=>tF 0 rfl rfl H ?_
  refine tL 1 rfl rfl (fun _ h=>h.cell 1 rfl rfl) H ?_
  refine tF 3 rfl rfl H ?_
  refine tL 4 rfl rfl (fun _ h=>h.cell 1 rfl rfl) H ?_
  refine zY [2,7] qh qm (jd rfl ?_ (jd rfl ?_ zZ))
  ·skip
   have sz15:=H.base.size
   refine oc (cloneB_ok _ t.qG (H.get 0 rfl).1 qg) ?_
   rintro _ w13 ⟨ra12,rn12,rc12,rfl,M,K⟩ _
   replace H:=H.merge K M
   obtain rfl:=H.XC 0 rfl
   refine ⟨H.pick [1,2] [0,1,2],(zY [5,7] qh qm (jd rfl ?_ (jd rfl ?_ zZ)))⟩
   ·skip
    have sz18:=H.base.size
    refine oc (cloneI_ok _ t.qH (H.get 2 rfl).1 qg) ?_
    rintro v23 w21 r23 x22
    replace H:=H.zC x22 r23
    obtain ⟨a24,c25,rfl,hc26,hm27⟩:=H.jq 0 rfl
    refine ⟨H.pick [2,3] [0,1,2],(zY [6,7] qh qm (jd rfl ?_ (jd rfl ?_ zZ)))⟩
    ·skip
     refine zO [.slice ra12 t.qG.length rc12,yN,.slice a24 t.qH.length c25] [(0,.slice ra12 t.qG.length rc12),(2,.slice a24 t.qH.length c25)] (⟨H.pick [2,3] [0,1,2],(ro 7 rfl (xx H ti31 [yN,yN,yN] fun b28 w29 H=>⟨H.pick [3,4] [0,1,2],(ro 8 rfl (xG H 0 [.slice ra12 t.qG.length rc12,yN,.slice a24 t.qH.length c25] sizeOf31 fun w30 H=>⟨H.pick [3,4] [0,1,2],(xq qh ((meet ⟨_,b28,ra12,rc12,a24,c25,uE3,N,H⟩)))⟩))⟩))⟩)
    refine xx H ti31 [yN,yN,yN] fun b31 w32 H=>⟨H.pick [3,4] [0,1,2],(ro 6 rfl (zO [.slice ra12 t.qG.length rc12,yN,.slice a24 t.qH.length c25] [(0,.slice ra12 t.qG.length rc12),(2,.slice a24 t.qH.length c25)] (⟨H.pick [3,4] [0,1,2],(ro 8 rfl (xG H 0 [.slice ra12 t.qG.length rc12,yN,.slice a24 t.qH.length c25] sizeOf31 fun w33 H=>⟨H.pick [3,4] [0,1,2],(xq qh ((meet ⟨_,b31,ra12,rc12,a24,c25,uE3,N,H⟩)))⟩))⟩)))⟩
   refine xx H ti31 [yN,yN,yN] fun b34 w35 H=>⟨H.pick [2,3] [0,1,2],(ro 5 rfl ?_)⟩
   have sz36:=H.base.size
   refine oc (cloneI_ok _ t.qH (H.get 2 rfl).1 qg) ?_
   rintro v41 w39 r41 x40
   replace H:=H.zC x40 r41
   obtain ⟨a42,c43,rfl,hc44,hm45⟩:=H.jq 0 rfl
   refine ⟨H.pick [3,4] [0,1,2],(ro 6 rfl (zO [.slice ra12 t.qG.length rc12,yN,.slice a42 t.qH.length c43] [(0,.slice ra12 t.qG.length rc12),(2,.slice a42 t.qH.length c43)] (⟨H.pick [3,4] [0,1,2],(ro 8 rfl (xG H 1 [.slice ra12 t.qG.length rc12,yN,.slice a42 t.qH.length c43] sizeOf31 fun w46 H=>⟨H.pick [3,4] [0,1,2],(xq qh ((meet ⟨_,b34,ra12,rc12,a42,c43,uE3,N,H.pick [1,0,2,3,4] [0,1,2]⟩)))⟩))⟩)))⟩
  refine xx H ti31 [yN,yN,yN] fun b47 w48 H=>⟨H.pick [1,2] [0,1,2],(ro 2 rfl ?_)⟩
  have sz52:=H.base.size
  refine oc (cloneB_ok _ t.qG (H.get 0 rfl).1 qg) ?_
  rintro _ w50 ⟨ra49,rn49,rc49,rfl,M,K⟩ _
  replace H:=H.merge K M
  obtain rfl:=H.XC 0 rfl
  refine ⟨H.pick [2,3] [0,1,2],(ro 5 rfl ?_)⟩
  have sz55:=H.base.size
  refine oc (cloneI_ok _ t.qH (H.get 2 rfl).1 qg) ?_
  rintro v60 w58 r60 x59
  replace H:=H.zC x59 r60
  obtain ⟨a61,c62,rfl,hc63,hm64⟩:=H.jq 0 rfl
  refine ⟨H.pick [3,4] [0,1,2],(ro 6 rfl (zO [.slice ra49 t.qG.length rc49,yN,.slice a61 t.qH.length c62] [(0,.slice ra49 t.qG.length rc49),(2,.slice a61 t.qH.length c62)] (⟨H.pick [3,4] [0,1,2],(ro 8 rfl (xG H 2 [.slice ra49 t.qG.length rc49,yN,.slice a61 t.qH.length c62] sizeOf31 fun w65 H=>⟨H.pick [3,4] [0,1,2],(xq qh ((meet ⟨_,b47,ra49,rc49,a61,c62,uE3,N,H.pick [2,0,1,3,4] [0,1,2]⟩)))⟩))⟩)))⟩
 clear H N
 rintro ρ w66 ⟨xM,b5,ra6,rc7,a8,c9,rfl,N,H⟩
 refine t_n (zcc (oF rfl (oL rfl (H.cell 4 rfl rfl) (oN rfl (sp (yI 0) (zjn (qY ?_)))))))
 replace H:=H.nilRow 24 1
 replace H:=H.zW (α:=yLI)
 refine zq ((fun Z0 Z1 Z2 Z3 Z4 Z5 Z6=>fun m' ρ w67=>∃ (xM:Env) (k:Nat) (jR:yOA) (vF:Nat) (jQ:Nat) (out_Bags:yLL) (vC:List Value) (zo:yLN),ρ=upd (upd (upd (upd (upd xM 2 (pp b3 0)) 3 (pp b5 0)) 14 (.slice xF t.qN.length xA)) 15 (yI t.qN.length)) 16 (yI k)∧out_Bags=t.qN.take k∧((k:Int)≤t.qN.length)∧m' =(t.qN.length - (k:Int)).toNat∧Fresh w.heap.size [zo]∧St w w67 [rr jR vF jQ 24 1 vC,.box b5 [.slice ra6 t.qG.length rc7,.slice jR vF jQ,.slice a8 t.qH.length c9] 31,Z0,Z1,Z2,Z3] [xB true zo vC out_Bags,Z4,Z5,Z6]) _ _ _ _ _ _ _) ((t.qN.length - (0:Int)).toNat) ⟨_,0,none,0,0,([]:yLL),[],[],uE5,(by rfl),qf,rfl,N.emp,H⟩ ?_
 clear H N
 rintro m' ρ w68 ⟨xM,k,jR,vF,jQ,out_Bags,vC,zo,rfl,rfl,i0,rfl,N,H⟩
 have Vl:=H.xK (α:=yLI) 0 rfl 0 rfl qj
 have p4:=p3 k
 rw [List.length_take_of_le qf] at Vl
 refine zcr (sq 1 (zjn (xQ (cD rfl (fun h69=>?_) (fun h69=>?_)))))
 ·skip
  refine qW (t_n (xQ (qY (zcr ?_))))
  obtain ⟨b70,o71,rfl⟩:=H.addr 2 rfl qf
  obtain ⟨ae73,ce73,Fe73,H⟩:=H.vX 2 rfl k k qf qf qf
  refine oI rfl rfl (oL rfl (H.x8 1 rfl 0 rfl) (sq 1 (zjn ?_)))
  refine c_cut (fun ρ w79=>∃ (xM:Env) (a74:yOA) (c75:Nat) (a76:yOA) (c77:Nat) (G78:yLN),ρ=upd (upd (upd (upd (upd xM 2 (pp b3 0)) 3 (pp b5 0)) 14 (.slice (aa b70 o71) t.qN.length xA)) 15 (yI t.qN.length)) 16 (yI k)∧Fresh w.heap.size [(zo++G78)]∧St w w79 [rr a74 (vF+1) c75 24 1 (vC++[.slice a76 ((t.qN[k]!).length) c77]),.box b5 [.slice ra6 t.qG.length rc7,.slice a74 (vF+1) c75,.slice a8 t.qH.length c9] 31,rr a8 t.qH.length c9 2 1 (t.qH.map (Value.int .i64)),rr ra6 t.qG.length rc7 4 1 (t.qG.map (Value.bool)),.box b3 [yN,yN,yN] 31,.box b1 [.slice xg t.qG.length xf,.slice (aa b70 o71) t.qN.length xA,.slice qU t.qH.length qR] 31] [xB true (zo++G78) (vC++[.slice a76 ((t.qN[k]!).length) c77]) ((t.qN.take k)++[(t.qN[k]!)]),sF true G78 a76 c77 (t.qN[k]!),sF false Fe73 ae73 ce73 (t.qN[k]!),atF b70 (o71+(k:Int).toNat * 1) [.slice ae73 ((t.qN[k]!).length) ce73],sF false zu xg xf t.qG,sF false zU (aa b70 o71) xA t.qN,sF false x9 qU qR t.qH]) ?_ ?_
  ·skip
   refine yK rfl H [2,3,4,5] fun H=>?_
   have S:=H.jo [2,3,4,5] [0,1,2,3,4,5]
   refine tF 0 rfl rfl S ?_
   refine rtl 2 S ?_
   refine zY [1,3] qh qm (jd rfl ?_ (jd rfl ?_ zZ))
   ·skip
    refine zl (.slice jR vF jQ) isAgg29 rfl (H.cell 1 rfl rfl) (⟨H.pick [2,3,4,5] [0,1,2,3,4,5],(ro 3 rfl ?_)⟩)
    have sz81:=H.base.size
    have lt82:=H.ltN (L:=[zo]) [2]
    refine oc (cloneI_ok _ (t.qN[k]!) (H.get 0 rfl).1 qg) ?_
    rintro v86 w84 r86 x85
    replace H:=H.zC x85 r86
    obtain ⟨a87,c88,rfl,hc89,hm90⟩:=H.jq 0 rfl
    refine ⟨H.pick [3,4,5,6] [0,1,2,3,4,5],(ro 4 rfl (zf H underlying29 ti24 [.slice a87 ((t.qN[k]!).length) c88] fun b91 w92 H=>⟨H.pick [4,5,6,7] [0,1,2,3,4,5],(ro 5 rfl ?_)⟩))⟩
    obtain ⟨G96,N,hn97,H⟩:=H.zG 1 rfl N (H.vS [2])
    refine zk H 2 rfl 0 rfl underlying29 ti24 rfl qj rfl rfl rfl qw qp qf fun a93 c94 w95 H=>?_
    replace H:=H.jM 3 rfl 0 rfl
    replace N:Fresh w.heap.size [(zo++G96)]:=(N.pick [1,0]).join
    refine ⟨H.pick [4,5,6,7] [2,3,4,5,6,7],(tF 6 rfl rfl (H.pick [4,5,6,7] [2,3,4,5,6,7]) ?_)⟩
    refine ro 7 rfl (xO H 3 [.slice ra6 t.qG.length rc7,.slice a93 (vF+1) c94,.slice a8 t.qH.length c9] sizeOf29 fun w98 H=>⟨H.pick [4,5,6,7] [2,3,4,5,6,7],(xq qh ((meet ⟨_,a93,c94,a87,c88,G96,uE5,N,H.pick [2,3,4,5,6,7] [0,1,2,3,5,6,7]⟩)))⟩)
   have sz99:=H.base.size
   have lt100:=H.ltN (L:=[zo]) [2]
   refine oc (cloneI_ok _ (t.qN[k]!) (H.get 0 rfl).1 qg) ?_
   rintro v104 w102 r104 x103
   replace H:=H.zC x103 r104
   obtain ⟨a105,c106,rfl,hc107,hm108⟩:=H.jq 0 rfl
   refine ⟨H.pick [3,4,5,6] [0,1,2,3,4,5],(zY [1,4] qh qm (jd rfl ?_ (jd rfl ?_ zZ)))⟩
   ·skip
    refine zl (.slice jR vF jQ) isAgg29 rfl (H.cell 2 rfl rfl) (⟨H.pick [3,4,5,6] [0,1,2,3,4,5],(ro 4 rfl (zf H underlying29 ti24 [.slice a105 ((t.qN[k]!).length) c106] fun b109 w110 H=>⟨H.pick [4,5,6,7] [0,1,2,3,4,5],(ro 5 rfl ?_)⟩))⟩)
    obtain ⟨G114,N,hn115,H⟩:=H.zG 1 rfl N (H.vS [2])
    refine zk H 2 rfl 0 rfl underlying29 ti24 rfl qj rfl rfl rfl qw qp qf fun a111 c112 w113 H=>?_
    replace H:=H.jM 3 rfl 0 rfl
    replace N:Fresh w.heap.size [(zo++G114)]:=(N.pick [1,0]).join
    refine ⟨H.pick [4,5,6,7] [2,3,4,5,6,7],(tF 6 rfl rfl (H.pick [4,5,6,7] [2,3,4,5,6,7]) ?_)⟩
    refine ro 7 rfl (xO H 3 [.slice ra6 t.qG.length rc7,.slice a111 (vF+1) c112,.slice a8 t.qH.length c9] sizeOf29 fun w116 H=>⟨H.pick [4,5,6,7] [2,3,4,5,6,7],(xq qh ((meet ⟨_,a111,c112,a105,c106,G114,uE5,N,H.pick [2,3,4,5,6,7] [0,1,2,3,5,6,7]⟩)))⟩)
   refine zf H underlying29 ti24 [.slice a105 ((t.qN[k]!).length) c106] fun b117 w118 H=>⟨H.pick [4,5,6,7] [0,1,2,3,4,5],(ro 1 rfl (zl (.slice jR vF jQ) isAgg29 rfl (H.cell 3 rfl rfl) (⟨H.pick [4,5,6,7] [0,1,2,3,4,5],(ro 5 rfl ?_)⟩)))⟩
   obtain ⟨G122,N,hn123,H⟩:=H.zG 1 rfl N (H.vS [2])
   refine zk H 2 rfl 0 rfl underlying29 ti24 rfl qj rfl rfl rfl qw qp qf fun a119 c120 w121 H=>?_
   replace H:=H.jM 3 rfl 0 rfl
   replace N:Fresh w.heap.size [(zo++G122)]:=(N.pick [1,0]).join
   refine ⟨H.pick [4,5,6,7] [2,3,4,5,6,7],(tF 6 rfl rfl (H.pick [4,5,6,7] [2,3,4,5,6,7]) ?_)⟩
   refine ro 7 rfl (xO H 3 [.slice ra6 t.qG.length rc7,.slice a119 (vF+1) c120,.slice a8 t.qH.length c9] sizeOf29 fun w124 H=>⟨H.pick [4,5,6,7] [2,3,4,5,6,7],(xq qh ((meet ⟨_,a119,c120,a105,c106,G122,uE5,N,H.pick [2,3,4,5,6,7] [0,1,2,3,5,6,7]⟩)))⟩)
  clear H N
  rintro ρ w125 ⟨xM,a74,c75,a76,c77,G78,rfl,N,H⟩
  refine b_n (t_n (xU (sw (zA k 1 rfl rfl qf (sq 1 (xY (xe (m' :=(t.qN.length - ((k+1):Int)).toNat) qf ⟨_,k+1,_,_,_,_,_,_,uE5,?_,?_,rfl,N,H.pick [0,1,2,3,4,5] [0,4,5,6]⟩)))))))
  · exact take_snoc qf
  · omega
 refine zx4 (zcr (sw (xI [.slice ra6 t.qG.length rc7,.slice jR vF jQ,.slice a8 t.qH.length c9] isAgg31 sizeOf31 rfl (qC (H.cells 1 rfl) 0 3) (sw (xG H 4 [.slice ra6 t.qG.length rc7,.slice jR vF jQ,.slice a8 t.qH.length c9] sizeOf31 fun w126 H=>zjr (retC H 4 rfl rfl isAgg31 sizeOf31 rfl ⟨_,rfl,?_,H.base⟩))))))
 obtain rfl:k=t.qN.length:=by omega
 rw [List.take_length] at H
 exact ⟨ra6,t.qG.length,rc7,jR,vF,jQ,vC,zo,a8,t.qH.length,c9,rfl,N,H.pick [3,0,2] [0]⟩
theorem isEnabled_ok (w:World) (s:qE) (t:qF) (r:jw) {qJ:yOA} {xu:yLN} {qV:yOA} {zh:yLN} {xg:yOA} {zu:yLN} {xF:yOA} {zU:yLN} {qU:yOA} {x9:yLN} {arNeed:yOA} {FrNeed:yLN} {arHave:yOA} {FrHave:yLN} {arLack:yOA} {FrLack:yLN} {arHere:yOA} {FrHere:yLN} {arOut:yOA} {FrOut:yLN} {X4:yOA} {FrInto:yLN} (qX:qO.rep w xu [.slice qJ s.qA.length qI] s.qA) (xn:qO.rep w zh [.slice qV s.qB.length qQ] s.qB) (xR:qO.rep w zu [.slice xg t.qG.length xf] t.qG) (zn:qO.rep w zU [.slice xF t.qN.length xA] t.qN) (xy:qO.rep w x9 [.slice qU t.qH.length qR] t.qH) (hrNeed:qO.rep w FrNeed [.slice arNeed r.zB.length crNeed] r.zB) (hrHave:qO.rep w FrHave [.slice arHave r.vJ.length crHave] r.vJ) (hrLack:qO.rep w FrLack [.slice arLack r.vP.length crLack] r.vP) (hrHere:qO.rep w FrHere [.slice arHere r.vT.length crHere] r.vT) (hrOut:qO.rep w FrOut [.slice arOut r.yP.length crOut] r.yP) (hrInto:qO.rep w FrInto [.slice X4 r.xh.length X0] r.xh) (p0:vK s) (p1:xX s t) (p2:RuleOk s r):Calls Tryz.prog 125 #[.agg #[yI s.xP,.slice qJ s.qA.length qI,.slice qV s.qB.length qQ],.agg #[.slice xg t.qG.length xf,.slice xF t.qN.length xA,.slice qU t.qH.length qR],.agg #[yI r.qP,yI r.jI,.slice arNeed r.zB.length crNeed,.slice arHave r.vJ.length crHave,.slice arLack r.vP.length crLack,.slice arHere r.vT.length crHere,.slice arOut r.yP.length crOut,.slice X4 r.xh.length X0,.bool r.jB]] w (Ret (fun v w' =>v=.bool (dec (EnOk s t r))) w):=by
 refine en func125 ntmps125 ?_
 have H:=(((((((((((St.start w).arg hrInto).arg hrOut).arg hrHere).arg hrLack).arg hrHave).arg hrNeed).arg xy).arg zn).arg xR).arg xn).arg qX
 have zN:=qM qX
 have vW:=qM xn
 have jO:=qM xR
 have yH:=qM zn
 have jg:=qM xy
 have nhrNeed:=qM hrNeed
 have nhrHave:=qM hrHave
 have nhrLack:=qM hrLack
 have nhrHere:=qM hrHere
 have nhrOut:=qM hrOut
 have nhrInto:=qM hrInto
 clear qX xn xR zn xy hrNeed hrHave hrLack hrHere hrOut hrInto
 have N:=Fresh.nil w.heap.size
 have p3:=p2.1
 have p4:=p1.1
 have p5:=p1.2.1
 have p6:=(p1.bagLen (k:=r.qP.toNat) qf).len
 have p7:=p2.2.2.2.2.1.len
 have p8:=p2.2.2.2.2.2.1.len
 have p9:=p2.2.2.2.2.2.2.1.len
 have p10:=vg p2.2.2.2.2.2.2.1
 have p11:=p0.1
 have p12:=p2.2.2.2.2.2.2.2.2.2.2
 have p13:=kinds_le p0
 refine zcr (sw (zS H (yS s qJ qI qV qQ) fun b1 w2 H=>sw (zS H (yT t xg xf xF xA qU qR) fun b3 w4 H=>sw (zS H [yI r.qP,yI r.jI,.slice arNeed r.zB.length crNeed,.slice arHave r.vJ.length crHave,.slice arLack r.vP.length crLack,.slice arHere r.vT.length crHere,.slice arOut r.yP.length crOut,.slice X4 r.xh.length X0,.bool r.jB] fun b5 w6 H=>sp (.bool false) (zjcc (oF rfl ?_))))))
 refine oL rfl (H.cell 1 rfl rfl) (oF rfl (oL rfl (H.cell 0 rfl rfl) ?_))
 obtain ⟨b7,o8,rfl⟩:=H.addr 2 rfl qf
 refine oI rfl rfl (oL rfl (H.elemBool 2 rfl r.qP qf qf) (sq 1 (zjn (xE _ rfl (fun h10=>?_) (fun h10=>?_)))))
 ·skip
  replace h10:=xJ h10
  refine zcr (sp (.bool false) (zjr (t_r (ret1 (.bool false) rfl rfl ⟨_,rfl,?_,H.base⟩))))
  rw [xk (fun h=>by obtain ⟨h1,h2,h3,h4,h5⟩:=h;first | exact ft h1 ‹_› | exact ft h2 ‹_› | exact ft h3 ‹_› | exact h4 ⟨‹_›,‹_›⟩ | (obtain ⟨q1,q2⟩:=h5 i qf;first | exact ft q1 ‹_› | exact absurd q2 ‹_›))]
 replace h10:=xw h10
 refine qW (t_n (zcr (oF rfl (oL rfl (H.cell 1 rfl rfl) (oF rfl (oL rfl (H.cell 0 rfl rfl) ?_))))))
 obtain ⟨b11,o12,rfl⟩:=H.addr 3 rfl qf
 obtain ⟨ae14,ce14,Fe14,H⟩:=H.vX 3 rfl r.qP r.qP.toNat qf qf qf
 refine oI rfl rfl (oL rfl (H.x8 1 rfl 0 rfl) (sq 1 (zjcc (oF rfl (oL rfl (H.cell 0 rfl rfl) (sq 1 (sw (oq (Vk _ r.zB (t.qN[r.qP.toNat]!) (H.get 7 rfl).1 (H.get 0 rfl).1 qg qg) H fun w15 H=>sp (.bool (!(within r.zB (t.qN[r.qP.toNat]!)))) (sp (.bool (!(within r.zB (t.qN[r.qP.toNat]!)))) ?_)))))))))
 cases h17:(!(within r.zB (t.qN[r.qP.toNat]!)))
 ·skip
  replace h17:=xw h17
  refine qL 26 rfl rfl (oF rfl (qL 26 rfl rfl (oL rfl (H.cell 0 rfl rfl) (qL 26 rfl rfl (sq 1 (qL 26 rfl rfl (sw (oq (Vk _ r.vJ (t.qN[r.qP.toNat]!) (H.get 8 rfl).1 (H.get 0 rfl).1 qg qg) H fun w18 H=>qL 26 rfl rfl (sp (.bool (!(within r.vJ (t.qN[r.qP.toNat]!)))) (sp (.bool (!(within r.vJ (t.qN[r.qP.toNat]!)))) (sp (.bool (!(within r.vJ (t.qN[r.qP.toNat]!)))) ?_)))))))))))
  cases h20:(!(within r.vJ (t.qN[r.qP.toNat]!)))
  ·skip
   replace h20:=xw h20
   refine qL 33 rfl rfl (oF rfl (qL 33 rfl rfl (oL rfl (H.cell 0 rfl rfl) (qL 33 rfl rfl (sw (oq (XM _ r.vP (H.get 9 rfl).1 (by first | assumption | exact vg ql | exact yB ql)) H fun w21 H=>qL 33 rfl rfl (sp (.bool (decide ((QM r.vP:Int) > 0))) (qL 33 rfl rfl (sp (.bool (decide ((QM r.vP:Int) > 0))) ?_)))))))))
   cases h23:(decide ((QM r.vP:Int) > 0))
   ·skip
    replace h23:=of_decide_eq_false h23
    refine xZ [39,40,41,42] (qL 33 rfl rfl (sp (.bool false) (sp (.bool false) (zjn (xE false rfl (fun h=>absurd h qj) (fun _=>qW (t_n (zcr (oF rfl (oL rfl (H.cell 0 rfl rfl) (sp (.func (.func 166) #[] #[pp b3 0,pp b1 0,pp b5 0]) (sw (zQ #[.slice X4 r.xh.length X0,.func (.func 166) #[] #[pp b3 0,pp b1 0,pp b5 0]] rfl rfl call165 (en func165 ntmps165 ?_))))))))))))))
    refine zcr (sp (.bool false) (zjc (sq 1 (sp (.func (.func 166) #[] #[pp b3 0,pp b1 0,pp b5 0]) (sw (zQ #[.slice X4 r.xh.length X0,.func (.func 166) #[] #[pp b3 0,pp b1 0,pp b5 0]] rfl rfl call198 (en func198 ntmps198 ?_)))))))
    refine zcr (sp (yI 0) (zjcc (sq 1 (oN rfl (sp (yI 0) (zjn (qY ?_)))))))
    refine zq ((fun Z0 Z1 Z2 Z3 Z4 Z5 Z6 Z7 Z8 Z9 Z10 Z11 Z12 Z13 Z14 Z15=>fun m' ρ w24=>∃ (xM:Env) (i:Nat),ρ=upd (upd (upd (upd xM 0 (.slice X4 r.xh.length X0)) 1 (.func (.func 166) #[] #[pp b3 0,pp b1 0,pp b5 0])) 7 (yI r.xh.length)) 8 (yI i)∧((i:Int)≤r.xh.length)∧(IntoUp s t r i)∧m' =(r.xh.length - (i:Int)).toNat∧Fresh w.heap.size []∧St w w24 [Z0,Z1,Z2] [Z3,Z4,Z5,Z6,Z7,Z8,Z9,Z10,Z11,Z12,Z13,Z14,Z15]) _ _ _ _ _ _ _ _ _ _ _ _ _ _ _ _) ((r.xh.length - (0:Int)).toNat) ⟨_,0,uE4,qf,qx,rfl,N,H⟩ ?_
    clear H N
    rintro m' ρ w25 ⟨xM,i,rfl,i0,i1,rfl,N,H⟩
    refine zcr (sq 1 (zjn (xQ (cD rfl (fun h26=>?_) (fun h26=>?_)))))
    ·skip
     have q:=(p12 i qf).1
     have q1:=q.1
     have q2:=q.2
     refine qW (t_n (xQ (qY (zcr (sp (yI i) (sp (yI i) (zjc (sp (.func (.func 166) #[] #[pp b3 0,pp b1 0,pp b5 0]) (sq 1 (sp (yI i) ?_))))))))))
     obtain ⟨b27,o28,rfl⟩:=H.addr 12 rfl qf
     obtain ⟨ae30Bag,ce30Bag,Fe30Bag,H⟩:=H.yM 12 rfl i i qf qf qf
     refine oI rfl rfl (sw (xI [yI ((r.xh[i]!).qP),.slice ae30Bag (((r.xh[i]!).QG).length) ce30Bag] isAgg128 sizeOf128 rfl (qC (H.get 1 rfl) 0 2) (sw (zQ #[.agg #[yI ((r.xh[i]!).qP),.slice ae30Bag (((r.xh[i]!).QG).length) ce30Bag],pp b3 0,pp b1 0,pp b5 0] rfl rfl call166 (en func166 ntmps166 ?_)))))
     refine zcr (sw (zS H [yI ((r.xh[i]!).qP),.slice ae30Bag (((r.xh[i]!).QG).length) ce30Bag] fun b31 w32 H=>sp (.bool false) (zjn (xQ ?_))))
     refine jf rfl H fun H=>tF 0 rfl rfl H ?_
     refine tL 1 rfl rfl (fun _ h=>h.cell 2 rfl rfl) H ?_
     refine tF 2 rfl rfl H ?_
     refine tL 3 rfl rfl (fun _ h=>h.cell 0 rfl rfl) H ?_
     refine tI 4 rfl rfl rfl H ?_
     refine tL 5 rfl rfl (fun _ h=>h.elemBool 6 rfl ((r.xh[i]!).qP) qf qf) H ?_
     refine rtp 6 (.bool (!(t.qG[((r.xh[i]!).qP).toNat]!))) H ?_
     refine rtp 7 (.bool (!(t.qG[((r.xh[i]!).qP).toNat]!))) H ?_
     cases h34:(!(t.qG[((r.xh[i]!).qP).toNat]!))
     ·skip
      replace h34:=xw h34
      refine rg 8 _ 13 (yh (cs:=(yS s qJ qI qV qQ)) isAgg27 sizeOf27 rfl (fun _ h=>qC (h.cells 3 rfl) 0 3)) H ?_
      refine rg 9 _ 13 (yh (cs:=[.slice (aa b7 o8) t.qG.length xf,.slice (aa b11 o12) t.qN.length xA,.slice qU t.qH.length qR]) isAgg31 sizeOf31 rfl (fun _ h=>qC (h.cells 2 rfl) 0 3)) H ?_
      refine gF 10 rfl rfl H ?_
      refine gL 11 rfl rfl (fun _ h=>h.cell 0 rfl rfl) H ?_
      refine gF 13 rfl rfl H ?_
      refine gL 14 rfl rfl (fun _ h=>h.cell 1 rfl rfl) H ?_
      refine zY [12] qh qm (XD rfl (e:=13) rfl rfl (oq (parentNow_ok _ s t ((r.xh[i]!).qP) (H.get 4 rfl).1 (H.get 5 rfl).1 (H.get 6 rfl).1 (H.get 7 rfl).1 (H.get 8 rfl).1 qg qg qg) H fun w36 H=>⟨H,(rgl 15 13 H ?_)⟩) zZ)
      refine rtl 16 H ?_
      refine rtl 17 H ?_
      refine xq qh (t_n (c_ret (ret1 (.bool ((xW s t ((r.xh[i]!).qP):Int) != r.qP)) rfl rfl ⟨_,rfl,?_⟩)))
      replace H:=H.erases [0]
      dsimp only [vV,List.eraseIdx] at H
      refine zjn (xE _ rfl (fun h38=>?_) (fun h38=>?_))
      ·skip
       replace h38:=bne_iff_ne.1 h38
       refine zcr (sp (yI i) (sp (yI i) (zjr (zr5 (ret1 (yI i) rfl rfl ⟨_,rfl,(sw (o_pure (.bool true) (by show some (Value.bool (decide ((i:Int)≥0)))=some (Value.bool true);rw [decide_eq_true qf]) (sp (.bool true) (zjr (ret1 (.bool true) rfl rfl ⟨_,rfl,(sp (.bool false) (sp (.bool false) (zjr (ret1 (.bool false) rfl rfl ⟨_,rfl,?_,H.base⟩))))⟩)))))⟩)))))
       rw [xk (fun h=>by obtain ⟨h1,h2,h3,h4,h5⟩:=h;first | exact ft h1 ‹_› | exact ft h2 ‹_› | exact ft h3 ‹_› | exact h4 ⟨‹_›,‹_›⟩ | (obtain ⟨q1,q2⟩:=h5 i qf;first | exact ft q1 ‹_› | exact absurd q2 ‹_›))]
      replace h38:=xm h38
      refine qW (b_n (t_n (xU (sw (zA i 1 rfl rfl qf (sq 1 (xY (xe (m' :=(r.xh.length - ((i+1):Int)).toNat) qf ⟨_,i+1,uE4,?_,?_,rfl,N,H.pick [0,1,2] [2,3,4,5,6,7,8,9,10,11,12,13,14]⟩))))))))
      · omega
      · exact i1.succ ‹_› ‹_›
     replace h34:=xJ h34
     refine zI [8,9,10,11,12,13,14,15] 8 (H) (rtp 16 (.bool true) H ?_)
     refine rtp 17 (.bool true) H ?_
     refine xq qh (t_n (c_ret (ret1 (.bool true) rfl rfl ⟨_,rfl,?_⟩)))
     replace H:=H.erases [0]
     dsimp only [vV,List.eraseIdx] at H
     refine zjn (xE true rfl (fun _=>zcr (sp (yI i) (sp (yI i) (zjr (zr5 (ret1 (yI i) rfl rfl ⟨_,rfl,(sw (o_pure (.bool true) (by show some (Value.bool (decide ((i:Int)≥0)))=some (Value.bool true);rw [decide_eq_true qf]) (sp (.bool true) (zjr (ret1 (.bool true) rfl rfl ⟨_,rfl,(sp (.bool false) (sp (.bool false) (zjr (ret1 (.bool false) rfl rfl ⟨_,rfl,?_,H.base⟩))))⟩)))))⟩)))))) (fun h=>absurd h qj))
     rw [xk (fun h=>by obtain ⟨h1,h2,h3,h4,h5⟩:=h;first | exact ft h1 ‹_› | exact ft h2 ‹_› | exact ft h3 ‹_› | exact h4 ⟨‹_›,‹_›⟩ | (obtain ⟨q1,q2⟩:=h5 i qf;first | exact ft q1 ‹_› | exact absurd q2 ‹_›))]
    refine zx4 (zcr (sq 1 (zjr (ret1 (yI (-1)) rfl rfl ⟨_,rfl,(sp (.bool false) (sp (.bool false) (zjr (ret1 (.bool false) rfl rfl ⟨_,rfl,(sp (.bool true) (sp (.bool true) (zjr (ret1 (.bool true) rfl rfl ⟨_,rfl,?_,H.base⟩))))⟩))))⟩))))
    rw [jY ⟨by assumption,by assumption,by assumption,fun ⟨u,v⟩=>by first | omega | exact ft v ‹_›,(show i=r.xh.length by omega)▸i1⟩]
   replace h23:=of_decide_eq_true h23
   refine qL 38 rfl rfl (oF rfl (qL 38 rfl rfl (oL rfl (H.cell 0 rfl rfl) (qL 38 rfl rfl (sq 1 (qL 38 rfl rfl (sw (oq (Vk _ r.vP (t.qN[r.qP.toNat]!) (H.get 9 rfl).1 (H.get 0 rfl).1 qg qg) H fun w39 H=>qL 33 rfl rfl (sq 2 (zjn (xE _ rfl (fun h41=>?_) (fun h41=>?_))))))))))))
   ·skip
    refine zcr (sp (.bool false) (zjr (t_r (ret1 (.bool false) rfl rfl ⟨_,rfl,?_,H.base⟩))))
    rw [xk (fun h=>by obtain ⟨h1,h2,h3,h4,h5⟩:=h;first | exact ft h1 ‹_› | exact ft h2 ‹_› | exact ft h3 ‹_› | exact h4 ⟨‹_›,‹_›⟩ | (obtain ⟨q1,q2⟩:=h5 i qf;first | exact ft q1 ‹_› | exact absurd q2 ‹_›))]
   refine qW (t_n (zcr (oF rfl (oL rfl (H.cell 0 rfl rfl) (sp (.func (.func 166) #[] #[pp b3 0,pp b1 0,pp b5 0]) (sw (zQ #[.slice X4 r.xh.length X0,.func (.func 166) #[] #[pp b3 0,pp b1 0,pp b5 0]] rfl rfl call165 (en func165 ntmps165 ?_))))))))
   refine zcr (sp (.bool false) (zjc (sq 1 (sp (.func (.func 166) #[] #[pp b3 0,pp b1 0,pp b5 0]) (sw (zQ #[.slice X4 r.xh.length X0,.func (.func 166) #[] #[pp b3 0,pp b1 0,pp b5 0]] rfl rfl call198 (en func198 ntmps198 ?_)))))))
   refine zcr (sp (yI 0) (zjcc (sq 1 (oN rfl (sp (yI 0) (zjn (qY ?_)))))))
   refine zq ((fun Z0 Z1 Z2 Z3 Z4 Z5 Z6 Z7 Z8 Z9 Z10 Z11 Z12 Z13 Z14 Z15=>fun m' ρ w42=>∃ (xM:Env) (i:Nat),ρ=upd (upd (upd (upd xM 0 (.slice X4 r.xh.length X0)) 1 (.func (.func 166) #[] #[pp b3 0,pp b1 0,pp b5 0])) 7 (yI r.xh.length)) 8 (yI i)∧((i:Int)≤r.xh.length)∧(IntoUp s t r i)∧m' =(r.xh.length - (i:Int)).toNat∧Fresh w.heap.size []∧St w w42 [Z0,Z1,Z2] [Z3,Z4,Z5,Z6,Z7,Z8,Z9,Z10,Z11,Z12,Z13,Z14,Z15]) _ _ _ _ _ _ _ _ _ _ _ _ _ _ _ _) ((r.xh.length - (0:Int)).toNat) ⟨_,0,uE4,qf,qx,rfl,N,H⟩ ?_
   clear H N
   rintro m' ρ w43 ⟨xM,i,rfl,i0,i1,rfl,N,H⟩
   refine zcr (sq 1 (zjn (xQ (cD rfl (fun h44=>?_) (fun h44=>?_)))))
   ·skip
    have q:=(p12 i qf).1
    have q1:=q.1
    have q2:=q.2
    refine qW (t_n (xQ (qY (zcr (sp (yI i) (sp (yI i) (zjc (sp (.func (.func 166) #[] #[pp b3 0,pp b1 0,pp b5 0]) (sq 1 (sp (yI i) ?_))))))))))
    obtain ⟨b45,o46,rfl⟩:=H.addr 12 rfl qf
    obtain ⟨ae48Bag,ce48Bag,Fe48Bag,H⟩:=H.yM 12 rfl i i qf qf qf
    refine oI rfl rfl (sw (xI [yI ((r.xh[i]!).qP),.slice ae48Bag (((r.xh[i]!).QG).length) ce48Bag] isAgg128 sizeOf128 rfl (qC (H.get 1 rfl) 0 2) (sw (zQ #[.agg #[yI ((r.xh[i]!).qP),.slice ae48Bag (((r.xh[i]!).QG).length) ce48Bag],pp b3 0,pp b1 0,pp b5 0] rfl rfl call166 (en func166 ntmps166 ?_)))))
    refine zcr (sw (zS H [yI ((r.xh[i]!).qP),.slice ae48Bag (((r.xh[i]!).QG).length) ce48Bag] fun b49 w50 H=>sp (.bool false) (zjn (xQ ?_))))
    refine jf rfl H fun H=>tF 0 rfl rfl H ?_
    refine tL 1 rfl rfl (fun _ h=>h.cell 2 rfl rfl) H ?_
    refine tF 2 rfl rfl H ?_
    refine tL 3 rfl rfl (fun _ h=>h.cell 0 rfl rfl) H ?_
    refine tI 4 rfl rfl rfl H ?_
    refine tL 5 rfl rfl (fun _ h=>h.elemBool 6 rfl ((r.xh[i]!).qP) qf qf) H ?_
    refine rtp 6 (.bool (!(t.qG[((r.xh[i]!).qP).toNat]!))) H ?_
    refine rtp 7 (.bool (!(t.qG[((r.xh[i]!).qP).toNat]!))) H ?_
    cases h52:(!(t.qG[((r.xh[i]!).qP).toNat]!))
    ·skip
     replace h52:=xw h52
     refine rg 8 _ 13 (yh (cs:=(yS s qJ qI qV qQ)) isAgg27 sizeOf27 rfl (fun _ h=>qC (h.cells 3 rfl) 0 3)) H ?_
     refine rg 9 _ 13 (yh (cs:=[.slice (aa b7 o8) t.qG.length xf,.slice (aa b11 o12) t.qN.length xA,.slice qU t.qH.length qR]) isAgg31 sizeOf31 rfl (fun _ h=>qC (h.cells 2 rfl) 0 3)) H ?_
     refine gF 10 rfl rfl H ?_
     refine gL 11 rfl rfl (fun _ h=>h.cell 0 rfl rfl) H ?_
     refine gF 13 rfl rfl H ?_
     refine gL 14 rfl rfl (fun _ h=>h.cell 1 rfl rfl) H ?_
     refine zY [12] qh qm (XD rfl (e:=13) rfl rfl (oq (parentNow_ok _ s t ((r.xh[i]!).qP) (H.get 4 rfl).1 (H.get 5 rfl).1 (H.get 6 rfl).1 (H.get 7 rfl).1 (H.get 8 rfl).1 qg qg qg) H fun w54 H=>⟨H,(rgl 15 13 H ?_)⟩) zZ)
     refine rtl 16 H ?_
     refine rtl 17 H ?_
     refine xq qh (t_n (c_ret (ret1 (.bool ((xW s t ((r.xh[i]!).qP):Int) != r.qP)) rfl rfl ⟨_,rfl,?_⟩)))
     replace H:=H.erases [0]
     dsimp only [vV,List.eraseIdx] at H
     refine zjn (xE _ rfl (fun h56=>?_) (fun h56=>?_))
     ·skip
      replace h56:=bne_iff_ne.1 h56
      refine zcr (sp (yI i) (sp (yI i) (zjr (zr5 (ret1 (yI i) rfl rfl ⟨_,rfl,(sw (o_pure (.bool true) (by show some (Value.bool (decide ((i:Int)≥0)))=some (Value.bool true);rw [decide_eq_true qf]) (sp (.bool true) (zjr (ret1 (.bool true) rfl rfl ⟨_,rfl,(sp (.bool false) (sp (.bool false) (zjr (ret1 (.bool false) rfl rfl ⟨_,rfl,?_,H.base⟩))))⟩)))))⟩)))))
      rw [xk (fun h=>by obtain ⟨h1,h2,h3,h4,h5⟩:=h;first | exact ft h1 ‹_› | exact ft h2 ‹_› | exact ft h3 ‹_› | exact h4 ⟨‹_›,‹_›⟩ | (obtain ⟨q1,q2⟩:=h5 i qf;first | exact ft q1 ‹_› | exact absurd q2 ‹_›))]
     replace h56:=xm h56
     refine qW (b_n (t_n (xU (sw (zA i 1 rfl rfl qf (sq 1 (xY (xe (m' :=(r.xh.length - ((i+1):Int)).toNat) qf ⟨_,i+1,uE4,?_,?_,rfl,N,H.pick [0,1,2] [2,3,4,5,6,7,8,9,10,11,12,13,14]⟩))))))))
     · omega
     · exact i1.succ ‹_› ‹_›
    replace h52:=xJ h52
    refine zI [8,9,10,11,12,13,14,15] 8 (H) (rtp 16 (.bool true) H ?_)
    refine rtp 17 (.bool true) H ?_
    refine xq qh (t_n (c_ret (ret1 (.bool true) rfl rfl ⟨_,rfl,?_⟩)))
    replace H:=H.erases [0]
    dsimp only [vV,List.eraseIdx] at H
    refine zjn (xE true rfl (fun _=>zcr (sp (yI i) (sp (yI i) (zjr (zr5 (ret1 (yI i) rfl rfl ⟨_,rfl,(sw (o_pure (.bool true) (by show some (Value.bool (decide ((i:Int)≥0)))=some (Value.bool true);rw [decide_eq_true qf]) (sp (.bool true) (zjr (ret1 (.bool true) rfl rfl ⟨_,rfl,(sp (.bool false) (sp (.bool false) (zjr (ret1 (.bool false) rfl rfl ⟨_,rfl,?_,H.base⟩))))⟩)))))⟩)))))) (fun h=>absurd h qj))
    rw [xk (fun h=>by obtain ⟨h1,h2,h3,h4,h5⟩:=h;first | exact ft h1 ‹_› | exact ft h2 ‹_› | exact ft h3 ‹_› | exact h4 ⟨‹_›,‹_›⟩ | (obtain ⟨q1,q2⟩:=h5 i qf;first | exact ft q1 ‹_› | exact absurd q2 ‹_›))]
   refine zx4 (zcr (sq 1 (zjr (ret1 (yI (-1)) rfl rfl ⟨_,rfl,(sp (.bool false) (sp (.bool false) (zjr (ret1 (.bool false) rfl rfl ⟨_,rfl,(sp (.bool true) (sp (.bool true) (zjr (ret1 (.bool true) rfl rfl ⟨_,rfl,?_,H.base⟩))))⟩))))⟩))))
   rw [jY ⟨by assumption,by assumption,by assumption,fun ⟨u,v⟩=>by first | omega | exact ft v ‹_›,(show i=r.xh.length by omega)▸i1⟩]
  replace h20:=xJ h20
  refine xZ [34,35,36,37,38,39,40,41,42,43] (sp (.bool true) (zjn (xE true rfl (fun _=>zcr (sp (.bool false) (zjr (t_r (ret1 (.bool false) rfl rfl ⟨_,rfl,?_,H.base⟩))))) (fun h=>absurd h qj))))
  rw [xk (fun h=>by obtain ⟨h1,h2,h3,h4,h5⟩:=h;first | exact ft h1 ‹_› | exact ft h2 ‹_› | exact ft h3 ‹_› | exact h4 ⟨‹_›,‹_›⟩ | (obtain ⟨q1,q2⟩:=h5 i qf;first | exact ft q1 ‹_› | exact absurd q2 ‹_›))]
 replace h17:=xJ h17
 refine xZ [27,28,29,30,31] (sp (.bool true) (sp (.bool true) (xZ [34,35,36,37,38,39,40,41,42,43] (sp (.bool true) (zjn (xE true rfl (fun _=>zcr (sp (.bool false) (zjr (t_r (ret1 (.bool false) rfl rfl ⟨_,rfl,?_,H.base⟩))))) (fun h=>absurd h qj)))))))
 rw [xk (fun h=>by obtain ⟨h1,h2,h3,h4,h5⟩:=h;first | exact ft h1 ‹_› | exact ft h2 ‹_› | exact ft h3 ‹_› | exact h4 ⟨‹_›,‹_›⟩ | (obtain ⟨q1,q2⟩:=h5 i qf;first | exact ft q1 ‹_› | exact absurd q2 ‹_›))]

theorem cloneSS_ok (w:World) (l:yLL) {al:yOA} {Fl:yLN} (hl:qO.rep w Fl [.slice al l.length cl] l) (p0:l.length≤1000000):Calls Tryz.prog 126 #[.slice al l.length cl] w (Ret (fun v w' =>∃ (ra:yOA) (rn:Nat) (rc:Nat) (rx:List Value) (rF:yLN),v=.slice ra rn rc∧(∀ b∈rF,b∈Fl)∧St w w' [rr ra rn rc 24 1 rx] [xB false rF rx l]) w):=by
 refine en func126 ntmps126 ?_
 have H:=(St.start w).arg hl
 have nhl:=qM hl
 clear hl
 have N:=Fresh.nil w.heap.size
 refine zcr (sq 1 (zjcc (sq 1 (sw (o_eqnil underlying29 al l.length cl rfl (zjn (xE _ rfl (fun h1=>?_) (fun h1=>?_))))))))
 ·skip
  refine zcr (sq 1 (zjr (t_r ?_)))
  replace H:=H.nilRow 24 1
  replace H:=H.zW (α:=yLI)
  refine ret1 yN rfl rfl ⟨_,rfl,?_,H.base⟩
  obtain rfl:=H.nilOf 1 rfl ‹_›
  replace H:=H.unfree 0 rfl
  exact ⟨none,0,0,[],[],rfl,(by intro b hb;first | (simp at hb;done) | exact id b (by simpa using hb)),H.pick [0] [0]⟩
 refine qW (t_n (zcr (sw (vU H underlying29 ti24 fun b2 w3 H=>sq 1 ?_))))
 replace H:=H.boxRow 0 rfl 1 0 rfl qj
 replace H:=H.zW (α:=yLI)
 refine sw (o_appendFR H 0 rfl 1 rfl underlying29 ti24 rfl qj rfl rfl qp qf fun a4 c5 w6 us7 G8 H hG9=>?_)
 replace H:=H.repsCat false 1 rfl 0 rfl qm
 refine sq 1 (zjr (ret1 (.slice a4 (0+l.length) c5) rfl rfl ⟨_,rfl,(⟨a4,0+l.length,c5,[]++us7,([]++G8),rfl,(by intro b hb;first | (simp at hb;done) | exact hG9 b (by simpa using hb)),H.pick [0] [0]⟩),H.base⟩))

theorem timesIn_ok (w:World) (l:yLI) (m:yLI) {al:yOA} {Fl:yLN} {am:yOA} {cm:Nat} {Fm:yLN} (hl:qO.rep w Fl [.slice al l.length cl] l) (hm:qO.rep w Fm [.slice am m.length cm] m) (p0:l.length≤m.length) (p2:∀ q,q < l.length→0≤m[q]! ∧m[q]! ≤1000):Calls Tryz.prog 139 #[.slice al l.length cl,.slice am m.length cm] w (Ret (fun v w' =>v=yI (jA l m)) w):=by
 refine en func139 ntmps139 ?_
 have H:=((St.start w).arg hm).arg hl
 have nhl:=qM hl
 have nhm:=qM hm
 clear hl hm
 have N:=Fresh.nil w.heap.size
 refine zcr (sp (yI 0) (zjc (sq 1 (zjcc (sq 1 (oN rfl (sp (yI 0) (zjn (qY ?_)))))))))
 refine zq ((fun Z0 Z1=>fun m' ρ w1=>∃ (xM:Env) (most:Int) (k:Nat),ρ=upd (upd (upd (upd (upd xM 1 (.slice am m.length cm)) 5 (yI most)) 8 (.slice al l.length cl)) 9 (yI l.length)) 10 (yI k)∧most=Qh l m k∧((k:Int)≤l.length)∧m' =(l.length - (k:Int)).toNat∧Fresh w.heap.size []∧St w w1 [] [Z0,Z1]) _ _) ((l.length - (0:Int)).toNat) ⟨_,1000,0,uE5,(by rfl),qf,rfl,N,H⟩ ?_
 clear H N
 rintro m' ρ w2 ⟨xM,most,k,rfl,rfl,i0,rfl,N,H⟩
 refine zcr (sq 1 (zjn (xQ (cD rfl (fun h3=>?_) (fun h3=>?_)))))
 ·skip
  refine qW (t_n (xQ (qY (zcr (sp (yI k) ?_)))))
  obtain ⟨b4,o5,rfl⟩:=H.addr 0 rfl qf
  refine oI rfl rfl (oL rfl (H.zH 0 rfl k qf) (sp (yI k) (sq 1 (zjc (sq 1 (sp (.bool (decide ((l[k]! :Int) > 0))) (zjn (cD rfl (fun h7=>?_) (fun h7=>?_)))))))))
  ·skip
   refine xU (sq 2 (sp (yI k) ?_))
   obtain ⟨b8,o9,rfl⟩:=H.addr 1 rfl qf
   refine oI rfl rfl (oL rfl (H.zH 1 rfl k qf) (sq 1 (sw (o_quo (m[k]!) (l[k]!) rfl rfl (by (have:=p2 k qf;omega)) (by (have:=p2 k qf;omega)) (sw (o_min (Qh l m k) ((m[k]!) / (l[k]!)) rfl rfl (sq 1 (xY (b_n (t_n (xU (sw (zA k 1 rfl rfl (by (have:=p2 k qf;omega)) (sq 1 (xY (xe (m' :=(l.length - ((k+1):Int)).toNat) qf ⟨_,_,k+1,uE5,?_,?_,rfl,N,H⟩))))))))))))))))
   · first | exact (timesTo_pos qf).symm | exact (timesTo_skip qf).symm
   · omega
  refine qW (b_n (t_n (xU (sw (zA k 1 rfl rfl (by (have:=p2 k qf;omega)) (sq 1 (xY (xe (m' :=(l.length - ((k+1):Int)).toNat) qf ⟨_,_,k+1,uE5,?_,?_,rfl,N,H⟩))))))))
  · first | exact (timesTo_pos qf).symm | exact (timesTo_skip qf).symm
  · omega
 refine zx4 (zcr (sq 2 (zjr (ret1 (yI (Qh l m k)) rfl rfl ⟨_,rfl,?_,H.base⟩))))
 obtain rfl:k=l.length:=by omega
 rfl

theorem applicable_ok (w:World) (s:qE) (t:qF) {qJ:yOA} {xu:yLN} {qV:yOA} {zh:yLN} {xg:yOA} {zu:yLN} {xF:yOA} {zU:yLN} {qU:yOA} {x9:yLN} (qX:qO.rep w xu [.slice qJ s.qA.length qI] s.qA) (xn:qO.rep w zh [.slice qV s.qB.length qQ] s.qB) (xR:qO.rep w zu [.slice xg t.qG.length xf] t.qG) (zn:qO.rep w zU [.slice xF t.qN.length xA] t.qN) (xy:qO.rep w x9 [.slice qU t.qH.length qR] t.qH) (p0:vK s) (p1:xX s t):Calls Tryz.prog 73 #[.agg #[yI s.xP,.slice qJ s.qA.length qI,.slice qV s.qB.length qQ],.agg #[.slice xg t.qG.length xf,.slice xF t.qN.length xA,.slice qU t.qH.length qR]] w (Ret (fun v w' =>∃ (ra:yOA) (rn:Nat) (rc:Nat),v=.slice ra rn rc∧Fresh w.heap.size []∧St w w' [rr ra rn rc 2 1 ((appls s t).map (Value.int .i64))] []) w):=by
 refine en func73 ntmps73 ?_
 have H:=(((((St.start w).arg xy).arg zn).arg xR).arg xn).arg qX
 have zN:=qM qX
 have vW:=qM xn
 have jO:=qM xR
 have yH:=qM zn
 have jg:=qM xy
 clear qX xn xR zn xy
 have N:=Fresh.nil w.heap.size
 have p2:=p0.2.1
 have p3:=p0.1.2.1
 refine zcr (sw (zS H (yS s qJ qI qV qQ) fun b1 w2 H=>sw (zS H (yT t xg xf xF xA qU qR) fun b3 w4 H=>sq 1 (zjc (sw (zO [yI 0,yI 0,yI 0,yI 0,yI 0,yI 0] [] (sw (xx H ti145 [yI 0,yI 0,yI 0,yI 0,yI 0,yI 0] fun b5 w6 H=>?_))))))))
 refine sw (xG H 0 [yI 0,yI 0,yI 0,yI 0,yI 0,yI 0] sizeOf145 fun w7 H=>zjcc (sp (yI 0) (zjn (qY ?_))))
 refine zq ((fun Z0 Z1 Z2 Z3 Z4 Z5 Z6=>fun m' ρ w8=>∃ (xM:Env) (c:Nat) (top:yLI),ρ=upd (upd (upd (upd xM 2 (pp b1 0)) 3 (pp b3 0)) 5 (pp b5 0)) 13 (yI c)∧top=minus c∧((c:Int)≤6)∧m' =(6 - (c:Int)).toNat∧Fresh w.heap.size []∧St w w8 [.box b5 (top.map (Value.int .i64)) 145,Z0,Z1] [Z2,Z3,Z4,Z5,Z6]) _ _ _ _ _ _ _) ((6 - (0:Int)).toNat) ⟨_,0,[0,0,0,0,0,0],uE4,(by rfl),qf,rfl,N,H⟩ ?_
 clear H N
 rintro m' ρ w9 ⟨xM,c,top,rfl,rfl,i0,rfl,N,H⟩
 refine zcr (sp (.bool (decide ((c:Int) < 6))) (zjn (xQ (cD rfl (fun h10=>?_) (fun h10=>?_)))))
 ·skip
  refine qW (t_n (xQ (qY (zcr (sp (yI c) (sp (yI c) (zjn (xU (sp (yI c) (sw (o_idxArr c underlying145 ti2 rfl rfl qf qf (sw (o_storeArr H 0 rfl (-1) sizeOf2 rfl rfl (i:=c) qf (by simp only [List.length_set,List.length_cons,List.length_nil,minus_len,Xe];omega) fun w11 H=>xY (b_n (t_n (xU (sw (zA c 1 rfl rfl qf (sq 1 (xY (xe (m' :=(6 - ((c+1):Int)).toNat) qf ⟨_,c+1,_,uE4,?_,?_,rfl,N,H⟩)))))))))))))))))))))
  · exact minus_set qf
  · omega
 refine zx4 (zcc (oF rfl (oL rfl (H.cell 2 rfl rfl) (oN rfl (sp (yI 0) (zjn (qY ?_)))))))
 refine zq ((fun Z0 Z1 Z2 Z3 Z4 Z5 Z6=>fun m' ρ w12=>∃ (xM:Env) (k:Nat) (top_1:yLI),ρ=upd (upd (upd (upd (upd (upd xM 2 (pp b1 0)) 3 (pp b3 0)) 5 (pp b5 0)) 20 (.slice qV s.qB.length qQ)) 21 (yI s.qB.length)) 22 (yI k)∧top_1=bests s t (-1) 6 k∧((k:Int)≤s.qB.length)∧m' =(s.qB.length - (k:Int)).toNat∧Fresh w.heap.size []∧St w w12 [.box b5 (top_1.map (Value.int .i64)) 145,Z0,Z1] [Z2,Z3,Z4,Z5,Z6]) _ _ _ _ _ _ _) ((s.qB.length - (0:Int)).toNat) ⟨_,0,(minus c),uE6,(by exact minus_six qf s t),qf,rfl,N,H⟩ ?_
 clear H N
 rintro m' ρ w13 ⟨xM,k,top_1,rfl,rfl,i0,rfl,N,H⟩
 refine zcr (sq 1 (zjn (xQ (cD rfl (fun h14=>?_) (fun h14=>?_)))))
 ·skip
  have q:=p0.rule (i:=k) qf
  have qc:=q.1
  have qk:=q.cell
  have qr:=q.2.1
  have q6:(s.qB[k]!).qP.toNat < 6:=by omega
  refine qW (t_n (xQ (qY (zcr ?_))))
  obtain ⟨b15,o16,rfl⟩:=H.addr 1 rfl qf
  obtain ⟨ae18Need,ce18Need,Fe18Need,ae18Have,ce18Have,Fe18Have,ae18Lack,ce18Lack,Fe18Lack,ae18Here,ce18Here,Fe18Here,ae18Out,ce18Out,Fe18Out,ae18Into,ce18Into,Fe18Into,H⟩:=H.yA 1 rfl k k qf qf qf
  refine oI rfl rfl (sw (xI [yI ((s.qB[k]!).qP),yI ((s.qB[k]!).jI),.slice ae18Need (((s.qB[k]!).zB).length) ce18Need,.slice ae18Have (((s.qB[k]!).vJ).length) ce18Have,.slice ae18Lack (((s.qB[k]!).vP).length) ce18Lack,.slice ae18Here (((s.qB[k]!).vT).length) ce18Here,.slice ae18Out (((s.qB[k]!).yP).length) ce18Out,.slice ae18Into (((s.qB[k]!).xh).length) ce18Into,.bool ((s.qB[k]!).jB)] isAgg70 sizeOf70 rfl (qC (H.get 6 rfl) 0 9) ?_))
  refine sw (xx H ti70 [yI 0,yI 0,yN,yN,yN,yN,yN,yN,.bool false] fun b19 w20 H=>sw (xG H 0 [yI ((s.qB[k]!).qP),yI ((s.qB[k]!).jI),.slice ae18Need (((s.qB[k]!).zB).length) ce18Need,.slice ae18Have (((s.qB[k]!).vJ).length) ce18Have,.slice ae18Lack (((s.qB[k]!).vP).length) ce18Lack,.slice ae18Here (((s.qB[k]!).vT).length) ce18Here,.slice ae18Out (((s.qB[k]!).yP).length) ce18Out,.slice ae18Into (((s.qB[k]!).xh).length) ce18Into,.bool ((s.qB[k]!).jB)] sizeOf70 fun w21 H=>?_))
  refine zjc (sw (xI [yI s.xP,.slice qJ s.qA.length qI,.slice (aa b15 o16) s.qB.length qQ] isAgg27 sizeOf27 rfl (qC (H.cells 3 rfl) 0 3) (sw (xI (yT t xg xf xF xA qU qR) isAgg31 sizeOf31 rfl (qC (H.cells 2 rfl) 0 3) ?_))))
  refine sw (xI [yI ((s.qB[k]!).qP),yI ((s.qB[k]!).jI),.slice ae18Need (((s.qB[k]!).zB).length) ce18Need,.slice ae18Have (((s.qB[k]!).vJ).length) ce18Have,.slice ae18Lack (((s.qB[k]!).vP).length) ce18Lack,.slice ae18Here (((s.qB[k]!).vT).length) ce18Here,.slice ae18Out (((s.qB[k]!).yP).length) ce18Out,.slice ae18Into (((s.qB[k]!).xh).length) ce18Into,.bool ((s.qB[k]!).jB)] isAgg70 sizeOf70 rfl (qC (H.cells 0 rfl) 0 9) ?_)
  refine sw (oq (isEnabled_ok _ s t (s.qB[k]!) (H.get 7 rfl).1 (H.get 8 rfl).1 (H.get 9 rfl).1 (H.get 10 rfl).1 (H.get 11 rfl).1 (H.get 0 rfl).1 (H.get 1 rfl).1 (H.get 2 rfl).1 (H.get 3 rfl).1 (H.get 4 rfl).1 (H.get 5 rfl).1 qg qg qg) H fun w23 H=>zjn (cP rfl (fun h25=>?_) (fun h25=>?_)))
  ·skip
   refine yK rfl H [0,2,3] fun H=>?_
   have S:=H.jo [0,2,3] [0,1,2,3,4,5,6,7,8,9,10,11]
   refine tF 0 rfl rfl S ?_
   refine tL 1 rfl rfl (fun _ h=>h.cell 0 rfl rfl) S ?_
   refine tF 2 rfl rfl S ?_
   refine tL 3 rfl rfl (fun _ h=>h.cell 0 rfl rfl) S ?_
   refine rt 4 _ (y_idxArr b5 (0) 6 ((s.qB[k]!).qP) underlying145 ti2 rfl rfl qf qf) S ?_
   refine tF 6 rfl rfl S ?_
   refine tL 7 rfl rfl (fun _ h=>h.cell 0 rfl rfl) S ?_
   refine ro 5 rfl (zl (yI ((bests s t (-1) 6 k)[((s.qB[k]!).qP).toNat]!)) isAgg2 rfl (H.cell 1 rfl (ints_at (iv:=(s.qB[k]!).qP) (i:=(((s.qB[k]!).qP).toNat)) qf (by simp only [List.length_set,List.length_cons,List.length_nil,minus_len,Xe];omega))) (⟨H.pick [0,2,3] [0,1,2,3,4,5,6,7,8,9,10,11],?_⟩))
   have S:=H.jo [0,2,3] [0,1,2,3,4,5,6,7,8,9,10,11]
   refine rt 8 _ (y_max ((bests s t (-1) 6 k)[((s.qB[k]!).qP).toNat]!) ((s.qB[k]!).jI) rfl rfl) S ?_
   refine rt 9 _ (y_idxArr b5 (0) 6 ((s.qB[k]!).qP) underlying145 ti2 rfl rfl qf qf) S ?_
   refine ro 10 rfl (o_storeArr H 1 rfl (max ((bests s t (-1) 6 k)[((s.qB[k]!).qP).toNat]!) ((s.qB[k]!).jI)) sizeOf2 rfl rfl (i:=(((s.qB[k]!).qP).toNat)) qf (by simp only [List.length_set,List.length_cons,List.length_nil,minus_len,Xe];omega) fun w27 H=>⟨H.pick [0,2,3] [0,1,2,3,4,5,6,7,8,9,10,11],(xq qh (b_n (t_n (xU (sw (zA k 1 rfl rfl qf (sq 1 (xY (xe (m' :=(s.qB.length - ((k+1):Int)).toNat) qf ⟨_,k+1,_,uE6,?_,?_,rfl,N,H.pick [1,2,3] [7,8,9,10,11]⟩)))))))))⟩)
   · first | exact bests_set ‹_› qf | exact bests_skip ‹_›
   · omega
  refine qW (b_n (t_n (xU (sw (zA k 1 rfl rfl qf (sq 1 (xY (xe (m' :=(s.qB.length - ((k+1):Int)).toNat) qf ⟨_,k+1,_,uE6,?_,?_,rfl,N,H.pick [1,2,3] [7,8,9,10,11]⟩))))))))
  · first | exact bests_set ‹_› qf | exact bests_skip ‹_›
  · omega
 refine zx4 (zcr (sw (vU H underlying24 ti2 fun b28 w29 H=>sq 1 (zjcc (oF rfl (oL rfl (H.cell 3 rfl rfl) (oN rfl (sp (yI 0) (zjn (qY ?_))))))))))
 replace H:=H.boxRowI 0 [] 0
 refine zq ((fun Z0 Z1 Z2 Z3 Z4 Z5 Z6 Z7=>fun m' ρ w30=>∃ (xM:Env) (yf:yOA) (ja:Nat) (jT:Nat) (out:yLI) (i:Nat),ρ=upd (upd (upd (upd (upd (upd (upd xM 2 (pp b1 0)) 3 (pp b3 0)) 5 (pp b5 0)) 9 (.slice yf ja jT)) 43 (.slice qV s.qB.length qQ)) 44 (yI s.qB.length)) 45 (yI i)∧out=applL s t i∧((i:Int)≤s.qB.length)∧m' =(s.qB.length - (i:Int)).toNat∧Fresh w.heap.size []∧St w w30 [rr yf ja jT 2 1 (out.map (Value.int .i64)),Z0,Z1,Z2] [Z3,Z4,Z5,Z6,Z7]) _ _ _ _ _ _ _ _) ((s.qB.length - (0:Int)).toNat) ⟨_,(aa b28 0),0,0,([]:yLI),0,uE7,(by rfl),qf,rfl,N,H⟩ ?_
 clear H N
 rintro m' ρ w31 ⟨xM,yf,ja,jT,out,i,rfl,rfl,i0,rfl,N,H⟩
 have hn_out:=H.jm 0 rfl
 have ll:=applL_le s t i
 refine zcr (sq 1 (zjn (xQ (cD rfl (fun h32=>?_) (fun h32=>?_)))))
 ·skip
  have q:=p0.rule (i:=i) qf
  have qc:=q.1
  have qk:=q.cell
  have qr:=q.2.1
  have q6:(s.qB[i]!).qP.toNat < 6:=by omega
  refine qW (t_n (xQ (qY (zcr (sp (yI i) ?_)))))
  obtain ⟨b33,o34,rfl⟩:=H.addr 1 rfl qf
  obtain ⟨ae36Need,ce36Need,Fe36Need,ae36Have,ce36Have,Fe36Have,ae36Lack,ce36Lack,Fe36Lack,ae36Here,ce36Here,Fe36Here,ae36Out,ce36Out,Fe36Out,ae36Into,ce36Into,Fe36Into,H⟩:=H.yA 1 rfl i i qf qf qf
  refine oI rfl rfl (sw (xI [yI ((s.qB[i]!).qP),yI ((s.qB[i]!).jI),.slice ae36Need (((s.qB[i]!).zB).length) ce36Need,.slice ae36Have (((s.qB[i]!).vJ).length) ce36Have,.slice ae36Lack (((s.qB[i]!).vP).length) ce36Lack,.slice ae36Here (((s.qB[i]!).vT).length) ce36Here,.slice ae36Out (((s.qB[i]!).yP).length) ce36Out,.slice ae36Into (((s.qB[i]!).xh).length) ce36Into,.bool ((s.qB[i]!).jB)] isAgg70 sizeOf70 rfl (qC (H.get 6 rfl) 0 9) ?_))
  refine sw (xx H ti70 [yI 0,yI 0,yN,yN,yN,yN,yN,yN,.bool false] fun b37 w38 H=>sp (yI i) ?_)
  refine sw (xG H 0 [yI ((s.qB[i]!).qP),yI ((s.qB[i]!).jI),.slice ae36Need (((s.qB[i]!).zB).length) ce36Need,.slice ae36Have (((s.qB[i]!).vJ).length) ce36Have,.slice ae36Lack (((s.qB[i]!).vP).length) ce36Lack,.slice ae36Here (((s.qB[i]!).vT).length) ce36Here,.slice ae36Out (((s.qB[i]!).yP).length) ce36Out,.slice ae36Into (((s.qB[i]!).xh).length) ce36Into,.bool ((s.qB[i]!).jB)] sizeOf70 fun w39 H=>zjn (xQ ?_))
  refine jf rfl H fun H=>tF 0 rfl rfl H ?_
  refine tL 1 rfl rfl (fun _ h=>h.cell 0 rfl rfl) H ?_
  refine tF 2 rfl rfl H ?_
  refine tL 3 rfl rfl (fun _ h=>h.cell 0 rfl rfl) H ?_
  refine rt 4 _ (y_idxArr b5 (0) 6 ((s.qB[i]!).qP) underlying145 ti2 rfl rfl qf qf) H ?_
  refine tL 5 rfl rfl (fun _ h=>h.cell 2 rfl (ints_at (iv:=(s.qB[i]!).qP) (i:=(((s.qB[i]!).qP).toNat)) qf (by simp only [List.length_set,List.length_cons,List.length_nil,minus_len,Xe];omega))) H ?_
  refine rtp 6 (.bool (((s.qB[i]!).jI:Int) == ((bests s t (-1) 6 k)[((s.qB[i]!).qP).toNat]!))) H ?_
  refine rtp 7 (.bool (((s.qB[i]!).jI:Int) == ((bests s t (-1) 6 k)[((s.qB[i]!).qP).toNat]!))) H ?_
  cases h41:(((s.qB[i]!).jI:Int) == ((bests s t (-1) 6 k)[((s.qB[i]!).qP).toNat]!))
  ·skip
   replace h41:=ne_of_beq_false h41
   refine zI [8,9,10,11] 4 (H) (rtp 12 (.bool false) H ?_)
   refine xq qh (t_n (xE false rfl (fun h=>absurd h qj) (fun _=>qW (b_n (t_n (xU (sw (zA i 1 rfl rfl qf (sq 1 (xY (xe (m' :=(s.qB.length - ((i+1):Int)).toNat) qf ⟨_,_,_,_,_,i+1,uE7,?_,?_,rfl,N,H.pick [1,2,3,4] [7,8,9,10,11]⟩)))))))))))
   · first | exact applL_yes (appl_yes (n:=6) (z:= -1) (k:=k) qf qf qf q6 ‹_› ‹_›) | exact applL_no (appl_no (n:=6) (z:= -1) (k:=k) qf qf qf q6 ‹_›) | exact applL_no (fun h=>‹¬ EnOk _ _ _› h.1)
   · omega
  replace h41:=eq_of_beq h41
  refine rg 8 _ 57 (yh (cs:=[yI s.xP,.slice qJ s.qA.length qI,.slice (aa b33 o34) s.qB.length qQ]) isAgg27 sizeOf27 rfl (fun _ h=>qC (h.cells 4 rfl) 0 3)) H ?_
  refine rg 9 _ 57 (yh (cs:=(yT t xg xf xF xA qU qR)) isAgg31 sizeOf31 rfl (fun _ h=>qC (h.cells 3 rfl) 0 3)) H ?_
  refine rg 10 _ 57 (yh (cs:=[yI ((s.qB[i]!).qP),yI ((s.qB[i]!).jI),.slice ae36Need (((s.qB[i]!).zB).length) ce36Need,.slice ae36Have (((s.qB[i]!).vJ).length) ce36Have,.slice ae36Lack (((s.qB[i]!).vP).length) ce36Lack,.slice ae36Here (((s.qB[i]!).vT).length) ce36Here,.slice ae36Out (((s.qB[i]!).yP).length) ce36Out,.slice ae36Into (((s.qB[i]!).xh).length) ce36Into,.bool ((s.qB[i]!).jB)]) isAgg70 sizeOf70 rfl (fun _ h=>qC (h.cells 0 rfl) 0 9)) H ?_
  refine zY [11] qh qm (XD rfl (e:=57) rfl rfl (oq (isEnabled_ok _ s t (s.qB[i]!) (H.get 7 rfl).1 (H.get 8 rfl).1 (H.get 9 rfl).1 (H.get 10 rfl).1 (H.get 11 rfl).1 (H.get 0 rfl).1 (H.get 1 rfl).1 (H.get 2 rfl).1 (H.get 3 rfl).1 (H.get 4 rfl).1 (H.get 5 rfl).1 qg qg qg) H fun w43 H=>⟨H,(rtl 12 H ?_)⟩) zZ)
  refine xq qh (t_n (cP rfl (fun h45=>?_) (fun h45=>?_)))
  ·skip
   refine xU (sq 1 (sp (yI i) (sw (zf H underlying24 ti2 [yI i] fun b46 w47 H=>sw (zk H 2 rfl 0 rfl underlying24 ti2 rfl qj rfl rfl rfl qw qp qf fun a48 c49 w50 H=>?_)))))
   rw [snocI] at H
   refine sq 1 (xY (b_n (t_n (xU (sw (zA i 1 rfl rfl qf (sq 1 (xY (xe (m' :=(s.qB.length - ((i+1):Int)).toNat) qf ⟨_,_,_,_,_,i+1,uE7,?_,?_,rfl,N,H.pick [2,3,4,5] [7,8,9,10,11]⟩)))))))))
   · first | exact applL_yes (appl_yes (n:=6) (z:= -1) (k:=k) qf qf qf q6 ‹_› ‹_›) | exact applL_no (appl_no (n:=6) (z:= -1) (k:=k) qf qf qf q6 ‹_›) | exact applL_no (fun h=>‹¬ EnOk _ _ _› h.1)
   · omega
  refine qW (b_n (t_n (xU (sw (zA i 1 rfl rfl qf (sq 1 (xY (xe (m' :=(s.qB.length - ((i+1):Int)).toNat) qf ⟨_,_,_,_,_,i+1,uE7,?_,?_,rfl,N,H.pick [1,2,3,4] [7,8,9,10,11]⟩))))))))
  · first | exact applL_yes (appl_yes (n:=6) (z:= -1) (k:=k) qf qf qf q6 ‹_› ‹_›) | exact applL_no (appl_no (n:=6) (z:= -1) (k:=k) qf qf qf q6 ‹_›) | exact applL_no (fun h=>‹¬ EnOk _ _ _› h.1)
  · omega
 refine zx4 (zcr (sq 2 (zjr (ret1 (.slice yf ja jT) rfl rfl ⟨_,rfl,?_,H.base⟩))))
 obtain rfl:i=s.qB.length:=by omega
 exact ⟨yf,ja,jT,rfl,N,H.pick [0] []⟩
theorem around_ok (w:World) (s:qE) {qJ:yOA} {xu:yLN} {qV:yOA} {zh:yLN} (qX:qO.rep w xu [.slice qJ s.qA.length qI] s.qA) (xn:qO.rep w zh [.slice qV s.qB.length qQ] s.qB):Calls Tryz.prog 129 #[.agg #[yI s.xP,.slice qJ s.qA.length qI,.slice qV s.qB.length qQ]] w (Ret (fun v w' =>v=yI s.qA.length) w):=by
 refine en func129 ntmps129 ?_
 have H:=((St.start w).arg xn).arg qX
 have zN:=qM qX
 have vW:=qM xn
 clear qX xn
 have N:=Fresh.nil w.heap.size
 refine zcr (sw (zS H (yS s qJ qI qV qQ) fun b1 w2 H=>sp (yI 0) (zjc (oF rfl (oL rfl (H.cell 0 rfl rfl) (oN rfl (sq 1 (zjr (ret1 (yI s.qA.length) rfl rfl ⟨_,rfl,?_,H.base⟩)))))))))
 rfl

theorem step_ok (w:World) (s:qE) (t:qF) (counts:yLI) {qJ:yOA} {xu:yLN} {qV:yOA} {zh:yLN} {xg:yOA} {zu:yLN} {xF:yOA} {zU:yLN} {qU:yOA} {x9:yLN} {acounts:yOA} {ccounts:Nat} {Fcounts:yLN} (qX:qO.rep w xu [.slice qJ s.qA.length qI] s.qA) (xn:qO.rep w zh [.slice qV s.qB.length qQ] s.qB) (xR:qO.rep w zu [.slice xg t.qG.length xf] t.qG) (zn:qO.rep w zU [.slice xF t.qN.length xA] t.qN) (xy:qO.rep w x9 [.slice qU t.qH.length qR] t.qH) (hcounts:qO.rep w Fcounts [.slice acounts counts.length ccounts] counts) (p0:vK s) (p1:xX s t) (p2:CntOk s counts) (p3:IsCh s t counts):Calls Tryz.prog 74 #[.agg #[yI s.xP,.slice qJ s.qA.length qI,.slice qV s.qB.length qQ],.agg #[.slice xg t.qG.length xf,.slice xF t.qN.length xA,.slice qU t.qH.length qR],.slice acounts counts.length ccounts] w (Ret (fun v w' =>∃ (ra0Alive:yOA) (rn0Alive:Nat) (rc0Alive:Nat) (ra0Bags:yOA) (rn0Bags:Nat) (rc0Bags:Nat) (rx0Bags:List Value) (rF0Bags:yLN) (ra0Around:yOA) (rn0Around:Nat) (rc0Around:Nat),v=.tuple #[.agg #[.slice ra0Alive rn0Alive rc0Alive,.slice ra0Bags rn0Bags rc0Bags,.slice ra0Around rn0Around rc0Around],yI ((zF s t counts).2)]∧Fresh w.heap.size [rF0Bags]∧St w w' [rr ra0Alive rn0Alive rc0Alive 4 1 ((((zF s t counts).1).qG).map (Value.bool)),rr ra0Bags rn0Bags rc0Bags 24 1 rx0Bags,rr ra0Around rn0Around rc0Around 2 1 ((((zF s t counts).1).qH).map (Value.int .i64))] [xB true rF0Bags rx0Bags (((zF s t counts).1).qN)]) w):=by
 refine en func74 ntmps74 ?_
 have H:=((((((St.start w).arg hcounts).arg xy).arg zn).arg xR).arg xn).arg qX
 have zN:=qM qX
 have vW:=qM xn
 have jO:=qM xR
 have yH:=qM zn
 have jg:=qM xy
 have nhcounts:=qM hcounts
 clear qX xn xR zn xy hcounts
 have N:=Fresh.nil w.heap.size
 have p5:=p0.2.1
 have p6:=p2.1
 have p7:=p1.2.1
 have p8:=kinds_le p0
 have p9:=p0.1.2.1
 have p11:je s=s.qA.length:=rfl
 have p12:=p1.1
 have p15:=p0.1
 have p16:=p0.1.1
 have p17:=p1.around.1
 refine zcr (sw (zS H (yS s qJ qI qV qQ) fun b1 w2 H=>sw (zS H (yT t xg xf xF xA qU qR) fun b3 w4 H=>sw (xx H ti31 [yN,yN,yN] fun b5 w6 H=>sp (yI 0) (zjn (xQ ?_))))))
 refine c_cut (fun ρ w11=>∃ (xM:Env) (a7:yOA) (c8:Nat) (rx9:List Value) (rF10:yLN),ρ=upd (upd (upd (upd (upd xM 2 (.slice acounts counts.length ccounts)) 3 (pp b1 0)) 4 (pp b3 0)) 6 (pp b5 0)) 8 (.slice a7 (t.qN.length+1) c8)∧Fresh w.heap.size []∧St w w11 [rr a7 (t.qN.length+1) c8 24 1 (rx9++[.slice qU t.qH.length qR]),.box b5 [yN,yN,yN] 31,.box b3 (yT t xg xf xF xA qU qR) 31,.box b1 (yS s qJ qI qV qQ) 27] [xB false (rF10++x9) (rx9++[.slice qU t.qH.length qR]) (t.qN++[t.qH]),sF false xu qJ qI s.qA,sF false zh qV qQ s.qB,sF false zu xg xf t.qG,sF false zU xF xA t.qN,sF false x9 qU qR t.qH,sF false Fcounts acounts ccounts counts]) ?_ ?_
 ·skip
  refine jf rfl H fun H=>tF 0 rfl rfl H ?_
  refine tL 1 rfl rfl (fun _ h=>h.cell 1 rfl rfl) H ?_
  refine tF 3 rfl rfl H ?_
  refine tL 4 rfl rfl (fun _ h=>h.cell 1 rfl rfl) H ?_
  refine zY [2,5] qh qm (jd rfl ?_ (jd rfl ?_ zZ))
  ·skip
   have sz16:=H.base.size
   refine oc (cloneSS_ok _ t.qN (H.get 3 rfl).1 qg) ?_
   rintro _ w14 ⟨ra13,rn13,rc13,rx13,rF13,rfl,hG18,K⟩ _
   replace H:=H.mergeIn K 3 rfl hG18
   obtain rfl:=H.xK (α:=yLI) 0 rfl 0 rfl qj
   refine ⟨H.pick [1,2,3] [1,2,3,4,5,6],(ro 5 rfl (zf H underlying29 ti24 [.slice qU t.qH.length qR] fun b19 w20 H=>⟨H.pick [2,3,4] [1,2,3,4,5,6],(ro 6 rfl (zk H 1 rfl 0 rfl underlying29 ti24 rfl qj rfl rfl rfl qw qp qf fun a21 c22 w23 H=>?_))⟩))⟩
   replace H:=H.jM 0 rfl 5 rfl
   refine ⟨H.pick [2,3,4] [2,3,4,5,6,7],(rtl 7 (H.pick [2,3,4] [2,3,4,5,6,7]) ?_)⟩
   refine xq qh ((meet ⟨_,a21,c22,rx13,rF13,uE5,N,H.pick [1,2,3,4] [0,2,3,4,5,6,7]⟩))
  refine zf H underlying29 ti24 [.slice qU t.qH.length qR] fun b24 w25 H=>⟨H.pick [1,2,3] [0,1,2,3,4,5],(ro 2 rfl ?_)⟩
  have sz29:=H.base.size
  refine oc (cloneSS_ok _ t.qN (H.get 3 rfl).1 qg) ?_
  rintro _ w27 ⟨ra26,rn26,rc26,rx26,rF26,rfl,hG31,K⟩ _
  replace H:=H.mergeIn K 3 rfl hG31
  obtain rfl:=H.xK (α:=yLI) 0 rfl 0 rfl qj
  refine ⟨H.pick [2,3,4] [1,2,3,4,5,6],(ro 6 rfl (zk H 0 rfl 1 rfl underlying29 ti24 rfl qj rfl rfl rfl qw qp qf fun a32 c33 w34 H=>?_))⟩
  replace H:=H.jM 0 rfl 5 rfl
  refine ⟨H.pick [2,3,4] [2,3,4,5,6,7],(rtl 7 (H.pick [2,3,4] [2,3,4,5,6,7]) ?_)⟩
  refine xq qh ((meet ⟨_,a32,c33,rx26,rF26,uE5,N,H.pick [0,2,3,4] [0,2,3,4,5,6,7]⟩))
 clear H N
 rintro ρ w35 ⟨xM,a7,c8,rx9,rF10,rfl,N,H⟩
 refine t_n (zcr (oF rfl (oL rfl (H.cell 3 rfl rfl) (oN rfl (sw (o_makeB H underlying28 ti4 s.qA.length rfl rfl qf qf qf fun b36 w37 H=>sq 1 (zjcc (sq 1 (oN rfl (sp (yI 0) (zjn (qY ?_))))))))))))
 refine zq ((fun Z0 Z1 Z2 Z3 Z4 Z5 Z6 Z7 Z8=>fun m' ρ w38=>∃ (xM:Env) (i:Nat) (melts:List Bool) (bags:yLL) (x_bags:List Value) (F_bags:yLN),ρ=upd (upd (upd (upd (upd (upd (upd (upd xM 3 (pp b1 0)) 4 (pp b3 0)) 6 (pp b5 0)) 8 (.slice a7 (t.qN.length+1) c8)) 9 (.slice (aa b36 0) s.qA.length s.qA.length)) 26 (.slice acounts counts.length ccounts)) 27 (yI counts.length)) 28 (yI i)∧melts=Ql s counts s.qA.length i∧((i:Int)≤counts.length)∧(Ent (s.qA.length+1) (yL s) (fun p q=>base0 s t p q+allS s t counts i p q) (20000000+6000000 * i) bags)∧(bags.length=s.qA.length+1)∧m' =(counts.length - (i:Int)).toNat∧Fresh w.heap.size []∧St w w38 [rr (aa b36 0) s.qA.length s.qA.length 4 1 (melts.map (Value.bool)),rr a7 (t.qN.length+1) c8 24 1 x_bags,Z0,Z1,Z2] [xB false F_bags x_bags bags,Z3,Z4,Z5,Z6,Z7,Z8]) _ _ _ _ _ _ _ _ _) ((counts.length - (0:Int)).toNat) ⟨_,0,(List.replicate s.qA.length (false)),(t.qN++[t.qH]),rx9++[.slice qU t.qH.length qR],(rF10++x9),uE8,(by exact meltsL_zero s counts _),qf,(by exact (start_ent p1).to (fun _ _=>rfl) qf),qy,rfl,N,H⟩ ?_
 clear H N
 rintro m' ρ w39 ⟨xM,i,melts,bags,x_bags,F_bags,rfl,rfl,i0,E_bags,z_bags,rfl,N,H⟩
 have hn_melts:=H.XC 0 rfl
 have hn_bags:=H.xK (α:=yLI) 1 rfl 0 rfl qj
 refine zcr (sq 1 (zjn (xQ (cD rfl (fun h40=>?_) (fun h40=>?_)))))
 ·skip
  have q:=p0.rule (i:=i) qf
  have qc:=q.1
  have qk:=q.cell
  have qr:=q.2.1
  have bn1:=q.2.2.2.2.1
  have bn2:=q.2.2.2.2.2.2.2.1
  have bn3:=q.2.2.2.2.2.2.2.2.1
  have ln1:=bn1.len
  have ln2:=bn2.len
  have ln3:=bn3.len
  have p10:=p2.bd (i:=i) qf
  have qn:=q.2.2.2.1
  have ml:=meltsL_len s counts s.qA.length i
  refine qW (t_n (xQ (qY (zcr (sp (yI i) ?_)))))
  obtain ⟨b41,o42,rfl⟩:=H.addr 6 rfl qf
  refine oI rfl rfl (oL rfl (H.zH 6 rfl i qf) (sp (yI i) (sq 1 (zjc (oF rfl (oL rfl (H.cell 4 rfl rfl) (sp (yI i) ?_)))))))
  obtain ⟨b44,o45,rfl⟩:=H.addr 2 rfl qf
  obtain ⟨ae47Need,ce47Need,Fe47Need,ae47Have,ce47Have,Fe47Have,ae47Lack,ce47Lack,Fe47Lack,ae47Here,ce47Here,Fe47Here,ae47Out,ce47Out,Fe47Out,ae47Into,ce47Into,Fe47Into,H⟩:=H.yA 2 rfl i i qf qf qf
  refine oI rfl rfl (sw (xI [yI ((s.qB[i]!).qP),yI ((s.qB[i]!).jI),.slice ae47Need (((s.qB[i]!).zB).length) ce47Need,.slice ae47Have (((s.qB[i]!).vJ).length) ce47Have,.slice ae47Lack (((s.qB[i]!).vP).length) ce47Lack,.slice ae47Here (((s.qB[i]!).vT).length) ce47Here,.slice ae47Out (((s.qB[i]!).yP).length) ce47Out,.slice ae47Into (((s.qB[i]!).xh).length) ce47Into,.bool ((s.qB[i]!).jB)] isAgg70 sizeOf70 rfl (qC (H.get 6 rfl) 0 9) ?_))
  refine sw (xx H ti70 [yI 0,yI 0,yN,yN,yN,yN,yN,yN,.bool false] fun b48 w49 H=>sw (xG H 0 [yI ((s.qB[i]!).qP),yI ((s.qB[i]!).jI),.slice ae47Need (((s.qB[i]!).zB).length) ce47Need,.slice ae47Have (((s.qB[i]!).vJ).length) ce47Have,.slice ae47Lack (((s.qB[i]!).vP).length) ce47Lack,.slice ae47Here (((s.qB[i]!).vT).length) ce47Here,.slice ae47Out (((s.qB[i]!).yP).length) ce47Out,.slice ae47Into (((s.qB[i]!).xh).length) ce47Into,.bool ((s.qB[i]!).jB)] sizeOf70 fun w50 H=>?_))
  refine zjn (xQ ?_)
  refine yK rfl H [0,1,3,4,5] fun H=>?_
  have S:=H.jo [0,1,3,4,5] [0,1,2,3,4,5,6,7,8,9,10,11,12,13]
  refine rtl 0 S ?_
  refine tF 1 rfl rfl S ?_
  refine tL 2 rfl rfl (fun _ h=>h.cell 0 rfl rfl) S ?_
  refine rtl 3 S ?_
  refine tF 4 rfl rfl S ?_
  refine tL 5 rfl rfl (fun _ h=>h.cell 0 rfl rfl) S ?_
  obtain ⟨b52,rfl⟩:=H.jW 2 rfl qf
  have S:=H.jo [0,1,3,4,5] [0,1,2,3,4,5,6,7,8,9,10,11,12,13]
  refine tI 6 rfl rfl rfl S ?_
  refine tF 8 rfl rfl S ?_
  refine tL 9 rfl rfl (fun _ h=>h.cell 0 rfl rfl) S ?_
  refine rtl 10 S ?_
  refine rt 11 _ (y_neg (counts[i]!) rfl qf) S ?_
  refine ro 7 rfl ?_
  obtain ⟨a53,c54,G55,s56,h57,H⟩:=H.jy 2 rfl 7 rfl (iv:=(s.qB[i]!).qP) (((s.qB[i]!).qP).toNat) qf qf
  refine zl (.slice a53 ((bags[((s.qB[i]!).qP).toNat]!).length) c54) isAgg24 rfl (h57) (⟨H.pick [0,1,3,4,5] [1,2,3,4,5,6,7,8,9,10,11,12,13,14],(ro 12 rfl ?_)⟩)
  obtain ⟨u1,u2⟩:=E_bags.sh.row (c:=((s.qB[i]!).qP).toNat) qf p8 qf
  have u4:=(by first | exact bn1.yx qf | exact bn2.yx qf | exact bn3.yx qf | exact bn4.yx qf:SmallT ((s.qB[i]!).zB) (-(counts[i]!)))
  have sz58:=H.base.size
  refine oc (plus_ok _ (bags[((s.qB[i]!).qP).toNat]!) ((s.qB[i]!).zB) (-(counts[i]!)) (H.get 0 rfl).1 (H.get 1 rfl).1 qg qg qg) ?_
  rintro v63 w61 r63 x62
  replace H:=H.zC x62 r63
  obtain ⟨a64,c65,rfl,hc66,hm67⟩:=H.jq 0 rfl
  refine ⟨H.pick [1,2,4,5,6] [1,2,3,4,5,6,7,8,9,10,11,12,13,14],(tI 13 rfl rfl rfl (H.pick [1,2,4,5,6] [1,2,3,4,5,6,7,8,9,10,11,12,13,14]) ?_)⟩
  refine ro 14 rfl ?_
  obtain ⟨G69,N,hn70,H⟩:=H.zG 0 rfl N (H.vS [])
  refine jE false H 3 rfl 9 rfl (.slice a64 ((jH (bags[((s.qB[i]!).qP).toNat]!) ((s.qB[i]!).zB) (-(counts[i]!))).length) c65) 0 rfl rfl sizeOf24 rfl rfl (i:=(((s.qB[i]!).qP).toNat)) qf qf qm fun w68 xs71 F72 hs73 H=>⟨H.pick [1,2,4,5,6] [3,4,5,6,7,8,9,10,11,12,13,14,15,16],(xq qh (t_n (zcr (sw (xI [yI s.xP,.slice qJ s.qA.length qI,.slice (aa b44 o45) s.qB.length qQ] isAgg27 sizeOf27 rfl (qC (H.cells 6 rfl) 0 3) ?_)))))⟩
  refine sw (xI (yT t xg xf xF xA qU qR) isAgg31 sizeOf31 rfl (qC (H.cells 5 rfl) 0 3) (sq 1 ?_))
  refine sw (xI [yI ((s.qB[i]!).qP),yI ((s.qB[i]!).jI),.slice ae47Need (((s.qB[i]!).zB).length) ce47Need,.slice ae47Have (((s.qB[i]!).vJ).length) ce47Have,.slice ae47Lack (((s.qB[i]!).vP).length) ce47Lack,.slice ae47Here (((s.qB[i]!).vT).length) ce47Here,.slice ae47Out (((s.qB[i]!).yP).length) ce47Out,.slice ae47Into (((s.qB[i]!).xh).length) ce47Into,.bool ((s.qB[i]!).jB)] isAgg70 sizeOf70 rfl (qC (H.cells 1 rfl) 0 9) (sq 1 ?_))
  obtain ⟨bg74,e_bg74⟩:∃ z,z=(bags.set (((s.qB[i]!).qP).toNat) (jH (bags[((s.qB[i]!).qP).toNat]!) ((s.qB[i]!).zB) (-(counts[i]!)))):=⟨_,rfl⟩
  rw [← e_bg74] at H
  have E_bg74:=Ent.add (D:=1000000) E_bags e_bg74 qf (by first | exact bn1.mul qf | exact bn2.mul qf | exact bn3.mul qf | exact bn4.mul qf) qf
  have z_bg74:=E_bg74.sh.1
  have E_cur:=E_bg74
  refine sw (zQ #[.agg #[yI s.xP,.slice qJ s.qA.length qI,.slice (aa b44 o45) s.qB.length qQ],.agg #[.slice xg t.qG.length xf,.slice xF t.qN.length xA,.slice qU t.qH.length qR],.slice (aa b52 0) (t.qN.length+1) c8,.agg #[yI ((s.qB[i]!).qP),yI ((s.qB[i]!).jI),.slice ae47Need (((s.qB[i]!).zB).length) ce47Need,.slice ae47Have (((s.qB[i]!).vJ).length) ce47Have,.slice ae47Lack (((s.qB[i]!).vP).length) ce47Lack,.slice ae47Here (((s.qB[i]!).vT).length) ce47Here,.slice ae47Out (((s.qB[i]!).yP).length) ce47Out,.slice ae47Into (((s.qB[i]!).xh).length) ce47Into,.bool ((s.qB[i]!).jB)],yI (counts[i]!)] rfl rfl call128 ?_)
  refine en func128 ntmps128 ?_
  refine zcr (sw (zS H [yI s.xP,.slice qJ s.qA.length qI,.slice (aa b44 o45) s.qB.length qQ] fun b75 w76 H=>sw (zS H (yT t xg xf xF xA qU qR) fun b77 w78 H=>sw (zS H [.slice (aa b52 0) (t.qN.length+1) c8] fun b79 w80 H=>?_))))
  refine sw (zS H [yI ((s.qB[i]!).qP),yI ((s.qB[i]!).jI),.slice ae47Need (((s.qB[i]!).zB).length) ce47Need,.slice ae47Have (((s.qB[i]!).vJ).length) ce47Have,.slice ae47Lack (((s.qB[i]!).vP).length) ce47Lack,.slice ae47Here (((s.qB[i]!).vT).length) ce47Here,.slice ae47Out (((s.qB[i]!).yP).length) ce47Out,.slice ae47Into (((s.qB[i]!).xh).length) ce47Into,.bool ((s.qB[i]!).jB)] fun b81 w82 H=>sw (zS H [yI (counts[i]!)] fun b83 w84 H=>zjc ?_))
  refine sp (.func (.func 169) #[] #[pp b79 0,pp b83 0]) (sp (.func (.func 169) #[] #[pp b79 0,pp b83 0]) (zjc (sp (.func (.func 169) #[] #[pp b79 0,pp b83 0]) (oF rfl (oL rfl (H.cell 1 rfl rfl) (oF rfl (oL rfl (H.cell 1 rfl rfl) (sw (zQ #[yI ((s.qB[i]!).qP),.slice ae47Here (((s.qB[i]!).vT).length) ce47Here,pp b79 0,pp b83 0] rfl rfl call169 (en func169 ntmps169 ?_))))))))))
  refine yK rfl H [0,1,2,3,4,5,6,7,9,10,11] fun H=>?_
  have S:=H.jo [0,1,2,3,4,5,6,7,9,10,11] [0,1,2,3,4,5,6,7,8,9,10,11,12,13,14,15,16]
  refine tL 0 rfl rfl (fun _ h=>h.cell 2 rfl rfl) S ?_
  refine rtl 1 S ?_
  refine tL 2 rfl rfl (fun _ h=>h.cell 2 rfl rfl) S ?_
  refine rtl 3 S ?_
  refine tI 4 rfl rfl rfl S ?_
  refine rtl 6 S ?_
  refine tL 7 rfl rfl (fun _ h=>h.cell 0 rfl rfl) S ?_
  refine ro 5 rfl ?_
  obtain ⟨a86,c87,G88,s89,h90,H⟩:=H.jy 8 rfl 0 rfl (iv:=(s.qB[i]!).qP) (((s.qB[i]!).qP).toNat) qf qf
  refine zl (.slice a86 ((bg74[((s.qB[i]!).qP).toNat]!).length) c87) isAgg24 rfl (h90) (⟨H.pick [0,1,2,3,4,5,6,7,9,10,11] [1,2,3,4,5,6,7,8,9,10,11,12,13,14,15,16,17],(ro 8 rfl ?_)⟩)
  obtain ⟨u1,u2⟩:=E_bg74.sh.row (c:=((s.qB[i]!).qP).toNat) qf p8 qf
  have u4:=(by first | exact bn1.yx qf | exact bn2.yx qf | exact bn3.yx qf | exact bn4.yx qf:SmallT ((s.qB[i]!).vT) (counts[i]!))
  have sz91:=H.base.size
  have lt92:=H.ltN (L:=[G69]) [2]
  refine oc (plus_ok _ (bg74[((s.qB[i]!).qP).toNat]!) ((s.qB[i]!).vT) (counts[i]!) (H.get 0 rfl).1 (H.get 7 rfl).1 qg qg qg) ?_
  rintro v96 w94 r96 x95
  replace H:=H.zC x95 r96
  obtain ⟨a97,c98,rfl,hc99,hm100⟩:=H.jq 0 rfl
  refine ⟨H.pick [1,2,3,4,5,6,7,8,10,11,12] [1,2,3,4,5,6,7,8,9,10,11,12,13,14,15,16,17],(tI 9 rfl rfl rfl (H.pick [1,2,3,4,5,6,7,8,10,11,12] [1,2,3,4,5,6,7,8,9,10,11,12,13,14,15,16,17]) ?_)⟩
  refine ro 10 rfl ?_
  obtain ⟨G102,N,hn103,H⟩:=H.zG 0 rfl N (H.vS [2])
  refine jE false H 9 rfl 2 rfl (.slice a97 ((jH (bg74[((s.qB[i]!).qP).toNat]!) ((s.qB[i]!).vT) (counts[i]!)).length) c98) 0 rfl rfl sizeOf24 rfl rfl (i:=(((s.qB[i]!).qP).toNat)) qf qf qm fun w101 xs104 F105 hs106 H=>⟨H.pick [1,2,3,4,5,6,7,8,10,11,12] [3,4,5,6,7,8,9,10,11,12,13,14,15,16,17,18,19],(xq qh ((ret0 rfl ⟨_,rfl,?_⟩)))⟩
  replace H:=H.erases [6,0]
  dsimp only [vV,List.eraseIdx] at H
  obtain ⟨bg107,e_bg107⟩:∃ z,z=(bg74.set (((s.qB[i]!).qP).toNat) (jH (bg74[((s.qB[i]!).qP).toNat]!) ((s.qB[i]!).vT) (counts[i]!))):=⟨_,rfl⟩
  rw [← e_bg107] at H
  have E_bg107:=Ent.add (D:=1000000) E_bg74 e_bg107 qf (by first | exact bn1.mul qf | exact bn2.mul qf | exact bn3.mul qf | exact bn4.mul qf) qf
  have z_bg107:=E_bg107.sh.1
  have E_cur:=E_bg107
  refine zjcc (sw (xI [yI s.xP,.slice qJ s.qA.length qI,.slice (aa b44 o45) s.qB.length qQ] isAgg27 sizeOf27 rfl (qC (H.cells 4 rfl) 0 3) (sw (xI (yT t xg xf xF xA qU qR) isAgg31 sizeOf31 rfl (qC (H.cells 3 rfl) 0 3) (oF rfl (oL rfl (H.cell 1 rfl rfl) ?_))))))
  have qc' :=qc
  refine sw (oq (parentNow_ok _ s t ((s.qB[i]!).qP) (H.get 14 rfl).1 (H.get 15 rfl).1 (H.get 16 rfl).1 (H.get 17 rfl).1 (H.get 18 rfl).1 qg qg qg) H fun w109 H=>?_)
  have pl:=parentNow_lt p15 p1.2.2.1 qc
  refine sq 1 (zjc (sq 1 (sp (.bool (decide ((xW s t ((s.qB[i]!).qP):Int)≥0))) (zjn (cD rfl (fun h111=>?_) (fun h111=>?_))))))
  ·skip
   have po:=outPl_in (r:=s.qB[i]!) p15 ‹_›
   refine xU (sp (.func (.func 169) #[] #[pp b79 0,pp b83 0]) (sq 1 (oF rfl (oL rfl (H.cell 1 rfl rfl) (sw (zQ #[yI (xW s t ((s.qB[i]!).qP)),.slice ae47Out (((s.qB[i]!).yP).length) ce47Out,pp b79 0,pp b83 0] rfl rfl call169 (en func169 ntmps169 ?_)))))))
   refine yK rfl H [0,1,2,3,4,5,6,8,9,10] fun H=>?_
   have S:=H.jo [0,1,2,3,4,5,6,8,9,10] [0,1,2,3,4,5,6,7,8,9,10,11,12,13,14,15,16,17,18,19]
   refine tL 0 rfl rfl (fun _ h=>h.cell 2 rfl rfl) S ?_
   refine rtl 1 S ?_
   refine tL 2 rfl rfl (fun _ h=>h.cell 2 rfl rfl) S ?_
   refine rtl 3 S ?_
   refine tI 4 rfl rfl rfl S ?_
   refine rtl 6 S ?_
   refine tL 7 rfl rfl (fun _ h=>h.cell 0 rfl rfl) S ?_
   refine ro 5 rfl ?_
   obtain ⟨a113,c114,G115,s116,h117,H⟩:=H.jy 7 rfl 0 rfl (iv:=xW s t ((s.qB[i]!).qP)) ((xW s t ((s.qB[i]!).qP)).toNat) qf qf
   refine zl (.slice a113 ((bg107[(xW s t ((s.qB[i]!).qP)).toNat]!).length) c114) isAgg24 rfl (h117) (⟨H.pick [0,1,2,3,4,5,6,8,9,10] [1,2,3,4,5,6,7,8,9,10,11,12,13,14,15,16,17,18,19,20],(ro 8 rfl ?_)⟩)
   obtain ⟨u1,u2⟩:=E_bg107.sh.row (c:=(xW s t ((s.qB[i]!).qP)).toNat) qf p8 qf
   have u4:=(by first | exact bn1.yx qf | exact bn2.yx qf | exact bn3.yx qf | exact bn4.yx qf:SmallT ((s.qB[i]!).yP) (counts[i]!))
   have sz118:=H.base.size
   have lt119:=H.ltN (L:=[G102,G69]) [2,5]
   refine oc (plus_ok _ (bg107[(xW s t ((s.qB[i]!).qP)).toNat]!) ((s.qB[i]!).yP) (counts[i]!) (H.get 0 rfl).1 (H.get 11 rfl).1 qg qg qg) ?_
   rintro v123 w121 r123 x122
   replace H:=H.zC x122 r123
   obtain ⟨a124,c125,rfl,hc126,hm127⟩:=H.jq 0 rfl
   refine ⟨H.pick [1,2,3,4,5,6,7,9,10,11] [1,2,3,4,5,6,7,8,9,10,11,12,13,14,15,16,17,18,19,20],(tI 9 rfl rfl rfl (H.pick [1,2,3,4,5,6,7,9,10,11] [1,2,3,4,5,6,7,8,9,10,11,12,13,14,15,16,17,18,19,20]) ?_)⟩
   refine ro 10 rfl ?_
   obtain ⟨G129,N,hn130,H⟩:=H.zG 0 rfl N (H.vS [2,5])
   refine jE false H 8 rfl 2 rfl (.slice a124 ((jH (bg107[(xW s t ((s.qB[i]!).qP)).toNat]!) ((s.qB[i]!).yP) (counts[i]!)).length) c125) 0 rfl rfl sizeOf24 rfl rfl (i:=((xW s t ((s.qB[i]!).qP)).toNat)) qf qf qm fun w128 xs131 F132 hs133 H=>⟨H.pick [1,2,3,4,5,6,7,9,10,11] [3,4,5,6,7,8,9,10,11,12,13,14,15,16,17,18,19,20,21,22],(xq qh ((ret0 rfl ⟨_,rfl,?_⟩)))⟩
   replace H:=H.erases [0]
   dsimp only [vV,List.eraseIdx] at H
   obtain ⟨bg134,e_bg134⟩:∃ z,z=(bg107.set ((xW s t ((s.qB[i]!).qP)).toNat) (jH (bg107[(xW s t ((s.qB[i]!).qP)).toNat]!) ((s.qB[i]!).yP) (counts[i]!))):=⟨_,rfl⟩
   rw [← e_bg134] at H
   have E_bg134:=Ent.add (D:=1000000) E_bg107 e_bg134 qf (by first | exact bn1.mul qf | exact bn2.mul qf | exact bn3.mul qf | exact bn4.mul qf) qf
   have z_bg134:=E_bg134.sh.1
   have E_cur:=E_bg134
   refine zjc (oF rfl (oL rfl (H.cell 1 rfl rfl) (oN rfl (sp (yI 0) (zjn (qY ?_))))))
   refine zq ((fun Z0 Z1 Z2 Z3 Z4 Z5 Z6 Z7 Z8 Z9 Z10 Z11 Z12 Z13 Z14 Z15 Z16 Z17 Z18 Z19 Z20 Z21 Z22 Z23 Z24=>fun m' ρ w135=>∃ (xM:Env) (k:Nat) (bags_1:yLL) (x_bags_1:List Value) (F_bags_1:yLN),ρ=upd (upd (upd (upd xM 10 (.func (.func 169) #[] #[pp b79 0,pp b83 0])) 40 (.slice ae47Into (((s.qB[i]!).xh).length) ce47Into)) 41 (yI (((s.qB[i]!).xh).length))) 42 (yI k)∧((k:Int)≤(((s.qB[i]!).xh).length))∧(Ent (s.qA.length+1) (yL s) (fun p q=>base0 s t p q+allS s t counts i p q+at' p (s.qB[i]!).qP.toNat (-(counts[i]!) * ((s.qB[i]!).zB)[q]!)+at' p (s.qB[i]!).qP.toNat ((counts[i]!) * ((s.qB[i]!).vT)[q]!)+at' p (outPl s t (s.qB[i]!)) ((counts[i]!) * ((s.qB[i]!).yP)[q]!)+intoF (s.qB[i]!) (counts[i]!) k p q) (23000000+6000000 * i+1000000 * k) bags_1)∧(bags_1.length=s.qA.length+1)∧m' =((((s.qB[i]!).xh).length) - (k:Int)).toNat∧Fresh w.heap.size [G69]∧St w w135 [Z0,Z1,Z2,Z3,Z4,Z5,Z6,rr (aa b52 0) (t.qN.length+1) c8 24 1 x_bags_1,Z7,Z8,Z9] [xB false F_bags_1 x_bags_1 bags_1,Z10,Z11,Z12,Z13,Z14,Z15,Z16,Z17,Z18,Z19,Z20,Z21,Z22,Z23,Z24]) _ _ _ _ _ _ _ _ _ _ _ _ _ _ _ _ _ _ _ _ _ _ _ _ _) (((((s.qB[i]!).xh).length) - (0:Int)).toNat) ⟨_,0,bg134,xs131,F132,uE4,qf,(by exact E_cur.to (fun p q=>by rw [po];simp only [intoF];first | omega | (simp only [Int.toNat_natCast];omega)) qf),qf,rfl,(N.pick [2]),H.pick [0,1,2,3,4,5,6,7,8,9,10] [0,7,8,9,10,11,12,13,14,15,17,18,19,20,21,22]⟩ ?_
   clear H N
   rintro m' ρ w136 ⟨xM,k,bags_1,x_bags_1,F_bags_1,rfl,i0,E_bags_1,z_bags_1,rfl,N,H⟩
   have hn_bags:=H.xK (α:=yLI) 7 rfl 0 rfl qj
   refine zcr (sq 1 (zjn (xQ (cD rfl (fun h137=>?_) (fun h137=>?_)))))
   ·skip
    have qi:=q.2.2.2.2.2.2.2.2.2.2 k qf
    have qi1:=qi.1
    have bn4:=qi.2.2.1
    have ln4:=bn4.len
    refine qW (t_n (xQ (qY (zcr ?_))))
    obtain ⟨b138,o139,rfl⟩:=H.addr 8 rfl qf
    obtain ⟨ae141Bag,ce141Bag,Fe141Bag,H⟩:=H.yM 8 rfl k k qf qf qf
    refine oI rfl rfl (sw (xI [yI ((((s.qB[i]!).xh)[k]!).qP),.slice ae141Bag (((((s.qB[i]!).xh)[k]!).QG).length) ce141Bag] isAgg128 sizeOf128 rfl (qC (H.get 1 rfl) 0 2) (sw (xx H ti128 [yI 0,yN] fun b142 w143 H=>sw (xG H 0 [yI ((((s.qB[i]!).xh)[k]!).qP),.slice ae141Bag (((((s.qB[i]!).xh)[k]!).QG).length) ce141Bag] sizeOf128 fun w144 H=>zjn (xU (sp (.func (.func 169) #[] #[pp b79 0,pp b83 0]) (oF rfl (oL rfl (H.cell 0 rfl rfl) (oF rfl (oL rfl (H.cell 0 rfl rfl) ?_)))))))))))
    refine sw (zQ #[yI ((((s.qB[i]!).xh)[k]!).qP),.slice ae141Bag (((((s.qB[i]!).xh)[k]!).QG).length) ce141Bag,pp b79 0,pp b83 0] rfl rfl call169 (en func169 ntmps169 ?_))
    refine yK rfl H [0,1,2,3,4,5,6,7,9,10,11] fun H=>?_
    have S:=H.jo [0,1,2,3,4,5,6,7,9,10,11] [0,1,2,3,4,5,6,7,8,9,10,11,12,13,14,15,16,17]
    refine tL 0 rfl rfl (fun _ h=>h.cell 3 rfl rfl) S ?_
    refine rtl 1 S ?_
    refine tL 2 rfl rfl (fun _ h=>h.cell 3 rfl rfl) S ?_
    refine rtl 3 S ?_
    refine tI 4 rfl rfl rfl S ?_
    refine rtl 6 S ?_
    refine tL 7 rfl rfl (fun _ h=>h.cell 1 rfl rfl) S ?_
    refine ro 5 rfl ?_
    obtain ⟨a146,c147,G148,s149,h150,H⟩:=H.jy 8 rfl 2 rfl (iv:=(((s.qB[i]!).xh)[k]!).qP) (((((s.qB[i]!).xh)[k]!).qP).toNat) qf qf
    refine zl (.slice a146 ((bags_1[((((s.qB[i]!).xh)[k]!).qP).toNat]!).length) c147) isAgg24 rfl (h150) (⟨H.pick [0,1,2,3,4,5,6,7,9,10,11] [1,2,3,4,5,6,7,8,9,10,11,12,13,14,15,16,17,18],(ro 8 rfl ?_)⟩)
    obtain ⟨u1,u2⟩:=E_bags_1.sh.row (c:=((((s.qB[i]!).xh)[k]!).qP).toNat) qf p8 qf
    have u4:=(by first | exact bn1.yx qf | exact bn2.yx qf | exact bn3.yx qf | exact bn4.yx qf:SmallT ((((s.qB[i]!).xh)[k]!).QG) (counts[i]!))
    have sz151:=H.base.size
    have lt152:=H.ltN (L:=[G69]) [4]
    refine oc (plus_ok _ (bags_1[((((s.qB[i]!).xh)[k]!).qP).toNat]!) ((((s.qB[i]!).xh)[k]!).QG) (counts[i]!) (H.get 0 rfl).1 (H.get 1 rfl).1 qg qg qg) ?_
    rintro v156 w154 r156 x155
    replace H:=H.zC x155 r156
    obtain ⟨a157,c158,rfl,hc159,hm160⟩:=H.jq 0 rfl
    refine ⟨H.pick [1,2,3,4,5,6,7,8,10,11,12] [1,2,3,4,5,6,7,8,9,10,11,12,13,14,15,16,17,18],(tI 9 rfl rfl rfl (H.pick [1,2,3,4,5,6,7,8,10,11,12] [1,2,3,4,5,6,7,8,9,10,11,12,13,14,15,16,17,18]) ?_)⟩
    refine ro 10 rfl ?_
    obtain ⟨G162,N,hn163,H⟩:=H.zG 0 rfl N (H.vS [4])
    refine jE false H 9 rfl 4 rfl (.slice a157 ((jH (bags_1[((((s.qB[i]!).xh)[k]!).qP).toNat]!) ((((s.qB[i]!).xh)[k]!).QG) (counts[i]!)).length) c158) 0 rfl rfl sizeOf24 rfl rfl (i:=(((((s.qB[i]!).xh)[k]!).qP).toNat)) qf qf qm fun w161 xs164 F165 hs166 H=>⟨H.pick [1,2,3,4,5,6,7,8,10,11,12] [3,4,5,6,7,8,9,10,11,12,13,14,15,16,17,18,19,20],(xq qh ((ret0 rfl ⟨_,rfl,?_⟩)))⟩
    replace H:=H.erases [0]
    dsimp only [vV,List.eraseIdx] at H
    obtain ⟨bg167,e_bg167⟩:∃ z,z=(bags_1.set (((((s.qB[i]!).xh)[k]!).qP).toNat) (jH (bags_1[((((s.qB[i]!).xh)[k]!).qP).toNat]!) ((((s.qB[i]!).xh)[k]!).QG) (counts[i]!))):=⟨_,rfl⟩
    rw [← e_bg167] at H
    have E_bg167:=Ent.add (D:=1000000) E_bags_1 e_bg167 qf (by first | exact bn1.mul qf | exact bn2.mul qf | exact bn3.mul qf | exact bn4.mul qf) qf
    have z_bg167:=E_bg167.sh.1
    have E_cur:=E_bg167
    refine xY (b_n (t_n (xU (sw (zA k 1 rfl rfl qf (sq 1 (xY (xe (m' :=((((s.qB[i]!).xh).length) - ((k+1):Int)).toNat) qf ⟨_,k+1,_,_,_,uE4,?_,?_,?_,rfl,(N.pick [1]),H.pick [1,2,3,4,5,6,7,8,9,10,11] [0,6,7,8,9,10,11,12,13,14,15,16,17,18,19,20]⟩))))))))
    · omega
    · exact E_cur.to (fun p q=>by simp only [intoF];omega) qf
    · omega
   refine c_exit (t_x (t_x (b_x (ret0 rfl ⟨_,rfl,?_⟩))))
   replace H:=H.erases [4,3,2,1,0]
   dsimp only [vV,List.eraseIdx] at H
   refine zjn ?_
   refine yK rfl H [0,2,3,4,5] fun H=>?_
   have S:=H.jo [0,2,3,4,5] [0,1,2,3,4,5,6,7,8,9,10,11,12,13,14,15]
   refine rtl 0 S ?_
   refine tF 1 rfl rfl S ?_
   refine tL 2 rfl rfl (fun _ h=>h.cell 0 rfl rfl) S ?_
   refine rtl 3 S ?_
   refine tF 4 rfl rfl S ?_
   refine tL 5 rfl rfl (fun _ h=>h.cell 0 rfl rfl) S ?_
   refine tI 6 rfl rfl rfl S ?_
   refine ro 7 rfl (zl (.bool ((Ql s counts s.qA.length i)[((s.qB[i]!).qP).toNat]!)) isAgg4 rfl (H.rowBool 1 rfl (iv:=(s.qB[i]!).qP) (i:=(((s.qB[i]!).qP).toNat)) qf qf) (⟨H.pick [0,2,3,4,5] [0,1,2,3,4,5,6,7,8,9,10,11,12,13,14,15],(rtp 8 (.bool ((Ql s counts s.qA.length i)[((s.qB[i]!).qP).toNat]!)) (H.pick [0,2,3,4,5] [0,1,2,3,4,5,6,7,8,9,10,11,12,13,14,15]) ?_)⟩))
   cases h169:((Ql s counts s.qA.length i)[((s.qB[i]!).qP).toNat]!)
   ·skip
    have S:=H.jo [0,2,3,4,5] [0,1,2,3,4,5,6,7,8,9,10,11,12,13,14,15]
    refine rgl 9 66 S ?_
    refine rgp 10 (.bool (decide ((counts[i]! :Int) > 0))) 66 S ?_
    refine rgp 11 (.bool (decide ((counts[i]! :Int) > 0))) 66 S ?_
    cases h170:(decide ((counts[i]! :Int) > 0))
    ·skip
     replace h170:=of_decide_eq_false h170
     refine zI [12,13] 2 (H.pick [0,2,3,4,5] [0,1,2,3,4,5,6,7,8,9,10,11,12,13,14,15]) ?_
     have S:=H.jo [0,2,3,4,5] [0,1,2,3,4,5,6,7,8,9,10,11,12,13,14,15]
     refine rgp 14 (.bool false) 66 S ?_
     refine rtp 15 (.bool false) S ?_
     refine tI 16 rfl rfl rfl S ?_
     refine ro 17 rfl (Qs H 1 rfl false sizeOf4 rfl rfl (i:=(((s.qB[i]!).qP).toNat)) qf qf fun w171 H=>⟨H.pick [0,2,3,4,5] [0,1,2,3,4,5,6,7,8,9,10,11,12,13,14,15],(xq qh (b_n (t_n (xU (sw (zA i 1 rfl rfl qf (sq 1 (xY (xe (m' :=(counts.length - ((i+1):Int)).toNat) qf ⟨_,i+1,_,_,_,_,uE8,?_,?_,?_,?_,rfl,(N.pick []),H.pick [1,2,3,4,5] [0,10,11,12,13,14,15]⟩)))))))))⟩)
     · first | exact meltsL_1 qf qf ‹_› | exact meltsL_2 qf qf ‹_› qf | exact meltsL_3 qf qf ‹_› qf
     · omega
     · exact E_bags_1.to (fun p q=>by rw [show k=((s.qB[i]!).xh).length by omega];simp only [allS,needF,putF];omega) qf
     · omega
    replace h170:=of_decide_eq_true h170
    have S:=H.jo [0,2,3,4,5] [0,1,2,3,4,5,6,7,8,9,10,11,12,13,14,15]
    refine gF 12 rfl rfl S ?_
    refine gL 13 rfl rfl (fun _ h=>h.cell 0 rfl rfl) S ?_
    refine rgl 14 66 S ?_
    refine rtl 15 S ?_
    refine tI 16 rfl rfl rfl S ?_
    refine ro 17 rfl (Qs H 1 rfl ((s.qB[i]!).jB) sizeOf4 rfl rfl (i:=(((s.qB[i]!).qP).toNat)) qf qf fun w172 H=>⟨H.pick [0,2,3,4,5] [0,1,2,3,4,5,6,7,8,9,10,11,12,13,14,15],(xq qh (b_n (t_n (xU (sw (zA i 1 rfl rfl qf (sq 1 (xY (xe (m' :=(counts.length - ((i+1):Int)).toNat) qf ⟨_,i+1,_,_,_,_,uE8,?_,?_,?_,?_,rfl,(N.pick []),H.pick [1,2,3,4,5] [0,10,11,12,13,14,15]⟩)))))))))⟩)
    · first | exact meltsL_1 qf qf ‹_› | exact meltsL_2 qf qf ‹_› qf | exact meltsL_3 qf qf ‹_› qf
    · omega
    · exact E_bags_1.to (fun p q=>by rw [show k=((s.qB[i]!).xh).length by omega];simp only [allS,needF,putF];omega) qf
    · omega
   refine zI [9,10,11,12,13,14] 6 (H.pick [0,2,3,4,5] [0,1,2,3,4,5,6,7,8,9,10,11,12,13,14,15]) ?_
   have S:=H.jo [0,2,3,4,5] [0,1,2,3,4,5,6,7,8,9,10,11,12,13,14,15]
   refine rtp 15 (.bool true) S ?_
   refine tI 16 rfl rfl rfl S ?_
   refine ro 17 rfl (Qs H 1 rfl true sizeOf4 rfl rfl (i:=(((s.qB[i]!).qP).toNat)) qf qf fun w173 H=>⟨H.pick [0,2,3,4,5] [0,1,2,3,4,5,6,7,8,9,10,11,12,13,14,15],(xq qh (b_n (t_n (xU (sw (zA i 1 rfl rfl qf (sq 1 (xY (xe (m' :=(counts.length - ((i+1):Int)).toNat) qf ⟨_,i+1,_,_,_,_,uE8,?_,?_,?_,?_,rfl,(N.pick []),H.pick [1,2,3,4,5] [0,10,11,12,13,14,15]⟩)))))))))⟩)
   · first | exact meltsL_1 qf qf ‹_› | exact meltsL_2 qf qf ‹_› qf | exact meltsL_3 qf qf ‹_› qf
   · omega
   · exact E_bags_1.to (fun p q=>by rw [show k=((s.qB[i]!).xh).length by omega];simp only [allS,needF,putF];omega) qf
   · omega
  have po:=outPl_out (r:=s.qB[i]!) p15 p1.2.2.1 qc qf
  refine yK rfl H [0,1,2,3,4,5,6,8,9,10] fun H=>?_
  have S:=H.jo [0,1,2,3,4,5,6,8,9,10] [0,1,2,3,4,5,6,7,8,9,10,11,12,13,14,15,16,17,18,19]
  refine rtp 0 (.func (.func 169) #[] #[pp b79 0,pp b83 0]) S ?_
  refine rt 1 _ (yh (cs:=[yI s.xP,.slice qJ s.qA.length qI,.slice (aa b44 o45) s.qB.length qQ]) isAgg27 sizeOf27 rfl (fun _ h=>qC (h.cells 4 rfl) 0 3)) S ?_
  refine tF 3 rfl rfl S ?_
  refine tL 4 rfl rfl (fun _ h=>h.cell 1 rfl rfl) S ?_
  refine ro 2 rfl (oq (around_ok _ s (H.get 14 rfl).1 (H.get 15 rfl).1) H fun w176 H=>⟨H.pick [0,1,2,3,4,5,6,8,9,10] [0,1,2,3,4,5,6,7,8,9,10,11,12,13,14,15,16,17,18,19],(ro 5 rfl (zQ #[yI s.qA.length,.slice ae47Out (((s.qB[i]!).yP).length) ce47Out,pp b79 0,pp b83 0] rfl rfl call169 (en func169 ntmps169 ?_)))⟩)
  refine yK rfl H [0,1,2,3,4,5,6,8,9,10] fun H=>?_
  have S:=H.jo [0,1,2,3,4,5,6,8,9,10] [0,1,2,3,4,5,6,7,8,9,10,11,12,13,14,15,16,17,18,19]
  refine tL 0 rfl rfl (fun _ h=>h.cell 2 rfl rfl) S ?_
  refine rtl 1 S ?_
  refine tL 2 rfl rfl (fun _ h=>h.cell 2 rfl rfl) S ?_
  refine rtl 3 S ?_
  refine tI 4 rfl rfl rfl S ?_
  refine rtl 6 S ?_
  refine tL 7 rfl rfl (fun _ h=>h.cell 0 rfl rfl) S ?_
  refine ro 5 rfl ?_
  obtain ⟨a179,c180,G181,s182,h183,H⟩:=H.jy 7 rfl 0 rfl (iv:=s.qA.length) s.qA.length qf qf
  refine zl (.slice a179 ((bg107[s.qA.length]!).length) c180) isAgg24 rfl (h183) (⟨H.pick [0,1,2,3,4,5,6,8,9,10] [1,2,3,4,5,6,7,8,9,10,11,12,13,14,15,16,17,18,19,20],(ro 8 rfl ?_)⟩)
  obtain ⟨u1,u2⟩:=E_bg107.sh.row (c:=s.qA.length) qf p8 qf
  have u4:=(by first | exact bn1.yx qf | exact bn2.yx qf | exact bn3.yx qf | exact bn4.yx qf:SmallT ((s.qB[i]!).yP) (counts[i]!))
  have sz184:=H.base.size
  have lt185:=H.ltN (L:=[G102,G69]) [2,5]
  refine oc (plus_ok _ (bg107[s.qA.length]!) ((s.qB[i]!).yP) (counts[i]!) (H.get 0 rfl).1 (H.get 11 rfl).1 qg qg qg) ?_
  rintro v189 w187 r189 x188
  replace H:=H.zC x188 r189
  obtain ⟨a190,c191,rfl,hc192,hm193⟩:=H.jq 0 rfl
  refine ⟨H.pick [1,2,3,4,5,6,7,9,10,11] [1,2,3,4,5,6,7,8,9,10,11,12,13,14,15,16,17,18,19,20],(tI 9 rfl rfl rfl (H.pick [1,2,3,4,5,6,7,9,10,11] [1,2,3,4,5,6,7,8,9,10,11,12,13,14,15,16,17,18,19,20]) ?_)⟩
  refine ro 10 rfl ?_
  obtain ⟨G195,N,hn196,H⟩:=H.zG 0 rfl N (H.vS [2,5])
  refine jE false H 8 rfl 2 rfl (.slice a190 ((jH (bg107[s.qA.length]!) ((s.qB[i]!).yP) (counts[i]!)).length) c191) 0 rfl rfl sizeOf24 rfl rfl (i:=s.qA.length) qf qf qm fun w194 xs197 F198 hs199 H=>⟨H.pick [1,2,3,4,5,6,7,9,10,11] [3,4,5,6,7,8,9,10,11,12,13,14,15,16,17,18,19,20,21,22],(xq qh ((ret0 rfl ⟨_,rfl,?_⟩)))⟩
  replace H:=H.erases [0]
  dsimp only [vV,List.eraseIdx] at H
  obtain ⟨bg200,e_bg200⟩:∃ z,z=(bg107.set s.qA.length (jH (bg107[s.qA.length]!) ((s.qB[i]!).yP) (counts[i]!))):=⟨_,rfl⟩
  rw [← e_bg200] at H
  have E_bg200:=Ent.add (D:=1000000) E_bg107 e_bg200 qf (by first | exact bn1.mul qf | exact bn2.mul qf | exact bn3.mul qf | exact bn4.mul qf) qf
  have z_bg200:=E_bg200.sh.1
  have E_cur:=E_bg200
  refine ⟨H.pick [0,1,2,3,4,5,6,8,9,10] [3,4,5,6,7,8,9,10,11,12,13,14,15,16,17,18,19,20,21,22],(xq qh (t_n (zcr (oF rfl (oL rfl (H.cell 1 rfl rfl) (oN rfl (sp (yI 0) (zjn (qY ?_)))))))))⟩
  refine zq ((fun Z0 Z1 Z2 Z3 Z4 Z5 Z6 Z7 Z8 Z9 Z10 Z11 Z12 Z13 Z14 Z15 Z16 Z17 Z18 Z19 Z20 Z21 Z22 Z23 Z24=>fun m' ρ w201=>∃ (xM:Env) (k:Nat) (bags_1:yLL) (x_bags_1:List Value) (F_bags_1:yLN),ρ=upd (upd (upd (upd xM 10 (.func (.func 169) #[] #[pp b79 0,pp b83 0])) 40 (.slice ae47Into (((s.qB[i]!).xh).length) ce47Into)) 41 (yI (((s.qB[i]!).xh).length))) 42 (yI k)∧((k:Int)≤(((s.qB[i]!).xh).length))∧(Ent (s.qA.length+1) (yL s) (fun p q=>base0 s t p q+allS s t counts i p q+at' p (s.qB[i]!).qP.toNat (-(counts[i]!) * ((s.qB[i]!).zB)[q]!)+at' p (s.qB[i]!).qP.toNat ((counts[i]!) * ((s.qB[i]!).vT)[q]!)+at' p (outPl s t (s.qB[i]!)) ((counts[i]!) * ((s.qB[i]!).yP)[q]!)+intoF (s.qB[i]!) (counts[i]!) k p q) (23000000+6000000 * i+1000000 * k) bags_1)∧(bags_1.length=s.qA.length+1)∧m' =((((s.qB[i]!).xh).length) - (k:Int)).toNat∧Fresh w.heap.size [G69]∧St w w201 [Z0,Z1,Z2,Z3,Z4,Z5,Z6,rr (aa b52 0) (t.qN.length+1) c8 24 1 x_bags_1,Z7,Z8,Z9] [xB false F_bags_1 x_bags_1 bags_1,Z10,Z11,Z12,Z13,Z14,Z15,Z16,Z17,Z18,Z19,Z20,Z21,Z22,Z23,Z24]) _ _ _ _ _ _ _ _ _ _ _ _ _ _ _ _ _ _ _ _ _ _ _ _ _) (((((s.qB[i]!).xh).length) - (0:Int)).toNat) ⟨_,0,bg200,xs197,F198,uE4,qf,(by exact E_cur.to (fun p q=>by rw [po];simp only [intoF];first | omega | (simp only [Int.toNat_natCast];omega)) qf),qf,rfl,(N.pick [2]),H.pick [0,1,2,3,4,5,6,7,8,9,10] [0,7,8,9,10,11,12,13,14,15,17,18,19,20,21,22]⟩ ?_
  clear H N
  rintro m' ρ w202 ⟨xM,k,bags_1,x_bags_1,F_bags_1,rfl,i0,E_bags_1,z_bags_1,rfl,N,H⟩
  have hn_bags:=H.xK (α:=yLI) 7 rfl 0 rfl qj
  refine zcr (sq 1 (zjn (xQ (cD rfl (fun h203=>?_) (fun h203=>?_)))))
  ·skip
   have qi:=q.2.2.2.2.2.2.2.2.2.2 k qf
   have qi1:=qi.1
   have bn4:=qi.2.2.1
   have ln4:=bn4.len
   refine qW (t_n (xQ (qY (zcr ?_))))
   obtain ⟨b204,o205,rfl⟩:=H.addr 8 rfl qf
   obtain ⟨ae207Bag,ce207Bag,Fe207Bag,H⟩:=H.yM 8 rfl k k qf qf qf
   refine oI rfl rfl (sw (xI [yI ((((s.qB[i]!).xh)[k]!).qP),.slice ae207Bag (((((s.qB[i]!).xh)[k]!).QG).length) ce207Bag] isAgg128 sizeOf128 rfl (qC (H.get 1 rfl) 0 2) (sw (xx H ti128 [yI 0,yN] fun b208 w209 H=>sw (xG H 0 [yI ((((s.qB[i]!).xh)[k]!).qP),.slice ae207Bag (((((s.qB[i]!).xh)[k]!).QG).length) ce207Bag] sizeOf128 fun w210 H=>zjn (xU (sp (.func (.func 169) #[] #[pp b79 0,pp b83 0]) (oF rfl (oL rfl (H.cell 0 rfl rfl) (oF rfl (oL rfl (H.cell 0 rfl rfl) ?_)))))))))))
   refine sw (zQ #[yI ((((s.qB[i]!).xh)[k]!).qP),.slice ae207Bag (((((s.qB[i]!).xh)[k]!).QG).length) ce207Bag,pp b79 0,pp b83 0] rfl rfl call169 (en func169 ntmps169 ?_))
   refine yK rfl H [0,1,2,3,4,5,6,7,9,10,11] fun H=>?_
   have S:=H.jo [0,1,2,3,4,5,6,7,9,10,11] [0,1,2,3,4,5,6,7,8,9,10,11,12,13,14,15,16,17]
   refine tL 0 rfl rfl (fun _ h=>h.cell 3 rfl rfl) S ?_
   refine rtl 1 S ?_
   refine tL 2 rfl rfl (fun _ h=>h.cell 3 rfl rfl) S ?_
   refine rtl 3 S ?_
   refine tI 4 rfl rfl rfl S ?_
   refine rtl 6 S ?_
   refine tL 7 rfl rfl (fun _ h=>h.cell 1 rfl rfl) S ?_
   refine ro 5 rfl ?_
   obtain ⟨a212,c213,G214,s215,h216,H⟩:=H.jy 8 rfl 2 rfl (iv:=(((s.qB[i]!).xh)[k]!).qP) (((((s.qB[i]!).xh)[k]!).qP).toNat) qf qf
   refine zl (.slice a212 ((bags_1[((((s.qB[i]!).xh)[k]!).qP).toNat]!).length) c213) isAgg24 rfl (h216) (⟨H.pick [0,1,2,3,4,5,6,7,9,10,11] [1,2,3,4,5,6,7,8,9,10,11,12,13,14,15,16,17,18],(ro 8 rfl ?_)⟩)
   obtain ⟨u1,u2⟩:=E_bags_1.sh.row (c:=((((s.qB[i]!).xh)[k]!).qP).toNat) qf p8 qf
   have u4:=(by first | exact bn1.yx qf | exact bn2.yx qf | exact bn3.yx qf | exact bn4.yx qf:SmallT ((((s.qB[i]!).xh)[k]!).QG) (counts[i]!))
   have sz217:=H.base.size
   have lt218:=H.ltN (L:=[G69]) [4]
   refine oc (plus_ok _ (bags_1[((((s.qB[i]!).xh)[k]!).qP).toNat]!) ((((s.qB[i]!).xh)[k]!).QG) (counts[i]!) (H.get 0 rfl).1 (H.get 1 rfl).1 qg qg qg) ?_
   rintro v222 w220 r222 x221
   replace H:=H.zC x221 r222
   obtain ⟨a223,c224,rfl,hc225,hm226⟩:=H.jq 0 rfl
   refine ⟨H.pick [1,2,3,4,5,6,7,8,10,11,12] [1,2,3,4,5,6,7,8,9,10,11,12,13,14,15,16,17,18],(tI 9 rfl rfl rfl (H.pick [1,2,3,4,5,6,7,8,10,11,12] [1,2,3,4,5,6,7,8,9,10,11,12,13,14,15,16,17,18]) ?_)⟩
   refine ro 10 rfl ?_
   obtain ⟨G228,N,hn229,H⟩:=H.zG 0 rfl N (H.vS [4])
   refine jE false H 9 rfl 4 rfl (.slice a223 ((jH (bags_1[((((s.qB[i]!).xh)[k]!).qP).toNat]!) ((((s.qB[i]!).xh)[k]!).QG) (counts[i]!)).length) c224) 0 rfl rfl sizeOf24 rfl rfl (i:=(((((s.qB[i]!).xh)[k]!).qP).toNat)) qf qf qm fun w227 xs230 F231 hs232 H=>⟨H.pick [1,2,3,4,5,6,7,8,10,11,12] [3,4,5,6,7,8,9,10,11,12,13,14,15,16,17,18,19,20],(xq qh ((ret0 rfl ⟨_,rfl,?_⟩)))⟩
   replace H:=H.erases [0]
   dsimp only [vV,List.eraseIdx] at H
   obtain ⟨bg233,e_bg233⟩:∃ z,z=(bags_1.set (((((s.qB[i]!).xh)[k]!).qP).toNat) (jH (bags_1[((((s.qB[i]!).xh)[k]!).qP).toNat]!) ((((s.qB[i]!).xh)[k]!).QG) (counts[i]!))):=⟨_,rfl⟩
   rw [← e_bg233] at H
   have E_bg233:=Ent.add (D:=1000000) E_bags_1 e_bg233 qf (by first | exact bn1.mul qf | exact bn2.mul qf | exact bn3.mul qf | exact bn4.mul qf) qf
   have z_bg233:=E_bg233.sh.1
   have E_cur:=E_bg233
   refine xY (b_n (t_n (xU (sw (zA k 1 rfl rfl qf (sq 1 (xY (xe (m' :=((((s.qB[i]!).xh).length) - ((k+1):Int)).toNat) qf ⟨_,k+1,_,_,_,uE4,?_,?_,?_,rfl,(N.pick [1]),H.pick [1,2,3,4,5,6,7,8,9,10,11] [0,6,7,8,9,10,11,12,13,14,15,16,17,18,19,20]⟩))))))))
   · omega
   · exact E_cur.to (fun p q=>by simp only [intoF];omega) qf
   · omega
  refine c_exit (t_x (t_x (b_x (ret0 rfl ⟨_,rfl,?_⟩))))
  replace H:=H.erases [4,3,2,1,0]
  dsimp only [vV,List.eraseIdx] at H
  refine zjn ?_
  refine yK rfl H [0,2,3,4,5] fun H=>?_
  have S:=H.jo [0,2,3,4,5] [0,1,2,3,4,5,6,7,8,9,10,11,12,13,14,15]
  refine rtl 0 S ?_
  refine tF 1 rfl rfl S ?_
  refine tL 2 rfl rfl (fun _ h=>h.cell 0 rfl rfl) S ?_
  refine rtl 3 S ?_
  refine tF 4 rfl rfl S ?_
  refine tL 5 rfl rfl (fun _ h=>h.cell 0 rfl rfl) S ?_
  refine tI 6 rfl rfl rfl S ?_
  refine ro 7 rfl (zl (.bool ((Ql s counts s.qA.length i)[((s.qB[i]!).qP).toNat]!)) isAgg4 rfl (H.rowBool 1 rfl (iv:=(s.qB[i]!).qP) (i:=(((s.qB[i]!).qP).toNat)) qf qf) (⟨H.pick [0,2,3,4,5] [0,1,2,3,4,5,6,7,8,9,10,11,12,13,14,15],(rtp 8 (.bool ((Ql s counts s.qA.length i)[((s.qB[i]!).qP).toNat]!)) (H.pick [0,2,3,4,5] [0,1,2,3,4,5,6,7,8,9,10,11,12,13,14,15]) ?_)⟩))
  cases h235:((Ql s counts s.qA.length i)[((s.qB[i]!).qP).toNat]!)
  ·skip
   have S:=H.jo [0,2,3,4,5] [0,1,2,3,4,5,6,7,8,9,10,11,12,13,14,15]
   refine rgl 9 66 S ?_
   refine rgp 10 (.bool (decide ((counts[i]! :Int) > 0))) 66 S ?_
   refine rgp 11 (.bool (decide ((counts[i]! :Int) > 0))) 66 S ?_
   cases h236:(decide ((counts[i]! :Int) > 0))
   ·skip
    replace h236:=of_decide_eq_false h236
    refine zI [12,13] 2 (H.pick [0,2,3,4,5] [0,1,2,3,4,5,6,7,8,9,10,11,12,13,14,15]) ?_
    have S:=H.jo [0,2,3,4,5] [0,1,2,3,4,5,6,7,8,9,10,11,12,13,14,15]
    refine rgp 14 (.bool false) 66 S ?_
    refine rtp 15 (.bool false) S ?_
    refine tI 16 rfl rfl rfl S ?_
    refine ro 17 rfl (Qs H 1 rfl false sizeOf4 rfl rfl (i:=(((s.qB[i]!).qP).toNat)) qf qf fun w237 H=>⟨H.pick [0,2,3,4,5] [0,1,2,3,4,5,6,7,8,9,10,11,12,13,14,15],(xq qh (b_n (t_n (xU (sw (zA i 1 rfl rfl qf (sq 1 (xY (xe (m' :=(counts.length - ((i+1):Int)).toNat) qf ⟨_,i+1,_,_,_,_,uE8,?_,?_,?_,?_,rfl,(N.pick []),H.pick [1,2,3,4,5] [0,10,11,12,13,14,15]⟩)))))))))⟩)
    · first | exact meltsL_1 qf qf ‹_› | exact meltsL_2 qf qf ‹_› qf | exact meltsL_3 qf qf ‹_› qf
    · omega
    · exact E_bags_1.to (fun p q=>by rw [show k=((s.qB[i]!).xh).length by omega];simp only [allS,needF,putF];omega) qf
    · omega
   replace h236:=of_decide_eq_true h236
   have S:=H.jo [0,2,3,4,5] [0,1,2,3,4,5,6,7,8,9,10,11,12,13,14,15]
   refine gF 12 rfl rfl S ?_
   refine gL 13 rfl rfl (fun _ h=>h.cell 0 rfl rfl) S ?_
   refine rgl 14 66 S ?_
   refine rtl 15 S ?_
   refine tI 16 rfl rfl rfl S ?_
   refine ro 17 rfl (Qs H 1 rfl ((s.qB[i]!).jB) sizeOf4 rfl rfl (i:=(((s.qB[i]!).qP).toNat)) qf qf fun w238 H=>⟨H.pick [0,2,3,4,5] [0,1,2,3,4,5,6,7,8,9,10,11,12,13,14,15],(xq qh (b_n (t_n (xU (sw (zA i 1 rfl rfl qf (sq 1 (xY (xe (m' :=(counts.length - ((i+1):Int)).toNat) qf ⟨_,i+1,_,_,_,_,uE8,?_,?_,?_,?_,rfl,(N.pick []),H.pick [1,2,3,4,5] [0,10,11,12,13,14,15]⟩)))))))))⟩)
   · first | exact meltsL_1 qf qf ‹_› | exact meltsL_2 qf qf ‹_› qf | exact meltsL_3 qf qf ‹_› qf
   · omega
   · exact E_bags_1.to (fun p q=>by rw [show k=((s.qB[i]!).xh).length by omega];simp only [allS,needF,putF];omega) qf
   · omega
  refine zI [9,10,11,12,13,14] 6 (H.pick [0,2,3,4,5] [0,1,2,3,4,5,6,7,8,9,10,11,12,13,14,15]) ?_
  have S:=H.jo [0,2,3,4,5] [0,1,2,3,4,5,6,7,8,9,10,11,12,13,14,15]
  refine rtp 15 (.bool true) S ?_
  refine tI 16 rfl rfl rfl S ?_
  refine ro 17 rfl (Qs H 1 rfl true sizeOf4 rfl rfl (i:=(((s.qB[i]!).qP).toNat)) qf qf fun w239 H=>⟨H.pick [0,2,3,4,5] [0,1,2,3,4,5,6,7,8,9,10,11,12,13,14,15],(xq qh (b_n (t_n (xU (sw (zA i 1 rfl rfl qf (sq 1 (xY (xe (m' :=(counts.length - ((i+1):Int)).toNat) qf ⟨_,i+1,_,_,_,_,uE8,?_,?_,?_,?_,rfl,(N.pick []),H.pick [1,2,3,4,5] [0,10,11,12,13,14,15]⟩)))))))))⟩)
  · first | exact meltsL_1 qf qf ‹_› | exact meltsL_2 qf qf ‹_› qf | exact meltsL_3 qf qf ‹_› qf
  · omega
  · exact E_bags_1.to (fun p q=>by rw [show k=((s.qB[i]!).xh).length by omega];simp only [allS,needF,putF];omega) qf
  · omega
 refine zx4 (xQ ?_)
 obtain ⟨b240,rfl⟩:=H.jW 1 rfl qf
 refine c_cut (fun ρ w250=>∃ (xM:Env) (b241:Nat) (ra242:yOA) (rc243:Nat) (ra244:yOA) (rc245:Nat) (ra246:yOA) (rc247:Nat) (rx248:List Value) (rF249:yLN),ρ=upd (upd (upd (upd xM 3 (pp b1 0)) 6 (pp b5 0)) 9 (.slice (aa b36 0) s.qA.length s.qA.length)) 13 (pp b241 0)∧Fresh w.heap.size [rF249]∧St w w250 [.box b241 [.slice ra242 (((⟨t.qG,(bags.take s.qA.length),bags[s.qA.length]!⟩:qF).qG).length) rc243,.slice ra244 (((⟨t.qG,(bags.take s.qA.length),bags[s.qA.length]!⟩:qF).qN).length) rc245,.slice ra246 (((⟨t.qG,(bags.take s.qA.length),bags[s.qA.length]!⟩:qF).qH).length) rc247] 31,rr ra242 (((⟨t.qG,(bags.take s.qA.length),bags[s.qA.length]!⟩:qF).qG).length) rc243 4 1 (((⟨t.qG,(bags.take s.qA.length),bags[s.qA.length]!⟩:qF).qG).map (Value.bool)),rr ra244 (((⟨t.qG,(bags.take s.qA.length),bags[s.qA.length]!⟩:qF).qN).length) rc245 24 1 rx248,rr ra246 (((⟨t.qG,(bags.take s.qA.length),bags[s.qA.length]!⟩:qF).qH).length) rc247 2 1 (((⟨t.qG,(bags.take s.qA.length),bags[s.qA.length]!⟩:qF).qH).map (Value.int .i64)),rr (aa b36 0) s.qA.length s.qA.length 4 1 ((Ql s counts s.qA.length i).map (Value.bool)),rr none 0 0 0 1 [],.box b5 [yN,yN,yN] 31,.box b3 (yT t xg xf xF xA qU qR) 31,.box b1 (yS s qJ qI qV qQ) 27] [xB true rF249 rx248 ((⟨t.qG,(bags.take s.qA.length),bags[s.qA.length]!⟩:qF).qN),sF false xu qJ qI s.qA,sF false zh qV qQ s.qB,sF false zu xg xf t.qG,sF false zU xF xA t.qN,sF false x9 qU qR t.qH]) ?_ ?_
 ·skip
  refine yK rfl H [0,2,3,4] fun H=>?_
  refine Qx (fun ρ w258=>∃ (xM:Env) (a252:yOA) (c253:Nat) (a254:yOA) (G255:yLN) (G256:yLN),ρ=upd (upd (upd (upd (upd (upd xM 3 (pp b1 0)) 6 (pp b5 0)) 9 (.slice (aa b36 0) s.qA.length s.qA.length)) 77 (.slice xg t.qG.length xf)) 81 (.slice a254 ((bags.take s.qA.length).length) c8)) 86 (.slice a252 ((bags[s.qA.length]!).length) c253)∧Fresh w.heap.size []∧St w w258 [rr (aa b36 0) s.qA.length s.qA.length 4 1 ((Ql s counts s.qA.length i).map (Value.bool)),rr none 0 0 0 1 [],.box b5 [yN,yN,yN] 31,.box b3 (yT t xg xf xF xA qU qR) 31,.box b1 (yS s qJ qI qV qQ) 27] [sF false G255 a254 c8 (bags.take s.qA.length),sF false G256 a252 c253 (bags[s.qA.length]!),xB false F_bags x_bags bags,sF false xu qJ qI s.qA,sF false zh qV qQ s.qB,sF false zu xg xf t.qG,sF false zU xF xA t.qN,sF false x9 qU qR t.qH,sF false Fcounts acounts ccounts counts]) 4 #[true,true,true,true,true,true,true,true,true,true,true,false,false,false,false] ?_ fun L257=>?_
  ·skip
   rintro ρ w259 ⟨xM,a252,c253,a254,G255,G256,rfl,N,H⟩
   refine zY [11,13] qh qm (jd rfl ?_ (jd rfl ?_ zZ))
   ·skip
    refine zO [.slice xg t.qG.length xf,.slice a254 ((bags.take s.qA.length).length) c8,.slice a252 ((bags[s.qA.length]!).length) c253] [(0,.slice xg t.qG.length xf),(1,.slice a254 ((bags.take s.qA.length).length) c8),(2,.slice a252 ((bags[s.qA.length]!).length) c253)] (⟨H.pick [0,2,3,4] [2,3,4,5,6,7,8],(zY [12,13] qh qm (jd rfl ?_ (jd rfl ?_ zZ)))⟩)
    ·skip
     obtain ⟨cp0,cp1,cp2,cp3⟩:=copy_pre (al:=t.qG) E_bags p8 p9.2 p12
     have sz263:=H.base.size
     refine oc (Xd _ (⟨t.qG,(bags.take s.qA.length),bags[s.qA.length]!⟩:qF) (H.get 5 rfl).1 (H.get 0 rfl).1 (H.get 1 rfl).1 qg qg qg qg) ?_
     rintro _ w261 ⟨ra260Alive,rn260Alive,rc260Alive,ra260Bags,rn260Bags,rc260Bags,rx260Bags,rF260Bags,ra260Around,rn260Around,rc260Around,rfl,M,K⟩ _
     replace N:=N.merge sz263 qm M
     replace H:=H.merge K M
     obtain rfl:=H.XC 0 rfl
     obtain rfl:=H.xK (α:=yLI) 1 rfl 0 rfl qj
     obtain rfl:=H.jm 2 rfl
     refine ⟨H.pick [3,5,6,7] [3,4,5,6,7,8,9],(ro 13 rfl (xx H ti31 [yN,yN,yN] fun b268 w269 H=>⟨H.pick [4,6,7,8] [3,4,5,6,7,8,9],(ro 14 rfl (xG H 0 [.slice ra260Alive (((⟨t.qG,(bags.take s.qA.length),bags[s.qA.length]!⟩:qF).qG).length) rc260Alive,.slice ra260Bags (((⟨t.qG,(bags.take s.qA.length),bags[s.qA.length]!⟩:qF).qN).length) rc260Bags,.slice ra260Around (((⟨t.qG,(bags.take s.qA.length),bags[s.qA.length]!⟩:qF).qH).length) rc260Around] sizeOf31 fun w270 H=>⟨H.pick [4,6,7,8] [3,4,5,6,7,8,9],?_⟩))⟩))⟩
     refine xq qh ((meet ⟨_,b268,ra260Alive,rc260Alive,ra260Bags,rc260Bags,ra260Around,rc260Around,rx260Bags,rF260Bags,uE4,N,H.pick [0,1,2,3,4,5,6,7,8] [0,4,5,6,7,8]⟩))
    refine xx H ti31 [yN,yN,yN] fun b271 w272 H=>⟨H.pick [1,3,4,5] [2,3,4,5,6,7,8],(ro 12 rfl ?_)⟩
    obtain ⟨cp0,cp1,cp2,cp3⟩:=copy_pre (al:=t.qG) E_bags p8 p9.2 p12
    have sz276:=H.base.size
    refine oc (Xd _ (⟨t.qG,(bags.take s.qA.length),bags[s.qA.length]!⟩:qF) (H.get 5 rfl).1 (H.get 0 rfl).1 (H.get 1 rfl).1 qg qg qg qg) ?_
    rintro _ w274 ⟨ra273Alive,rn273Alive,rc273Alive,ra273Bags,rn273Bags,rc273Bags,rx273Bags,rF273Bags,ra273Around,rn273Around,rc273Around,rfl,M,K⟩ _
    replace N:=N.merge sz276 qm M
    replace H:=H.merge K M
    obtain rfl:=H.XC 0 rfl
    obtain rfl:=H.xK (α:=yLI) 1 rfl 0 rfl qj
    obtain rfl:=H.jm 2 rfl
    refine ⟨H.pick [4,6,7,8] [3,4,5,6,7,8,9],(ro 14 rfl (xG H 3 [.slice ra273Alive (((⟨t.qG,(bags.take s.qA.length),bags[s.qA.length]!⟩:qF).qG).length) rc273Alive,.slice ra273Bags (((⟨t.qG,(bags.take s.qA.length),bags[s.qA.length]!⟩:qF).qN).length) rc273Bags,.slice ra273Around (((⟨t.qG,(bags.take s.qA.length),bags[s.qA.length]!⟩:qF).qH).length) rc273Around] sizeOf31 fun w281 H=>⟨H.pick [4,6,7,8] [3,4,5,6,7,8,9],(xq qh (?_))⟩))⟩
    exact meet ⟨_,b271,ra273Alive,rc273Alive,ra273Bags,rc273Bags,ra273Around,rc273Around,rx273Bags,rF273Bags,uE4,N,H.pick [3,0,1,2,4,5,6,7,8] [0,4,5,6,7,8]⟩
   refine xx H ti31 [yN,yN,yN] fun b282 w283 H=>⟨H.pick [1,3,4,5] [2,3,4,5,6,7,8],(ro 11 rfl (zO [.slice xg t.qG.length xf,.slice a254 ((bags.take s.qA.length).length) c8,.slice a252 ((bags[s.qA.length]!).length) c253] [(0,.slice xg t.qG.length xf),(1,.slice a254 ((bags.take s.qA.length).length) c8),(2,.slice a252 ((bags[s.qA.length]!).length) c253)] (⟨H.pick [1,3,4,5] [2,3,4,5,6,7,8],(ro 12 rfl ?_)⟩)))⟩
   obtain ⟨cp0,cp1,cp2,cp3⟩:=copy_pre (al:=t.qG) E_bags p8 p9.2 p12
   have sz287:=H.base.size
   refine oc (Xd _ (⟨t.qG,(bags.take s.qA.length),bags[s.qA.length]!⟩:qF) (H.get 5 rfl).1 (H.get 0 rfl).1 (H.get 1 rfl).1 qg qg qg qg) ?_
   rintro _ w285 ⟨ra284Alive,rn284Alive,rc284Alive,ra284Bags,rn284Bags,rc284Bags,rx284Bags,rF284Bags,ra284Around,rn284Around,rc284Around,rfl,M,K⟩ _
   replace N:=N.merge sz287 qm M
   replace H:=H.merge K M
   obtain rfl:=H.XC 0 rfl
   obtain rfl:=H.xK (α:=yLI) 1 rfl 0 rfl qj
   obtain rfl:=H.jm 2 rfl
   refine ⟨H.pick [4,6,7,8] [3,4,5,6,7,8,9],(ro 14 rfl (xG H 3 [.slice ra284Alive (((⟨t.qG,(bags.take s.qA.length),bags[s.qA.length]!⟩:qF).qG).length) rc284Alive,.slice ra284Bags (((⟨t.qG,(bags.take s.qA.length),bags[s.qA.length]!⟩:qF).qN).length) rc284Bags,.slice ra284Around (((⟨t.qG,(bags.take s.qA.length),bags[s.qA.length]!⟩:qF).qH).length) rc284Around] sizeOf31 fun w292 H=>⟨H.pick [4,6,7,8] [3,4,5,6,7,8,9],(xq qh (?_))⟩))⟩
   exact meet ⟨_,b282,ra284Alive,rc284Alive,ra284Bags,rc284Bags,ra284Around,rc284Around,rx284Bags,rF284Bags,uE4,N,H.pick [3,0,1,2,4,5,6,7,8] [0,4,5,6,7,8]⟩
  refine Qx (fun ρ w297=>∃ (xM:Env) (a293:yOA) (G294:yLN) (G295:yLN),ρ=upd (upd (upd (upd (upd (upd xM 3 (pp b1 0)) 6 (pp b5 0)) 9 (.slice (aa b36 0) s.qA.length s.qA.length)) 77 (.slice xg t.qG.length xf)) 81 (.slice a293 ((bags.take s.qA.length).length) c8)) 85 (pp b240 (0+(s.qA.length:Int).toNat * 1))∧Fresh w.heap.size []∧St w w297 [rr (aa b36 0) s.qA.length s.qA.length 4 1 ((Ql s counts s.qA.length i).map (Value.bool)),rr none 0 0 0 1 [],.box b5 [yN,yN,yN] 31,.box b3 (yT t xg xf xF xA qU qR) 31,.box b1 (yS s qJ qI qV qQ) 27] [sF false G294 a293 c8 (bags.take s.qA.length),isF false G295 (.slice (aa b240 0) (t.qN.length+1) c8) bags,xB false F_bags x_bags bags,sF false xu qJ qI s.qA,sF false zh qV qQ s.qB,sF false zu xg xf t.qG,sF false zU xF xA t.qN,sF false x9 qU qR t.qH,sF false Fcounts acounts ccounts counts]) 5 #[true,true,true,true,true,true,true,true,true,true,false,false,false,false,false] ?_ fun L296=>?_
  ·skip
   rintro ρ w298 ⟨xM,a293,G294,G295,rfl,N,H⟩
   refine zY [10,13] qh qm (jd rfl ?_ (jd rfl ?_ zZ))
   ·skip
    have hl299:=H.isLen 1 rfl
    obtain ⟨ae300,ce300,Fe300,H⟩:=H.vX 1 rfl s.qA.length s.qA.length qf qf qf
    refine zl (.slice ae300 ((bags[s.qA.length]!).length) ce300) isAgg24 rfl (H.x8 1 rfl 0 rfl) (⟨H.pick [0,2,3,4] [4,5,6,7,8,9,10],(yc L257 ⟨_,ae300,ce300,a293,G294,Fe300,uE6,N,H.pick [0,1,2,3,4] [2,0,4,5,6,7,8,9,10]⟩)⟩)
   refine xx H ti31 [yN,yN,yN] fun b301 w302 H=>⟨H.pick [1,3,4,5] [2,3,4,5,6,7,8],(ro 10 rfl ?_)⟩
   have hl303:=H.isLen 1 rfl
   obtain ⟨ae304,ce304,Fe304,H⟩:=H.vX 1 rfl s.qA.length s.qA.length qf qf qf
   refine zl (.slice ae304 ((bags[s.qA.length]!).length) ce304) isAgg24 rfl (H.x8 1 rfl 0 rfl) (⟨H.pick [1,3,4,5] [4,5,6,7,8,9,10],(ro 11 rfl (zO [.slice xg t.qG.length xf,.slice a293 ((bags.take s.qA.length).length) c8,.slice ae304 ((bags[s.qA.length]!).length) ce304] [(0,.slice xg t.qG.length xf),(1,.slice a293 ((bags.take s.qA.length).length) c8),(2,.slice ae304 ((bags[s.qA.length]!).length) ce304)] (⟨H.pick [1,3,4,5] [4,5,6,7,8,9,10],(ro 12 rfl ?_)⟩)))⟩)
   obtain ⟨cp0,cp1,cp2,cp3⟩:=copy_pre (al:=t.qG) E_bags p8 p9.2 p12
   have sz308:=H.base.size
   refine oc (Xd _ (⟨t.qG,(bags.take s.qA.length),bags[s.qA.length]!⟩:qF) (H.get 7 rfl).1 (H.get 2 rfl).1 (H.get 0 rfl).1 qg qg qg qg) ?_
   rintro _ w306 ⟨ra305Alive,rn305Alive,rc305Alive,ra305Bags,rn305Bags,rc305Bags,rx305Bags,rF305Bags,ra305Around,rn305Around,rc305Around,rfl,M,K⟩ _
   replace N:=N.merge sz308 qm M
   replace H:=H.merge K M
   obtain rfl:=H.XC 0 rfl
   obtain rfl:=H.xK (α:=yLI) 1 rfl 0 rfl qj
   obtain rfl:=H.jm 2 rfl
   refine ⟨H.pick [4,6,7,8] [5,6,7,8,9,10,11],(ro 14 rfl (xG H 3 [.slice ra305Alive (((⟨t.qG,(bags.take s.qA.length),bags[s.qA.length]!⟩:qF).qG).length) rc305Alive,.slice ra305Bags (((⟨t.qG,(bags.take s.qA.length),bags[s.qA.length]!⟩:qF).qN).length) rc305Bags,.slice ra305Around (((⟨t.qG,(bags.take s.qA.length),bags[s.qA.length]!⟩:qF).qH).length) rc305Around] sizeOf31 fun w313 H=>⟨H.pick [4,6,7,8] [5,6,7,8,9,10,11],(xq qh (?_))⟩))⟩
   exact meet ⟨_,b301,ra305Alive,rc305Alive,ra305Bags,rc305Bags,ra305Around,rc305Around,rx305Bags,rF305Bags,uE4,N,H.pick [3,0,1,2,4,5,6,7,8] [0,6,7,8,9,10]⟩
  refine Qx (fun ρ w316=>∃ (xM:Env) (b314:Nat),ρ=upd (upd (upd (upd (upd (upd (upd (upd xM 3 (pp b1 0)) 6 (pp b5 0)) 9 (.slice (aa b36 0) s.qA.length s.qA.length)) 13 (pp b314 0)) 77 (.slice xg t.qG.length xf)) 78 (.slice (aa b240 0) (t.qN.length+1) c8)) 80 (yI s.qA.length)) 85 (pp b240 (0+(s.qA.length:Int).toNat * 1))∧Fresh w.heap.size []∧St w w316 [.box b314 [yN,yN,yN] 31,rr (aa b36 0) s.qA.length s.qA.length 4 1 ((Ql s counts s.qA.length i).map (Value.bool)),rr (aa b240 0) (t.qN.length+1) c8 24 1 x_bags,.box b5 [yN,yN,yN] 31,.box b3 (yT t xg xf xF xA qU qR) 31,.box b1 (yS s qJ qI qV qQ) 27] [xB false F_bags x_bags bags,sF false xu qJ qI s.qA,sF false zh qV qQ s.qB,sF false zu xg xf t.qG,sF false zU xF xA t.qN,sF false x9 qU qR t.qH,sF false Fcounts acounts ccounts counts]) 5 #[true,true,true,true,true,false,true,true,true,true,false,false,false,true,false] ?_ fun L315=>?_
  ·skip
   rintro ρ w317 ⟨xM,b314,rfl,N,H⟩
   refine zY [5,10] qh qm (jd rfl ?_ (jd rfl ?_ zZ))
   ·skip
    obtain ⟨G318,hg320,hn319,H⟩:=H.yj (α:=yLI) 2 rfl 0 rfl qj
    have hl325:=H.isLen 0 rfl
    refine o_head H 0 rfl s.qA.length underlying29 ti24 rfl rfl qf qf fun a321 G322 hG323 H=>?_
    have hl324:(bags.take s.qA.length).length=s.qA.length:=List.length_take_of_le qf
    refine ⟨H.pick [1,3,4,5] [2,3,4,5,6,7,8],(ro 10 rfl ?_)⟩
    have hl326:=H.isLen 1 rfl
    obtain ⟨ae327,ce327,Fe327,H⟩:=H.vX 1 rfl s.qA.length s.qA.length qf qf qf
    refine zl (.slice ae327 ((bags[s.qA.length]!).length) ce327) isAgg24 rfl (H.x8 1 rfl 0 rfl) (⟨H.pick [1,3,4,5] [4,5,6,7,8,9,10],(ro 11 rfl (zO [.slice xg t.qG.length xf,.slice a321 ((bags.take s.qA.length).length) c8,.slice ae327 ((bags[s.qA.length]!).length) ce327] [(0,.slice xg t.qG.length xf),(1,.slice a321 ((bags.take s.qA.length).length) c8),(2,.slice ae327 ((bags[s.qA.length]!).length) ce327)] (⟨H.pick [1,3,4,5] [4,5,6,7,8,9,10],(ro 12 rfl ?_)⟩)))⟩)
    obtain ⟨cp0,cp1,cp2,cp3⟩:=copy_pre (al:=t.qG) E_bags p8 p9.2 p12
    have sz331:=H.base.size
    refine oc (Xd _ (⟨t.qG,(bags.take s.qA.length),bags[s.qA.length]!⟩:qF) (H.get 7 rfl).1 (H.get 2 rfl).1 (H.get 0 rfl).1 qg qg qg qg) ?_
    rintro _ w329 ⟨ra328Alive,rn328Alive,rc328Alive,ra328Bags,rn328Bags,rc328Bags,rx328Bags,rF328Bags,ra328Around,rn328Around,rc328Around,rfl,M,K⟩ _
    replace N:=N.merge sz331 qm M
    replace H:=H.merge K M
    obtain rfl:=H.XC 0 rfl
    obtain rfl:=H.xK (α:=yLI) 1 rfl 0 rfl qj
    obtain rfl:=H.jm 2 rfl
    refine ⟨H.pick [4,6,7,8] [5,6,7,8,9,10,11],(ro 14 rfl (xG H 3 [.slice ra328Alive (((⟨t.qG,(bags.take s.qA.length),bags[s.qA.length]!⟩:qF).qG).length) rc328Alive,.slice ra328Bags (((⟨t.qG,(bags.take s.qA.length),bags[s.qA.length]!⟩:qF).qN).length) rc328Bags,.slice ra328Around (((⟨t.qG,(bags.take s.qA.length),bags[s.qA.length]!⟩:qF).qH).length) rc328Around] sizeOf31 fun w336 H=>⟨H.pick [4,6,7,8] [5,6,7,8,9,10,11],(xq qh (?_))⟩))⟩
    exact meet ⟨_,b314,ra328Alive,rc328Alive,ra328Bags,rc328Bags,ra328Around,rc328Around,rx328Bags,rF328Bags,uE4,N,H.pick [3,0,1,2,4,5,6,7,8] [0,6,7,8,9,10]⟩
   obtain ⟨a337,c338,G339,s340,h341,H⟩:=H.jy 2 rfl 0 rfl (iv:=s.qA.length) s.qA.length qf qf
   refine zl (.slice a337 ((bags[s.qA.length]!).length) c338) isAgg24 rfl (h341) (⟨H.pick [1,3,4,5] [1,2,3,4,5,6,7],(ro 5 rfl ?_)⟩)
   obtain ⟨G342,hg344,hn343,H⟩:=H.yj (α:=yLI) 2 rfl 1 rfl qj
   have hl349:=H.isLen 0 rfl
   refine o_head H 0 rfl s.qA.length underlying29 ti24 rfl rfl qf qf fun a345 G346 hG347 H=>?_
   have hl348:(bags.take s.qA.length).length=s.qA.length:=List.length_take_of_le qf
   refine ⟨H.pick [1,3,4,5] [3,4,5,6,7,8,9],(ro 11 rfl (zO [.slice xg t.qG.length xf,.slice a345 ((bags.take s.qA.length).length) c8,.slice a337 ((bags[s.qA.length]!).length) c338] [(0,.slice xg t.qG.length xf),(1,.slice a345 ((bags.take s.qA.length).length) c8),(2,.slice a337 ((bags[s.qA.length]!).length) c338)] (⟨H.pick [1,3,4,5] [3,4,5,6,7,8,9],(ro 12 rfl ?_)⟩)))⟩
   obtain ⟨cp0,cp1,cp2,cp3⟩:=copy_pre (al:=t.qG) E_bags p8 p9.2 p12
   have sz353:=H.base.size
   refine oc (Xd _ (⟨t.qG,(bags.take s.qA.length),bags[s.qA.length]!⟩:qF) (H.get 6 rfl).1 (H.get 0 rfl).1 (H.get 2 rfl).1 qg qg qg qg) ?_
   rintro _ w351 ⟨ra350Alive,rn350Alive,rc350Alive,ra350Bags,rn350Bags,rc350Bags,rx350Bags,rF350Bags,ra350Around,rn350Around,rc350Around,rfl,M,K⟩ _
   replace N:=N.merge sz353 qm M
   replace H:=H.merge K M
   obtain rfl:=H.XC 0 rfl
   obtain rfl:=H.xK (α:=yLI) 1 rfl 0 rfl qj
   obtain rfl:=H.jm 2 rfl
   refine ⟨H.pick [4,6,7,8] [4,5,6,7,8,9,10],(ro 14 rfl (xG H 3 [.slice ra350Alive (((⟨t.qG,(bags.take s.qA.length),bags[s.qA.length]!⟩:qF).qG).length) rc350Alive,.slice ra350Bags (((⟨t.qG,(bags.take s.qA.length),bags[s.qA.length]!⟩:qF).qN).length) rc350Bags,.slice ra350Around (((⟨t.qG,(bags.take s.qA.length),bags[s.qA.length]!⟩:qF).qH).length) rc350Around] sizeOf31 fun w358 H=>⟨H.pick [4,6,7,8] [4,5,6,7,8,9,10],(xq qh (?_))⟩))⟩
   exact meet ⟨_,b314,ra350Alive,rc350Alive,ra350Bags,rc350Bags,ra350Around,rc350Around,rx350Bags,rF350Bags,uE4,N,H.pick [3,0,1,2,4,5,6,7,8] [0,5,6,7,8,9]⟩
  refine Qx (fun ρ w361=>∃ (xM:Env) (b359:Nat),ρ=upd (upd (upd (upd (upd (upd (upd (upd (upd xM 3 (pp b1 0)) 6 (pp b5 0)) 9 (.slice (aa b36 0) s.qA.length s.qA.length)) 13 (pp b359 0)) 77 (.slice xg t.qG.length xf)) 78 (.slice (aa b240 0) (t.qN.length+1) c8)) 80 (yI s.qA.length)) 82 (.slice (aa b240 0) (t.qN.length+1) c8)) 83 (.agg #[yI s.xP,.slice qJ s.qA.length qI,.slice qV s.qB.length qQ])∧Fresh w.heap.size []∧St w w361 [.box b359 [yN,yN,yN] 31,rr (aa b36 0) s.qA.length s.qA.length 4 1 ((Ql s counts s.qA.length i).map (Value.bool)),rr (aa b240 0) (t.qN.length+1) c8 24 1 x_bags,.box b5 [yN,yN,yN] 31,.box b3 (yT t xg xf xF xA qU qR) 31,.box b1 (yS s qJ qI qV qQ) 27] [xB false F_bags x_bags bags,sF false xu qJ qI s.qA,sF false zh qV qQ s.qB,sF false zu xg xf t.qG,sF false zU xF xA t.qN,sF false x9 qU qR t.qH,sF false Fcounts acounts ccounts counts]) 7 #[true,true,true,true,true,false,true,true,false,false,false,false,false,true,false] ?_ fun L360=>?_
  ·skip
   rintro ρ w362 ⟨xM,b359,rfl,N,H⟩
   refine zY [5,8] qh qm (jd rfl ?_ (jd rfl ?_ zZ))
   ·skip
    obtain ⟨G363,hg365,hn364,H⟩:=H.yj (α:=yLI) 2 rfl 0 rfl qj
    have hl370:=H.isLen 0 rfl
    refine o_head H 0 rfl s.qA.length underlying29 ti24 rfl rfl qf qf fun a366 G367 hG368 H=>?_
    have hl369:(bags.take s.qA.length).length=s.qA.length:=List.length_take_of_le qf
    refine ⟨H.pick [1,3,4,5] [2,3,4,5,6,7,8],(ro 8 rfl (oq (around_ok _ s (H.get 3 rfl).1 (H.get 4 rfl).1) H fun w372 H=>⟨H.pick [1,3,4,5] [2,3,4,5,6,7,8],?_⟩))⟩
    obtain ⟨ae374,ce374,Fe374,H⟩:=H.vX 1 rfl s.qA.length s.qA.length qf qf qf
    refine tI 9 rfl rfl rfl (H.pick [1,3,4,5] [4,5,6,7,8,9,10]) ?_
    refine ro 10 rfl (zl (.slice ae374 ((bags[s.qA.length]!).length) ce374) isAgg24 rfl (H.x8 1 rfl 0 rfl) (⟨H.pick [1,3,4,5] [4,5,6,7,8,9,10],(ro 11 rfl (zO [.slice xg t.qG.length xf,.slice a366 ((bags.take s.qA.length).length) c8,.slice ae374 ((bags[s.qA.length]!).length) ce374] [(0,.slice xg t.qG.length xf),(1,.slice a366 ((bags.take s.qA.length).length) c8),(2,.slice ae374 ((bags[s.qA.length]!).length) ce374)] (⟨H.pick [1,3,4,5] [4,5,6,7,8,9,10],(ro 12 rfl ?_)⟩)))⟩))
    obtain ⟨cp0,cp1,cp2,cp3⟩:=copy_pre (al:=t.qG) E_bags p8 p9.2 p12
    have sz378:=H.base.size
    refine oc (Xd _ (⟨t.qG,(bags.take s.qA.length),bags[s.qA.length]!⟩:qF) (H.get 7 rfl).1 (H.get 2 rfl).1 (H.get 0 rfl).1 qg qg qg qg) ?_
    rintro _ w376 ⟨ra375Alive,rn375Alive,rc375Alive,ra375Bags,rn375Bags,rc375Bags,rx375Bags,rF375Bags,ra375Around,rn375Around,rc375Around,rfl,M,K⟩ _
    replace N:=N.merge sz378 qm M
    replace H:=H.merge K M
    obtain rfl:=H.XC 0 rfl
    obtain rfl:=H.xK (α:=yLI) 1 rfl 0 rfl qj
    obtain rfl:=H.jm 2 rfl
    refine ⟨H.pick [4,6,7,8] [5,6,7,8,9,10,11],(ro 14 rfl (xG H 3 [.slice ra375Alive (((⟨t.qG,(bags.take s.qA.length),bags[s.qA.length]!⟩:qF).qG).length) rc375Alive,.slice ra375Bags (((⟨t.qG,(bags.take s.qA.length),bags[s.qA.length]!⟩:qF).qN).length) rc375Bags,.slice ra375Around (((⟨t.qG,(bags.take s.qA.length),bags[s.qA.length]!⟩:qF).qH).length) rc375Around] sizeOf31 fun w383 H=>⟨H.pick [4,6,7,8] [5,6,7,8,9,10,11],(xq qh (?_))⟩))⟩
    exact meet ⟨_,b359,ra375Alive,rc375Alive,ra375Bags,rc375Bags,ra375Around,rc375Around,rx375Bags,rF375Bags,uE4,N,H.pick [3,0,1,2,4,5,6,7,8] [0,6,7,8,9,10]⟩
   refine oq (around_ok _ s (H.get 1 rfl).1 (H.get 2 rfl).1) H fun w385 H=>⟨H.pick [1,3,4,5] [0,1,2,3,4,5,6],(tI 9 rfl rfl rfl (H.pick [1,3,4,5] [0,1,2,3,4,5,6]) ?_)⟩
   exact yc L315 ⟨_,b359,uE8,N,H⟩
  have S:=H.jo [0,2,3,4] [0,1,2,3,4,5,6]
  refine tF 0 rfl rfl S ?_
  refine tL 1 rfl rfl (fun _ h=>h.cell 2 rfl rfl) S ?_
  refine rtl 2 S ?_
  refine rt 3 _ (yh (cs:=(yS s qJ qI qV qQ)) isAgg27 sizeOf27 rfl (fun _ h=>qC (h.cells 3 rfl) 0 3)) S ?_
  refine rtl 6 S ?_
  refine rt 7 _ (yh (cs:=(yS s qJ qI qV qQ)) isAgg27 sizeOf27 rfl (fun _ h=>qC (h.cells 3 rfl) 0 3)) S ?_
  refine zY [4,13] qh qm (jd rfl ?_ (jd rfl ?_ zZ))
  ·skip
   refine oq (around_ok _ s (H.get 1 rfl).1 (H.get 2 rfl).1) H fun w388 H=>⟨H.pick [0,2,3,4] [0,1,2,3,4,5,6],(zY [5,8,13] qh qm (jd rfl ?_ (jd rfl ?_ (jd rfl ?_ zZ))))⟩
   ·skip
    obtain ⟨G390,hg392,hn391,H⟩:=H.yj (α:=yLI) 1 rfl 0 rfl qj
    have hl397:=H.isLen 0 rfl
    refine o_head H 0 rfl s.qA.length underlying29 ti24 rfl rfl qf qf fun a393 G394 hG395 H=>?_
    have hl396:(bags.take s.qA.length).length=s.qA.length:=List.length_take_of_le qf
    refine ⟨H.pick [0,2,3,4] [2,3,4,5,6,7,8],(zY [8,13] qh qm (jd rfl ?_ (jd rfl ?_ zZ)))⟩
    ·skip
     refine oq (around_ok _ s (H.get 3 rfl).1 (H.get 4 rfl).1) H fun w399 H=>⟨H.pick [0,2,3,4] [2,3,4,5,6,7,8],?_⟩
     obtain ⟨ae401,ce401,Fe401,H⟩:=H.vX 1 rfl s.qA.length s.qA.length qf qf qf
     refine tI 9 rfl rfl rfl (H.pick [0,2,3,4] [4,5,6,7,8,9,10]) ?_
     exact yc L296 ⟨_,a393,G394,G390,uE6,N,H.pick [0,1,2,3,4] [2,3,4,5,6,7,8,9,10]⟩
    refine xx H ti31 [yN,yN,yN] fun b402 w403 H=>⟨H.pick [1,3,4,5] [2,3,4,5,6,7,8],(ro 8 rfl (oq (around_ok _ s (H.get 3 rfl).1 (H.get 4 rfl).1) H fun w405 H=>⟨H.pick [1,3,4,5] [2,3,4,5,6,7,8],?_⟩))⟩
    obtain ⟨ae407,ce407,Fe407,H⟩:=H.vX 1 rfl s.qA.length s.qA.length qf qf qf
    refine tI 9 rfl rfl rfl (H.pick [1,3,4,5] [4,5,6,7,8,9,10]) ?_
    refine ro 10 rfl (zl (.slice ae407 ((bags[s.qA.length]!).length) ce407) isAgg24 rfl (H.x8 1 rfl 0 rfl) (⟨H.pick [1,3,4,5] [4,5,6,7,8,9,10],(ro 11 rfl (zO [.slice xg t.qG.length xf,.slice a393 ((bags.take s.qA.length).length) c8,.slice ae407 ((bags[s.qA.length]!).length) ce407] [(0,.slice xg t.qG.length xf),(1,.slice a393 ((bags.take s.qA.length).length) c8),(2,.slice ae407 ((bags[s.qA.length]!).length) ce407)] (⟨H.pick [1,3,4,5] [4,5,6,7,8,9,10],(ro 12 rfl ?_)⟩)))⟩))
    obtain ⟨cp0,cp1,cp2,cp3⟩:=copy_pre (al:=t.qG) E_bags p8 p9.2 p12
    have sz411:=H.base.size
    refine oc (Xd _ (⟨t.qG,(bags.take s.qA.length),bags[s.qA.length]!⟩:qF) (H.get 7 rfl).1 (H.get 2 rfl).1 (H.get 0 rfl).1 qg qg qg qg) ?_
    rintro _ w409 ⟨ra408Alive,rn408Alive,rc408Alive,ra408Bags,rn408Bags,rc408Bags,rx408Bags,rF408Bags,ra408Around,rn408Around,rc408Around,rfl,M,K⟩ _
    replace N:=N.merge sz411 qm M
    replace H:=H.merge K M
    obtain rfl:=H.XC 0 rfl
    obtain rfl:=H.xK (α:=yLI) 1 rfl 0 rfl qj
    obtain rfl:=H.jm 2 rfl
    refine ⟨H.pick [4,6,7,8] [5,6,7,8,9,10,11],(ro 14 rfl (xG H 3 [.slice ra408Alive (((⟨t.qG,(bags.take s.qA.length),bags[s.qA.length]!⟩:qF).qG).length) rc408Alive,.slice ra408Bags (((⟨t.qG,(bags.take s.qA.length),bags[s.qA.length]!⟩:qF).qN).length) rc408Bags,.slice ra408Around (((⟨t.qG,(bags.take s.qA.length),bags[s.qA.length]!⟩:qF).qH).length) rc408Around] sizeOf31 fun w416 H=>⟨H.pick [4,6,7,8] [5,6,7,8,9,10,11],(xq qh (?_))⟩))⟩
    exact meet ⟨_,b402,ra408Alive,rc408Alive,ra408Bags,rc408Bags,ra408Around,rc408Around,rx408Bags,rF408Bags,uE4,N,H.pick [3,0,1,2,4,5,6,7,8] [0,6,7,8,9,10]⟩
   ·skip
    refine oq (around_ok _ s (H.get 1 rfl).1 (H.get 2 rfl).1) H fun w418 H=>⟨H.pick [0,2,3,4] [0,1,2,3,4,5,6],(tI 9 rfl rfl rfl (H.pick [0,2,3,4] [0,1,2,3,4,5,6]) ?_)⟩
    refine zY [5,10,13] qh qm (jd rfl ?_ (jd rfl ?_ (jd rfl ?_ zZ)))
    ·skip
     obtain ⟨G420,hg422,hn421,H⟩:=H.yj (α:=yLI) 1 rfl 0 rfl qj
     have hl427:=H.isLen 0 rfl
     refine o_head H 0 rfl s.qA.length underlying29 ti24 rfl rfl qf qf fun a423 G424 hG425 H=>?_
     have hl426:(bags.take s.qA.length).length=s.qA.length:=List.length_take_of_le qf
     refine ⟨H.pick [0,2,3,4] [2,3,4,5,6,7,8],(yc L296 ⟨_,a423,G424,G420,uE6,N,H⟩)⟩
    ·skip
     obtain ⟨a428,c429,G430,s431,h432,H⟩:=H.jy 1 rfl 0 rfl (iv:=s.qA.length) s.qA.length qf qf
     refine zl (.slice a428 ((bags[s.qA.length]!).length) c429) isAgg24 rfl (h432) (⟨H.pick [0,2,3,4] [1,2,3,4,5,6,7],(zY [5,13] qh qm (jd rfl ?_ (jd rfl ?_ zZ)))⟩)
     ·skip
      obtain ⟨G433,hg435,hn434,H⟩:=H.yj (α:=yLI) 1 rfl 1 rfl qj
      have hl440:=H.isLen 0 rfl
      refine o_head H 0 rfl s.qA.length underlying29 ti24 rfl rfl qf qf fun a436 G437 hG438 H=>?_
      have hl439:(bags.take s.qA.length).length=s.qA.length:=List.length_take_of_le qf
      refine ⟨H.pick [0,2,3,4] [3,4,5,6,7,8,9],(yc L257 ⟨_,a428,c429,a436,G437,G430,uE6,N,H.pick [0,1,2,3,4] [0,2,3,4,5,6,7,8,9]⟩)⟩
     refine xx H ti31 [yN,yN,yN] fun b441 w442 H=>⟨H.pick [1,3,4,5] [1,2,3,4,5,6,7],(ro 5 rfl ?_)⟩
     obtain ⟨G443,hg445,hn444,H⟩:=H.yj (α:=yLI) 2 rfl 1 rfl qj
     have hl450:=H.isLen 0 rfl
     refine o_head H 0 rfl s.qA.length underlying29 ti24 rfl rfl qf qf fun a446 G447 hG448 H=>?_
     have hl449:(bags.take s.qA.length).length=s.qA.length:=List.length_take_of_le qf
     refine ⟨H.pick [1,3,4,5] [3,4,5,6,7,8,9],(ro 11 rfl (zO [.slice xg t.qG.length xf,.slice a446 ((bags.take s.qA.length).length) c8,.slice a428 ((bags[s.qA.length]!).length) c429] [(0,.slice xg t.qG.length xf),(1,.slice a446 ((bags.take s.qA.length).length) c8),(2,.slice a428 ((bags[s.qA.length]!).length) c429)] (⟨H.pick [1,3,4,5] [3,4,5,6,7,8,9],(ro 12 rfl ?_)⟩)))⟩
     obtain ⟨cp0,cp1,cp2,cp3⟩:=copy_pre (al:=t.qG) E_bags p8 p9.2 p12
     have sz454:=H.base.size
     refine oc (Xd _ (⟨t.qG,(bags.take s.qA.length),bags[s.qA.length]!⟩:qF) (H.get 6 rfl).1 (H.get 0 rfl).1 (H.get 2 rfl).1 qg qg qg qg) ?_
     rintro _ w452 ⟨ra451Alive,rn451Alive,rc451Alive,ra451Bags,rn451Bags,rc451Bags,rx451Bags,rF451Bags,ra451Around,rn451Around,rc451Around,rfl,M,K⟩ _
     replace N:=N.merge sz454 qm M
     replace H:=H.merge K M
     obtain rfl:=H.XC 0 rfl
     obtain rfl:=H.xK (α:=yLI) 1 rfl 0 rfl qj
     obtain rfl:=H.jm 2 rfl
     refine ⟨H.pick [4,6,7,8] [4,5,6,7,8,9,10],(ro 14 rfl (xG H 3 [.slice ra451Alive (((⟨t.qG,(bags.take s.qA.length),bags[s.qA.length]!⟩:qF).qG).length) rc451Alive,.slice ra451Bags (((⟨t.qG,(bags.take s.qA.length),bags[s.qA.length]!⟩:qF).qN).length) rc451Bags,.slice ra451Around (((⟨t.qG,(bags.take s.qA.length),bags[s.qA.length]!⟩:qF).qH).length) rc451Around] sizeOf31 fun w459 H=>⟨H.pick [4,6,7,8] [4,5,6,7,8,9,10],(xq qh (?_))⟩))⟩
     exact meet ⟨_,b441,ra451Alive,rc451Alive,ra451Bags,rc451Bags,ra451Around,rc451Around,rx451Bags,rF451Bags,uE4,N,H.pick [3,0,1,2,4,5,6,7,8] [0,5,6,7,8,9]⟩
    refine xx H ti31 [yN,yN,yN] fun b460 w461 H=>⟨H.pick [1,3,4,5] [0,1,2,3,4,5,6],(yc L315 ⟨_,b460,uE8,N,H⟩)⟩
   refine xx H ti31 [yN,yN,yN] fun b462 w463 H=>⟨H.pick [1,3,4,5] [0,1,2,3,4,5,6],(yc L360 ⟨_,b462,uE9,N,H⟩)⟩
  refine xx H ti31 [yN,yN,yN] fun b464 w465 H=>⟨H.pick [1,3,4,5] [0,1,2,3,4,5,6],(ro 4 rfl (oq (around_ok _ s (H.get 1 rfl).1 (H.get 2 rfl).1) H fun w467 H=>⟨H.pick [1,3,4,5] [0,1,2,3,4,5,6],(yc L360 ⟨_,b464,uE9,N,H⟩)⟩))⟩
 clear H N
 rintro ρ w469 ⟨xM,b241,ra242,rc243,ra244,rc245,ra246,rc247,rx248,rF249,rfl,N,H⟩
 refine t_n (zcc (sq 1 (oN rfl (sw (o_sub s.qA.length 1 rfl rfl qf (sq 1 (zjn (qY ?_))))))))
 obtain rfl:i=s.qB.length:=by omega
 have hl:=stepped_live p1 E_bags qf
 obtain ⟨s1,s2⟩:=step_tab E_bags
 rw [show (⟨t.qG,(bags.take s.qA.length),bags[s.qA.length]!⟩:qF)=xN s t counts from by rw [show bags.take s.qA.length=_ from s1,show bags[s.qA.length]! =_ from s2];rfl] at H
 refine zq ((fun Z0 Z1 Z2 Z3 Z4 Z5 Z6 Z7 Z8 Z9 Z10=>fun m' ρ w470=>∃ (xM:Env) (c:Int) (out_Alive:List Bool) (out_Bags:yLL) (vC:List Value) (zo:yLN) (j:Nat),ρ=upd (upd (upd (upd (upd xM 3 (pp b1 0)) 6 (pp b5 0)) 9 (.slice (aa b36 0) s.qA.length s.qA.length)) 13 (pp b241 0)) 14 (yI c)∧out_Alive=(xH s counts (xN s t counts) j).qG∧out_Bags=(xH s counts (xN s t counts) j).qN∧(c=(s.qA.length:Int) - 1 - j)∧(j+1≤s.qA.length)∧m' =(c:Int).toNat∧Fresh w.heap.size [zo]∧St w w470 [Z0,rr ra242 (((xN s t counts).qG).length) rc243 4 1 (out_Alive.map (Value.bool)),rr ra244 (((xN s t counts).qN).length) rc245 24 1 vC,Z1,Z2,Z3,Z4,Z5] [xB true zo vC out_Bags,Z6,Z7,Z8,Z9,Z10]) _ _ _ _ _ _ _ _ _ _ _) (((s.qA.length - 1):Int).toNat) ⟨_,s.qA.length - 1,(xN s t counts).qG,(xN s t counts).qN,rx248,rF249,0,uE5,(by rfl),(by rfl),qf,qf,rfl,N,H.pick [0,1,2,3,4,6,7,8] [0,1,2,3,4,5]⟩ ?_
 clear H N
 rintro m' ρ w471 ⟨xM,c,out_Alive,out_Bags,vC,zo,j,rfl,rfl,rfl,ic,jc,rfl,N,H⟩
 have hn_out_Alive:=H.XC 1 rfl
 have Vl:=H.xK (α:=yLI) 2 rfl 0 rfl qj
 have L:=meltDown_live (counts:=counts) p0 hl j qf
 have L1:=L.alive
 have L2:=L.root
 have L3:=L.bags.1
 rw [← y8 s counts (xN s t counts) j] at H
 refine zcc (sp (yI c) (sp (.bool (decide ((c:Int) > 0))) (zjn (cD rfl (fun h472=>?_) (fun h472=>?_)))))
 ·skip
  refine qW (t_n (xQ (qY (zcr (sq 1 (sp (yI c) (oI rfl rfl (oL rfl (H.rowBool 4 rfl (iv:=c) (i:=c.toNat) qf qf) (zjn (xE _ rfl (fun h473=>?_) (fun h473=>?_)))))))))))
  ·skip
   refine xU (sw (xI (yS s qJ qI qV qQ) isAgg27 sizeOf27 rfl (qC (H.cells 7 rfl) 0 3) (sp (yI c) (sw (zQ #[.agg #[yI s.xP,.slice qJ s.qA.length qI,.slice qV s.qB.length qQ],pp b241 0,yI c] rfl rfl call130 (en func130 ntmps130 ?_))))))
   refine zcr (sw (zS H (yS s qJ qI qV qQ) fun b474 w475 H=>zjn (xQ ?_)))
   refine jf rfl H fun H=>rt 0 _ (yh (cs:=(yS s qJ qI qV qQ)) isAgg27 sizeOf27 rfl (fun _ h=>qC (h.cells 0 rfl) 0 3)) H ?_
   refine rtl 1 H ?_
   refine rtl 2 H ?_
   refine rt 3 _ (yh (cs:=[.slice ra242 (((xN s t counts).qG).length) rc243,.slice ra244 (((xN s t counts).qN).length) rc245,.slice ra246 (((xH s counts (xN s t counts) j).qH).length) rc247]) isAgg31 sizeOf31 rfl (fun _ h=>qC (h.cells 1 rfl) 0 3)) H ?_
   refine rtp 4 (yI c) H ?_
   refine ro 5 rfl ?_
   obtain ⟨G477,hn478,h479⟩:=H.Vp 2 rfl
   obtain ⟨G480,hn481,h482⟩:=H.yQ (α:=yLI) 3 rfl 0 rfl qj
   obtain ⟨G483,hn484,h485⟩:=H.Qi 4 rfl
   refine oq (XY (by rw [← hn478,← hn481]) (parentNow_ok _ s (xH s counts (xN s t counts) j) c (H.get 1 rfl).1 (H.get 2 rfl).1 (hn478▸h479) (hn481▸h482) h485 qg qg qg)) H fun w487 H=>?_
   have pin:=Vq (s:=s) (t:=(xH s counts (xN s t counts) j)) (c:=c) p0.1 L2 qf qf
   refine ⟨H,(rtl 6 H ?_)⟩
   refine xq qh (t_n (xQ ?_))
   obtain ⟨b489,rfl⟩:=H.jW 3 rfl qf
   refine c_cut (fun ρ w492=>∃ (xM:Env) (xs490:List Value) (F491:yLN),ρ=upd (upd (upd xM 1 (pp b241 0)) 2 (yI c)) 3 (pp b474 0)∧Fresh w.heap.size [F491]∧St w w492 [.box b474 (yS s qJ qI qV qQ) 27,.box b241 [.slice ra242 (((xN s t counts).qG).length) rc243,.slice (aa b489 0) (((xN s t counts).qN).length) rc245,.slice ra246 (((xH s counts (xN s t counts) j).qH).length) rc247] 31,rr ra242 (((xN s t counts).qG).length) rc243 4 1 (((xH s counts (xN s t counts) j).qG).map (Value.bool)),rr (aa b489 0) (((xN s t counts).qN).length) rc245 24 1 xs490,rr ra246 (((xH s counts (xN s t counts) j).qH).length) rc247 2 1 (((xH s counts (xN s t counts) j).qH).map (Value.int .i64)),rr (aa b36 0) s.qA.length s.qA.length 4 1 ((Ql s counts s.qA.length s.qB.length).map (Value.bool)),.box b5 [yN,yN,yN] 31,.box b3 (yT t xg xf xF xA qU qR) 31,.box b1 (yS s qJ qI qV qQ) 27] [xB true F491 xs490 (((xH s counts (xN s t counts) j).qN).set ((xW s (xH s counts (xN s t counts) j) c).toNat) (jH (((xH s counts (xN s t counts) j).qN)[(xW s (xH s counts (xN s t counts) j) c).toNat]!) (((xH s counts (xN s t counts) j).qN)[c.toNat]!) 1)),sF false xu qJ qI s.qA,sF false zh qV qQ s.qB,sF false zu xg xf t.qG,sF false zU xF xA t.qN,sF false x9 qU qR t.qH]) ?_ ?_
   ·skip
    refine yK rfl H [0,1,2,4,5,6,7,8] fun H=>?_
    have S:=H.jo [0,1,2,4,5,6,7,8] [0,1,2,3,4,5]
    refine rtl 0 S ?_
    refine rtl 1 S ?_
    refine tF 2 rfl rfl S ?_
    refine tL 3 rfl rfl (fun _ h=>h.cell 1 rfl rfl) S ?_
    refine rtl 4 S ?_
    refine rtl 5 S ?_
    refine rtl 6 S ?_
    refine tF 7 rfl rfl S ?_
    refine tL 8 rfl rfl (fun _ h=>h.cell 1 rfl rfl) S ?_
    refine rtl 9 S ?_
    refine tI 10 rfl rfl rfl S ?_
    refine rtl 12 S ?_
    refine rtl 13 S ?_
    refine tF 14 rfl rfl S ?_
    refine tL 15 rfl rfl (fun _ h=>h.cell 1 rfl rfl) S ?_
    refine rtp 16 (yI c) S ?_
    refine tI 17 rfl rfl rfl S ?_
    refine zY [11,18] qh qm (jd rfl ?_ (jd rfl ?_ zZ))
    ·skip
     obtain ⟨a494,c495,G496,s497,h498,H⟩:=H.jy 3 rfl 0 rfl (iv:=xW s (xH s counts (xN s t counts) j) c) ((xW s (xH s counts (xN s t counts) j) c).toNat) qf qf
     refine zl (.slice a494 ((((xH s counts (xN s t counts) j).qN)[(xW s (xH s counts (xN s t counts) j) c).toNat]!).length) c495) isAgg24 rfl (h498) (⟨H.pick [0,1,2,4,5,6,7,8] [1,2,3,4,5,6],(ro 18 rfl ?_)⟩)
     obtain ⟨a499,c500,G501,s502,h503,H⟩:=H.jy 3 rfl 1 rfl (iv:=c) c.toNat qf qf
     refine zl (.slice a499 ((((xH s counts (xN s t counts) j).qN)[c.toNat]!).length) c500) isAgg24 rfl (h503) (⟨H.pick [0,1,2,4,5,6,7,8] [2,3,4,5,6,7],(ro 19 rfl ?_)⟩)
     obtain ⟨u1,u2,u4⟩:=L.rows p0 (bnd_le qf) (p:=(xW s (xH s counts (xN s t counts) j) c).toNat) (c:=c.toNat) qf qf
     have sz504:=H.base.size
     have lt505:=H.ltN (L:=[zo]) [2]
     refine oc (plus_ok _ (((xH s counts (xN s t counts) j).qN)[(xW s (xH s counts (xN s t counts) j) c).toNat]!) (((xH s counts (xN s t counts) j).qN)[c.toNat]!) 1 (H.get 1 rfl).1 (H.get 0 rfl).1 qg qg qg) ?_
     rintro v509 w507 r509 x508
     replace H:=H.zC x508 r509
     obtain ⟨a510,c511,rfl,hc512,hm513⟩:=H.jq 0 rfl
     refine ⟨H.pick [1,2,3,5,6,7,8,9] [2,3,4,5,6,7],(tI 20 rfl rfl rfl (H.pick [1,2,3,5,6,7,8,9] [2,3,4,5,6,7]) ?_)⟩
     refine ro 21 rfl ?_
     obtain ⟨G515,N,hn516,H⟩:=H.zG 0 rfl N (H.vS [2])
     refine jE true H 4 rfl 3 rfl (.slice a510 ((jH (((xH s counts (xN s t counts) j).qN)[(xW s (xH s counts (xN s t counts) j) c).toNat]!) (((xH s counts (xN s t counts) j).qN)[c.toNat]!) 1).length) c511) 0 rfl rfl sizeOf24 rfl rfl (i:=((xW s (xH s counts (xN s t counts) j) c).toNat)) qf qf qm fun w514 xs517 F518 hs519 H=>?_
     replace N:Fresh w.heap.size [F518]:=(N.pick [1,0]).repl hs519
     refine ⟨H.pick [1,2,3,5,6,7,8,9] [4,5,6,7,8,9],(xq qh ((meet ⟨_,xs517,F518,uE3,N,H.pick [1,2,3,4,5,6,7,8,9] [0,5,6,7,8,9]⟩)))⟩
    obtain ⟨a520,c521,G522,s523,h524,H⟩:=H.jy 3 rfl 0 rfl (iv:=c) c.toNat qf qf
    refine zl (.slice a520 ((((xH s counts (xN s t counts) j).qN)[c.toNat]!).length) c521) isAgg24 rfl (h524) (⟨H.pick [0,1,2,4,5,6,7,8] [1,2,3,4,5,6],(ro 11 rfl ?_)⟩)
    obtain ⟨a525,c526,G527,s528,h529,H⟩:=H.jy 3 rfl 1 rfl (iv:=xW s (xH s counts (xN s t counts) j) c) ((xW s (xH s counts (xN s t counts) j) c).toNat) qf qf
    refine zl (.slice a525 ((((xH s counts (xN s t counts) j).qN)[(xW s (xH s counts (xN s t counts) j) c).toNat]!).length) c526) isAgg24 rfl (h529) (⟨H.pick [0,1,2,4,5,6,7,8] [2,3,4,5,6,7],(ro 19 rfl ?_)⟩)
    obtain ⟨u1,u2,u4⟩:=L.rows p0 (bnd_le qf) (p:=(xW s (xH s counts (xN s t counts) j) c).toNat) (c:=c.toNat) qf qf
    have sz530:=H.base.size
    have lt531:=H.ltN (L:=[zo]) [2]
    refine oc (plus_ok _ (((xH s counts (xN s t counts) j).qN)[(xW s (xH s counts (xN s t counts) j) c).toNat]!) (((xH s counts (xN s t counts) j).qN)[c.toNat]!) 1 (H.get 0 rfl).1 (H.get 1 rfl).1 qg qg qg) ?_
    rintro v535 w533 r535 x534
    replace H:=H.zC x534 r535
    obtain ⟨a536,c537,rfl,hc538,hm539⟩:=H.jq 0 rfl
    refine ⟨H.pick [1,2,3,5,6,7,8,9] [2,3,4,5,6,7],(tI 20 rfl rfl rfl (H.pick [1,2,3,5,6,7,8,9] [2,3,4,5,6,7]) ?_)⟩
    refine ro 21 rfl ?_
    obtain ⟨G541,N,hn542,H⟩:=H.zG 0 rfl N (H.vS [2])
    refine jE true H 4 rfl 3 rfl (.slice a536 ((jH (((xH s counts (xN s t counts) j).qN)[(xW s (xH s counts (xN s t counts) j) c).toNat]!) (((xH s counts (xN s t counts) j).qN)[c.toNat]!) 1).length) c537) 0 rfl rfl sizeOf24 rfl rfl (i:=((xW s (xH s counts (xN s t counts) j) c).toNat)) qf qf qm fun w540 xs543 F544 hs545 H=>?_
    replace N:Fresh w.heap.size [F544]:=(N.pick [1,0]).repl hs545
    refine ⟨H.pick [1,2,3,5,6,7,8,9] [4,5,6,7,8,9],(xq qh ((meet ⟨_,xs543,F544,uE3,N,H.pick [1,2,3,4,5,6,7,8,9] [0,5,6,7,8,9]⟩)))⟩
   clear H N
   rintro ρ w546 ⟨xM,xs490,F491,rfl,N,H⟩
   refine t_n (xQ ?_)
   refine yK rfl H [0,1,2,4,5,6,7,8] fun H=>?_
   have S:=H.jo [0,1,2,4,5,6,7,8] [0,1,2,3,4,5]
   refine rtl 0 S ?_
   refine rtl 1 S ?_
   refine tF 2 rfl rfl S ?_
   refine tL 3 rfl rfl (fun _ h=>h.cell 1 rfl rfl) S ?_
   refine rtp 4 (yI c) S ?_
   refine tF 5 rfl rfl S ?_
   refine tL 6 rfl rfl (fun _ h=>h.cell 0 rfl rfl) S ?_
   refine ro 7 rfl (vM H underlying24 ti2 s.xP.toNat rfl rfl qf qf qf fun b548 w549 H=>⟨H.pick [1,2,3,5,6,7,8,9] [0,1,2,3,4,5],(tI 8 rfl rfl rfl (H.pick [1,2,3,5,6,7,8,9] [0,1,2,3,4,5]) ?_)⟩)
   refine ro 9 rfl ?_
   obtain ⟨G551,N,hn552,H⟩:=H.zG 0 rfl N (H.vS [0])
   refine jE true H 4 rfl 1 rfl (.slice (aa b548 0) s.xP.toNat s.xP.toNat) 0 rfl rfl sizeOf24 rfl rfl (i:=c.toNat) qf qf qm fun w550 xs553 F554 hs555 H=>?_
   replace N:Fresh w.heap.size [F554]:=(N.pick [1,0]).repl hs555
   refine ⟨H.pick [1,2,3,5,6,7,8,9] [2,3,4,5,6,7],(xq qh (t_n (xU (sq 2 (oF rfl (oL rfl (H.cell 2 rfl rfl) (sp (yI c) ?_)))))))⟩
   obtain ⟨b556,rfl⟩:=H.jW 3 rfl qf
   refine oI rfl rfl (sw (Qs H 3 rfl false sizeOf4 rfl rfl (i:=c.toNat) qf qf fun w557 H=>xY (ret0 rfl ⟨_,rfl,?_⟩)))
   replace H:=H.erases [1,0]
   dsimp only [vV,List.eraseIdx] at H
   refine xY (b_n (t_n (xU (sp (yI c) (sw (o_sub c 1 rfl rfl qf (sq 1 (xY ?_))))))))
   rw [y8] at H
   refine xe (m' :=((c - 1):Int).toNat) qf ⟨_,_,_,_,_,_,j+1,uE5,?_,?_,?_,?_,rfl,N,H.pick [0,1,2,3,4,5,6,7] [0,3,4,5,6,7]⟩
   · first | (rw [meltDown_yesL (c:=c) ‹_› qf qf rfl ic];rfl) | rw [meltDown_noL (c:=c) ‹_› qf qf rfl ic]
   · first | (rw [meltDown_yesL (c:=c) ‹_› qf qf rfl ic];rfl) | rw [meltDown_noL (c:=c) ‹_› qf qf rfl ic]
   · omega
   · omega
  refine qW (b_n (t_n (xU (sp (yI c) (sw (o_sub c 1 rfl rfl qf (sq 1 (xY ?_))))))))
  rw [y8] at H
  refine xe (m' :=((c - 1):Int).toNat) qf ⟨_,_,_,_,_,_,j+1,uE5,?_,?_,?_,?_,rfl,N,H⟩
  · first | (rw [meltDown_yesL (c:=c) ‹_› qf qf rfl ic];rfl) | rw [meltDown_noL (c:=c) ‹_› qf qf rfl ic]
  · first | (rw [meltDown_yesL (c:=c) ‹_› qf qf rfl ic];rfl) | rw [meltDown_noL (c:=c) ‹_› qf qf rfl ic]
  · omega
  · omega
 refine zx4 (zcr (sw (xI (yS s qJ qI qV qQ) isAgg27 sizeOf27 rfl (qC (H.cells 7 rfl) 0 3) (sw (xI [.slice ra242 (((xN s t counts).qG).length) rc243,.slice ra244 (((xN s t counts).qN).length) rc245,.slice ra246 (((xH s counts (xN s t counts) j).qH).length) rc247] isAgg31 sizeOf31 rfl (qC (H.cells 0 rfl) 0 3) ?_)))))
 refine sw (zQ #[.agg #[yI s.xP,.slice qJ s.qA.length qI,.slice qV s.qB.length qQ],.agg #[.slice ra242 (((xN s t counts).qG).length) rc243,.slice ra244 (((xN s t counts).qN).length) rc245,.slice ra246 (((xH s counts (xN s t counts) j).qH).length) rc247]] rfl rfl call131 (en func131 ntmps131 ?_))
 refine zcr (sw (zS H (yS s qJ qI qV qQ) fun b558 w559 H=>sw (zS H [.slice ra242 (((xN s t counts).qG).length) rc243,.slice ra244 (((xN s t counts).qN).length) rc245,.slice ra246 (((xH s counts (xN s t counts) j).qH).length) rc247] fun b560 w561 H=>sw (xx H ti31 [yN,yN,yN] fun b562 w563 H=>sp (yI 0) (zjcc ?_)))))
 refine sw (xI (yS s qJ qI qV qQ) isAgg27 sizeOf27 rfl (qC (H.cells 2 rfl) 0 3) (sw (xI [.slice ra242 (((xN s t counts).qG).length) rc243,.slice ra244 (((xN s t counts).qN).length) rc245,.slice ra246 (((xH s counts (xN s t counts) j).qH).length) rc247] isAgg31 sizeOf31 rfl (qC (H.cells 1 rfl) 0 3) ?_)))
 obtain ⟨G564,hn565,h566⟩:=H.Vp 4 rfl
 obtain ⟨G567,hn568,h569⟩:=H.yQ (α:=yLI) 5 rfl 0 rfl qj
 obtain ⟨G570,hn571,h572⟩:=H.Qi 6 rfl
 refine sw (oq (XY (by rw [← hn565,← hn568]) (QZ _ s (xH s counts (xN s t counts) j) (H.get 1 rfl).1 (H.get 2 rfl).1 (hn565▸h566) (hn568▸h569) h572)) H fun w574 H=>sq 1 (zjn (cQ rfl (fun h576=>?_) (fun h576=>?_))))
 ·skip
  refine zcr (sw (zO [yN,yN,yN] [] (sw (xG H 0 [yN,yN,yN] sizeOf31 fun w577 H=>sp (yI 3) (zjr (t_r (retC2 H 0 rfl (yI 3) rfl isAgg31 sizeOf31 rfl rfl ⟨_,rfl,?_⟩)))))))
  replace H:=H.erases [2,1,0]
  dsimp only [vV,List.eraseIdx] at H
  refine sq 1 (sp (yI 3) (sw (xG H 5 [yN,yN,yN] sizeOf31 fun w578 H=>sp (yI 3) (zjr ?_))))
  replace H:=H.nilRowB 4
  replace H:=H.nilRow 24 1
  replace H:=H.zW (α:=yLI)
  replace H:=H.nilRowI 2
  refine retC2 H 8 rfl (yI 3) rfl isAgg31 sizeOf31 rfl rfl ⟨_,rfl,?_,H.base⟩
  rw [stepBy_yes p3,stepRes,show je s - 1=j by omega,told_no (fun h=>‹¬ (vK s∧_)› ⟨p0,h⟩)]
  exact ⟨none,0,0,none,0,0,[],[],none,0,0,rfl,(N.emp.pick [0]),H.pick [2,1,0] [0]⟩
 refine qW (t_n (zcr (sw (xI [.slice ra242 (((xN s t counts).qG).length) rc243,.slice ra244 (((xN s t counts).qN).length) rc245,.slice ra246 (((xH s counts (xN s t counts) j).qH).length) rc247] isAgg31 sizeOf31 rfl (qC (H.cells 1 rfl) 0 3) (sw (xG H 0 [.slice ra242 (((xN s t counts).qG).length) rc243,.slice ra244 (((xN s t counts).qN).length) rc245,.slice ra246 (((xH s counts (xN s t counts) j).qH).length) rc247] sizeOf31 fun w579 H=>sp (yI 0) (zjr (retC2 H 0 rfl (yI 0) rfl isAgg31 sizeOf31 rfl rfl ⟨_,rfl,?_⟩))))))))
 replace H:=H.erases [2,1,0]
 dsimp only [vV,List.eraseIdx] at H
 refine sq 1 (sp (yI 0) (sw (xG H 5 [.slice ra242 (((xN s t counts).qG).length) rc243,.slice ra244 (((xN s t counts).qN).length) rc245,.slice ra246 (((xH s counts (xN s t counts) j).qH).length) rc247] sizeOf31 fun w580 H=>sp (yI 0) (zjr (retC2 H 5 rfl (yI 0) rfl isAgg31 sizeOf31 rfl rfl ⟨_,rfl,?_,H.base⟩)))))
 rw [stepBy_yes p3,stepRes,show je s - 1=j by omega,told_yes (‹vK s∧_›:vK s∧_).2]
 exact ⟨ra242,((xN s t counts).qG).length,rc243,ra244,((xN s t counts).qN).length,rc245,vC,zo,ra246,((xH s counts (xN s t counts) j).qH).length,rc247,rfl,N,H.pick [1,2,3] [0]⟩
end
section

class CntTot (α:Type) [Mark α] [Tot α]:Prop where
  le:∀ x:α,cnt x≤10+10 * tot x
instance:CntTot Int:=⟨fun _=>by show 1≤_;omega⟩
instance:CntTot Bool:=⟨fun _=>by show 1≤_;omega⟩
section
variable {α : Type} [Mark α] [Tot α] [Inhabited α] [CntTot α]
theorem cntTo_tot (l:List α):∀ k,cntTo l k≤10 * k+10 * totTo l k
  | 0=>Nat.zero_le _
  | k+1=>by
    have h1:=cntTo_tot l k
    have h2:=CntTot.le (l[k]!)
    rw [cntTo_succ,totTo_succ]
    omega
theorem cntL_tot (l:List α):cnt l≤10 * tot l:=by
  have:=cntTo_tot l l.length
  rw [cnt_list,tot_list]
  omega
instance:CntTot (List α):=⟨fun l=>by have:=cntL_tot l;omega⟩
end
instance:CntTot Xy:=⟨fun x=>by
  have h1:=cntL_tot x.QG
  have h2:=tot_IntoD x
  have h3:=cnt_IntoD x
  omega⟩
instance:CntTot jw:=⟨fun x=>by
  have h1:=cntL_tot x.zB
  have h2:=cntL_tot x.vJ
  have h3:=cntL_tot x.vP
  have h4:=cntL_tot x.vT
  have h5:=cntL_tot x.yP
  have h6:=cntL_tot x.xh
  have h7:=tot_RuleD x
  have h8:=cnt_RuleD x
  omega⟩
theorem anyTo_mem {l:yLI} {x:Int}:anyTo (fun k=>x == l[k]!) l.length=dec (x∈l):=by
  refine dec_eq ?_
  rw [anyTo_iff]
  constructor
  · rintro ⟨k,h,h1⟩
    rw [beq_iff_eq,getElem!_pos l k h] at h1
    rw [h1];exact List.getElem_mem h
  · intro h
    obtain ⟨k,hk,e⟩:=List.mem_iff_getElem.1 h
    exact ⟨k,hk,by rw [beq_iff_eq,getElem!_pos l k hk,e]⟩
theorem mem_appls {s:qE} {t:qF} {i:Nat} (hi:i < s.qB.length):(i:Int)∈appls s t↔Appl s t i:=by
  unfold appls
  rw [mem_applL]
  constructor
  · rintro ⟨_,_,h⟩;simpa using h
  · intro h;exact ⟨Int.natCast_nonneg i,by simpa using hi,by simpa using h⟩
def minTo (l:yLI):Nat→Int
  | 0=>l[0]!
  | k+1=>if k=0 then l[0]! else min (minTo l k) (l[k]!)
theorem minTo_one (l:yLI):minTo l 1=l[0]! :=rfl
theorem minTo_succ {l:yLI} {k:Nat} (h:1≤k):minTo l (k+1)=min (minTo l k) (l[k]!):=by rw [minTo,if_neg qf]
def minL (l:yLI):Int:=minTo l l.length
theorem minTo_neg {l:yLI}:∀ {k:Nat},1≤k→(minTo l k < 0↔∃ j,j < k∧l[j]! < 0)
  | 1,_=>by
    rw [minTo_one]
    constructor
    · intro h;exact ⟨0,by omega,h⟩
    · rintro ⟨j,h,h1⟩;obtain rfl:j=0:=by omega
      exact h1
  | k+2,_=>by
    have ih:=minTo_neg (l:=l) (k:=k+1) qf
    rw [minTo_succ qf]
    constructor
    · intro h
      by_cases h1:minTo l (k+1) < 0
      · obtain ⟨j,h2,h3⟩:=ih.1 h1;exact ⟨j,by omega,h3⟩
      · exact ⟨k+1,by omega,by omega⟩
    · rintro ⟨j,h,h1⟩
      by_cases e:j=k+1
      · subst e;omega
      · have:=ih.2 ⟨j,by omega,h1⟩;omega
theorem minL_neg {l:yLI} (h:1≤l.length):minL l < 0↔¬ ∀ k,k < l.length→0≤l[k]! :=by
  unfold minL
  rw [minTo_neg h]
  constructor
  · rintro ⟨j,h1,h2⟩ h3;have:=h3 j h1;omega
  · intro h1
    apply Classical.byContradiction
    intro h2
    refine h1 fun k hk=>?_
    have:¬ l[k]! < 0:=fun h3=>h2 ⟨k,hk,h3⟩
    omega
open Classical in
noncomputable def XX (s:qE) (t:qF) (counts:yLI):Int:=if ¬ (vK s∧xX s t) then 1 else if ¬ CntOk s counts then 2 else 0
theorem ask_1 {s:qE} {t:qF} {counts:yLI} (h:¬ (vK s∧xX s t)):XX s t counts=1:=by rw [XX,if_pos h]
theorem ask_2 {s:qE} {t:qF} {counts:yLI} (h:vK s∧xX s t) (h1:¬ CntOk s counts):XX s t counts=2:=by rw [XX,if_neg (by simpa using h),if_pos h1]
theorem ask_0 {s:qE} {t:qF} {counts:yLI} (h:vK s∧xX s t) (h1:CntOk s counts):XX s t counts=0:=by rw [XX,if_neg (by simpa using h),if_neg (by simpa using h1)]
theorem ask_ok {s:qE} {t:qF} {counts:yLI} (h:XX s t counts=0):vK s∧xX s t∧CntOk s counts:=by
  by_cases h1:vK s∧xX s t
  · by_cases h2:CntOk s counts
    · exact ⟨h1.1,h1.2,h2⟩
    · rw [ask_2 h1 h2] at h;omega
  · rw [ask_1 h1] at h;omega
def single (s:qE) (i:Nat):yLI:=(List.replicate s.qB.length (0:Int)).set i 1
end
section
open Go.Proofs.Tryz
open Go.RowKit
set_option linter.unusedVariables false
set_option linter.unusedSimpArgs false
set_option maxRecDepth 100000
set_option maxHeartbeats 4000000
variable {cl : Nat}
theorem countsCode1_ok (w:World) (n:Int):Calls Tryz.prog 119 #[yI n] w (Ret (fun v w' =>v=.bool (!isCnt n)) w):=by
 refine en func119 ntmps119 ?_
 have H:=St.start w
 have N:=Fresh.nil w.heap.size
 refine zcr (sp (.bool false) (zjc (sp (yI n) (sw (oq (Xj w n 0 1000) H fun w1 H=>sq 2 (zjr (ret1 (.bool (!(inR n 0 1000))) rfl rfl ⟨_,rfl,?_,H.base⟩)))))))
 rfl

theorem countsCode_ok (w:World) (s:qE) (t:qF) (counts:yLI) {qJ:yOA} {qI:Nat} {xu:yLN} {qV:yOA} {qQ:Nat} {zh:yLN} {xg:yOA} {xf:Nat} {zu:yLN} {xF:yOA} {xA:Nat} {zU:yLN} {qU:yOA} {qR:Nat} {x9:yLN} {acounts:yOA} {ccounts:Nat} {Fcounts:yLN} (qX:qO.rep w xu [.slice qJ s.qA.length qI] s.qA) (xn:qO.rep w zh [.slice qV s.qB.length qQ] s.qB) (xR:qO.rep w zu [.slice xg t.qG.length xf] t.qG) (zn:qO.rep w zU [.slice xF t.qN.length xA] t.qN) (xy:qO.rep w x9 [.slice qU t.qH.length qR] t.qH) (hcounts:qO.rep w Fcounts [.slice acounts counts.length ccounts] counts):Calls Tryz.prog 70 #[.agg #[yI s.xP,.slice qJ s.qA.length qI,.slice qV s.qB.length qQ],.agg #[.slice xg t.qG.length xf,.slice xF t.qN.length xA,.slice qU t.qH.length qR],.slice acounts counts.length ccounts] w (Ret (fun v w' =>v=yI (XX s t counts)) w):=by
 refine en func70 ntmps70 ?_
 have H:=((((((St.start w).arg hcounts).arg xy).arg zn).arg xR).arg xn).arg qX
 have zN:=qM qX
 have vW:=qM xn
 have jO:=qM xR
 have yH:=qM zn
 have jg:=qM xy
 have nhcounts:=qM hcounts
 clear qX xn xR zn xy hcounts
 have N:=Fresh.nil w.heap.size
 refine zcr (sw (zS H (yS s qJ qI qV qQ) fun b1 w2 H=>sw (zS H (yT t xg xf xF xA qU qR) fun b3 w4 H=>sp (yI 0) (zjn (xQ (qY (zcr (sw (xI (yS s qJ qI qV qQ) isAgg27 sizeOf27 rfl (qC (H.cells 1 rfl) 0 3) ?_)))))))))
 refine sw (xI (yT t xg xf xF xA qU qR) isAgg31 sizeOf31 rfl (qC (H.cells 0 rfl) 0 3) (sw (oq (QZ _ s t (H.get 0 rfl).1 (H.get 1 rfl).1 (H.get 2 rfl).1 (H.get 3 rfl).1 (H.get 4 rfl).1) H fun w6 H=>sq 2 (zjn (cQ rfl (fun h8=>?_) (fun h8=>?_))))))
 ·skip
  refine zcr (sp (yI 1) (zjr (b_r (t_r (ret1 (yI 1) rfl rfl ⟨_,rfl,?_,H.base⟩)))))
  rw [ask_1 ‹_›]
 refine zcr (sq 1 (oN rfl (oF rfl (oL rfl (H.cell 1 rfl rfl) (oN rfl (sp (.bool ((counts.length:Int) != s.qB.length)) (sp (.bool ((counts.length:Int) != s.qB.length)) ?_)))))))
 cases h9:((counts.length:Int) != s.qB.length)
 ·skip
  replace h9:=xm h9
  refine qL 19 rfl rfl (sq 1 (qL 19 rfl rfl (sw (oq (containsFuncI_ok _ counts 119 #[] (fun k=> !isCnt (counts[k]!)) (H.get 5 rfl).1 call119 (fun k w' hk e=>countsCode1_ok w' _)) H fun w10 H=>sq 2 (zjn (xE _ rfl (fun h12=>?_) (fun h12=>?_)))))))
  ·skip
   refine zcr (sp (yI 2) (zjr (b_r (t_r (ret1 (yI 2) rfl rfl ⟨_,rfl,?_,H.base⟩)))))
   rw [ask_2 ‹vK s∧xX s t› (fun h=>by first | (have:=h.1;omega) | (have z:=anyCnt_iff.2 h.2;rw [‹anyTo _ _=true›] at z;cases z))]
  refine qW (b_n (t_n (zcr (sp (yI 0) (zjr (ret1 (yI 0) rfl rfl ⟨_,rfl,?_,H.base⟩))))))
  rw [ask_0 ‹vK s∧xX s t› ⟨by omega,anyCnt_iff.1 (by rw [‹anyTo _ _=false›];rfl)⟩]
 replace h9:=bne_iff_ne.1 h9
 refine xZ [20,21] (sp (.bool true) (sp (.bool true) (zjn (xE true rfl (fun _=>zcr (sp (yI 2) (zjr (b_r (t_r (ret1 (yI 2) rfl rfl ⟨_,rfl,?_,H.base⟩)))))) (fun h=>absurd h qj)))))
 rw [ask_2 ‹vK s∧xX s t› (fun h=>by first | (have:=h.1;omega) | (have z:=anyCnt_iff.2 h.2;rw [‹anyTo _ _=true›] at z;cases z))]

theorem indexI_ok (w:World) (l:yLI) (x:Int) {al:yOA} {Fl:yLN} (hl:qO.rep w Fl [.slice al l.length cl] l):Calls Tryz.prog 197 #[.slice al l.length cl,yI x] w (Ret (fun v w' =>v=yI (firstIdx (fun k=>x == l[k]!) l.length)) w):=by
 refine en func197 ntmps197 ?_
 have H:=(St.start w).arg hl
 have nhl:=qM hl
 clear hl
 have N:=Fresh.nil w.heap.size
 refine zcr (sp (yI 0) (zjcc (sq 1 (oN rfl (sp (yI 0) (zjn (qY ?_)))))))
 refine zq ((fun Z0=>fun m' ρ w1=>∃ (xM:Env) (i:Nat),ρ=upd (upd (upd (upd xM 0 (.slice al l.length cl)) 1 (yI x)) 7 (yI l.length)) 8 (yI i)∧((i:Int)≤l.length)∧(noneTo (fun k=>x == l[k]!) i)∧m' =(l.length - (i:Int)).toNat∧Fresh w.heap.size []∧St w w1 [] [Z0]) _) ((l.length - (0:Int)).toNat) ⟨_,0,uE4,qf,qx,rfl,N,H⟩ ?_
 clear H N
 rintro m' ρ w2 ⟨xM,i,rfl,i0,i1,rfl,N,H⟩
 refine zcr (sq 1 (zjn (xQ (cD rfl (fun h3=>?_) (fun h3=>?_)))))
 ·skip
  refine qW (t_n (xQ (qY (zcr (sp (yI i) (sp (yI i) (zjc (sp (yI x) (sq 1 (sp (yI i) ?_))))))))))
  obtain ⟨b4,o5,rfl⟩:=H.addr 0 rfl qf
  refine oI rfl rfl (oL rfl (H.zH 0 rfl i qf) (sq 1 (zjn (cE rfl (fun h7=>?_) (fun h7=>?_)))))
  ·skip
   refine zcr (sp (yI i) (sp (yI i) (zjr (zr5 (ret1 (yI i) rfl rfl ⟨_,rfl,?_,H.base⟩)))))
   rw [QB (k:=i) qf i1 (by simpa using ‹x=l[i]!›)]
  refine qW (b_n (t_n (xU (sw (zA i 1 rfl rfl qf (sq 1 (xY (xe (m' :=(l.length - ((i+1):Int)).toNat) qf ⟨_,i+1,uE4,?_,?_,rfl,N,H⟩))))))))
  · omega
  · exact noneTo_succ ‹_› (by simpa using ‹x≠l[i]!›)
 refine zx4 (zcr (sq 1 (zjr (ret1 (yI (-1)) rfl rfl ⟨_,rfl,?_,H.base⟩))))
 rw [firstIdx_none (fun j hj=>i1 j qf)]

theorem containsI_ok (w:World) (l:yLI) (x:Int) {al:yOA} {Fl:yLN} (hl:qO.rep w Fl [.slice al l.length cl] l):Calls Tryz.prog 163 #[.slice al l.length cl,yI x] w (Ret (fun v w' =>v=.bool (dec ((x:Int)∈l))) w):=by
 refine en func163 ntmps163 ?_
 have H:=(St.start w).arg hl
 have nhl:=qM hl
 clear hl
 have N:=Fresh.nil w.heap.size
 refine zcr (sp (.bool false) (zjc (sq 1 (sp (yI x) (sw (oq (indexI_ok _ l x (H.get 0 rfl).1) H fun w2 H=>sp (.bool (decide ((firstIdx (fun k=>x == l[k]!) l.length:Int)≥0))) (sp (.bool (decide ((firstIdx (fun k=>x == l[k]!) l.length:Int)≥0))) (zjr (ret1 (.bool (decide ((firstIdx (fun k=>x == l[k]!) l.length:Int)≥0))) rfl rfl ⟨_,rfl,?_,H.base⟩)))))))))
 rw [anyTo_first,anyTo_mem]

theorem minI_ok (w:World) (l:yLI) {al:yOA} {Fl:yLN} (hl:qO.rep w Fl [.slice al l.length cl] l) (p0:1≤l.length):Calls Tryz.prog 48 #[.slice al l.length cl] w (Ret (fun v w' =>v=yI (minL l)) w):=by
 refine en func48 ntmps48 ?_
 have H:=(St.start w).arg hl
 have nhl:=qM hl
 clear hl
 have N:=Fresh.nil w.heap.size
 refine zcr (sp (yI 0) (zjcc (sq 1 (oN rfl (sp (.bool (decide ((l.length:Int) < 1))) (zjn (cD rfl (fun h1=>?_) (fun h1=>?_))))))))
 ·skip
  exfalso;omega
 refine qW (t_n (zcr (sq 1 ?_)))
 obtain ⟨b2,o3,rfl⟩:=H.addr 0 rfl qf
 refine oI rfl rfl (oL rfl (H.zH 0 rfl 0 qf) (sq 1 (zjcc (sp (yI 1) (zjn (qY ?_))))))
 refine zq ((fun Z0=>fun m' ρ w5=>∃ (xM:Env) (m:Int) (i:Nat),ρ=upd (upd (upd xM 0 (.slice (aa b2 o3) l.length cl)) 3 (yI m)) 4 (yI i)∧m=minTo l i∧((i:Int)≤l.length)∧(1≤i)∧m' =(l.length - (i:Int)).toNat∧Fresh w.heap.size []∧St w w5 [] [Z0]) _) ((l.length - (1:Int)).toNat) ⟨_,l[0]!,1,uE3,(by exact (minTo_one l).symm),qf,qf,rfl,N,H⟩ ?_
 clear H N
 rintro m' ρ w6 ⟨xM,m,i,rfl,rfl,i0,i2,rfl,N,H⟩
 refine zcc (sp (yI i) (sq 1 (oN rfl (sq 1 (zjn (cD rfl (fun h7=>?_) (fun h7=>?_)))))))
 ·skip
  refine qW (t_n (xQ (qY (xU (sq 2 (sp (yI i) (oI rfl rfl (oL rfl (H.zH 0 rfl i qf) (sw (o_min (minTo l i) (l[i]!) rfl rfl (sq 1 (xY (b_n (t_n (xU (sp (yI i) (sw (zA i 1 rfl rfl qf (sq 1 (xY (xe (m' :=(l.length - ((i+1):Int)).toNat) qf ⟨_,_,i+1,uE3,?_,?_,?_,rfl,N,H⟩)))))))))))))))))))))
  · exact (minTo_succ qf).symm
  · omega
  · omega
 refine zx4 (zcr (sq 2 (zjr (ret1 (yI (minTo l i)) rfl rfl ⟨_,rfl,?_,H.base⟩))))
 obtain rfl:i=l.length:=by omega
 rfl
end
section

theorem most_of {s:qE} {t:qF} {P:Nat→Prop} (h:∀ q,q < (appls s t).length→P ((appls s t)[q]!).toNat):∀ i,i < s.qB.length→Appl s t i→P i:=by
  intro i hi ha
  obtain ⟨q,hq,e⟩:=List.mem_iff_getElem.1 ((mem_appls hi).2 ha)
  have:=h q hq
  rwa [getElem!_pos _ q hq,e] at this
theorem appls_in {s:qE} {t:qF} {q:Nat} (hq:q < (appls s t).length):0≤(appls s t)[q]! ∧((appls s t)[q]!).toNat < s.qB.length∧Appl s t ((appls s t)[q]!).toNat:=by
  have h:(appls s t)[q]! ∈appls s t:=by rw [getElem!_pos _ q hq];exact List.getElem_mem hq
  exact mem_applL.1 h
def MostTo (s:qE) (t:qF) (counts:yLI) (k:Nat):Prop:=∀ i,i < k→Appl s t i→within (s.qB[i]!).zB ((jG s t counts counts.length)[(s.qB[i]!).qP.toNat]!)=false
theorem MostTo.succ {s:qE} {t:qF} {counts:yLI} {k:Nat} (h:MostTo s t counts k) (h1:Appl s t k→within (s.qB[k]!).zB ((jG s t counts counts.length)[(s.qB[k]!).qP.toNat]!)=false):MostTo s t counts (k+1):=fun j hj=>by
  by_cases e:j=k
  · subst e;exact h1
  · exact h j qf
def MostL (s:qE) (t:qF) (counts:yLI) (k:Nat):Prop:=∀ q,q < k→within (s.qB[((appls s t)[q]!).toNat]!).zB ((jG s t counts counts.length)[(s.qB[((appls s t)[q]!).toNat]!).qP.toNat]!)=false
theorem MostL.succ {s:qE} {t:qF} {counts:yLI} {k:Nat} (h:MostL s t counts k) (h1:within (s.qB[((appls s t)[k]!).toNat]!).zB ((jG s t counts counts.length)[(s.qB[((appls s t)[k]!).toNat]!).qP.toNat]!)=false):MostL s t counts (k+1):=fun j hj=>by
  by_cases e:j=k
  · subst e;exact h1
  · exact h j qf
theorem MostL.most {s:qE} {t:qF} {counts:yLI} (h:MostL s t counts (appls s t).length) (hc:IsCh s t counts):IsMost s t counts:=
  ⟨hc,most_of (P:=fun i=>within (s.qB[i]!).zB ((jG s t counts counts.length)[(s.qB[i]!).qP.toNat]!)=false) h⟩
open Classical in
noncomputable def Xm (s:qE) (ch:yLL):Nat→qF→qF×Int
  | 0,u=>(u,0)
  | f+1,u=>if Halted s u∨¬ IsMost s u (ch[ch.length - (f+1)]!) then (default,4) else if (zF s u (ch[ch.length - (f+1)]!)).2≠0 then (default,(zF s u (ch[ch.length - (f+1)]!)).2) else Xm s ch f (zF s u (ch[ch.length - (f+1)]!)).1
theorem choose_end {s:qE} {ch:yLL} {f:Nat} {u:qF} (h:f=0):Xm s ch f u=(u,0):=by subst h;rfl
theorem choose_4 {s:qE} {ch:yLL} {f k:Nat} {u:qF} (hf:f=ch.length - k) (hk:k < ch.length) (h:Halted s u∨¬ IsMost s u (ch[k]!)):Xm s ch f u=(default,4):=by
  obtain ⟨g,rfl⟩:∃ g,f=g+1:=⟨f - 1,by omega⟩
  rw [Xm,if_pos (by rwa [show ch.length - (g+1)=k by omega])]
theorem choose_bad {s:qE} {ch:yLL} {f k:Nat} {u:qF} (hf:f=ch.length - k) (hk:k < ch.length) (h:¬ Halted s u) (h1:IsMost s u (ch[k]!)) (h2:(zF s u (ch[k]!)).2≠0):Xm s ch f u=(default,(zF s u (ch[k]!)).2):=by
  obtain ⟨g,rfl⟩:∃ g,f=g+1:=⟨f - 1,by omega⟩
  have e:ch.length - (g+1)=k:=by omega
  rw [Xm,e,if_neg (fun x=>x.elim h fun y=>y h1),if_pos h2]
theorem choose_go {s:qE} {ch:yLL} {f g k:Nat} {u:qF} (hf:f=ch.length - k) (hk:k < ch.length) (hg:g=ch.length - (k+1)) (h:¬ Halted s u) (h1:IsMost s u (ch[k]!)) (h2:(zF s u (ch[k]!)).2=0):Xm s ch f u=Xm s ch g (zF s u (ch[k]!)).1:=by
  obtain rfl:f=g+1:=by omega
  have e:ch.length - (g+1)=k:=by omega
  rw [Xm,e,if_neg (fun x=>x.elim h fun y=>y h1),if_neg (fun x=>x h2)]
def AllCnt (s:qE) (ch:yLL) (k:Nat):Prop:=∀ j,j < k→CntOk s (ch[j]!)
theorem AllCnt.succ {s:qE} {ch:yLL} {k:Nat} (h:AllCnt s ch k) (h1:CntOk s (ch[k]!)):AllCnt s ch (k+1):=fun j hj=>by
  by_cases e:j=k
  · subst e;exact h1
  · exact h j qf
open Classical in
noncomputable def QY (s:qE) (t:qF) (ch:yLL):qF×Int:=
  if ¬ (vK s∧xX s t) then (default,1) else if 300 < ch.length∨¬ AllCnt s ch ch.length then (default,2) else Xm s ch ch.length t
theorem ch_1 {s:qE} {t:qF} {ch:yLL} (h:¬ (vK s∧xX s t)):QY s t ch=(default,1):=by rw [QY,if_pos h]
theorem ch_2 {s:qE} {t:qF} {ch:yLL} (h:vK s∧xX s t) (h1:300 < ch.length∨¬ AllCnt s ch ch.length):QY s t ch=(default,2):=by rw [QY,if_neg (by simpa using h),if_pos h1]
theorem ch_0 {s:qE} {t:qF} {ch:yLL} (h:vK s∧xX s t) (h1:¬ 300 < ch.length) (h2:AllCnt s ch ch.length):QY s t ch=Xm s ch ch.length t:=by rw [QY,if_neg (by simpa using h),if_neg (fun x=>x.elim h1 fun y=>y h2)]
end
section
open Go.Proofs.Tryz
open Go.RowKit
set_option linter.unusedVariables false
set_option linter.unusedSimpArgs false
set_option maxRecDepth 100000
set_option maxHeartbeats 4000000
variable {qI qQ xf xA qR : Nat}
theorem isMaximal_ok (w:World) (s:qE) (t:qF) (counts:yLI) {qJ:yOA} {xu:yLN} {qV:yOA} {zh:yLN} {xg:yOA} {zu:yLN} {xF:yOA} {zU:yLN} {qU:yOA} {x9:yLN} {acounts:yOA} {ccounts:Nat} {Fcounts:yLN} (qX:qO.rep w xu [.slice qJ s.qA.length qI] s.qA) (xn:qO.rep w zh [.slice qV s.qB.length qQ] s.qB) (xR:qO.rep w zu [.slice xg t.qG.length xf] t.qG) (zn:qO.rep w zU [.slice xF t.qN.length xA] t.qN) (xy:qO.rep w x9 [.slice qU t.qH.length qR] t.qH) (hcounts:qO.rep w Fcounts [.slice acounts counts.length ccounts] counts) (p0:vK s) (p1:xX s t) (p2:CntOk s counts):Calls Tryz.prog 72 #[.agg #[yI s.xP,.slice qJ s.qA.length qI,.slice qV s.qB.length qQ],.agg #[.slice xg t.qG.length xf,.slice xF t.qN.length xA,.slice qU t.qH.length qR],.slice acounts counts.length ccounts] w (Ret (fun v w' =>v=.tuple #[.bool (dec (IsMost s t counts)),yI 0]) w):=by
 refine en func72 ntmps72 ?_
 have H:=((((((St.start w).arg hcounts).arg xy).arg zn).arg xR).arg xn).arg qX
 have zN:=qM qX
 have vW:=qM xn
 have jO:=qM xR
 have yH:=qM zn
 have jg:=qM xy
 have nhcounts:=qM hcounts
 clear qX xn xR zn xy hcounts
 have N:=Fresh.nil w.heap.size
 have k1:=p0
 have k2:=p1
 have k3:=p2
 have kl:=kinds_le p0
 refine zcr (sw (zS H (yS s qJ qI qV qQ) fun b1 w2 H=>sw (zS H (yT t xg xf xF xA qU qR) fun b3 w4 H=>sp (.bool false) (sp (yI 0) (zjcc (sw (xI (yS s qJ qI qV qQ) isAgg27 sizeOf27 rfl (qC (H.cells 1 rfl) 0 3) ?_)))))))
 refine sw (xI (yT t xg xf xF xA qU qR) isAgg31 sizeOf31 rfl (qC (H.cells 0 rfl) 0 3) (sq 1 (sw (oq (countsCode_ok _ s t counts (H.get 0 rfl).1 (H.get 1 rfl).1 (H.get 2 rfl).1 (H.get 3 rfl).1 (H.get 4 rfl).1 (H.get 5 rfl).1) H fun w6 H=>sq 1 (zjc (sq 1 (sp (.bool ((XX s t counts:Int) != 0)) (zjn (xE ((XX s t counts:Int) != 0) rfl (fun h8=>?_) (fun h8=>?_))))))))))
 ·skip
  replace h8:=bne_iff_ne.1 h8
  exact absurd (ask_0 ⟨p0,p1⟩ p2) h8
 replace h8:=xm h8
 refine qW (t_n (zcr (sw (xI (yS s qJ qI qV qQ) isAgg27 sizeOf27 rfl (qC (H.cells 1 rfl) 0 3) (sw (xI (yT t xg xf xF xA qU qR) isAgg31 sizeOf31 rfl (qC (H.cells 0 rfl) 0 3) (sq 1 ?_)))))))
 have kn:1≤yL s:=by have:=k1.1.1.1;unfold yL;omega
 have k7:=k2.2.1
 have k8:=k1.2.1
 have k9:=k3.1
 have k10:=k1.1.2.1
 have k11:je s=s.qA.length:=rfl
 refine sw (zQ #[.agg #[yI s.xP,.slice qJ s.qA.length qI,.slice qV s.qB.length qQ],.agg #[.slice xg t.qG.length xf,.slice xF t.qN.length xA,.slice qU t.qH.length qR],.slice acounts counts.length ccounts] rfl rfl call122 (en func122 ntmps122 ?_))
 refine zcr (sw (zS H (yS s qJ qI qV qQ) fun b9 w10 H=>sw (zS H (yT t xg xf xF xA qU qR) fun b11 w12 H=>sq 1 (sp (.bool false) (zjn (xQ ?_))))))
 refine jf rfl H fun H=>tF 0 rfl rfl H ?_
 refine tL 1 rfl rfl (fun _ h=>h.cell 0 rfl rfl) H ?_
 refine rt 3 _ (yh (cs:=(yS s qJ qI qV qQ)) isAgg27 sizeOf27 rfl (fun _ h=>qC (h.cells 1 rfl) 0 3)) H ?_
 refine rt 4 _ (yh (cs:=(yT t xg xf xF xA qU qR)) isAgg31 sizeOf31 rfl (fun _ h=>qC (h.cells 0 rfl) 0 3)) H ?_
 refine ro 2 rfl ?_
 have sz17:=H.base.size
 refine oc (cloneSS_ok _ t.qN (H.get 3 rfl).1 qg) ?_
 rintro _ w15 ⟨ra14,rn14,rc14,rx14,rF14,rfl,hG19,K⟩ _
 replace H:=H.mergeIn K 3 rfl hG19
 obtain rfl:=H.xK (α:=yLI) 0 rfl 0 rfl qj
 refine ⟨H.pick [1,2,3,4] [1,2,3,4,5,6],(ro 5 rfl ?_)⟩
 have sz23:=H.base.size
 refine oc (applicable_ok _ s t (H.get 1 rfl).1 (H.get 2 rfl).1 (H.get 3 rfl).1 (H.get 4 rfl).1 (H.get 5 rfl).1 qg qg) ?_
 rintro _ w21 ⟨ra20,rn20,rc20,rfl,M,K⟩ _
 replace H:=H.merge K M
 obtain rfl:=H.jm 0 rfl
 have al:(appls s t).length≤s.qB.length:=applL_le s t s.qB.length
 refine ⟨H.pick [2,3,4,5] [1,2,3,4,5,6],?_⟩
 have S:=H.jo [2,3,4,5] [1,2,3,4,5,6]
 refine rtl 6 S ?_
 refine rtl 7 S ?_
 refine xq qh (t_n (zcc (sq 1 (oN rfl (sp (yI 0) (zjn (qY ?_)))))))
 refine zq ((fun Z0 Z1 Z2 Z3 Z4 Z5 Z6 Z7 Z8 Z9 Z10=>fun m' ρ w26=>∃ (xM:Env) (i:Nat) (rest:yLL) (x_rest:List Value) (F_rest:yLN),ρ=upd (upd (upd (upd (upd (upd xM 3 (pp b9 0)) 8 (.slice ra14 t.qN.length rc14)) 9 (.slice ra20 ((appls s t).length) rc20)) 19 (.slice acounts counts.length ccounts)) 20 (yI counts.length)) 21 (yI i)∧rest=jG s t counts i∧((i:Int)≤counts.length)∧(GoodTo s t counts i)∧m' =(counts.length - (i:Int)).toNat∧Fresh w.heap.size []∧St w w26 [Z0,rr ra14 t.qN.length rc14 24 1 x_rest,Z1,Z2,Z3,Z4] [xB false F_rest x_rest rest,Z5,Z6,Z7,Z8,Z9,Z10]) _ _ _ _ _ _ _ _ _ _ _) ((counts.length - (0:Int)).toNat) ⟨_,0,t.qN,rx14,rF14,uE6,(by rfl),qf,qx,rfl,N,H⟩ ?_
 clear H N
 rintro m' ρ w27 ⟨xM,i,rest,x_rest,F_rest,rfl,rfl,i0,i1,rfl,N,H⟩
 have hn_rest:=H.xK (α:=yLI) 1 rfl 0 rfl qj
 have rl:=restR_len (s:=s) (t:=t) (counts:=counts) i
 refine zcr (sq 1 (zjn (xQ (cD rfl (fun h28=>?_) (fun h28=>?_)))))
 ·skip
  have q:=k1.rule (i:=i) qf
  have qc:=q.1
  have qk:=q.cell
  have b1:=q.2.2.2.2.1
  have p10:=k3.bd (i:=i) qf
  refine qW (t_n (xQ (qY (zcr (sp (yI i) ?_)))))
  obtain ⟨b29,o30,rfl⟩:=H.addr 6 rfl qf
  refine oI rfl rfl (oL rfl (H.zH 6 rfl i qf) (sp (yI i) (sq 1 (zjcc (sq 1 (sp (.bool ((counts[i]! :Int) == 0)) (zjn (cE rfl (fun h32=>?_) (fun h32=>?_)))))))))
  ·skip
   refine c_exit (t_x (b_x (t_n (xU (sw (zA i 1 rfl rfl qf (sq 1 (xY (xe (m' :=(counts.length - ((i+1):Int)).toNat) qf ⟨_,i+1,_,_,_,uE6,?_,?_,?_,rfl,N,H⟩)))))))))
   · first | rfl | exact (restR_skip k1 k2 qf ‹_›).symm
   · omega
   · exact i1.succ (fun h=>by obtain ⟨u,v⟩:=h;first | omega | exact v ((mem_appls qf).1 ‹_›))
  refine qW (t_n (zcc (sq 1 (sp (yI i) ?_))))
  obtain ⟨G33,hn34,h35⟩:=H.Qi 0 rfl
  refine sw (oq (containsI_ok _ (appls s t) i h35) H fun w37 H=>sq 1 (zjn (cQ rfl (fun h39=>?_) (fun h39=>?_))))
  ·skip
   refine zcr (sq 1 (sp (.bool false) (zjr (t_r (zr5 (ret2 yN (.bool false) rfl rfl rfl ⟨_,rfl,?_⟩))))))
   replace H:=H.erases [3,2,1,0]
   dsimp only [vV,List.eraseIdx] at H
   refine sq 2 (sp (.bool false) (sw (xx H ti29 [yN] fun b40 w41 H=>sw (xO H 0 [yN] sizeOf29 fun w42 H=>sp (.bool false) (zjc (sp (.bool false) (sp (.bool false) (xZ [27,28,29,30,31,32] (sp (.bool false) (sp (.bool false) (sp (yI 0) (zjr (ret2 (.bool false) (yI 0) rfl rfl rfl ⟨_,rfl,?_,H.base⟩)))))))))))))
   rw [xk (fun h=>by first | exact (fun h=>by first | exact h.1 i qf ⟨by omega,fun a=>‹¬ (i:Int)∈appls s t› ((mem_appls qf).2 a)⟩ | (have e:i=counts.length:=qf;have h2:=h.2;rw [← e] at h2;exact (minL_neg qf).1 ‹minL ((jG s t counts i)[i_1]!) < 0› (h2 i_1 qf))) h.1 | (have e:i=counts.length:=qf;have h2:=h.2 _ a1 a2;rw [← e] at h2;exact ft ‹within _ _=true› h2))]
  refine qW (t_n (zcr (oF rfl (oL rfl (H.cell 3 rfl rfl) (sp (yI i) ?_)))))
  obtain ⟨b43,o44,rfl⟩:=H.addr 2 rfl qf
  obtain ⟨ae46Need,ce46Need,Fe46Need,ae46Have,ce46Have,Fe46Have,ae46Lack,ce46Lack,Fe46Lack,ae46Here,ce46Here,Fe46Here,ae46Out,ce46Out,Fe46Out,ae46Into,ce46Into,Fe46Into,H⟩:=H.yA 2 rfl i i qf qf qf
  refine oI rfl rfl (sw (xI [yI ((s.qB[i]!).qP),yI ((s.qB[i]!).jI),.slice ae46Need (((s.qB[i]!).zB).length) ce46Need,.slice ae46Have (((s.qB[i]!).vJ).length) ce46Have,.slice ae46Lack (((s.qB[i]!).vP).length) ce46Lack,.slice ae46Here (((s.qB[i]!).vT).length) ce46Here,.slice ae46Out (((s.qB[i]!).yP).length) ce46Out,.slice ae46Into (((s.qB[i]!).xh).length) ce46Into,.bool ((s.qB[i]!).jB)] isAgg70 sizeOf70 rfl (qC (H.get 6 rfl) 0 9) ?_))
  refine sw (xx H ti70 [yI 0,yI 0,yN,yN,yN,yN,yN,yN,.bool false] fun b47 w48 H=>sw (xG H 0 [yI ((s.qB[i]!).qP),yI ((s.qB[i]!).jI),.slice ae46Need (((s.qB[i]!).zB).length) ce46Need,.slice ae46Have (((s.qB[i]!).vJ).length) ce46Have,.slice ae46Lack (((s.qB[i]!).vP).length) ce46Lack,.slice ae46Here (((s.qB[i]!).vT).length) ce46Here,.slice ae46Out (((s.qB[i]!).yP).length) ce46Out,.slice ae46Into (((s.qB[i]!).xh).length) ce46Into,.bool ((s.qB[i]!).jB)] sizeOf70 fun w49 H=>zjn ?_))
  refine yK rfl H [0,1,3,4,5,6] fun H=>?_
  have S:=H.jo [0,1,3,4,5,6] [0,1,2,3,4,5,6,7,8,9,10,11,12,13]
  refine rtl 0 S ?_
  refine tF 1 rfl rfl S ?_
  refine tL 2 rfl rfl (fun _ h=>h.cell 0 rfl rfl) S ?_
  refine rtl 3 S ?_
  refine tF 4 rfl rfl S ?_
  refine tL 5 rfl rfl (fun _ h=>h.cell 0 rfl rfl) S ?_
  obtain ⟨b51,rfl⟩:=H.jW 2 rfl qf
  have S:=H.jo [0,1,3,4,5,6] [0,1,2,3,4,5,6,7,8,9,10,11,12,13]
  refine tI 6 rfl rfl rfl S ?_
  refine tF 8 rfl rfl S ?_
  refine tL 9 rfl rfl (fun _ h=>h.cell 0 rfl rfl) S ?_
  refine rtl 10 S ?_
  refine rt 11 _ (y_neg (counts[i]!) rfl qf) S ?_
  refine ro 7 rfl ?_
  obtain ⟨a52,c53,G54,s55,h56,H⟩:=H.jy 2 rfl 7 rfl (iv:=(s.qB[i]!).qP) (((s.qB[i]!).qP).toNat) qf qf
  refine zl (.slice a52 (((jG s t counts i)[((s.qB[i]!).qP).toNat]!).length) c53) isAgg24 rfl (h56) (⟨H.pick [0,1,3,4,5,6] [1,2,3,4,5,6,7,8,9,10,11,12,13,14],(ro 12 rfl ?_)⟩)
  obtain ⟨u1,u2⟩:=restR_row (c:=(s.qB[i]!).qP.toNat) k1 k2 k3 (show i≤_ by omega) qk
  have u3:=b1.len
  have u4:=b1.yx (t:= -(counts[i]!)) qf
  have sz57:=H.base.size
  refine oc (plus_ok _ ((jG s t counts i)[((s.qB[i]!).qP).toNat]!) ((s.qB[i]!).zB) (-(counts[i]!)) (H.get 0 rfl).1 (H.get 1 rfl).1 qg qg qg) ?_
  rintro v62 w60 r62 x61
  replace H:=H.zC x61 r62
  obtain ⟨a63,c64,rfl,hc65,hm66⟩:=H.jq 0 rfl
  refine ⟨H.pick [1,2,4,5,6,7] [1,2,3,4,5,6,7,8,9,10,11,12,13,14],(tI 13 rfl rfl rfl (H.pick [1,2,4,5,6,7] [1,2,3,4,5,6,7,8,9,10,11,12,13,14]) ?_)⟩
  refine ro 14 rfl ?_
  obtain ⟨G68,N,hn69,H⟩:=H.zG 0 rfl N (H.vS [])
  refine jE false H 3 rfl 9 rfl (.slice a63 ((jH ((jG s t counts i)[((s.qB[i]!).qP).toNat]!) ((s.qB[i]!).zB) (-(counts[i]!))).length) c64) 0 rfl rfl sizeOf24 rfl rfl (i:=(((s.qB[i]!).qP).toNat)) qf qf qm fun w67 xs70 F71 hs72 H=>⟨H.pick [1,2,4,5,6,7] [3,4,5,6,7,8,9,10,11,12,13,14,15,16],(xq qh (b_n (t_n (xU (sw (zA i 1 rfl rfl qf (sq 1 (xY (xe (m' :=(counts.length - ((i+1):Int)).toNat) qf ⟨_,i+1,_,_,_,uE6,?_,?_,?_,rfl,(N.pick []),H.pick [2,3,4,5,6,7] [0,11,12,13,14,15,16]⟩)))))))))⟩
  · first | rfl | exact (restR_skip k1 k2 qf ‹_›).symm
  · omega
  · exact i1.succ (fun h=>by obtain ⟨u,v⟩:=h;first | omega | exact v ((mem_appls qf).1 ‹_›))
 refine zx4 (zcr (sq 2 (sw (zQ #[.slice ra14 t.qN.length rc14,.func (.func 164) #[] #[]] rfl rfl call97 (en func97 ntmps97 ?_)))))
 refine zcr (sp (.bool false) (zjc (sq 1 (sp (.func (.func 164) #[] #[]) (sw (zQ #[.slice ra14 t.qN.length rc14,.func (.func 164) #[] #[]] rfl rfl call150 (en func150 ntmps150 ?_)))))))
 refine zcr (sp (yI 0) (zjcc (sq 1 (oN rfl (sp (yI 0) (zjn (qY ?_)))))))
 refine zq ((fun Z0 Z1 Z2 Z3 Z4 Z5 Z6 Z7 Z8 Z9 Z10 Z11 Z12=>fun m' ρ w73=>∃ (xM:Env) (i_1:Nat),ρ=upd (upd (upd (upd xM 0 (.slice ra14 t.qN.length rc14)) 1 (.func (.func 164) #[] #[])) 7 (yI t.qN.length)) 8 (yI i_1)∧((i_1:Int)≤t.qN.length)∧(NonNeg (jG s t counts i) i_1)∧m' =(t.qN.length - (i_1:Int)).toNat∧Fresh w.heap.size []∧St w w73 [Z0,Z1,Z2,Z3,Z4,Z5] [Z6,Z7,Z8,Z9,Z10,Z11,Z12]) _ _ _ _ _ _ _ _ _ _ _ _ _) ((t.qN.length - (0:Int)).toNat) ⟨_,0,uE4,qf,qx,rfl,N,H⟩ ?_
 clear H N
 rintro m' ρ w74 ⟨xM,i_1,rfl,i0,i2,rfl,N,H⟩
 refine zcr (sq 1 (zjn (xQ (cD rfl (fun h75=>?_) (fun h75=>?_)))))
 ·skip
  refine qW (t_n (xQ (qY (zcr (sq 2 (zjc (sp (.func (.func 164) #[] #[]) (sq 2 ?_))))))))
  obtain ⟨b76,rfl⟩:=H.jW 1 rfl qf
  refine oI rfl rfl ?_
  obtain ⟨a77,c78,G79,s80,h81,H⟩:=H.jy 1 rfl 0 rfl (iv:=i_1) i_1 qf qf
  refine oL rfl (h81) (sw (zQ #[.slice a77 (((jG s t counts i)[i_1]!).length) c78] rfl rfl call164 (en func164 ntmps164 ?_)))
  refine zcr (sp (.bool false) (zjc (sq 1 ?_)))
  obtain ⟨u1,u2⟩:=restR_row (c:=i_1) k1 k2 k3 (show i≤_ by omega) qf
  refine sw (oq (minI_ok _ ((jG s t counts i)[i_1]!) (H.get 0 rfl).1 qg) H fun w83 H=>sp (.bool (decide ((minL ((jG s t counts i)[i_1]!):Int) < 0))) (sp (.bool (decide ((minL ((jG s t counts i)[i_1]!):Int) < 0))) (zjr (ret1 (.bool (decide ((minL ((jG s t counts i)[i_1]!):Int) < 0))) rfl rfl ⟨_,rfl,(zjn (cD rfl (fun h85=>?_) (fun h85=>?_)))⟩))))
  ·skip
   refine zcr (sq 2 (zjr (zr5 (ret1 (yI i_1) rfl rfl ⟨_,rfl,(sw (o_pure (.bool true) (by show some (Value.bool (decide ((i_1:Int)≥0)))=some (Value.bool true);rw [decide_eq_true qf]) (sp (.bool true) (zjr (ret1 (.bool true) rfl rfl ⟨_,rfl,(sp (.bool false) (sq 1 (sp (.bool false) (zjr (ret2 (.slice (aa b76 0) t.qN.length rc14) (.bool false) rfl rfl rfl ⟨_,rfl,?_⟩)))))⟩)))))⟩))))
   replace H:=H.erases [3,2,0]
   dsimp only [vV,List.eraseIdx] at H
   refine sq 2 (sp (.bool false) (sw (xx H ti29 [yN] fun b86 w87 H=>sw (xO H 0 [.slice (aa b76 0) t.qN.length rc14] sizeOf29 fun w88 H=>sp (.bool false) (zjc (sp (.bool false) (sp (.bool false) (xZ [27,28,29,30,31,32] (sp (.bool false) (sp (.bool false) (sp (yI 0) (zjr (ret2 (.bool false) (yI 0) rfl rfl rfl ⟨_,rfl,?_,H.base⟩)))))))))))))
   rw [xk (fun h=>by first | exact (fun h=>by first | exact h.1 i qf ⟨by omega,fun a=>‹¬ (i:Int)∈appls s t› ((mem_appls qf).2 a)⟩ | (have e:i=counts.length:=qf;have h2:=h.2;rw [← e] at h2;exact (minL_neg qf).1 ‹minL ((jG s t counts i)[i_1]!) < 0› (h2 i_1 qf))) h.1 | (have e:i=counts.length:=qf;have h2:=h.2 _ a1 a2;rw [← e] at h2;exact ft ‹within _ _=true› h2))]
  refine qW (b_n (t_n (xU (sw (zA i_1 1 rfl rfl qf (sq 1 (xY (xe (m' :=(t.qN.length - ((i_1+1):Int)).toNat) qf ⟨_,i_1+1,uE4,?_,?_,rfl,N,H.pick [0,1,2,3,4,5] [1,2,3,4,5,6,7]⟩))))))))
  · omega
  · exact i2.succ (Classical.byContradiction fun h=>‹¬ minL ((jG s t counts i)[i_1]!) < 0› ((minL_neg qf).2 h))
 refine zx4 (zcr (sq 1 (zjr (ret1 (yI (-1)) rfl rfl ⟨_,rfl,(sp (.bool false) (sp (.bool false) (zjr (ret1 (.bool false) rfl rfl ⟨_,rfl,(sp (.bool true) (sq 1 (sp (.bool true) (zjr (ret2 (.slice ra14 t.qN.length rc14) (.bool true) rfl rfl rfl ⟨_,rfl,?_⟩)))))⟩))))⟩))))
 replace H:=H.erases [3,2,0]
 dsimp only [vV,List.eraseIdx] at H
 refine sq 2 (sp (.bool true) (sw (xx H ti29 [yN] fun b89 w90 H=>sw (xO H 0 [.slice ra14 t.qN.length rc14] sizeOf29 fun w91 H=>sp (.bool true) (zjc (sp (.bool true) (sp (.bool true) (qL 26 rfl rfl (sw (xI (yS s qJ qI qV qQ) isAgg27 sizeOf27 rfl (qC (H.cells 3 rfl) 0 3) (qL 26 rfl rfl ?_)))))))))))
 refine sw (xI (yT t xg xf xF xA qU qR) isAgg31 sizeOf31 rfl (qC (H.cells 2 rfl) 0 3) (qL 26 rfl rfl ?_))
 have sz95:=H.base.size
 refine sw (oc (applicable_ok _ s t (H.get 1 rfl).1 (H.get 2 rfl).1 (H.get 3 rfl).1 (H.get 4 rfl).1 (H.get 5 rfl).1 qg qg) ?_)
 rintro _ w93 ⟨ra92,rn92,rc92,rfl,M,K⟩ _
 replace H:=H.merge K M
 obtain rfl:=H.jm 0 rfl
 have al:(appls s t).length≤s.qB.length:=applL_le s t s.qB.length
 refine qL 26 rfl rfl (sp (.func (.func 123) #[] #[pp b1 0,pp b89 0]) (qL 26 rfl rfl (sw (zQ #[.slice ra92 ((appls s t).length) rc92,.func (.func 123) #[] #[pp b1 0,pp b89 0]] rfl rfl call99 (en func99 ntmps99 ?_)))))
 refine zcr (sp (.bool false) (zjc (sq 1 (sp (.func (.func 123) #[] #[pp b1 0,pp b89 0]) (sw (zQ #[.slice ra92 ((appls s t).length) rc92,.func (.func 123) #[] #[pp b1 0,pp b89 0]] rfl rfl call151 (en func151 ntmps151 ?_)))))))
 refine zcr (sp (yI 0) (zjcc (sq 1 (oN rfl (sp (yI 0) (zjn (qY ?_)))))))
 refine zq ((fun Z0 Z1 Z2 Z3 Z4 Z5 Z6 Z7 Z8 Z9 Z10 Z11=>fun m' ρ w98=>∃ (xM:Env) (i_51:Nat),ρ=upd (upd (upd (upd xM 0 (.slice ra92 ((appls s t).length) rc92)) 1 (.func (.func 123) #[] #[pp b1 0,pp b89 0])) 7 (yI ((appls s t).length))) 8 (yI i_51)∧((i_51:Int)≤((appls s t).length))∧(MostL s t counts i_51)∧m' =(((appls s t).length) - (i_51:Int)).toNat∧Fresh w.heap.size []∧St w w98 [Z0,Z1,Z2,Z3,Z4] [Z5,Z6,Z7,Z8,Z9,Z10,Z11]) _ _ _ _ _ _ _ _ _ _ _ _) ((((appls s t).length) - (0:Int)).toNat) ⟨_,0,uE4,qf,qx,rfl,N,H⟩ ?_
 clear H N
 rintro m' ρ w99 ⟨xM,i_51,rfl,i0,i3,rfl,N,H⟩
 refine zcr (sq 1 (zjn (xQ (cD rfl (fun h100=>?_) (fun h100=>?_)))))
 ·skip
  obtain ⟨a0,a1,a2⟩:=appls_in (s:=s) (t:=t) (q:=i_51) qf
  have q:=p0.rule (i:=((appls s t)[i_51]!).toNat) qf
  have qc:=q.1
  have qk:=q.cell
  have qr:=q.2.1
  obtain ⟨u1,u2⟩:=restR_row (c:=(s.qB[((appls s t)[i_51]!).toNat]!).qP.toNat) p0 p1 p2 (show i≤_ by omega) qk
  have u3:=q.2.2.2.2.1.len
  have rl:=restR_len (s:=s) (t:=t) (counts:=counts) i
  refine qW (t_n (xQ (qY (zcr (sq 2 (zjc (sp (.func (.func 123) #[] #[pp b1 0,pp b89 0]) (sq 2 ?_))))))))
  obtain ⟨b101,rfl⟩:=H.jW 0 rfl qf
  refine oI rfl rfl (oL rfl (H.rowInt 0 rfl (iv:=i_51) (i:=i_51) qf qf) (sw (zQ #[yI ((appls s t)[i_51]!),pp b1 0,pp b89 0] rfl rfl call123 (en func123 ntmps123 ?_))))
  refine zcr (sp (.bool false) (zjn (xQ ?_)))
  obtain ⟨b102,o103,rfl⟩:=H.addr 2 rfl qf
  obtain ⟨b105,rfl⟩:=H.jW 2 rfl qf
  refine c_cut (fun ρ w124=>∃ (xM:Env) (F106:yLN) (a107:yOA) (c108:Nat) (F109:yLN) (a110:yOA) (c111:Nat) (F112:yLN) (a113:yOA) (c114:Nat) (F115:yLN) (a116:yOA) (c117:Nat) (F118:yLN) (a119:yOA) (c120:Nat) (F121:yLN) (a122:yOA) (c123:Nat),ρ=upd xM 4 (.bool (within ((s.qB[((appls s t)[i_51]!).toNat]!).zB) ((jG s t counts i)[((s.qB[((appls s t)[i_51]!).toNat]!).qP).toNat]!)))∧Fresh w.heap.size []∧St w w124 [rr (aa b101 0) ((appls s t).length) rc92 2 1 ((appls s t).map (Value.int .i64)),.box b89 [.slice (aa b105 0) t.qN.length rc14] 29,rr (aa b105 0) t.qN.length rc14 24 1 x_rest,.box b3 (yT t xg xf xF xA qU qR) 31,.box b1 [yI s.xP,.slice qJ s.qA.length qI,.slice (aa b102 o103) s.qB.length qQ] 27] [sF false F106 a107 c108 ((s.qB[((appls s t)[i_51]!).toNat]!).zB),sF false F109 a110 c111 ((s.qB[((appls s t)[i_51]!).toNat]!).vJ),sF false F112 a113 c114 ((s.qB[((appls s t)[i_51]!).toNat]!).vP),sF false F115 a116 c117 ((s.qB[((appls s t)[i_51]!).toNat]!).vT),sF false F118 a119 c120 ((s.qB[((appls s t)[i_51]!).toNat]!).yP),sF false F121 a122 c123 ((s.qB[((appls s t)[i_51]!).toNat]!).xh),atF b102 (o103+((appls s t)[i_51]! :Int).toNat * 9) [yI ((s.qB[((appls s t)[i_51]!).toNat]!).qP),yI ((s.qB[((appls s t)[i_51]!).toNat]!).jI),.slice a107 (((s.qB[((appls s t)[i_51]!).toNat]!).zB).length) c108,.slice a110 (((s.qB[((appls s t)[i_51]!).toNat]!).vJ).length) c111,.slice a113 (((s.qB[((appls s t)[i_51]!).toNat]!).vP).length) c114,.slice a116 (((s.qB[((appls s t)[i_51]!).toNat]!).vT).length) c117,.slice a119 (((s.qB[((appls s t)[i_51]!).toNat]!).yP).length) c120,.slice a122 (((s.qB[((appls s t)[i_51]!).toNat]!).xh).length) c123,.bool ((s.qB[((appls s t)[i_51]!).toNat]!).jB)],xB false F_rest x_rest (jG s t counts i),sF false xu qJ qI s.qA,sF false zh (aa b102 o103) qQ s.qB,sF false zu xg xf t.qG,sF false zU xF xA t.qN,sF false x9 qU qR t.qH,sF false Fcounts acounts ccounts counts]) ?_ ?_
  ·skip
   refine jf rfl H fun H=>tF 0 rfl rfl H ?_
   refine tL 1 rfl rfl (fun _ h=>h.cell 4 rfl rfl) H ?_
   refine rtl 2 H ?_
   obtain ⟨ae126Need,ce126Need,Fe126Need,ae126Have,ce126Have,Fe126Have,ae126Lack,ce126Lack,Fe126Lack,ae126Here,ce126Here,Fe126Here,ae126Out,ce126Out,Fe126Out,ae126Into,ce126Into,Fe126Into,H⟩:=H.yA 2 rfl ((appls s t)[i_51]!) (((appls s t)[i_51]!).toNat) qf qf qf
   have S:=H.jo [0,1,2,3,4] [7,8,9,10,11,12,13]
   refine tI 3 rfl rfl rfl S ?_
   refine tF 4 rfl rfl S ?_
   refine tL 6 rfl rfl (fun _ h=>h.cell 1 rfl rfl) S ?_
   refine tF 7 rfl rfl S ?_
   refine tL 8 rfl rfl (fun _ h=>h.cell 4 rfl rfl) S ?_
   refine rtl 9 S ?_
   refine tI 10 rfl rfl rfl S ?_
   refine tF 11 rfl rfl S ?_
   refine zY [5,12] qh qm (jd rfl ?_ (jd rfl ?_ zZ))
   ·skip
    refine zl (.slice ae126Need (((s.qB[((appls s t)[i_51]!).toNat]!).zB).length) ce126Need) isAgg24 rfl (H.x8 6 rfl 2 rfl) (⟨H.pick [0,1,2,3,4] [7,8,9,10,11,12,13],(ro 12 rfl (zl (yI ((s.qB[((appls s t)[i_51]!).toNat]!).qP)) isAgg2 rfl (H.x8 6 rfl 0 rfl) (⟨H.pick [0,1,2,3,4] [7,8,9,10,11,12,13],(tI 13 rfl rfl rfl (H.pick [0,1,2,3,4] [7,8,9,10,11,12,13]) ?_)⟩)))⟩)
    refine ro 14 rfl ?_
    obtain ⟨a127,c128,G129,s130,h131,H⟩:=H.jy 2 rfl 7 rfl (iv:=(s.qB[((appls s t)[i_51]!).toNat]!).qP) (((s.qB[((appls s t)[i_51]!).toNat]!).qP).toNat) qf qf
    refine zl (.slice a127 (((jG s t counts i)[((s.qB[((appls s t)[i_51]!).toNat]!).qP).toNat]!).length) c128) isAgg24 rfl (h131) (⟨H.pick [0,1,2,3,4] [8,9,10,11,12,13,14],(ro 15 rfl (oq (Vk _ ((s.qB[((appls s t)[i_51]!).toNat]!).zB) ((jG s t counts i)[((s.qB[((appls s t)[i_51]!).toNat]!).qP).toNat]!) (H.get 1 rfl).1 (H.get 0 rfl).1 qg qg) H fun w132 H=>⟨H.pick [0,1,2,3,4] [8,9,10,11,12,13,14],?_⟩))⟩)
    refine rtl 16 (H.pick [0,1,2,3,4] [8,9,10,11,12,13,14]) ?_
    refine xq qh ((meet ⟨_,Fe126Need,ae126Need,ce126Need,Fe126Have,ae126Have,ce126Have,Fe126Lack,ae126Lack,ce126Lack,Fe126Here,ae126Here,ce126Here,Fe126Out,ae126Out,ce126Out,Fe126Into,ae126Into,ce126Into,uE1,N,H.pick [0,1,2,3,4] [1,2,3,4,5,6,7,8,9,10,11,12,13,14]⟩))
   refine zl (yI ((s.qB[((appls s t)[i_51]!).toNat]!).qP)) isAgg2 rfl (H.x8 6 rfl 0 rfl) (⟨H.pick [0,1,2,3,4] [7,8,9,10,11,12,13],(tI 13 rfl rfl rfl (H.pick [0,1,2,3,4] [7,8,9,10,11,12,13]) ?_)⟩)
   refine zY [5,14] qh qm (jd rfl ?_ (jd rfl ?_ zZ))
   ·skip
    refine zl (.slice ae126Need (((s.qB[((appls s t)[i_51]!).toNat]!).zB).length) ce126Need) isAgg24 rfl (H.x8 6 rfl 2 rfl) (⟨H.pick [0,1,2,3,4] [7,8,9,10,11,12,13],(ro 14 rfl ?_)⟩)
    obtain ⟨a134,c135,G136,s137,h138,H⟩:=H.jy 2 rfl 7 rfl (iv:=(s.qB[((appls s t)[i_51]!).toNat]!).qP) (((s.qB[((appls s t)[i_51]!).toNat]!).qP).toNat) qf qf
    refine zl (.slice a134 (((jG s t counts i)[((s.qB[((appls s t)[i_51]!).toNat]!).qP).toNat]!).length) c135) isAgg24 rfl (h138) (⟨H.pick [0,1,2,3,4] [8,9,10,11,12,13,14],(ro 15 rfl (oq (Vk _ ((s.qB[((appls s t)[i_51]!).toNat]!).zB) ((jG s t counts i)[((s.qB[((appls s t)[i_51]!).toNat]!).qP).toNat]!) (H.get 1 rfl).1 (H.get 0 rfl).1 qg qg) H fun w139 H=>⟨H.pick [0,1,2,3,4] [8,9,10,11,12,13,14],?_⟩))⟩)
    refine rtl 16 (H.pick [0,1,2,3,4] [8,9,10,11,12,13,14]) ?_
    refine xq qh ((meet ⟨_,Fe126Need,ae126Need,ce126Need,Fe126Have,ae126Have,ce126Have,Fe126Lack,ae126Lack,ce126Lack,Fe126Here,ae126Here,ce126Here,Fe126Out,ae126Out,ce126Out,Fe126Into,ae126Into,ce126Into,uE1,N,H.pick [0,1,2,3,4] [1,2,3,4,5,6,7,8,9,10,11,12,13,14]⟩))
   obtain ⟨a141,c142,G143,s144,h145,H⟩:=H.jy 2 rfl 7 rfl (iv:=(s.qB[((appls s t)[i_51]!).toNat]!).qP) (((s.qB[((appls s t)[i_51]!).toNat]!).qP).toNat) qf qf
   refine zl (.slice a141 (((jG s t counts i)[((s.qB[((appls s t)[i_51]!).toNat]!).qP).toNat]!).length) c142) isAgg24 rfl (h145) (⟨H.pick [0,1,2,3,4] [8,9,10,11,12,13,14],(ro 5 rfl (zl (.slice ae126Need (((s.qB[((appls s t)[i_51]!).toNat]!).zB).length) ce126Need) isAgg24 rfl (H.x8 7 rfl 2 rfl) (⟨H.pick [0,1,2,3,4] [8,9,10,11,12,13,14],(ro 15 rfl (oq (Vk _ ((s.qB[((appls s t)[i_51]!).toNat]!).zB) ((jG s t counts i)[((s.qB[((appls s t)[i_51]!).toNat]!).qP).toNat]!) (H.get 1 rfl).1 (H.get 0 rfl).1 qg qg) H fun w146 H=>?_))⟩)))⟩)
   refine ⟨H.pick [0,1,2,3,4] [8,9,10,11,12,13,14],(rtl 16 (H.pick [0,1,2,3,4] [8,9,10,11,12,13,14]) ?_)⟩
   refine xq qh ((meet ⟨_,Fe126Need,ae126Need,ce126Need,Fe126Have,ae126Have,ce126Have,Fe126Lack,ae126Lack,ce126Lack,Fe126Here,ae126Here,ce126Here,Fe126Out,ae126Out,ce126Out,Fe126Into,ae126Into,ce126Into,uE1,N,H.pick [0,1,2,3,4] [1,2,3,4,5,6,7,8,9,10,11,12,13,14]⟩))
  clear H N
  rintro ρ w148 ⟨xM,F106,a107,c108,F109,a110,c111,F112,a113,c114,F115,a116,c117,F118,a119,c120,F121,a122,c123,rfl,N,H⟩
  refine t_n (c_ret (ret1 (.bool (within ((s.qB[((appls s t)[i_51]!).toNat]!).zB) ((jG s t counts i)[((s.qB[((appls s t)[i_51]!).toNat]!).qP).toNat]!))) rfl rfl ⟨_,rfl,(zjn (xE _ rfl (fun h149=>?_) (fun h149=>?_)))⟩))
  ·skip
   refine zcr (sq 2 (zjr (zr5 (ret1 (yI i_51) rfl rfl ⟨_,rfl,(sw (o_pure (.bool true) (by show some (Value.bool (decide ((i_51:Int)≥0)))=some (Value.bool true);rw [decide_eq_true qf]) (sp (.bool true) (zjr (ret1 (.bool true) rfl rfl ⟨_,rfl,(qL 26 rfl rfl (sp (.bool false) (sp (.bool false) (sp (.bool false) (sp (yI 0) (zjr (ret2 (.bool false) (yI 0) rfl rfl rfl ⟨_,rfl,?_,H.base⟩)))))))⟩)))))⟩))))
   rw [xk (fun h=>by first | exact (fun h=>by first | exact h.1 i qf ⟨by omega,fun a=>‹¬ (i:Int)∈appls s t› ((mem_appls qf).2 a)⟩ | (have e:i=counts.length:=qf;have h2:=h.2;rw [← e] at h2;exact (minL_neg qf).1 ‹minL ((jG s t counts i)[i_1]!) < 0› (h2 i_1 qf))) h.1 | (have e:i=counts.length:=qf;have h2:=h.2 _ a1 a2;rw [← e] at h2;exact ft ‹within _ _=true› h2))]
  refine qW (b_n (t_n (xU (sw (zA i_51 1 rfl rfl qf (sq 1 (xY (xe (m' :=(((appls s t).length) - ((i_51+1):Int)).toNat) qf ⟨_,i_51+1,uE4,?_,?_,rfl,N,H.pick [0,1,2,3,4] [7,8,9,10,11,12,13]⟩))))))))
  · omega
  · exact i3.succ (by have e:i=counts.length:=qf;rw [← e];assumption)
 refine zx4 (zcr (sq 1 (zjr (ret1 (yI (-1)) rfl rfl ⟨_,rfl,(sp (.bool false) (sp (.bool false) (zjr (ret1 (.bool false) rfl rfl ⟨_,rfl,(qL 26 rfl rfl (sp (.bool true) (sp (.bool true) (sp (.bool true) (sp (yI 0) (zjr (ret2 (.bool true) (yI 0) rfl rfl rfl ⟨_,rfl,?_,H.base⟩)))))))⟩))))⟩))))
 rw [jY (MostL.most (fun q hq=>i3 q qf) ⟨fun j hj=>i1 j qf,by have e:i=counts.length:=qf;rw [← e];exact fun p hp=>i2 p qf⟩)]

theorem implCh_ok (w:World) (s:qE) (t:qF) (ch:yLL) {qJ:yOA} {xu:yLN} {qV:yOA} {zh:yLN} {xg:yOA} {zu:yLN} {xF:yOA} {zU:yLN} {qU:yOA} {x9:yLN} {ach:yOA} {cch:Nat} {Fch:yLN} (qX:qO.rep w xu [.slice qJ s.qA.length qI] s.qA) (xn:qO.rep w zh [.slice qV s.qB.length qQ] s.qB) (xR:qO.rep w zu [.slice xg t.qG.length xf] t.qG) (zn:qO.rep w zU [.slice xF t.qN.length xA] t.qN) (xy:qO.rep w x9 [.slice qU t.qH.length qR] t.qH) (hch:qO.rep w Fch [.slice ach ch.length cch] ch):Calls Tryz.prog 26 #[.agg #[yI s.xP,.slice qJ s.qA.length qI,.slice qV s.qB.length qQ],.agg #[.slice xg t.qG.length xf,.slice xF t.qN.length xA,.slice qU t.qH.length qR],.slice ach ch.length cch] w (Ret (fun v w' =>∃ (ra0Alive:yOA) (rn0Alive:Nat) (rc0Alive:Nat) (ra0Bags:yOA) (rn0Bags:Nat) (rc0Bags:Nat) (rx0Bags:List Value) (rF0Bags:yLN) (ra0Around:yOA) (rn0Around:Nat) (rc0Around:Nat),v=.tuple #[.agg #[.slice ra0Alive rn0Alive rc0Alive,.slice ra0Bags rn0Bags rc0Bags,.slice ra0Around rn0Around rc0Around],yI ((QY s t ch).2)]∧Fresh w.heap.size [rF0Bags]∧St w w' [rr ra0Alive rn0Alive rc0Alive 4 1 ((((QY s t ch).1).qG).map (Value.bool)),rr ra0Bags rn0Bags rc0Bags 24 1 rx0Bags,rr ra0Around rn0Around rc0Around 2 1 ((((QY s t ch).1).qH).map (Value.int .i64))] [xB true rF0Bags rx0Bags (((QY s t ch).1).qN)]) w):=by
 refine en func26 ntmps26 ?_
 have H:=((((((St.start w).arg hch).arg xy).arg zn).arg xR).arg xn).arg qX
 have zN:=qM qX
 have vW:=qM xn
 have jO:=qM xR
 have yH:=qM zn
 have jg:=qM xy
 have nhch:=qM hch
 clear qX xn xR zn xy hch
 have N:=Fresh.nil w.heap.size
 refine zcr (sw (zS H (yS s qJ qI qV qQ) fun b1 w2 H=>sw (zS H (yT t xg xf xF xA qU qR) fun b3 w4 H=>sw (xx H ti31 [yN,yN,yN] fun b5 w6 H=>sp (yI 0) (zjcc (sw (xI (yS s qJ qI qV qQ) isAgg27 sizeOf27 rfl (qC (H.cells 2 rfl) 0 3) ?_)))))))
 refine sw (xI (yT t xg xf xF xA qU qR) isAgg31 sizeOf31 rfl (qC (H.cells 1 rfl) 0 3) (sw (oq (QZ _ s t (H.get 0 rfl).1 (H.get 1 rfl).1 (H.get 2 rfl).1 (H.get 3 rfl).1 (H.get 4 rfl).1) H fun w8 H=>sq 1 (zjn (cQ rfl (fun h10=>?_) (fun h10=>?_))))))
 ·skip
  refine zcr (sw (zO [yN,yN,yN] [] (sw (xG H 0 [yN,yN,yN] sizeOf31 fun w11 H=>sp (yI 1) (zjr (t_r ?_))))))
  replace H:=H.nilRowB 4
  replace H:=H.nilRow 24 1
  replace H:=H.zW (α:=yLI)
  replace H:=H.nilRowI 2
  refine retC2 H 3 rfl (yI 1) rfl isAgg31 sizeOf31 rfl rfl ⟨_,rfl,?_,H.base⟩
  rw [ch_1 ‹_›]
  exact ⟨none,0,0,none,0,0,[],[],none,0,0,rfl,N.emp,H.pick [2,1,0] [0]⟩
 have k0:=(‹vK s∧xX s t›:vK s∧xX s t)
 have k1:=k0.1
 have k2:=k0.2
 refine qW (t_n (zcc (sq 1 (oN rfl (sp (.bool (decide ((ch.length:Int) > 300))) (zjn (cD rfl (fun h12=>?_) (fun h12=>?_))))))))
 ·skip
  refine zcr (sw (zO [yN,yN,yN] [] (sw (xG H 0 [yN,yN,yN] sizeOf31 fun w13 H=>sp (yI 2) (zjr (t_r ?_))))))
  replace H:=H.nilRowB 4
  replace H:=H.nilRow 24 1
  replace H:=H.zW (α:=yLI)
  replace H:=H.nilRowI 2
  refine retC2 H 3 rfl (yI 2) rfl isAgg31 sizeOf31 rfl rfl ⟨_,rfl,?_,H.base⟩
  rw [ch_2 k0 (.inl qf)]
  exact ⟨none,0,0,none,0,0,[],[],none,0,0,rfl,N.emp,H.pick [2,1,0] [0]⟩
 refine qW (t_n (zcc (sq 1 (oN rfl (sp (yI 0) (zjn (qY ?_)))))))
 refine zq ((fun Z0 Z1 Z2 Z3 Z4 Z5 Z6 Z7 Z8=>fun m' ρ w14=>∃ (xM:Env) (k:Nat),ρ=upd (upd (upd (upd (upd (upd (upd xM 2 (.slice ach ch.length cch)) 3 (pp b1 0)) 4 (pp b3 0)) 6 (pp b5 0)) 25 (.slice ach ch.length cch)) 26 (yI ch.length)) 27 (yI k)∧((k:Int)≤ch.length)∧(AllCnt s ch k)∧m' =(ch.length - (k:Int)).toNat∧Fresh w.heap.size []∧St w w14 [Z0,Z1,Z2] [Z3,Z4,Z5,Z6,Z7,Z8]) _ _ _ _ _ _ _ _ _) ((ch.length - (0:Int)).toNat) ⟨_,0,uE7,qf,qx,rfl,N,H⟩ ?_
 clear H N
 rintro m' ρ w15 ⟨xM,k,rfl,i0,i1,rfl,N,H⟩
 refine zcr (sq 1 (zjn (xQ (cD rfl (fun h16=>?_) (fun h16=>?_)))))
 ·skip
  refine qW (t_n (xQ (qY (zcr ?_))))
  obtain ⟨b17,o18,rfl⟩:=H.addr 5 rfl qf
  obtain ⟨ae20,ce20,Fe20,H⟩:=H.vX 5 rfl k k qf qf qf
  refine oI rfl rfl (oL rfl (H.x8 1 rfl 0 rfl) (sq 1 (zjc (sw (xI (yS s qJ qI qV qQ) isAgg27 sizeOf27 rfl (qC (H.cells 2 rfl) 0 3) (sw (xI (yT t xg xf xF xA qU qR) isAgg31 sizeOf31 rfl (qC (H.cells 1 rfl) 0 3) (sq 1 ?_))))))))
  refine sw (oq (countsCode_ok _ s t (ch[k]!) (H.get 2 rfl).1 (H.get 3 rfl).1 (H.get 4 rfl).1 (H.get 5 rfl).1 (H.get 6 rfl).1 (H.get 0 rfl).1) H fun w22 H=>sq 1 (zjc (sq 1 (sp (.bool ((XX s t (ch[k]!):Int) != 0)) (zjn (xE ((XX s t (ch[k]!):Int) != 0) rfl (fun h24=>?_) (fun h24=>?_)))))))
  ·skip
   replace h24:=bne_iff_ne.1 h24
   refine zcr (sw (zO [yN,yN,yN] [] (sq 1 (sw (xG H 0 [yN,yN,yN] sizeOf31 fun w25 H=>sq 1 (zjr (zr5 ?_)))))))
   replace H:=H.nilRowB 4
   replace H:=H.nilRow 24 1
   replace H:=H.zW (α:=yLI)
   replace H:=H.nilRowI 2
   refine retC2 H 3 rfl (yI (XX s t (ch[k]!))) rfl isAgg31 sizeOf31 rfl rfl ⟨_,rfl,?_,H.base⟩
   rw [ch_2 k0 (.inr (fun h=>‹XX s t _≠0› (ask_0 k0 (h k qf)))),ask_2 k0 (fun h=>‹XX s t _≠0› (ask_0 k0 h))]
   exact ⟨none,0,0,none,0,0,[],[],none,0,0,rfl,N.emp,H.pick [2,1,0] [0]⟩
  replace h24:=xm h24
  refine qW (b_n (t_n (xU (sw (zA k 1 rfl rfl qf (sq 1 (xY (xe (m' :=(ch.length - ((k+1):Int)).toNat) qf ⟨_,k+1,uE7,?_,?_,rfl,N,H.pick [0,1,2] [2,3,4,5,6,7]⟩))))))))
  · omega
  · exact i1.succ (ask_ok ‹XX s t (ch[k]!)=0›).2.2
 refine zx4 (zcr (sw (xI (yT t xg xf xF xA qU qR) isAgg31 sizeOf31 rfl (qC (H.cells 1 rfl) 0 3) ?_)))
 obtain ⟨q7,q8,q9,q10⟩:=k2.sizes k1.1
 have q13:=fun k hk=>Nat.le_trans (q10 k hk) (by decide:8≤1000000)
 have sz29:=H.base.size
 refine sw (oc (Xd _ t (H.get 2 rfl).1 (H.get 3 rfl).1 (H.get 4 rfl).1 qg qg qg qg) ?_)
 rintro _ w27 ⟨ra26Alive,rn26Alive,rc26Alive,ra26Bags,rn26Bags,rc26Bags,rx26Bags,rF26Bags,ra26Around,rn26Around,rc26Around,rfl,M,K⟩ _
 replace N:=N.merge sz29 qm M
 replace H:=H.merge K M
 obtain rfl:=H.XC 0 rfl
 obtain rfl:=H.xK (α:=yLI) 1 rfl 0 rfl qj
 obtain rfl:=H.jm 2 rfl
 refine sw (xx H ti31 [yN,yN,yN] fun b34 w35 H=>sw (xG H 0 (yT t ra26Alive rc26Alive ra26Bags rc26Bags ra26Around rc26Around) sizeOf31 fun w36 H=>zjcc (sq 1 (oN rfl (sp (yI 0) (zjn (qY ?_)))))))
 have kc:AllCnt s ch ch.length:=fun j hj=>i1 j qf
 refine zq ((fun Z0 Z1 Z2 Z3 Z4 Z5 Z6 Z7 Z8=>fun m' ρ w37=>∃ (xM:Env) (k_1:Nat) (Q9:yOA) (Q4:Nat) (Q8:Nat) (now_Alive:List Bool) (XR:yOA) (XF:Nat) (XJ:Nat) (now_Bags:yLL) (x_now_Bags:List Value) (F_now_Bags:yLN) (QF:yOA) (Qz:Nat) (QE:Nat) (now_Around:yLI) (u:qF),ρ=upd (upd (upd (upd (upd (upd xM 3 (pp b1 0)) 6 (pp b5 0)) 11 (pp b34 0)) 42 (.slice ach ch.length cch)) 43 (yI ch.length)) 44 (yI k_1)∧now_Alive=u.qG∧now_Bags=u.qN∧now_Around=u.qH∧((k_1:Int)≤ch.length)∧(xX s u)∧(QY s t ch=Xm s ch (ch.length - k_1) u)∧m' =(ch.length - (k_1:Int)).toNat∧Fresh w.heap.size [F_now_Bags]∧St w w37 [.box b34 [.slice Q9 Q4 Q8,.slice XR XF XJ,.slice QF Qz QE] 31,rr Q9 Q4 Q8 4 1 (now_Alive.map (Value.bool)),rr XR XF XJ 24 1 x_now_Bags,rr QF Qz QE 2 1 (now_Around.map (Value.int .i64)),Z0,Z1,Z2] [xB true F_now_Bags x_now_Bags now_Bags,Z3,Z4,Z5,Z6,Z7,Z8]) _ _ _ _ _ _ _ _ _) ((ch.length - (0:Int)).toNat) ⟨_,0,ra26Alive,t.qG.length,rc26Alive,t.qG,ra26Bags,t.qN.length,rc26Bags,t.qN,rx26Bags,rF26Bags,ra26Around,t.qH.length,rc26Around,t.qH,t,uE6,(by rfl),(by rfl),(by rfl),qf,(by exact k2),(by exact ch_0 k0 qf kc),rfl,N,H⟩ ?_
 clear H N
 rintro m' ρ w38 ⟨xM,k_1,Q9,Q4,Q8,now_Alive,XR,XF,XJ,now_Bags,x_now_Bags,F_now_Bags,QF,Qz,QE,now_Around,u,rfl,rfl,rfl,rfl,i0,ku,kr,rfl,N,H⟩
 have hn_now_Alive:=H.XC 1 rfl
 have hn_now_Bags:=H.xK (α:=yLI) 2 rfl 0 rfl qj
 have hn_now_Around:=H.jm 3 rfl
 refine zcr (sq 1 (zjn (xQ (cD rfl (fun h39=>?_) (fun h39=>?_)))))
 ·skip
  refine qW (t_n (xQ (qY (zcr ?_))))
  obtain ⟨b40,o41,rfl⟩:=H.addr 6 rfl qf
  obtain ⟨ae43,ce43,Fe43,H⟩:=H.vX 6 rfl k_1 k_1 qf qf qf
  refine oI rfl rfl (oL rfl (H.x8 1 rfl 0 rfl) (sq 1 (zjc (sw (xI (yS s qJ qI qV qQ) isAgg27 sizeOf27 rfl (qC (H.cells 6 rfl) 0 3) (sw (xI [.slice Q9 Q4 Q8,.slice XR XF XJ,.slice QF Qz QE] isAgg31 sizeOf31 rfl (qC (H.cells 0 rfl) 0 3) (sq 1 ?_))))))))
  obtain ⟨G44,hn45,h46⟩:=H.Vp 1 rfl
  obtain ⟨G47,hn48,h49⟩:=H.yQ (α:=yLI) 2 rfl 2 rfl qj
  obtain ⟨G50,hn51,h52⟩:=H.Qi 3 rfl
  have k3:=kc k_1 qf
  refine sw (oq (XY (by rw [← hn45,← hn48,← hn51]) (isMaximal_ok _ s u (ch[k_1]!) (H.get 3 rfl).1 (H.get 4 rfl).1 (hn45▸h46) (hn48▸h49) (hn51▸h52) (H.get 0 rfl).1 qg qg qg)) H fun w54 H=>sq 2 (sp (yI 0) (sq 1 (sp (yI 0) (zjcc (sp (yI 0) (sp (.bool true) (sp (.bool true) (qL 57 rfl rfl (sq 1 (qL 57 rfl rfl (sp (.bool (!(dec (IsMost s u (ch[k_1]!))))) (qL 57 rfl rfl ?_)))))))))))))
  refine sp (.bool (!(dec (IsMost s u (ch[k_1]!))))) ?_
  cases h56:(!(dec (IsMost s u (ch[k_1]!))))
  ·skip
   replace h56:=xw h56
   replace h56:=yX h56
   refine qL 60 rfl rfl (sw (xI (yS s qJ qI qV qQ) isAgg27 sizeOf27 rfl (qC (H.cells 6 rfl) 0 3) (qL 60 rfl rfl (sw (xI [.slice Q9 Q4 Q8,.slice XR XF XJ,.slice QF Qz QE] isAgg31 sizeOf31 rfl (qC (H.cells 0 rfl) 0 3) (qL 60 rfl rfl ?_))))))
   obtain ⟨G57,hn58,h59⟩:=H.Vp 1 rfl
   obtain ⟨G60,hn61,h62⟩:=H.yQ (α:=yLI) 2 rfl 2 rfl qj
   obtain ⟨G63,hn64,h65⟩:=H.Qi 3 rfl
   have sz69:=H.base.size
   refine sw (oc (XY (by rw [← hn58,← hn61,← hn64]) (applicable_ok _ s u (H.get 3 rfl).1 (H.get 4 rfl).1 (hn58▸h59) (hn61▸h62) (hn64▸h65) qg qg)) ?_)
   rintro _ w67 ⟨ra66,rn66,rc66,rfl,M,K⟩ _
   replace H:=H.merge K M
   obtain rfl:=H.jm 0 rfl
   refine qL 60 rfl rfl (oN rfl (qL 60 rfl rfl (sp (.bool (((appls s u).length:Int) == 0)) (qL 57 rfl rfl (sp (.bool (((appls s u).length:Int) == 0)) (sp (.bool (((appls s u).length:Int) == 0)) (zjn (cE rfl (fun h72=>?_) (fun h72=>?_)))))))))
   ·skip
    refine xU (sp (yI 4) (zjcc (sp (yI 4) (sp (.bool false) (zjn (xE false rfl (fun h=>absurd h qj) (fun _=>qW (t_n (zcr (sp (yI 4) (sp (.bool true) (zjn (xE true rfl (fun _=>zcr (sw (zO [yN,yN,yN] [] (sp (yI 4) (sw (xG H 5 [yN,yN,yN] sizeOf31 fun w73 H=>sp (yI 4) (zjr (zr5 ?_)))))))) (fun h=>absurd h qj))))))))))))))
    replace H:=H.nilRowB 4
    replace H:=H.nilRow 24 1
    replace H:=H.zW (α:=yLI)
    replace H:=H.nilRowI 2
    refine retC2 H 8 rfl (yI 4) rfl isAgg31 sizeOf31 rfl rfl ⟨_,rfl,?_,H.base⟩
    rw [kr,choose_4 (k:=k_1) rfl qf (by first | exact .inr ‹¬ IsMost s u _› | exact .inl (XP.1 qf))]
    exact ⟨none,0,0,none,0,0,[],[],none,0,0,rfl,(N.emp.pick [0]),H.pick [2,1,0] [0]⟩
   refine qW (t_n (zcc (sp (yI 0) (sp (.bool true) (zjn (xE true rfl (fun _=>xU (sw (xI (yS s qJ qI qV qQ) isAgg27 sizeOf27 rfl (qC (H.cells 7 rfl) 0 3) (sw (xI [.slice Q9 Q4 Q8,.slice XR XF XJ,.slice QF Qz QE] isAgg31 sizeOf31 rfl (qC (H.cells 1 rfl) 0 3) (sq 1 ?_)))))) (fun h=>absurd h qj)))))))
   obtain ⟨G74,hn75,h76⟩:=H.Vp 2 rfl
   obtain ⟨G77,hn78,h79⟩:=H.yQ (α:=yLI) 3 rfl 2 rfl qj
   obtain ⟨G80,hn81,h82⟩:=H.Qi 4 rfl
   have k4:=(‹IsMost s u _›:IsMost s u _).1
   have sz86:=H.base.size
   have lt87:=H.ltN (L:=[F_now_Bags]) [2]
   refine sw (oc (XY (by rw [← hn75,← hn78,← hn81]) (step_ok _ s u (ch[k_1]!) (H.get 3 rfl).1 (H.get 4 rfl).1 (hn75▸h76) (hn78▸h79) (hn81▸h82) (H.get 0 rfl).1 qg qg qg qg)) ?_)
   rintro _ w84 ⟨ra83aAlive,rn83aAlive,rc83aAlive,ra83aBags,rn83aBags,rc83aBags,rx83aBags,rF83aBags,ra83aAround,rn83aAround,rc83aAround,rfl,M,K⟩ _
   replace N:=N.merge sz86 lt87 M
   replace H:=H.merge K M
   obtain rfl:=H.XC 0 rfl
   obtain rfl:=H.xK (α:=yLI) 1 rfl 0 rfl qj
   obtain rfl:=H.jm 2 rfl
   refine sq 3 ?_
   refine sw (xG H 4 [.slice ra83aAlive ((((zF s u (ch[k_1]!)).1).qG).length) rc83aAlive,.slice ra83aBags ((((zF s u (ch[k_1]!)).1).qN).length) rc83aBags,.slice ra83aAround ((((zF s u (ch[k_1]!)).1).qH).length) rc83aAround] sizeOf31 fun w91 H=>sq 1 (zjc (sq 1 (sp (.bool (((zF s u (ch[k_1]!)).2:Int) != 0)) (zjn (xE (((zF s u (ch[k_1]!)).2:Int) != 0) rfl (fun h92=>?_) (fun h92=>?_)))))))
   ·skip
    replace h92:=bne_iff_ne.1 h92
    refine zcr (sw (zO [yN,yN,yN] [] (sq 1 (sw (xG H 8 [yN,yN,yN] sizeOf31 fun w93 H=>sq 1 (zjr (zr5 ?_)))))))
    replace H:=H.nilRowB 4
    replace H:=H.nilRow 24 1
    replace H:=H.zW (α:=yLI)
    replace H:=H.nilRowI 2
    refine retC2 H 11 rfl (yI ((zF s u (ch[k_1]!)).2)) rfl isAgg31 sizeOf31 rfl rfl ⟨_,rfl,?_,H.base⟩
    rw [kr,choose_bad (k:=k_1) rfl qf (fun h=>by have:=XP.2 h;omega) ‹IsMost s u _› ‹_›]
    exact ⟨none,0,0,none,0,0,[],[],none,0,0,rfl,(N.emp.pick [0]),H.pick [2,1,0] [0]⟩
   replace h92:=xm h92
   refine qW (b_n (t_n (xU (sw (zA k_1 1 rfl rfl qf (sq 1 (xY (xe (m' :=(ch.length - ((k_1+1):Int)).toNat) qf ⟨_,k_1+1,_,_,_,_,_,_,_,_,_,_,_,_,_,_,(zF s u (ch[k_1]!)).1,uE6,?_,?_,?_,?_,?_,?_,rfl,(N.pick [0]),H.pick [4,0,1,2,8,9,10] [0,4,5,6,7,8,9]⟩))))))))
   · rfl
   · rfl
   · rfl
   · omega
   · exact stepBy_ok ‹_›
   · exact kr.trans (choose_go (k:=k_1) rfl qf rfl (fun h=>by have:=XP.2 h;omega) ‹IsMost s u _› ‹_›)
  replace h56:=xJ h56
  replace h56:=zT h56
  refine xZ [61,62,63,64,65] (qL 57 rfl rfl (sp (.bool true) (sp (.bool true) (zjn (xE true rfl (fun _=>xU (sp (yI 4) (zjcc (sp (yI 4) (sp (.bool false) (zjn (xE false rfl (fun h=>absurd h qj) (fun _=>qW (t_n (zcr (sp (yI 4) (sp (.bool true) (zjn (xE true rfl (fun _=>zcr (sw (zO [yN,yN,yN] [] (sp (yI 4) (sw (xG H 4 [yN,yN,yN] sizeOf31 fun w94 H=>sp (yI 4) ?_)))))) (fun h=>absurd h qj))))))))))))))) (fun h=>absurd h qj))))))
  refine zjr (zr5 ?_)
  replace H:=H.nilRowB 4
  replace H:=H.nilRow 24 1
  replace H:=H.zW (α:=yLI)
  replace H:=H.nilRowI 2
  refine retC2 H 7 rfl (yI 4) rfl isAgg31 sizeOf31 rfl rfl ⟨_,rfl,?_,H.base⟩
  rw [kr,choose_4 (k:=k_1) rfl qf (by first | exact .inr ‹¬ IsMost s u _› | exact .inl (XP.1 qf))]
  exact ⟨none,0,0,none,0,0,[],[],none,0,0,rfl,(N.emp.pick [0]),H.pick [2,1,0] [0]⟩
 refine zx4 (zcr (sw (xI [.slice Q9 Q4 Q8,.slice XR XF XJ,.slice QF Qz QE] isAgg31 sizeOf31 rfl (qC (H.cells 0 rfl) 0 3) (sw (xG H 4 [.slice Q9 Q4 Q8,.slice XR XF XJ,.slice QF Qz QE] sizeOf31 fun w95 H=>sp (yI 0) (zjr (retC2 H 4 rfl (yI 0) rfl isAgg31 sizeOf31 rfl rfl ⟨_,rfl,?_,H.base⟩)))))))
 rw [kr,choose_end qf]
 exact ⟨Q9,Q4,Q8,XR,XF,XJ,x_now_Bags,F_now_Bags,QF,Qz,QE,rfl,N,H.pick [1,2,3] [0]⟩
end
section

theorem St.rowel_StateD {W0 w:World} {ps:List Prv} {Γ:List Fact} (H:St W0 w ps Γ) (k:Nat) {b c:Nat} {e:TypeId} {nn:Nat} {xs:List Value} (hp:ps[k]? =some (.row (.slice (some ⟨b,0,none⟩) nn c) e 3 nn xs)) (j:Nat) {fr:Bool} {F:yLN} {l:List qF}
    (hf:Γ[j]? =some (xB fr F xs l)) {iv:Int} (i:Nat) (h:iv.toNat=i) (h1:i < nn):
    ∃ (aA:yOA) (cA:Nat) (FA:yLN) (aB:yOA) (cB:Nat) (FB:yLN) (aO:yOA) (cO:Nat) (FO:yLN),
      (∀ (q:Nat) (v:Value),([.slice aA ((l[i]!).qG.length) cA,.slice aB ((l[i]!).qN.length) cB,.slice aO ((l[i]!).qH.length) cO]:List Value)[q]? =some v→xs[0+iv.toNat * 3+q]? =some v)∧
      St W0 w ps (isF fr FA (.slice aA ((l[i]!).qG.length) cA) ((l[i]!).qG) :: isF fr FB (.slice aB ((l[i]!).qN.length) cB) ((l[i]!).qN) :: isF fr FO (.slice aO ((l[i]!).qH.length) cO) ((l[i]!).qH) :: Γ):=by
  obtain ⟨cs,G,hc,hr,hsub,hfr,v1,v2,hv,hv1⟩:=St.rowElem (α:=qF) H k hp j hf qj h h1
  obtain ⟨vA,vB,vO,FA,FB,FO,rfl,hFF,hA,hB,hO⟩:=id hr
  obtain ⟨aA,cA,rfl⟩:=slice_form hA
  obtain ⟨aB,cB,rfl⟩:=slice_form hB
  obtain ⟨aO,cO,rfl⟩:=slice_form hO
  refine ⟨aA,cA,FA,aB,cB,FB,aO,cO,FO,fun q v hq=>?_,?_⟩
  · have hv1:v1.length=i * 3:=hv1
    have hlt:q < 3:=by
      rcases Nat.lt_or_ge q 3 with h | h
      · exact h
      · rw [List.getElem?_eq_none (by simpa using h)] at hq;cases hq
    rw [hv,List.append_assoc,Nat.zero_add,h,← hv1,List.getElem?_append_right qf,Nat.add_sub_cancel_left,List.getElem?_append_left (by simpa using hlt)]
    exact hq
  · have s3:=H.vZ j hf (isF fr FO (.slice aO ((l[i]!).qH.length) cO) ((l[i]!).qH)) ⟨hO,fun e=>(hfr e).sub (by rw [hFF];intro x hx;simp [hx])⟩ (fun x hx=>hsub x (by rw [hFF];have hx:x∈FO:=hx;simp [hx]))
    have s2:=s3.vZ (j+1) hf (isF fr FB (.slice aB ((l[i]!).qN.length) cB) ((l[i]!).qN)) ⟨hB,fun e=>(hfr e).sub (by rw [hFF];intro x hx;simp [hx])⟩ (fun x hx=>hsub x (by rw [hFF];have hx:x∈FB:=hx;simp [hx]))
    exact s2.vZ (j+2) hf (isF fr FA (.slice aA ((l[i]!).qG.length) cA) ((l[i]!).qG)) ⟨hA,fun e=>(hfr e).sub (by rw [hFF];intro x hx;simp [hx])⟩ (fun x hx=>hsub x (by rw [hFF];have hx:x∈FA:=hx;simp [hx]))
theorem state_eq {a b:qF} (h1:a.qG=b.qG) (h2:a.qN=b.qN) (h3:a.qH=b.qH):a=b:=by
  cases a;cases b;simp only at h1 h2 h3;subst h1 h2 h3;rfl
open Classical in
noncomputable def jU (s:qE) (t:qF) (cs:yLL):Nat→List qF
  | 0=>[]
  | k+1=>if (zF s t (cs[k]!)).1∈jU s t cs k then jU s t cs k else jU s t cs k++[(zF s t (cs[k]!)).1]
theorem nextTo_in {s:qE} {t:qF} {cs:yLL} {k:Nat} (h:(zF s t (cs[k]!)).1∈jU s t cs k):jU s t cs k=jU s t cs (k+1):=by rw [jU,if_pos h]
theorem nextTo_new {s:qE} {t:qF} {cs:yLL} {k:Nat} (h:¬ (zF s t (cs[k]!)).1∈jU s t cs k):jU s t cs k++[(zF s t (cs[k]!)).1]=jU s t cs (k+1):=by rw [jU,if_neg h]
theorem nextTo_len {s:qE} {t:qF} {cs:yLL}:∀ k,(jU s t cs k).length≤k
  | 0=>by simp [jU]
  | k+1=>by
    have:=nextTo_len (s:=s) (t:=t) (cs:=cs) k
    rw [jU]
    split
    · omega
    · simp;omega
def CodeBad (s:qE) (t:qF) (cs:yLL) (k:Nat):Prop:=(zF s t (cs[k]!)).2≠0
def NoBad (s:qE) (t:qF) (cs:yLL) (k:Nat):Prop:=∀ j,j < k→¬ CodeBad s t cs j
theorem NoBad.succ {s:qE} {t:qF} {cs:yLL} {k:Nat} (h:NoBad s t cs k) (h1:(zF s t (cs[k]!)).2=0):NoBad s t cs (k+1):=fun j hj=>by
  by_cases e:j=k
  · subst e;exact fun x=>x h1
  · exact h j qf
open Classical in
noncomputable def QH (s:qE) (t:qF) (cs:yLL):List qF×Int:=
  if NoBad s t cs cs.length then (jU s t cs cs.length,0) else ([],(zF s t (cs[Xl (CodeBad s t cs) cs.length]!)).2)
theorem next_ok {s:qE} {t:qF} {cs:yLL} (h:NoBad s t cs cs.length):QH s t cs=(jU s t cs cs.length,0):=by rw [QH,if_pos h]
theorem next_bad {s:qE} {t:qF} {cs:yLL} {k:Nat} (h:NoBad s t cs k) (hk:k < cs.length) (h1:(zF s t (cs[k]!)).2≠0):QH s t cs=([],(zF s t (cs[k]!)).2):=by
  rw [QH,if_neg (fun x=>x k hk h1),stop_first h hk h1]
theorem find_mem {l:List qF} {u:qF}:firstIdx (fun k=>decide (l[k]! =u)) l.length < 0↔¬ u∈l:=by
  have h:=anyTo_first (fun k=>decide (l[k]! =u)) l.length
  constructor
  · intro h1 hm
    obtain ⟨k,hk,e⟩:=List.mem_iff_getElem.1 hm
    have:anyTo (fun k=>decide (l[k]! =u)) l.length=true:=anyTo_iff.2 ⟨k,hk,by rw [getElem!_pos l k hk];simpa using e⟩
    rw [this] at h
    have:=of_decide_eq_true h
    omega
  · intro hm
    apply Classical.byContradiction
    intro h1
    rw [decide_eq_true qf] at h
    obtain ⟨k,hk,e⟩:=anyTo_iff.1 h.symm
    rw [getElem!_pos l k hk] at e
    exact hm ((of_decide_eq_true e)▸List.getElem_mem hk)
theorem mem_at {l:List qF} {u:qF} {k:Nat} (hk:k < l.length) (h:l[k]! =u):u∈l:=by
  rw [getElem!_pos l k hk] at h;rw [← h];exact List.getElem_mem hk
def NotIn (l:List qF) (u:qF) (k:Nat):Prop:=∀ j,j < k→l[j]! ≠u
theorem NotIn.succ {l:List qF} {u:qF} {k:Nat} (h:NotIn l u k) (h1:l[k]! ≠u):NotIn l u (k+1):=fun j hj=>by
  by_cases e:j=k
  · subst e;exact h1
  · exact h j qf
theorem NotIn.out {l:List qF} {u:qF} (h:NotIn l u l.length):¬ u∈l:=fun hm=>by
  obtain ⟨k,hk,e⟩:=List.mem_iff_getElem.1 hm
  exact h k hk (by rw [getElem!_pos l k hk];exact e)
end
end Go.Proofs.YtdhklgjmiamiaaaGreat
