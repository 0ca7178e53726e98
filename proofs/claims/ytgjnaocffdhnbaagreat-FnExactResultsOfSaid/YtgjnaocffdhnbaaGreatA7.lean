/- Walks and laws, printed by program and by hand: what each function comes to, for all arguments, part 7. -/
import Derived.Test.YtgjnaocffdhnbaaGreatA6
namespace Go.Proofs.YtgjnaocffdhnbaaGreat
set_option linter.unusedVariables false
set_option linter.unusedSimpArgs false
open Go.Proofs.YtgjnaocffdhnbaaGreat.Tot (tot)
open Go.Proofs.YtgjnaocffdhnbaaGreat.Mark (cnt mrk mkd mkd_mark cnt_mark)
section
open Go.Proofs.Tryz
open Go.RowKit
set_option linter.unusedVariables false
set_option linter.unusedSimpArgs false
set_option maxRecDepth 100000
set_option maxHeartbeats 4000000
variable {qB qJ qR xk qK : Nat}
theorem specRS_ok (w:World) (s:qI) (t:qH) (cell:Int) {qC:yOA} {qZ:yLN} {qN:yOA} {xG:yLN} {qV:yOA} {xR:yLN} {xm:yOA} {zC:yLN} {qL:yOA} {xC:yLN} (xf:qO.rep w qZ [Sv qC s.qw.length qB] s.qw) (xJ:qO.rep w xG [Sv qN s.qx.length qJ] s.qx) (zi:qO.rep w xR [Sv qV t.qA.length qR] t.qA) (zM:qO.rep w zC [Sv xm t.qE.length xk] t.qE) (xN:qO.rep w xC [Sv qL t.qy.length qK] t.qy):Calls Tryz.prog 51 #[.agg #[yI s.xB,Sv qC s.qw.length qB,Sv qN s.qx.length qJ],.agg #[Sv qV t.qA.length qR,Sv xm t.qE.length xk,Sv qL t.qy.length qK],yI cell] w (Ret (fun v w' =>∃ (ra0:yOA) (rc0:Nat) (rF0:yLN),v=.tuple #[Sv ra0 (((vw s t cell).1).length) rc0,yI ((vw s t cell).2)]∧Fresh w.heap.size [rF0]∧St w w' [] [sF true rF0 ra0 rc0 ((vw s t cell).1)]) w):=by
 refine en func51 ntmps51 ?_
 have H:=(((((St.start w).arg xN).arg zM).arg zi).arg xJ).arg xf
 have vH:=qM xf
 have jw:=qM xJ
 have Qj:=qM zi
 have Q7:=qM zM
 have jV:=qM xN
 clear xf xJ zi zM xN
 have N:=Fresh.nil w.heap.size
 refine zcr (sw (vU H (yS s qC qB qN qJ) fun b1 w2 H=>sw (vU H (yT t qV qR xm xk qL qK) fun b3 w4 H=>sps [yN,yI 0] (zjcc (sw (oq (l03Both_ok _ s t (qF (H.cells 1 rfl) 0 3) (H.get 0 rfl).1 (H.get 1 rfl).1 (qF (H.cells 0 rfl) 0 3) (H.get 2 rfl).1 (H.get 3 rfl).1 (H.get 4 rfl).1) H fun w6 H=>sp (Bv (!(dec (jE s∧zu s t)))) (zjn (cQ rfl (fun h8=>?_) (fun h8=>?_)))))))))
 ·skip
  refine zcr (sw (vP H underlying27 ti22 fun b9 w10 H=>sps [Sv (aa b9 0) 0 0,yI 1] (zjr (t_r ?_))))
  replace H:=H.boxRow 0 rfl 1 0 rfl qj
  replace H:=H.vT (α:=yLI)
  have H0:=H
  obtain ⟨G11,hg13,hn12,H⟩:=H.yX (α:=yLI) 0 rfl 0 rfl qj
  replace N:Fresh w.heap.size [G11]:=Fresh.ice N.emp H0 0 hg13.1 hg13.2 (H0.jU [])
  clear H0
  refine ret2 (Sv (aa b9 0) 0 0) (yI 1) rfl rfl rfl ⟨_,rfl,?_,H.base⟩
  rw [rs_1 ‹_›]
  exact ⟨(aa b9 0),0,G11,rfl,N,H.pick [] [0]⟩
 have k0:=(‹jE s∧zu s t›:jE s∧zu s t)
 have k1:=k0.1
 have k2:=k0.2
 obtain ⟨q7,q8,q9,q10⟩:=k2.sizes k1.1
 have q13:=fun k hk=>Nat.le_trans (q10 k hk) (by decide:8≤1000000)
 refine qW (t_n (zcc (sp (yI cell) (oF rfl (oL rfl (H.cell 1 rfl rfl) (oN rfl (sw (oq (l00In_ok w6 cell 0 s.qw.length) H fun w14 H=>sp (Bv (!(inR cell 0 s.qw.length))) (zjn (xE (!(inR cell 0 s.qw.length)) rfl (fun h16=>?_) (fun h16=>?_)))))))))))
 ·skip
  replace h16:=xq h16
  replace h16:=Vh h16
  refine zcr (sw (vP H underlying27 ti22 fun b17 w18 H=>sps [Sv (aa b17 0) 0 0,yI 2] (zjr (t_r ?_))))
  replace H:=H.boxRow 0 rfl 1 0 rfl qj
  replace H:=H.vT (α:=yLI)
  have H0:=H
  obtain ⟨G19,hg21,hn20,H⟩:=H.yX (α:=yLI) 0 rfl 0 rfl qj
  replace N:Fresh w.heap.size [G19]:=Fresh.ice N.emp H0 0 hg21.1 hg21.2 (H0.jU [])
  clear H0
  refine ret2 (Sv (aa b17 0) 0 0) (yI 2) rfl rfl rfl ⟨_,rfl,?_,H.base⟩
  rw [rs_2 k0 ‹_›]
  exact ⟨(aa b17 0),0,G19,rfl,N,H.pick [] [0]⟩
 replace h16:=xg h16
 replace h16:=XA.1 h16
 have hc:0≤cell∧cell≤(s.qw.length:Int):=by assumption
 refine qW (t_n (zcr (sw (zl (yS s qC qB qN qJ) isAgg36 sizeOf36 rfl (qF (H.cells 1 rfl) 0 3) (sw (zl (yT t qV qR xm xk qL qK) isAgg38 sizeOf38 rfl (qF (H.cells 0 rfl) 0 3) ?_))))))
 have sz25:=H.base.size
 refine sw (oc (specEx_ok _ s t (H.get 0 rfl).1 (H.get 1 rfl).1 (H.get 2 rfl).1 (H.get 3 rfl).1 (H.get 4 rfl).1) ?_)
 rintro _ w23 ⟨ra22aStates,rc22aStates,rF22aStates,ra22aNext,rc22aNext,rF22aNext,rfl,M,K⟩ _
 replace N:=N.merge sz25 qm M
 replace H:=H.merge K M
 refine sps [.tuple #[.agg #[Sv ra22aStates (((exG s t).qP).length) rc22aStates,Sv ra22aNext (((exG s t).fNext).length) rc22aNext],yI ((Xp s t).2)],.agg #[Sv ra22aStates (((exG s t).qP).length) rc22aStates,Sv ra22aNext (((exG s t).fNext).length) rc22aNext],yI ((Xp s t).2)] (sw (zh H ti59 [yN,yN] fun b27 w28 H=>sw (zF H 0 [Sv ra22aStates (((exG s t).qP).length) rc22aStates,Sv ra22aNext (((exG s t).fNext).length) rc22aNext] sizeOf59 fun w29 H=>sp (yI ((Xp s t).2)) (zjcc ?_))))
 refine sps [yI ((Xp s t).2),Bv (((Xp s t).2:Int) != 0)] (zjn (xE (((Xp s t).2:Int) != 0) rfl (fun h30=>?_) (fun h30=>?_)))
 ·skip
  replace h30:=bne_iff_ne.1 h30
  refine zcr (sw (vP H underlying27 ti22 fun b31 w32 H=>sps [yI ((Xp s t).2),Sv (aa b31 0) 0 0,yI ((Xp s t).2)] (zjr (t_r ?_))))
  replace H:=H.boxRow 0 rfl 1 0 rfl qj
  replace H:=H.vT (α:=yLI)
  have H0:=H
  obtain ⟨G33,hg35,hn34,H⟩:=H.yX (α:=yLI) 0 rfl 0 rfl qj
  replace N:Fresh w.heap.size [G33,rF22aStates,rF22aNext]:=Fresh.ice N.emp H0 0 hg35.1 hg35.2 (H0.jU [1,2])
  clear H0
  refine ret2 (Sv (aa b31 0) 0 0) (yI ((Xp s t).2)) rfl rfl rfl ⟨_,rfl,?_,H.base⟩
  rw [rs_c k0 hc ‹_›]
  exact ⟨(aa b31 0),0,G33,rfl,(N.pick [0]),H.pick [] [0]⟩
 replace h30:=xw h30
 have c0:(Xp s t).2=0:=by omega
 have ga:=ex_all c0
 have k0:=ex_valid c0
 have k1:=k0.1
 have gp:=ga.pos
 have gl:=ga.le
 have gn:=ga.len
 refine qW (t_n (zcr (sw (vJ #[pp b1 0,pp b27 0] rfl rfl call83 (en func83 ntmps83 ?_)))))
 refine zcr (sp yN (zjc (sw (vP H underlying47 ti38 fun b36 w37 H=>sp (Sv (aa b36 0) 0 0) (zjcc (sp (yI 0) (zjn (qX ?_))))))))
 replace H:=H.boxRow 0 rfl 3 0 rfl qj
 replace H:=H.vT (α:=qH)
 replace H:St _ _ [rr (aa b36 0) 0 0 38 3 [],.box b27 [Sv ra22aStates (((exG s t).qP).length) rc22aStates,Sv ra22aNext (((exG s t).fNext).length) rc22aNext] 59,.box b3 (yT t qV qR xm xk qL qK) 38,.box b1 (yS s qC qB qN qJ) 36] [zf true [] [] ([]:List qH),sF true rF22aStates ra22aStates rc22aStates ((exG s t).qP),sF true rF22aNext ra22aNext rc22aNext ((exG s t).fNext),sF false qZ qC qB s.qw,sF false xG qN qJ s.qx,sF false xR qV qR t.qA,sF false zC xm xk t.qE,sF false xC qL qK t.qy]:=H
 refine zD (fun m' ρ w38=>∃ (xY:Env) (zX:yOA) (xX:Nat) (zK:Nat) (out:List qH) (Ql:List Value) (jI:yLN) (i:Nat),ρ=upd (upd (upd (upd xY 0 (pp b1 0)) 1 (pp b27 0)) 5 (Sv zX xX zK)) 6 (yI i)∧out=(xU s (exG s t).qP i)∧((i:Int)≤(((exG s t).qP).length))∧m' =((((exG s t).qP).length) - (i:Int)).toNat∧Fresh w.heap.size [rF22aStates,rF22aNext,jI]∧St w w38 [rr zX xX zK 38 3 Ql,.box b27 [Sv ra22aStates (((exG s t).qP).length) rc22aStates,Sv ra22aNext (((exG s t).fNext).length) rc22aNext] 59,.box b3 (yT t qV qR xm xk qL qK) 38,.box b1 (yS s qC qB qN qJ) 36] [zf true jI Ql out,sF true rF22aStates ra22aStates rc22aStates ((exG s t).qP),sF true rF22aNext ra22aNext rc22aNext ((exG s t).fNext),sF false qZ qC qB s.qw,sF false xG qN qJ s.qx,sF false xR qV qR t.qA,sF false zC xm xk t.qE,sF false xC qL qK t.qy]) (((((exG s t).qP).length) - (0:Int)).toNat) ⟨_,(aa b36 0),0,0,([]:List qH),[],[],0,uE4,(by rfl),qf,rfl,(N.emp.pick [1,2,0]),H⟩ ?_
 clear H N
 rintro m' ρ w39 ⟨xY,zX,xX,zK,out,Ql,jI,i,rfl,rfl,i0,rfl,N,H⟩
 have hn_out:=H.zq (α:=qH) 0 rfl 0 rfl qj
 have el:=ends_len s (exG s t).qP i
 refine zcc (sps [yI i,pp b27 0,pp b27 0] (oF rfl (oL rfl (H.cell 1 rfl rfl) (oN rfl (sp (Bv (decide ((i:Int) < (((exG s t).qP).length)))) (zjn (cD rfl (fun h40=>?_) (fun h40=>?_))))))))
 ·skip
  have ks:=ga.st ((exG s t).qP[i]!) (mem_at (k:=i) qf rfl)
  obtain ⟨y7,y8,y9,y10⟩:=ks.sizes k1.1
  have y13:=fun k hk=>Nat.le_trans (y10 k hk) (by decide:8≤1000000)
  refine qW (t_n (xQ (qX (zcr (sps [pp b1 0,pp b27 0,pp b27 0] (oF rfl (oL rfl (H.cell 1 rfl rfl) (sp (yI i) ?_))))))))
  obtain ⟨b41,o42,rfl⟩:=H.addr 1 rfl qf
  obtain ⟨ae44Alive,ce44Alive,Fe44Alive,ae44Bags,ce44Bags,Fe44Bags,ae44Around,ce44Around,Fe44Around,H⟩:=H.elem_StateD 1 rfl i i qf qf qf
  refine oI rfl rfl (sw (oq (l03Halted_ok _ s (((exG s t).qP)[i]!) (qF (H.cells 3 rfl) 0 3) (H.get 7 rfl).1 (H.get 8 rfl).1 (qF (H.get 3 rfl) 0 3) (H.get 0 rfl).1 (H.get 1 rfl).1 (H.get 2 rfl).1 qg qg) H fun w46 H=>zjn (cP rfl (fun h48=>?_) (fun h48=>?_))))
  ·skip
   refine xO (sps [Sv zX xX zK,pp b27 0,pp b27 0] (oF rfl (oL rfl (H.cell 1 rfl rfl) (sp (yI i) (oI rfl rfl ?_)))))
   have sz52:=H.base.size
   have lt53:=H.ltN (L:=[rF22aStates,rF22aNext,jI]) [5,6,4]
   refine sw (oc (l02Own_ok _ (((exG s t).qP)[i]!) (qF (H.get 3 rfl) 0 3) (H.get 0 rfl).1 (H.get 1 rfl).1 (H.get 2 rfl).1 qg qg qg qg) ?_)
   rintro _ w50 ⟨ra49Alive,rn49Alive,rc49Alive,ra49Bags,rn49Bags,rc49Bags,rx49Bags,rF49Bags,ra49Around,rn49Around,rc49Around,rfl,M,K⟩ _
   replace N:=N.merge sz52 lt53 M
   replace H:=H.merge K M
   obtain rfl:=H.rowNB 0 rfl
   obtain rfl:=H.zq (α:=yLI) 1 rfl 0 rfl qj
   obtain rfl:=H.YX 2 rfl
   refine sw (zA H underlying47 ti38 [Sv ra49Alive (((((exG s t).qP)[i]!).qA).length) rc49Alive,Sv ra49Bags (((((exG s t).qP)[i]!).qE).length) rc49Bags,Sv ra49Around (((((exG s t).qP)[i]!).qy).length) rc49Around] fun b57 w58 H=>?_)
   obtain ⟨G62,N,hn63,H⟩:=H.freezeB 1 rfl N (H.jU [0,6,7,5])
   have H0:=H
   obtain ⟨G64,hg66,hn65,H⟩:=H.yX (α:=yLI) 2 rfl 1 rfl qj
   replace N:Fresh w.heap.size [G64,G62,rF22aStates,rF22aNext,jI]:=Fresh.ice (N.pick [1,0,2,3,4]) H0 2 hg66.1 hg66.2 (H0.jU [0,7,8,6])
   clear H0
   obtain ⟨G67,N,hn68,H⟩:=H.jb 3 rfl N (H.jU [0,1,8,9,7])
   refine sw (zG H 4 rfl 0 rfl underlying47 ti38 rfl qj rfl rfl rfl (by simp [Value.oneCell',Value.cells]) qp qf fun a59 c60 w61 H=>?_)
   replace H:=H.Vf 8 rfl 2 rfl 1 rfl 0 rfl
   replace N:Fresh w.heap.size [(jI++(G62++G64++G67)),rF22aStates,rF22aNext]:=(N.pick [2,1,0,5,3,4]).join.join.swap.join
   refine sp (Sv a59 (xX+1) c60) (xM (b_n (t_n (xO (sp (yI i) (sw (zB i 1 rfl rfl qf (sp (yI (i+1)) (xM ?_)))))))))
   refine qY (m' :=((((exG s t).qP).length) - ((i+1):Int)).toNat) qf ⟨_,a59,xX+1,c60,((xU s (exG s t).qP i)++[⟨(((exG s t).qP)[i]!).qA,(((exG s t).qP)[i]!).qE,(((exG s t).qP)[i]!).qy⟩]),Ql++[Sv ra49Alive (((((exG s t).qP)[i]!).qA).length) rc49Alive,Sv ra49Bags (((((exG s t).qP)[i]!).qE).length) rc49Bags,Sv ra49Around (((((exG s t).qP)[i]!).qy).length) rc49Around],(jI++(G62++G64++G67)),i+1,uE4,?_,?_,rfl,(N.pick [1,2,0]),H.pick [4,5,6,7] [0,10,11,12,13,14,15,16]⟩
   · first | exact ends_yes qf ‹_› | exact ends_no qf ‹_›
   · omega
  refine qW (b_n (t_n (xO (sp (yI i) (sw (zB i 1 rfl rfl qf (sp (yI (i+1)) (xM (qY (m' :=((((exG s t).qP).length) - ((i+1):Int)).toNat) qf ⟨_,zX,xX,zK,(xU s (exG s t).qP i),Ql,jI,i+1,uE4,?_,?_,rfl,N,H.pick [0,1,2,3] [4,5,6,7,8,9,10,11]⟩)))))))))
  · first | exact ends_yes qf ‹_› | exact ends_no qf ‹_›
  · omega
 refine zx4 (zcr (sps [Sv zX xX zK,Sv zX xX zK] (zjr (ret1 (Sv zX xX zK) rfl rfl ⟨_,rfl,(sp (Sv zX xX zK) (zjc (sw (vP H underlying27 ti22 fun b69 w70 H=>sp (Sv (aa b69 0) 0 0) (zjcc (sp (yI 0) (zjn (qX ?_))))))))⟩))))
 have H0:=H
 obtain ⟨G71,hg73,hn72,H⟩:=H.yX (α:=qH) 1 rfl 0 rfl qj
 replace N:Fresh w.heap.size [G71,rF22aStates,rF22aNext]:=Fresh.ice (N.pick [2,0,1]) H0 1 hg73.1 hg73.2 (H0.jU [1,2])
 clear H0
 obtain ⟨xs74,B75,P76,N,H⟩:=H.pool (α:=qH) 0 rfl N
 replace H:=H.boxRow 0 rfl 1 0 rfl qj
 replace H:=H.vT (α:=yLI)
 have e1:=ends_ok ga.st i
 have e2:=ends_len s (exG s t).qP i
 refine zD (fun m' ρ w77=>∃ (xY:Env) (jl:yOA) (zy:Nat) (zU:Nat) (out_1:yLL) (X3:List Value) (Q8:yLN) (i_1:Nat) (P_i_1:yLN),ρ=upd (upd (upd (upd (upd xY 2 (yI cell)) 3 (pp b1 0)) 10 (Sv zX xX zK)) 11 (Sv jl zy zU)) 12 (yI i_1)∧out_1=(rsL s.qw.length cell (xU s (exG s t).qP i) i_1)∧((i_1:Int)≤xX)∧m' =(xX - (i_1:Int)).toNat∧Fresh w.heap.size [rF22aStates,rF22aNext,Q8,P_i_1]∧St w w77 [rr jl zy zU 22 1 X3,.box b27 [Sv ra22aStates (((exG s t).qP).length) rc22aStates,Sv ra22aNext (((exG s t).fNext).length) rc22aNext] 59,.box b3 (yT t qV qR xm xk qL qK) 38,.box b1 (yS s qC qB qN qJ) 36] [zf true Q8 X3 out_1,zf true P_i_1 (xs74.drop (i_1 * 3)) ((xU s (exG s t).qP i).drop i_1),Yf B75 (Sv zX xX zK) xs74,isF true G71 (Sv zX xX zK) (xU s (exG s t).qP i),sF true rF22aStates ra22aStates rc22aStates ((exG s t).qP),sF true rF22aNext ra22aNext rc22aNext ((exG s t).fNext),sF false qZ qC qB s.qw,sF false xG qN qJ s.qx,sF false xR qV qR t.qA,sF false zC xm xk t.qE,sF false xC qL qK t.qy]) ((xX - (0:Int)).toNat) ⟨_,(aa b69 0),0,0,([]:yLL),[],[],0,P76,uE5,(by rfl),qf,rfl,(N.emp.pick [2,3,0,1]),H.pick [0,2,3,4] [0,1,2,3,5,6,7,8,9,10,11]⟩ ?_
 clear H N
 rintro m' ρ w78 ⟨xY,jl,zy,zU,out_1,X3,Q8,i_1,P_i_1,rfl,rfl,i0,rfl,N,H⟩
 have hn_out:=H.zq (α:=yLI) 0 rfl 0 rfl qj
 have rl:=rs_len (N:=s.qw.length) (cell:=cell) (E:=(xU s (exG s t).qP i)) i_1
 refine zcc (sps [yI i_1,Sv zX xX zK] (oN rfl (sp (Bv (decide ((i_1:Int) < xX))) (zjn (cD rfl (fun h79=>?_) (fun h79=>?_))))))
 ·skip
  have ks:=e1 ((xU s (exG s t).qP i)[i_1]!) (mem_at (k:=i_1) qf rfl)
  obtain ⟨z1,z2,z3,z4,z5⟩:=ks
  have z6:=z4.2
  have rwa:=rs_row e1 hc (k:=i_1) qf
  refine qW (t_n (xQ (qX (zcr (sp (yI cell) (oF rfl (oL rfl (H.cell 3 rfl rfl) (oN rfl (sp (Bv ((cell:Int) == s.qw.length)) (zjn (cE rfl (fun h80=>?_) (fun h80=>?_))))))))))))
  ·skip
   refine xO (sps [Sv jl zy zU,Sv zX xX zK,yI i_1] ?_)
   have hl83:=H.isLen 3 rfl
   obtain ⟨b81,o82,rfl⟩:=H.addr 3 rfl qf
   obtain ⟨ae84Alive,ce84Alive,Xu,ae84Bags,ce84Bags,Vq,yK,yJ,yL,P85,N,H⟩:=H.Y8 2 rfl 1 rfl ((N.pick [3,0,1,2]):Fresh w.heap.size [P_i_1,rF22aStates,rF22aNext,Q8]) i_1 i_1 qf qf qf
   refine oI rfl rfl (oF rfl (oL rfl (H.xW 3 rfl 2 rfl) (sw (vJ #[Sv jl zy zU,Sv yK ((((xU s (exG s t).qP i)[i_1]!).qy).length) yJ] rfl rfl call91 (en func91 ntmps91 ?_)))))
   refine zcr (sp yN (zjc (sw (vP H underlying27 ti22 fun b86 w87 H=>sp (Sv (aa b86 0) 0 0) (zjc (sp (yI 0) (zjn (xQ (qX ?_)))))))))
   have H0:=H
   obtain ⟨G88,hg90,hn89,H⟩:=H.yX (α:=yLI) 1 rfl 5 rfl qj
   replace N:Fresh w.heap.size [G88,Xu,Vq,yL,P85,rF22aStates,rF22aNext]:=Fresh.ice (N.pick [6,0,1,2,3,4,5]) H0 1 hg90.1 hg90.2 (H0.jU [0,1,2,4,9,10])
   clear H0
   obtain ⟨xs91,B92,P93,N,H⟩:=H.pool (α:=yLI) 0 rfl N
   replace H:=H.boxRow 0 rfl 1 0 rfl qj
   replace H:=H.vT (α:=yLI)
   refine zD (fun m' ρ w94=>∃ (xY:Env) (QT:yOA) (xZ:Nat) (QS:Nat) (out_51:yLL) (yu:List Value) (vk:yLN) (at_:Nat) (P_at_:yLN),ρ=upd (upd (upd (upd xY 0 (Sv jl zy zU)) 1 (Sv yK ((((xU s (exG s t).qP i)[i_1]!).qy).length) yJ)) 5 (Sv QT xZ QS)) 6 (yI at_)∧out_51=((rsL s.qw.length cell (xU s (exG s t).qP i) i_1).take at_)∧(∀ j,j < at_→ahead ((rsL s.qw.length cell (xU s (exG s t).qP i) i_1)[j]!) (((xU s (exG s t).qP i)[i_1]!).qy))∧(at_≤(rsL s.qw.length cell (xU s (exG s t).qP i) i_1).length)∧m' =((rsL s.qw.length cell (xU s (exG s t).qP i) i_1).length - at_)∧Fresh w.heap.size [Xu,Vq,yL,P85,rF22aStates,rF22aNext,vk,P_at_]∧St w w94 [rr QT xZ QS 22 1 yu,.box b27 [Sv ra22aStates (((exG s t).qP).length) rc22aStates,Sv ra22aNext (((exG s t).fNext).length) rc22aNext] 59,.box b3 (yT t qV qR xm xk qL qK) 38,.box b1 (yS s qC qB qN qJ) 36] [zf true vk yu out_51,zf true P_at_ (xs91.drop (at_ * 1)) ((rsL s.qw.length cell (xU s (exG s t).qP i) i_1).drop at_),Yf B92 (Sv jl zy zU) xs91,isF true G88 (Sv jl zy zU) (rsL s.qw.length cell (xU s (exG s t).qP i) i_1),sF true Xu ae84Alive ce84Alive (((xU s (exG s t).qP i)[i_1]!).qA),sF true Vq ae84Bags ce84Bags (((xU s (exG s t).qP i)[i_1]!).qE),sF true yL yK yJ (((xU s (exG s t).qP i)[i_1]!).qy),atF b81 (o82+(i_1:Int).toNat * 3) [Sv ae84Alive ((((xU s (exG s t).qP i)[i_1]!).qA).length) ce84Alive,Sv ae84Bags ((((xU s (exG s t).qP i)[i_1]!).qE).length) ce84Bags,Sv yK ((((xU s (exG s t).qP i)[i_1]!).qy).length) yJ],zf true P85 (xs74.drop ((i_1+1) * 3)) ((xU s (exG s t).qP i).drop (i_1+1)),Yf B75 (Sv (aa b81 o82) xX zK) xs74,isF true G71 (Sv (aa b81 o82) xX zK) (xU s (exG s t).qP i),sF true rF22aStates ra22aStates rc22aStates ((exG s t).qP),sF true rF22aNext ra22aNext rc22aNext ((exG s t).fNext),sF false qZ qC qB s.qw,sF false xG qN qJ s.qx,sF false xR qV qR t.qA,sF false zC xm xk t.qE,sF false xC qL qK t.qy]) (((rsL s.qw.length cell (xU s (exG s t).qP i) i_1).length - 0)) ⟨_,(aa b86 0),0,0,([]:yLL),[],[],0,P93,uE4,(by rfl),(by exact fun j hj=>by omega),qf,rfl,(N.emp.pick [2,3,4,5,6,7,0,1]),H.pick [0,2,3,4] [0,1,2,3,4,5,6,7,8,11,12,13,14,15,16,17,18,19]⟩ ?_
   clear H N
   rintro m' ρ w95 ⟨xY,QT,xZ,QS,out_51,yu,vk,at_,P_at_,rfl,rfl,ah,al,rfl,N,H⟩
   have hn_out:=H.zq (α:=yLI) 0 rfl 0 rfl qj
   have tl:((rsL s.qw.length cell (xU s (exG s t).qP i) i_1).take at_).length=at_:=List.length_take_of_le qf
   have dl:((rsL s.qw.length cell (xU s (exG s t).qP i) i_1).drop at_).length=(rsL s.qw.length cell (xU s (exG s t).qP i) i_1).length - at_:=List.length_drop
   refine zcc (sps [yI at_,Sv jl zy zU] (oN rfl (sps [Bv (decide ((at_:Int) < zy)),Bv (decide ((at_:Int) < zy))] ?_)))
   cases h96:(decide ((at_:Int) < zy))
   ·skip
    replace h96:=of_decide_eq_false h96
    refine zk [13,14,15,16,17,18] (sp (Bv false) (zjn (xE false rfl (fun h=>absurd h qj) (fun _=>zx4 (zcc (sps [yI at_,Sv jl zy zU] (oN rfl (sps [Bv ((at_:Int) == zy),Bv ((at_:Int) == zy)] ?_))))))))
    cases h97:((at_:Int) == zy)
    ·skip
     replace h97:=ne_of_beq_false h97
     refine qQ 33 rfl rfl (sp (Sv jl zy zU) (qQ 33 rfl rfl (sp (yI at_) (qQ 33 rfl rfl ?_))))
     have hl100:=H.isLen 3 rfl
     obtain ⟨b98,o99,rfl⟩:=H.addr 3 rfl qf
     obtain ⟨ae101,ce101,Fe101,H⟩:=H.vV 3 rfl at_ at_ qf qf qf
     refine oI rfl rfl (qQ 33 rfl rfl (oL rfl (H.xW 1 rfl 0 rfl) (qQ 33 rfl rfl (sp (Sv yK ((((xU s (exG s t).qP i)[i_1]!).qy).length) yJ) (qQ 33 rfl rfl (sw (oq (l00Same_ok _ ((rsL s.qw.length cell (xU s (exG s t).qP i) i_1)[at_]!) (((xU s (exG s t).qP i)[i_1]!).qy) (H.get 0 rfl).1 (H.get 8 rfl).1) H fun w103 H=>qQ 33 rfl rfl ?_)))))))
     refine sps [Bv (!(decide (((rsL s.qw.length cell (xU s (exG s t).qP i) i_1)[at_]!)=(((xU s (exG s t).qP i)[i_1]!).qy)))),Bv (!(decide (((rsL s.qw.length cell (xU s (exG s t).qP i) i_1)[at_]!)=(((xU s (exG s t).qP i)[i_1]!).qy))))] (zjn (xE (!(decide (((rsL s.qw.length cell (xU s (exG s t).qP i) i_1)[at_]!)=(((xU s (exG s t).qP i)[i_1]!).qy)))) rfl (fun h105=>?_) (fun h105=>?_)))
     ·skip
      replace h105:=xq h105
      replace h105:=of_decide_eq_false h105
      refine xO (sps [Sv QT xZ QS,Sv yK ((((xU s (exG s t).qP i)[i_1]!).qy).length) yJ] (sw (zA H underlying27 ti22 [Sv yK ((((xU s (exG s t).qP i)[i_1]!).qy).length) yJ] fun b106 w107 H=>sw (zG H 1 rfl 0 rfl underlying27 ti22 rfl qj rfl rfl rfl (by simp [Value.oneCell',Value.cells]) qp qf fun a108 c109 w110 H=>?_))))
      replace H:=H.jd 2 rfl 8 rfl
      replace N:Fresh w.heap.size [(vk++yL),Xu,Vq,P85,rF22aStates,rF22aNext,P_at_]:=(N.pick [6,2,0,1,3,4,5,7]).join
      refine sp (Sv a108 (xZ+1) c109) (zjc (sps [Sv a108 (xZ+1) c109,Sv (aa b98 o99) zy zU,yI at_] ?_))
      have hl112:=H.isLen 6 rfl
      subst hl112
      refine sw (o_tailC H 6 rfl 5 rfl at_ 4 rfl underlying27 ti22 rfl rfl qf fun a111 H=>sw (Vs H 1 rfl 0 rfl 5 rfl rfl underlying27 ti22 rfl qj rfl rfl qp qf fun a113 c114 w115 H=>?_))
      replace H:=H.repsCat true 1 rfl 5 rfl qm
      replace N:Fresh w.heap.size [((vk++yL)++P_at_),Xu,Vq,P85,rF22aStates,rF22aNext]:=(N.pick [0,6,1,2,3,4,5]).join
      refine sp (Sv a113 ((xZ+1)+(((rsL s.qw.length cell (xU s (exG s t).qP i) i_1).drop at_).length)) c114) (zjr (ret1 (Sv a113 ((xZ+1)+(((rsL s.qw.length cell (xU s (exG s t).qP i) i_1).drop at_).length)) c114) rfl rfl ⟨_,rfl,?_⟩))
      replace H:=H.erases [0]
      dsimp only [vS,List.eraseIdx] at H
      refine sp (Sv a113 ((xZ+1)+(((rsL s.qw.length cell (xU s (exG s t).qP i) i_1).drop at_).length)) c114) (xM (b_n (t_n (xO (sp (yI i_1) (sw (zB i_1 1 rfl rfl qf (sp (yI (i_1+1)) (xM ?_)))))))))
      refine qY (m' :=(xX - ((i_1+1):Int)).toNat) qf ⟨_,a113,(xZ+1)+(((rsL s.qw.length cell (xU s (exG s t).qP i) i_1).drop at_).length),c114,((((rsL s.qw.length cell (xU s (exG s t).qP i) i_1).take at_)++[((xU s (exG s t).qP i)[i_1]!).qy])++((rsL s.qw.length cell (xU s (exG s t).qP i) i_1).drop at_)),(yu++[Sv yK ((((xU s (exG s t).qP i)[i_1]!).qy).length) yJ])++(xs91.drop (at_ * 1)),((vk++yL)++P_at_),i_1+1,P85,uE5,?_,?_,rfl,(N.pick [4,5,0,3]),H.pick [0,1,2,3] [0,13,14,15,16,17,18,19,20,21,22]⟩
      · first | (exfalso;omega) | exact (vW ah qf (Or.inl qf)).trans (zL (XT qf)) | exact (vW ah qf (Or.inr ⟨by assumption,by assumption⟩)).trans (zL (XT qf)) | exact (QO ah qf ql ql).trans (zL (XT qf)) | exact (vW ah qf (Or.inl qf)).trans (zL (XR qf ql)) | exact (vW ah qf (Or.inr ⟨by assumption,by assumption⟩)).trans (zL (XR qf ql)) | exact (QO ah qf ql ql).trans (zL (XR qf ql)) | exact rs_none (res_c qf (fun e=>absurd (e.symm.trans ‹_=false›) qj))
      · omega
     replace h105:=xg h105
     replace h105:=of_decide_eq_true h105
     refine qW (t_n (zcr (sps [Sv QT xZ QS,Sv (aa b98 o99) zy zU,yI at_] ?_)))
     have hl117:=H.isLen 5 rfl
     subst hl117
     refine sw (o_tailC H 5 rfl 4 rfl at_ 3 rfl underlying27 ti22 rfl rfl qf fun a116 H=>sw (Vs H 0 rfl 0 rfl 4 rfl rfl underlying27 ti22 rfl qj rfl rfl qp qf fun a118 c119 w120 H=>?_))
     replace H:=H.repsCat true 3 rfl 4 rfl qm
     replace N:Fresh w.heap.size [(vk++P_at_),Xu,Vq,yL,P85,rF22aStates,rF22aNext]:=(N.pick [6,7,0,1,2,3,4,5]).join
     refine sp (Sv a118 (xZ+(((rsL s.qw.length cell (xU s (exG s t).qP i) i_1).drop at_).length)) c119) (zjr (ret1 (Sv a118 (xZ+(((rsL s.qw.length cell (xU s (exG s t).qP i) i_1).drop at_).length)) c119) rfl rfl ⟨_,rfl,(sp (Sv a118 (xZ+(((rsL s.qw.length cell (xU s (exG s t).qP i) i_1).drop at_).length)) c119) (xM (b_n (t_n (xO (sp (yI i_1) (sw (zB i_1 1 rfl rfl qf (sp (yI (i_1+1)) (xM ?_))))))))))⟩))
     refine qY (m' :=(xX - ((i_1+1):Int)).toNat) qf ⟨_,a118,xZ+(((rsL s.qw.length cell (xU s (exG s t).qP i) i_1).drop at_).length),c119,(((rsL s.qw.length cell (xU s (exG s t).qP i) i_1).take at_)++((rsL s.qw.length cell (xU s (exG s t).qP i) i_1).drop at_)),yu++(xs91.drop (at_ * 1)),(vk++P_at_),i_1+1,P85,uE5,?_,?_,rfl,(N.pick [5,6,0,4]),H.pick [0,1,2,3] [0,12,13,14,15,16,17,18,19,20,21]⟩
     · first | (exfalso;omega) | exact (vW ah qf (Or.inl qf)).trans (zL (XT qf)) | exact (vW ah qf (Or.inr ⟨by assumption,by assumption⟩)).trans (zL (XT qf)) | exact (QO ah qf ql ql).trans (zL (XT qf)) | exact (vW ah qf (Or.inl qf)).trans (zL (XR qf ql)) | exact (vW ah qf (Or.inr ⟨by assumption,by assumption⟩)).trans (zL (XR qf ql)) | exact (QO ah qf ql ql).trans (zL (XR qf ql)) | exact rs_none (res_c qf (fun e=>absurd (e.symm.trans ‹_=false›) qj))
     · omega
    replace h97:=eq_of_beq h97
    refine zk [34,35,36,37,38,39,40] (sp (Bv true) (zjn (xE true rfl (fun _=>xO (sps [Sv QT xZ QS,Sv yK ((((xU s (exG s t).qP i)[i_1]!).qy).length) yJ] (sw (zA H underlying27 ti22 [Sv yK ((((xU s (exG s t).qP i)[i_1]!).qy).length) yJ] fun b121 w122 H=>sw (zG H 1 rfl 0 rfl underlying27 ti22 rfl qj rfl rfl rfl (by simp [Value.oneCell',Value.cells]) qp qf fun a123 c124 w125 H=>?_))))) (fun h=>absurd h qj))))
    replace H:=H.jd 0 rfl 6 rfl
    replace N:Fresh w.heap.size [(vk++yL),Xu,Vq,P85,rF22aStates,rF22aNext,P_at_]:=(N.pick [6,2,0,1,3,4,5,7]).join
    refine sp (Sv a123 (xZ+1) c124) (zjc (sps [Sv a123 (xZ+1) c124,Sv jl zy zU,yI at_] ?_))
    have hl127:=H.isLen 4 rfl
    subst hl127
    refine sw (o_tailC H 4 rfl 3 rfl at_ 2 rfl underlying27 ti22 rfl rfl qf fun a126 H=>sw (Vs H 1 rfl 0 rfl 3 rfl rfl underlying27 ti22 rfl qj rfl rfl qp qf fun a128 c129 w130 H=>?_))
    replace H:=H.repsCat true 1 rfl 3 rfl qm
    replace N:Fresh w.heap.size [((vk++yL)++P_at_),Xu,Vq,P85,rF22aStates,rF22aNext]:=(N.pick [0,6,1,2,3,4,5]).join
    refine sp (Sv a128 ((xZ+1)+(((rsL s.qw.length cell (xU s (exG s t).qP i) i_1).drop at_).length)) c129) (zjr (ret1 (Sv a128 ((xZ+1)+(((rsL s.qw.length cell (xU s (exG s t).qP i) i_1).drop at_).length)) c129) rfl rfl ⟨_,rfl,?_⟩))
    replace H:=H.erases [0]
    dsimp only [vS,List.eraseIdx] at H
    refine sp (Sv a128 ((xZ+1)+(((rsL s.qw.length cell (xU s (exG s t).qP i) i_1).drop at_).length)) c129) (xM (b_n (t_n (xO (sp (yI i_1) (sw (zB i_1 1 rfl rfl qf (sp (yI (i_1+1)) (xM ?_)))))))))
    refine qY (m' :=(xX - ((i_1+1):Int)).toNat) qf ⟨_,a128,(xZ+1)+(((rsL s.qw.length cell (xU s (exG s t).qP i) i_1).drop at_).length),c129,((((rsL s.qw.length cell (xU s (exG s t).qP i) i_1).take at_)++[((xU s (exG s t).qP i)[i_1]!).qy])++((rsL s.qw.length cell (xU s (exG s t).qP i) i_1).drop at_)),(yu++[Sv yK ((((xU s (exG s t).qP i)[i_1]!).qy).length) yJ])++(xs91.drop (at_ * 1)),((vk++yL)++P_at_),i_1+1,P85,uE5,?_,?_,rfl,(N.pick [4,5,0,3]),H.pick [0,1,2,3] [0,11,12,13,14,15,16,17,18,19,20]⟩
    · first | (exfalso;omega) | exact (vW ah qf (Or.inl qf)).trans (zL (XT qf)) | exact (vW ah qf (Or.inr ⟨by assumption,by assumption⟩)).trans (zL (XT qf)) | exact (QO ah qf ql ql).trans (zL (XT qf)) | exact (vW ah qf (Or.inl qf)).trans (zL (XR qf ql)) | exact (vW ah qf (Or.inr ⟨by assumption,by assumption⟩)).trans (zL (XR qf ql)) | exact (QO ah qf ql ql).trans (zL (XR qf ql)) | exact rs_none (res_c qf (fun e=>absurd (e.symm.trans ‹_=false›) qj))
    · omega
   replace h96:=of_decide_eq_true h96
   refine qQ 12 rfl rfl (sp (Sv jl zy zU) (qQ 12 rfl rfl (sp (yI at_) (qQ 12 rfl rfl ?_))))
   have hl133:=H.isLen 3 rfl
   obtain ⟨b131,o132,rfl⟩:=H.addr 3 rfl qf
   obtain ⟨ae134,ce134,Fe134,H⟩:=H.vV 3 rfl at_ at_ qf qf qf
   refine oI rfl rfl (qQ 12 rfl rfl (oL rfl (H.xW 1 rfl 0 rfl) (qQ 12 rfl rfl (sp (Sv yK ((((xU s (exG s t).qP i)[i_1]!).qy).length) yJ) (qQ 12 rfl rfl ?_)))))
   have rwb:=rwa at_ qf
   refine sw (oq (l03Before_ok _ ((rsL s.qw.length cell (xU s (exG s t).qP i) i_1)[at_]!) (((xU s (exG s t).qP i)[i_1]!).qy) (H.get 0 rfl).1 (H.get 8 rfl).1 qg) H fun w136 H=>sp (Bv (dec (ahead ((rsL s.qw.length cell (xU s (exG s t).qP i) i_1)[at_]!) (((xU s (exG s t).qP i)[i_1]!).qy)))) (zjn (cP rfl (fun h138=>?_) (fun h138=>?_))))
   ·skip
    obtain ⟨ae139,ce139,Fe139,P140,N,H⟩:=H.drainList 4 rfl 3 rfl ((N.pick [7,0,1,2,3,4,5,6]):Fresh w.heap.size [P_at_,Xu,Vq,yL,P85,rF22aStates,rF22aNext,vk]) at_ at_ qf qf qf
    refine qW (t_n (qX (zcr (sps [Sv QT xZ QS,Sv (aa b131 o132) zy zU,yI at_] (oI rfl rfl (oL rfl (H.xW 1 rfl 0 rfl) (sw (zA H underlying27 ti22 [Sv ae139 (((rsL s.qw.length cell (xU s (exG s t).qP i) i_1)[at_]!).length) ce139] fun b141 w142 H=>sw (zG H 1 rfl 0 rfl underlying27 ti22 rfl qj rfl rfl rfl (by simp [Value.oneCell',Value.cells]) qp qf fun a143 c144 w145 H=>?_)))))))))
    replace H:=H.jd 5 rfl 0 rfl
    replace N:Fresh w.heap.size [(vk++Fe139),P140,Xu,Vq,yL,P85,rF22aStates,rF22aNext]:=(N.pick [8,0,1,2,3,4,5,6,7]).join
    refine sp (Sv a143 (xZ+1) c144) (zjn (xO (sp (yI at_) (sw (zB at_ 1 rfl rfl qf (sp (yI (at_+1)) (xM (b_n ?_))))))))
    refine qY (m' :=((rsL s.qw.length cell (xU s (exG s t).qP i) i_1).length - (at_+1))) qf ⟨_,a143,xZ+1,c144,(((rsL s.qw.length cell (xU s (exG s t).qP i) i_1).take at_)++[(rsL s.qw.length cell (xU s (exG s t).qP i) i_1)[at_]!]),yu++[Sv ae139 (((rsL s.qw.length cell (xU s (exG s t).qP i) i_1)[at_]!).length) ce139],(vk++Fe139),at_+1,P140,uE4,?_,?_,?_,rfl,(N.pick [2,3,4,5,6,7,0,1]),H.pick [1,2,3,4] [0,3,8,9,10,11,12,13,14,15,16,17,18,19,20,21,22,23]⟩
    · exact take_snoc qf
    · exact below_up ah ql
    · omega
   refine zx4 (zcc (sps [yI at_,Sv (aa b131 o132) zy zU] (oN rfl (sps [Bv ((at_:Int) == zy),Bv ((at_:Int) == zy)] ?_))))
   cases h146:((at_:Int) == zy)
   ·skip
    replace h146:=ne_of_beq_false h146
    refine qQ 33 rfl rfl (sp (Sv (aa b131 o132) zy zU) (qQ 33 rfl rfl (sp (yI at_) (qQ 33 rfl rfl (oI rfl rfl (qQ 33 rfl rfl (oL rfl (H.xW 1 rfl 0 rfl) (qQ 33 rfl rfl (sp (Sv yK ((((xU s (exG s t).qP i)[i_1]!).qy).length) yJ) (qQ 33 rfl rfl (sw (oq (l00Same_ok _ ((rsL s.qw.length cell (xU s (exG s t).qP i) i_1)[at_]!) (((xU s (exG s t).qP i)[i_1]!).qy) (H.get 0 rfl).1 (H.get 8 rfl).1) H fun w148 H=>qQ 33 rfl rfl ?_))))))))))))
    refine sps [Bv (!(decide (((rsL s.qw.length cell (xU s (exG s t).qP i) i_1)[at_]!)=(((xU s (exG s t).qP i)[i_1]!).qy)))),Bv (!(decide (((rsL s.qw.length cell (xU s (exG s t).qP i) i_1)[at_]!)=(((xU s (exG s t).qP i)[i_1]!).qy))))] (zjn (xE (!(decide (((rsL s.qw.length cell (xU s (exG s t).qP i) i_1)[at_]!)=(((xU s (exG s t).qP i)[i_1]!).qy)))) rfl (fun h150=>?_) (fun h150=>?_)))
    ·skip
     replace h150:=xq h150
     replace h150:=of_decide_eq_false h150
     refine xO (sps [Sv QT xZ QS,Sv yK ((((xU s (exG s t).qP i)[i_1]!).qy).length) yJ] (sw (zA H underlying27 ti22 [Sv yK ((((xU s (exG s t).qP i)[i_1]!).qy).length) yJ] fun b151 w152 H=>sw (zG H 1 rfl 0 rfl underlying27 ti22 rfl qj rfl rfl rfl (by simp [Value.oneCell',Value.cells]) qp qf fun a153 c154 w155 H=>?_))))
     replace H:=H.jd 2 rfl 8 rfl
     replace N:Fresh w.heap.size [(vk++yL),Xu,Vq,P85,rF22aStates,rF22aNext,P_at_]:=(N.pick [6,2,0,1,3,4,5,7]).join
     refine sp (Sv a153 (xZ+1) c154) (zjc (sps [Sv a153 (xZ+1) c154,Sv (aa b131 o132) zy zU,yI at_] ?_))
     have hl157:=H.isLen 6 rfl
     subst hl157
     refine sw (o_tailC H 6 rfl 5 rfl at_ 4 rfl underlying27 ti22 rfl rfl qf fun a156 H=>sw (Vs H 1 rfl 0 rfl 5 rfl rfl underlying27 ti22 rfl qj rfl rfl qp qf fun a158 c159 w160 H=>?_))
     replace H:=H.repsCat true 1 rfl 5 rfl qm
     replace N:Fresh w.heap.size [((vk++yL)++P_at_),Xu,Vq,P85,rF22aStates,rF22aNext]:=(N.pick [0,6,1,2,3,4,5]).join
     refine sp (Sv a158 ((xZ+1)+(((rsL s.qw.length cell (xU s (exG s t).qP i) i_1).drop at_).length)) c159) (zjr (ret1 (Sv a158 ((xZ+1)+(((rsL s.qw.length cell (xU s (exG s t).qP i) i_1).drop at_).length)) c159) rfl rfl ⟨_,rfl,?_⟩))
     replace H:=H.erases [0]
     dsimp only [vS,List.eraseIdx] at H
     refine sp (Sv a158 ((xZ+1)+(((rsL s.qw.length cell (xU s (exG s t).qP i) i_1).drop at_).length)) c159) (xM (b_n (t_n (xO (sp (yI i_1) (sw (zB i_1 1 rfl rfl qf (sp (yI (i_1+1)) (xM ?_)))))))))
     refine qY (m' :=(xX - ((i_1+1):Int)).toNat) qf ⟨_,a158,(xZ+1)+(((rsL s.qw.length cell (xU s (exG s t).qP i) i_1).drop at_).length),c159,((((rsL s.qw.length cell (xU s (exG s t).qP i) i_1).take at_)++[((xU s (exG s t).qP i)[i_1]!).qy])++((rsL s.qw.length cell (xU s (exG s t).qP i) i_1).drop at_)),(yu++[Sv yK ((((xU s (exG s t).qP i)[i_1]!).qy).length) yJ])++(xs91.drop (at_ * 1)),((vk++yL)++P_at_),i_1+1,P85,uE5,?_,?_,rfl,(N.pick [4,5,0,3]),H.pick [0,1,2,3] [0,13,14,15,16,17,18,19,20,21,22]⟩
     · first | (exfalso;omega) | exact (vW ah qf (Or.inl qf)).trans (zL (XT qf)) | exact (vW ah qf (Or.inr ⟨by assumption,by assumption⟩)).trans (zL (XT qf)) | exact (QO ah qf ql ql).trans (zL (XT qf)) | exact (vW ah qf (Or.inl qf)).trans (zL (XR qf ql)) | exact (vW ah qf (Or.inr ⟨by assumption,by assumption⟩)).trans (zL (XR qf ql)) | exact (QO ah qf ql ql).trans (zL (XR qf ql)) | exact rs_none (res_c qf (fun e=>absurd (e.symm.trans ‹_=false›) qj))
     · omega
    replace h150:=xg h150
    replace h150:=of_decide_eq_true h150
    refine qW (t_n (zcr (sps [Sv QT xZ QS,Sv (aa b131 o132) zy zU,yI at_] ?_)))
    have hl162:=H.isLen 5 rfl
    subst hl162
    refine sw (o_tailC H 5 rfl 4 rfl at_ 3 rfl underlying27 ti22 rfl rfl qf fun a161 H=>sw (Vs H 0 rfl 0 rfl 4 rfl rfl underlying27 ti22 rfl qj rfl rfl qp qf fun a163 c164 w165 H=>?_))
    replace H:=H.repsCat true 3 rfl 4 rfl qm
    replace N:Fresh w.heap.size [(vk++P_at_),Xu,Vq,yL,P85,rF22aStates,rF22aNext]:=(N.pick [6,7,0,1,2,3,4,5]).join
    refine sp (Sv a163 (xZ+(((rsL s.qw.length cell (xU s (exG s t).qP i) i_1).drop at_).length)) c164) (zjr (ret1 (Sv a163 (xZ+(((rsL s.qw.length cell (xU s (exG s t).qP i) i_1).drop at_).length)) c164) rfl rfl ⟨_,rfl,(sp (Sv a163 (xZ+(((rsL s.qw.length cell (xU s (exG s t).qP i) i_1).drop at_).length)) c164) (xM (b_n (t_n (xO (sp (yI i_1) (sw (zB i_1 1 rfl rfl qf (sp (yI (i_1+1)) (xM ?_))))))))))⟩))
    refine qY (m' :=(xX - ((i_1+1):Int)).toNat) qf ⟨_,a163,xZ+(((rsL s.qw.length cell (xU s (exG s t).qP i) i_1).drop at_).length),c164,(((rsL s.qw.length cell (xU s (exG s t).qP i) i_1).take at_)++((rsL s.qw.length cell (xU s (exG s t).qP i) i_1).drop at_)),yu++(xs91.drop (at_ * 1)),(vk++P_at_),i_1+1,P85,uE5,?_,?_,rfl,(N.pick [5,6,0,4]),H.pick [0,1,2,3] [0,12,13,14,15,16,17,18,19,20,21]⟩
    · first | (exfalso;omega) | exact (vW ah qf (Or.inl qf)).trans (zL (XT qf)) | exact (vW ah qf (Or.inr ⟨by assumption,by assumption⟩)).trans (zL (XT qf)) | exact (QO ah qf ql ql).trans (zL (XT qf)) | exact (vW ah qf (Or.inl qf)).trans (zL (XR qf ql)) | exact (vW ah qf (Or.inr ⟨by assumption,by assumption⟩)).trans (zL (XR qf ql)) | exact (QO ah qf ql ql).trans (zL (XR qf ql)) | exact rs_none (res_c qf (fun e=>absurd (e.symm.trans ‹_=false›) qj))
    · omega
   replace h146:=eq_of_beq h146
   refine zk [34,35,36,37,38,39,40] (sp (Bv true) (zjn (xE true rfl (fun _=>xO (sps [Sv QT xZ QS,Sv yK ((((xU s (exG s t).qP i)[i_1]!).qy).length) yJ] (sw (zA H underlying27 ti22 [Sv yK ((((xU s (exG s t).qP i)[i_1]!).qy).length) yJ] fun b166 w167 H=>sw (zG H 1 rfl 0 rfl underlying27 ti22 rfl qj rfl rfl rfl (by simp [Value.oneCell',Value.cells]) qp qf fun a168 c169 w170 H=>?_))))) (fun h=>absurd h qj))))
   replace H:=H.jd 2 rfl 8 rfl
   replace N:Fresh w.heap.size [(vk++yL),Xu,Vq,P85,rF22aStates,rF22aNext,P_at_]:=(N.pick [6,2,0,1,3,4,5,7]).join
   refine sp (Sv a168 (xZ+1) c169) (zjc (sps [Sv a168 (xZ+1) c169,Sv (aa b131 o132) zy zU,yI at_] ?_))
   have hl172:=H.isLen 6 rfl
   subst hl172
   refine sw (o_tailC H 6 rfl 5 rfl at_ 4 rfl underlying27 ti22 rfl rfl qf fun a171 H=>sw (Vs H 1 rfl 0 rfl 5 rfl rfl underlying27 ti22 rfl qj rfl rfl qp qf fun a173 c174 w175 H=>?_))
   replace H:=H.repsCat true 1 rfl 5 rfl qm
   replace N:Fresh w.heap.size [((vk++yL)++P_at_),Xu,Vq,P85,rF22aStates,rF22aNext]:=(N.pick [0,6,1,2,3,4,5]).join
   refine sp (Sv a173 ((xZ+1)+(((rsL s.qw.length cell (xU s (exG s t).qP i) i_1).drop at_).length)) c174) (zjr (ret1 (Sv a173 ((xZ+1)+(((rsL s.qw.length cell (xU s (exG s t).qP i) i_1).drop at_).length)) c174) rfl rfl ⟨_,rfl,?_⟩))
   replace H:=H.erases [0]
   dsimp only [vS,List.eraseIdx] at H
   refine sp (Sv a173 ((xZ+1)+(((rsL s.qw.length cell (xU s (exG s t).qP i) i_1).drop at_).length)) c174) (xM (b_n (t_n (xO (sp (yI i_1) (sw (zB i_1 1 rfl rfl qf (sp (yI (i_1+1)) (xM ?_)))))))))
   refine qY (m' :=(xX - ((i_1+1):Int)).toNat) qf ⟨_,a173,(xZ+1)+(((rsL s.qw.length cell (xU s (exG s t).qP i) i_1).drop at_).length),c174,((((rsL s.qw.length cell (xU s (exG s t).qP i) i_1).take at_)++[((xU s (exG s t).qP i)[i_1]!).qy])++((rsL s.qw.length cell (xU s (exG s t).qP i) i_1).drop at_)),(yu++[Sv yK ((((xU s (exG s t).qP i)[i_1]!).qy).length) yJ])++(xs91.drop (at_ * 1)),((vk++yL)++P_at_),i_1+1,P85,uE5,?_,?_,rfl,(N.pick [4,5,0,3]),H.pick [0,1,2,3] [0,13,14,15,16,17,18,19,20,21,22]⟩
   · first | (exfalso;omega) | exact (vW ah qf (Or.inl qf)).trans (zL (XT qf)) | exact (vW ah qf (Or.inr ⟨by assumption,by assumption⟩)).trans (zL (XT qf)) | exact (QO ah qf ql ql).trans (zL (XT qf)) | exact (vW ah qf (Or.inl qf)).trans (zL (XR qf ql)) | exact (vW ah qf (Or.inr ⟨by assumption,by assumption⟩)).trans (zL (XR qf ql)) | exact (QO ah qf ql ql).trans (zL (XR qf ql)) | exact rs_none (res_c qf (fun e=>absurd (e.symm.trans ‹_=false›) qj))
   · omega
  refine zcr (sps [Sv zX xX zK,yI i_1] ?_)
  have hl178:=H.isLen 3 rfl
  obtain ⟨b176,o177,rfl⟩:=H.addr 3 rfl qf
  obtain ⟨ae179Alive,ce179Alive,QG,ae179Bags,ce179Bags,Fe179Bags,ae179Around,ce179Around,yQ,P180,N,H⟩:=H.Y8 2 rfl 1 rfl ((N.pick [3,0,1,2]):Fresh w.heap.size [P_i_1,rF22aStates,rF22aNext,Q8]) i_1 i_1 qf qf qf
  refine oI rfl rfl (oF rfl (oL rfl (H.xW 3 rfl 0 rfl) (sp (yI cell) ?_)))
  obtain ⟨b181,o182,rfl⟩:=H.addr 0 rfl qf
  refine oI rfl rfl (oL rfl (H.XX 0 rfl cell qf qf) (zjn (xE ((((xU s (exG s t).qP i)[i_1]!).qA)[cell.toNat]!) rfl (fun h184=>?_) (fun h184=>?_))))
  ·skip
   obtain ⟨xs185,B186,P187,N,H⟩:=H.pool (α:=yLI) 1 rfl ((N.pick [1,0,2,3,4,5,6]):Fresh w.heap.size [Fe179Bags,QG,yQ,P180,rF22aStates,rF22aNext,Q8])
   have z7:=(z5 cell.toNat qf).1.2
   refine xO (sps [Sv jl zy zU,Sv (aa b176 o177) xX zK,yI i_1] (oI rfl rfl (oF rfl (oL rfl (H.xW 5 rfl 1 rfl) (sp (yI cell) ?_)))))
   obtain ⟨b188,o189,rfl⟩:=H.addr 3 rfl qf
   obtain ⟨ae191,ce191,Fe191,P192,N,H⟩:=H.drainList 1 rfl 0 rfl N cell cell.toNat qf qf qf
   refine oI rfl rfl (oL rfl (H.xW 1 rfl 0 rfl) (sw (vJ #[Sv jl zy zU,Sv ae191 (((((xU s (exG s t).qP i)[i_1]!).qE)[cell.toNat]!).length) ce191] rfl rfl call91 (en func91 ntmps91 ?_))))
   refine zcr (sp yN (zjc (sw (vP H underlying27 ti22 fun b193 w194 H=>sp (Sv (aa b193 0) 0 0) (zjc (sp (yI 0) (zjn (xQ (qX ?_)))))))))
   have H0:=H
   obtain ⟨G195,hg197,hn196,H⟩:=H.yX (α:=yLI) 1 rfl 10 rfl qj
   replace N:Fresh w.heap.size [G195,Fe191,P192,QG,yQ,P180,rF22aStates,rF22aNext]:=Fresh.ice (N.pick [7,0,1,2,3,4,5,6]) H0 1 hg197.1 hg197.2 (H0.jU [0,2,5,7,9,14,15])
   clear H0
   obtain ⟨xs198,B199,P200,N,H⟩:=H.pool (α:=yLI) 0 rfl N
   replace H:=H.boxRow 0 rfl 1 0 rfl qj
   replace H:=H.vT (α:=yLI)
   refine zD (fun m' ρ w201=>∃ (xY:Env) (QT:yOA) (xZ:Nat) (QS:Nat) (out_51:yLL) (yu:List Value) (vk:yLN) (at_:Nat) (P_at_:yLN),ρ=upd (upd (upd (upd xY 0 (Sv jl zy zU)) 1 (Sv ae191 (((((xU s (exG s t).qP i)[i_1]!).qE)[cell.toNat]!).length) ce191)) 5 (Sv QT xZ QS)) 6 (yI at_)∧out_51=((rsL s.qw.length cell (xU s (exG s t).qP i) i_1).take at_)∧(∀ j,j < at_→ahead ((rsL s.qw.length cell (xU s (exG s t).qP i) i_1)[j]!) ((((xU s (exG s t).qP i)[i_1]!).qE)[cell.toNat]!))∧(at_≤(rsL s.qw.length cell (xU s (exG s t).qP i) i_1).length)∧m' =((rsL s.qw.length cell (xU s (exG s t).qP i) i_1).length - at_)∧Fresh w.heap.size [Fe191,P192,QG,yQ,P180,rF22aStates,rF22aNext,vk,P_at_]∧St w w201 [rr QT xZ QS 22 1 yu,.box b27 [Sv ra22aStates (((exG s t).qP).length) rc22aStates,Sv ra22aNext (((exG s t).fNext).length) rc22aNext] 59,.box b3 (yT t qV qR xm xk qL qK) 38,.box b1 (yS s qC qB qN qJ) 36] [zf true vk yu out_51,zf true P_at_ (xs198.drop (at_ * 1)) ((rsL s.qw.length cell (xU s (exG s t).qP i) i_1).drop at_),Yf B199 (Sv jl zy zU) xs198,isF true G195 (Sv jl zy zU) (rsL s.qw.length cell (xU s (exG s t).qP i) i_1),sF true Fe191 ae191 ce191 ((((xU s (exG s t).qP i)[i_1]!).qE)[cell.toNat]!),atF b188 (o189+(cell:Int).toNat * 1) [Sv ae191 (((((xU s (exG s t).qP i)[i_1]!).qE)[cell.toNat]!).length) ce191],zf true P192 (xs185.drop ((cell.toNat+1) * 1)) ((((xU s (exG s t).qP i)[i_1]!).qE).drop (cell.toNat+1)),Yf B186 (Sv (aa b188 o189) ((((xU s (exG s t).qP i)[i_1]!).qE).length) ce179Bags) xs185,sF true QG (aa b181 o182) ce179Alive (((xU s (exG s t).qP i)[i_1]!).qA),sF true Fe179Bags (aa b188 o189) ce179Bags (((xU s (exG s t).qP i)[i_1]!).qE),sF true yQ ae179Around ce179Around (((xU s (exG s t).qP i)[i_1]!).qy),atF b176 (o177+(i_1:Int).toNat * 3) [Sv (aa b181 o182) ((((xU s (exG s t).qP i)[i_1]!).qA).length) ce179Alive,Sv (aa b188 o189) ((((xU s (exG s t).qP i)[i_1]!).qE).length) ce179Bags,Sv ae179Around ((((xU s (exG s t).qP i)[i_1]!).qy).length) ce179Around],zf true P180 (xs74.drop ((i_1+1) * 3)) ((xU s (exG s t).qP i).drop (i_1+1)),Yf B75 (Sv (aa b176 o177) xX zK) xs74,isF true G71 (Sv (aa b176 o177) xX zK) (xU s (exG s t).qP i),sF true rF22aStates ra22aStates rc22aStates ((exG s t).qP),sF true rF22aNext ra22aNext rc22aNext ((exG s t).fNext),sF false qZ qC qB s.qw,sF false xG qN qJ s.qx,sF false xR qV qR t.qA,sF false zC xm xk t.qE,sF false xC qL qK t.qy]) (((rsL s.qw.length cell (xU s (exG s t).qP i) i_1).length - 0)) ⟨_,(aa b193 0),0,0,([]:yLL),[],[],0,P200,uE4,(by rfl),(by exact fun j hj=>by omega),qf,rfl,(N.emp.pick [2,3,4,5,6,7,8,0,1]),H.pick [0,2,3,4] [0,1,2,3,4,5,6,8,9,10,11,12,13,16,17,18,19,20,21,22,23,24]⟩ ?_
   clear H N
   rintro m' ρ w202 ⟨xY,QT,xZ,QS,out_51,yu,vk,at_,P_at_,rfl,rfl,ah,al,rfl,N,H⟩
   have hn_out:=H.zq (α:=yLI) 0 rfl 0 rfl qj
   have tl:((rsL s.qw.length cell (xU s (exG s t).qP i) i_1).take at_).length=at_:=List.length_take_of_le qf
   have dl:((rsL s.qw.length cell (xU s (exG s t).qP i) i_1).drop at_).length=(rsL s.qw.length cell (xU s (exG s t).qP i) i_1).length - at_:=List.length_drop
   refine zcc (sps [yI at_,Sv jl zy zU] (oN rfl (sps [Bv (decide ((at_:Int) < zy)),Bv (decide ((at_:Int) < zy))] ?_)))
   cases h203:(decide ((at_:Int) < zy))
   ·skip
    replace h203:=of_decide_eq_false h203
    refine zk [13,14,15,16,17,18] (sp (Bv false) (zjn (xE false rfl (fun h=>absurd h qj) (fun _=>zx4 (zcc (sps [yI at_,Sv jl zy zU] (oN rfl (sps [Bv ((at_:Int) == zy),Bv ((at_:Int) == zy)] ?_))))))))
    cases h204:((at_:Int) == zy)
    ·skip
     replace h204:=ne_of_beq_false h204
     refine qQ 33 rfl rfl (sp (Sv jl zy zU) (qQ 33 rfl rfl (sp (yI at_) (qQ 33 rfl rfl ?_))))
     have hl207:=H.isLen 3 rfl
     obtain ⟨b205,o206,rfl⟩:=H.addr 3 rfl qf
     obtain ⟨ae208,ce208,Fe208,H⟩:=H.vV 3 rfl at_ at_ qf qf qf
     refine oI rfl rfl (qQ 33 rfl rfl (oL rfl (H.xW 1 rfl 0 rfl) (qQ 33 rfl rfl (sp (Sv ae191 (((((xU s (exG s t).qP i)[i_1]!).qE)[cell.toNat]!).length) ce191) (qQ 33 rfl rfl (sw (oq (l00Same_ok _ ((rsL s.qw.length cell (xU s (exG s t).qP i) i_1)[at_]!) ((((xU s (exG s t).qP i)[i_1]!).qE)[cell.toNat]!) (H.get 0 rfl).1 (H.get 6 rfl).1) H fun w210 H=>qQ 33 rfl rfl ?_)))))))
     refine sps [Bv (!(decide (((rsL s.qw.length cell (xU s (exG s t).qP i) i_1)[at_]!)=((((xU s (exG s t).qP i)[i_1]!).qE)[cell.toNat]!)))),Bv (!(decide (((rsL s.qw.length cell (xU s (exG s t).qP i) i_1)[at_]!)=((((xU s (exG s t).qP i)[i_1]!).qE)[cell.toNat]!))))] (zjn (xE (!(decide (((rsL s.qw.length cell (xU s (exG s t).qP i) i_1)[at_]!)=((((xU s (exG s t).qP i)[i_1]!).qE)[cell.toNat]!)))) rfl (fun h212=>?_) (fun h212=>?_)))
     ·skip
      replace h212:=xq h212
      replace h212:=of_decide_eq_false h212
      refine xO (sps [Sv QT xZ QS,Sv ae191 (((((xU s (exG s t).qP i)[i_1]!).qE)[cell.toNat]!).length) ce191] (sw (zA H underlying27 ti22 [Sv ae191 (((((xU s (exG s t).qP i)[i_1]!).qE)[cell.toNat]!).length) ce191] fun b213 w214 H=>sw (zG H 1 rfl 0 rfl underlying27 ti22 rfl qj rfl rfl rfl (by simp [Value.oneCell',Value.cells]) qp qf fun a215 c216 w217 H=>?_))))
      replace H:=H.jd 2 rfl 6 rfl
      replace N:Fresh w.heap.size [(vk++Fe191),P192,QG,yQ,P180,rF22aStates,rF22aNext,P_at_]:=(N.pick [7,0,1,2,3,4,5,6,8]).join
      refine sp (Sv a215 (xZ+1) c216) (zjc (sps [Sv a215 (xZ+1) c216,Sv (aa b205 o206) zy zU,yI at_] ?_))
      have hl219:=H.isLen 6 rfl
      subst hl219
      refine sw (o_tailC H 6 rfl 5 rfl at_ 4 rfl underlying27 ti22 rfl rfl qf fun a218 H=>sw (Vs H 1 rfl 0 rfl 5 rfl rfl underlying27 ti22 rfl qj rfl rfl qp qf fun a220 c221 w222 H=>?_))
      replace H:=H.repsCat true 1 rfl 5 rfl qm
      replace N:Fresh w.heap.size [((vk++Fe191)++P_at_),P192,QG,yQ,P180,rF22aStates,rF22aNext]:=(N.pick [0,7,1,2,3,4,5,6]).join
      refine sp (Sv a220 ((xZ+1)+(((rsL s.qw.length cell (xU s (exG s t).qP i) i_1).drop at_).length)) c221) (zjr (ret1 (Sv a220 ((xZ+1)+(((rsL s.qw.length cell (xU s (exG s t).qP i) i_1).drop at_).length)) c221) rfl rfl ⟨_,rfl,?_⟩))
      replace H:=H.erases [0]
      dsimp only [vS,List.eraseIdx] at H
      refine sp (Sv a220 ((xZ+1)+(((rsL s.qw.length cell (xU s (exG s t).qP i) i_1).drop at_).length)) c221) (xM (b_n (t_n (xO (sp (yI i_1) (sw (zB i_1 1 rfl rfl qf (sp (yI (i_1+1)) (xM ?_)))))))))
      refine qY (m' :=(xX - ((i_1+1):Int)).toNat) qf ⟨_,a220,(xZ+1)+(((rsL s.qw.length cell (xU s (exG s t).qP i) i_1).drop at_).length),c221,((((rsL s.qw.length cell (xU s (exG s t).qP i) i_1).take at_)++[(((xU s (exG s t).qP i)[i_1]!).qE)[cell.toNat]!])++((rsL s.qw.length cell (xU s (exG s t).qP i) i_1).drop at_)),(yu++[Sv ae191 (((((xU s (exG s t).qP i)[i_1]!).qE)[cell.toNat]!).length) ce191])++(xs198.drop (at_ * 1)),((vk++Fe191)++P_at_),i_1+1,P180,uE5,?_,?_,rfl,(N.pick [5,6,0,4]),H.pick [0,1,2,3] [0,17,18,19,20,21,22,23,24,25,26]⟩
      · first | (exfalso;omega) | exact (vW ah qf (Or.inl qf)).trans (zL (XT qf)) | exact (vW ah qf (Or.inr ⟨by assumption,by assumption⟩)).trans (zL (XT qf)) | exact (QO ah qf ql ql).trans (zL (XT qf)) | exact (vW ah qf (Or.inl qf)).trans (zL (XR qf ql)) | exact (vW ah qf (Or.inr ⟨by assumption,by assumption⟩)).trans (zL (XR qf ql)) | exact (QO ah qf ql ql).trans (zL (XR qf ql)) | exact rs_none (res_c qf (fun e=>absurd (e.symm.trans ‹_=false›) qj))
      · omega
     replace h212:=xg h212
     replace h212:=of_decide_eq_true h212
     refine qW (t_n (zcr (sps [Sv QT xZ QS,Sv (aa b205 o206) zy zU,yI at_] ?_)))
     have hl224:=H.isLen 5 rfl
     subst hl224
     refine sw (o_tailC H 5 rfl 4 rfl at_ 3 rfl underlying27 ti22 rfl rfl qf fun a223 H=>sw (Vs H 0 rfl 0 rfl 4 rfl rfl underlying27 ti22 rfl qj rfl rfl qp qf fun a225 c226 w227 H=>?_))
     replace H:=H.repsCat true 3 rfl 4 rfl qm
     replace N:Fresh w.heap.size [(vk++P_at_),Fe191,P192,QG,yQ,P180,rF22aStates,rF22aNext]:=(N.pick [7,8,0,1,2,3,4,5,6]).join
     refine sp (Sv a225 (xZ+(((rsL s.qw.length cell (xU s (exG s t).qP i) i_1).drop at_).length)) c226) (zjr (ret1 (Sv a225 (xZ+(((rsL s.qw.length cell (xU s (exG s t).qP i) i_1).drop at_).length)) c226) rfl rfl ⟨_,rfl,(sp (Sv a225 (xZ+(((rsL s.qw.length cell (xU s (exG s t).qP i) i_1).drop at_).length)) c226) (xM (b_n (t_n (xO (sp (yI i_1) (sw (zB i_1 1 rfl rfl qf (sp (yI (i_1+1)) (xM ?_))))))))))⟩))
     refine qY (m' :=(xX - ((i_1+1):Int)).toNat) qf ⟨_,a225,xZ+(((rsL s.qw.length cell (xU s (exG s t).qP i) i_1).drop at_).length),c226,(((rsL s.qw.length cell (xU s (exG s t).qP i) i_1).take at_)++((rsL s.qw.length cell (xU s (exG s t).qP i) i_1).drop at_)),yu++(xs198.drop (at_ * 1)),(vk++P_at_),i_1+1,P180,uE5,?_,?_,rfl,(N.pick [6,7,0,5]),H.pick [0,1,2,3] [0,16,17,18,19,20,21,22,23,24,25]⟩
     · first | (exfalso;omega) | exact (vW ah qf (Or.inl qf)).trans (zL (XT qf)) | exact (vW ah qf (Or.inr ⟨by assumption,by assumption⟩)).trans (zL (XT qf)) | exact (QO ah qf ql ql).trans (zL (XT qf)) | exact (vW ah qf (Or.inl qf)).trans (zL (XR qf ql)) | exact (vW ah qf (Or.inr ⟨by assumption,by assumption⟩)).trans (zL (XR qf ql)) | exact (QO ah qf ql ql).trans (zL (XR qf ql)) | exact rs_none (res_c qf (fun e=>absurd (e.symm.trans ‹_=false›) qj))
     · omega
    replace h204:=eq_of_beq h204
    refine zk [34,35,36,37,38,39,40] (sp (Bv true) (zjn (xE true rfl (fun _=>xO (sps [Sv QT xZ QS,Sv ae191 (((((xU s (exG s t).qP i)[i_1]!).qE)[cell.toNat]!).length) ce191] (sw (zA H underlying27 ti22 [Sv ae191 (((((xU s (exG s t).qP i)[i_1]!).qE)[cell.toNat]!).length) ce191] fun b228 w229 H=>sw (zG H 1 rfl 0 rfl underlying27 ti22 rfl qj rfl rfl rfl (by simp [Value.oneCell',Value.cells]) qp qf fun a230 c231 w232 H=>?_))))) (fun h=>absurd h qj))))
    replace H:=H.jd 0 rfl 4 rfl
    replace N:Fresh w.heap.size [(vk++Fe191),P192,QG,yQ,P180,rF22aStates,rF22aNext,P_at_]:=(N.pick [7,0,1,2,3,4,5,6,8]).join
    refine sp (Sv a230 (xZ+1) c231) (zjc (sps [Sv a230 (xZ+1) c231,Sv jl zy zU,yI at_] ?_))
    have hl234:=H.isLen 4 rfl
    subst hl234
    refine sw (o_tailC H 4 rfl 3 rfl at_ 2 rfl underlying27 ti22 rfl rfl qf fun a233 H=>sw (Vs H 1 rfl 0 rfl 3 rfl rfl underlying27 ti22 rfl qj rfl rfl qp qf fun a235 c236 w237 H=>?_))
    replace H:=H.repsCat true 1 rfl 3 rfl qm
    replace N:Fresh w.heap.size [((vk++Fe191)++P_at_),P192,QG,yQ,P180,rF22aStates,rF22aNext]:=(N.pick [0,7,1,2,3,4,5,6]).join
    refine sp (Sv a235 ((xZ+1)+(((rsL s.qw.length cell (xU s (exG s t).qP i) i_1).drop at_).length)) c236) (zjr (ret1 (Sv a235 ((xZ+1)+(((rsL s.qw.length cell (xU s (exG s t).qP i) i_1).drop at_).length)) c236) rfl rfl ⟨_,rfl,?_⟩))
    replace H:=H.erases [0]
    dsimp only [vS,List.eraseIdx] at H
    refine sp (Sv a235 ((xZ+1)+(((rsL s.qw.length cell (xU s (exG s t).qP i) i_1).drop at_).length)) c236) (xM (b_n (t_n (xO (sp (yI i_1) (sw (zB i_1 1 rfl rfl qf (sp (yI (i_1+1)) (xM ?_)))))))))
    refine qY (m' :=(xX - ((i_1+1):Int)).toNat) qf ⟨_,a235,(xZ+1)+(((rsL s.qw.length cell (xU s (exG s t).qP i) i_1).drop at_).length),c236,((((rsL s.qw.length cell (xU s (exG s t).qP i) i_1).take at_)++[(((xU s (exG s t).qP i)[i_1]!).qE)[cell.toNat]!])++((rsL s.qw.length cell (xU s (exG s t).qP i) i_1).drop at_)),(yu++[Sv ae191 (((((xU s (exG s t).qP i)[i_1]!).qE)[cell.toNat]!).length) ce191])++(xs198.drop (at_ * 1)),((vk++Fe191)++P_at_),i_1+1,P180,uE5,?_,?_,rfl,(N.pick [5,6,0,4]),H.pick [0,1,2,3] [0,15,16,17,18,19,20,21,22,23,24]⟩
    · first | (exfalso;omega) | exact (vW ah qf (Or.inl qf)).trans (zL (XT qf)) | exact (vW ah qf (Or.inr ⟨by assumption,by assumption⟩)).trans (zL (XT qf)) | exact (QO ah qf ql ql).trans (zL (XT qf)) | exact (vW ah qf (Or.inl qf)).trans (zL (XR qf ql)) | exact (vW ah qf (Or.inr ⟨by assumption,by assumption⟩)).trans (zL (XR qf ql)) | exact (QO ah qf ql ql).trans (zL (XR qf ql)) | exact rs_none (res_c qf (fun e=>absurd (e.symm.trans ‹_=false›) qj))
    · omega
   replace h203:=of_decide_eq_true h203
   refine qQ 12 rfl rfl (sp (Sv jl zy zU) (qQ 12 rfl rfl (sp (yI at_) (qQ 12 rfl rfl ?_))))
   have hl240:=H.isLen 3 rfl
   obtain ⟨b238,o239,rfl⟩:=H.addr 3 rfl qf
   obtain ⟨ae241,ce241,Fe241,H⟩:=H.vV 3 rfl at_ at_ qf qf qf
   refine oI rfl rfl (qQ 12 rfl rfl (oL rfl (H.xW 1 rfl 0 rfl) (qQ 12 rfl rfl (sp (Sv ae191 (((((xU s (exG s t).qP i)[i_1]!).qE)[cell.toNat]!).length) ce191) (qQ 12 rfl rfl ?_)))))
   have rwb:=rwa at_ qf
   refine sw (oq (l03Before_ok _ ((rsL s.qw.length cell (xU s (exG s t).qP i) i_1)[at_]!) ((((xU s (exG s t).qP i)[i_1]!).qE)[cell.toNat]!) (H.get 0 rfl).1 (H.get 6 rfl).1 qg) H fun w243 H=>sp (Bv (dec (ahead ((rsL s.qw.length cell (xU s (exG s t).qP i) i_1)[at_]!) ((((xU s (exG s t).qP i)[i_1]!).qE)[cell.toNat]!)))) (zjn (cP rfl (fun h245=>?_) (fun h245=>?_))))
   ·skip
    obtain ⟨ae246,ce246,Fe246,P247,N,H⟩:=H.drainList 4 rfl 3 rfl ((N.pick [8,0,1,2,3,4,5,6,7]):Fresh w.heap.size [P_at_,Fe191,P192,QG,yQ,P180,rF22aStates,rF22aNext,vk]) at_ at_ qf qf qf
    refine qW (t_n (qX (zcr (sps [Sv QT xZ QS,Sv (aa b238 o239) zy zU,yI at_] (oI rfl rfl (oL rfl (H.xW 1 rfl 0 rfl) (sw (zA H underlying27 ti22 [Sv ae246 (((rsL s.qw.length cell (xU s (exG s t).qP i) i_1)[at_]!).length) ce246] fun b248 w249 H=>sw (zG H 1 rfl 0 rfl underlying27 ti22 rfl qj rfl rfl rfl (by simp [Value.oneCell',Value.cells]) qp qf fun a250 c251 w252 H=>?_)))))))))
    replace H:=H.jd 5 rfl 0 rfl
    replace N:Fresh w.heap.size [(vk++Fe246),P247,Fe191,P192,QG,yQ,P180,rF22aStates,rF22aNext]:=(N.pick [9,0,1,2,3,4,5,6,7,8]).join
    refine sp (Sv a250 (xZ+1) c251) (zjn (xO (sp (yI at_) (sw (zB at_ 1 rfl rfl qf (sp (yI (at_+1)) (xM (b_n ?_))))))))
    refine qY (m' :=((rsL s.qw.length cell (xU s (exG s t).qP i) i_1).length - (at_+1))) qf ⟨_,a250,xZ+1,c251,(((rsL s.qw.length cell (xU s (exG s t).qP i) i_1).take at_)++[(rsL s.qw.length cell (xU s (exG s t).qP i) i_1)[at_]!]),yu++[Sv ae246 (((rsL s.qw.length cell (xU s (exG s t).qP i) i_1)[at_]!).length) ce246],(vk++Fe246),at_+1,P247,uE4,?_,?_,?_,rfl,(N.pick [2,3,4,5,6,7,8,0,1]),H.pick [1,2,3,4] [0,3,8,9,10,11,12,13,14,15,16,17,18,19,20,21,22,23,24,25,26,27]⟩
    · exact take_snoc qf
    · exact below_up ah ql
    · omega
   refine zx4 (zcc (sps [yI at_,Sv (aa b238 o239) zy zU] (oN rfl (sps [Bv ((at_:Int) == zy),Bv ((at_:Int) == zy)] ?_))))
   cases h253:((at_:Int) == zy)
   ·skip
    replace h253:=ne_of_beq_false h253
    refine qQ 33 rfl rfl (sp (Sv (aa b238 o239) zy zU) (qQ 33 rfl rfl (sp (yI at_) (qQ 33 rfl rfl (oI rfl rfl (qQ 33 rfl rfl (oL rfl (H.xW 1 rfl 0 rfl) (qQ 33 rfl rfl (sp (Sv ae191 (((((xU s (exG s t).qP i)[i_1]!).qE)[cell.toNat]!).length) ce191) (qQ 33 rfl rfl (sw (oq (l00Same_ok _ ((rsL s.qw.length cell (xU s (exG s t).qP i) i_1)[at_]!) ((((xU s (exG s t).qP i)[i_1]!).qE)[cell.toNat]!) (H.get 0 rfl).1 (H.get 6 rfl).1) H fun w255 H=>qQ 33 rfl rfl ?_))))))))))))
    refine sps [Bv (!(decide (((rsL s.qw.length cell (xU s (exG s t).qP i) i_1)[at_]!)=((((xU s (exG s t).qP i)[i_1]!).qE)[cell.toNat]!)))),Bv (!(decide (((rsL s.qw.length cell (xU s (exG s t).qP i) i_1)[at_]!)=((((xU s (exG s t).qP i)[i_1]!).qE)[cell.toNat]!))))] (zjn (xE (!(decide (((rsL s.qw.length cell (xU s (exG s t).qP i) i_1)[at_]!)=((((xU s (exG s t).qP i)[i_1]!).qE)[cell.toNat]!)))) rfl (fun h257=>?_) (fun h257=>?_)))
    ·skip
     replace h257:=xq h257
     replace h257:=of_decide_eq_false h257
     refine xO (sps [Sv QT xZ QS,Sv ae191 (((((xU s (exG s t).qP i)[i_1]!).qE)[cell.toNat]!).length) ce191] (sw (zA H underlying27 ti22 [Sv ae191 (((((xU s (exG s t).qP i)[i_1]!).qE)[cell.toNat]!).length) ce191] fun b258 w259 H=>sw (zG H 1 rfl 0 rfl underlying27 ti22 rfl qj rfl rfl rfl (by simp [Value.oneCell',Value.cells]) qp qf fun a260 c261 w262 H=>?_))))
     replace H:=H.jd 2 rfl 6 rfl
     replace N:Fresh w.heap.size [(vk++Fe191),P192,QG,yQ,P180,rF22aStates,rF22aNext,P_at_]:=(N.pick [7,0,1,2,3,4,5,6,8]).join
     refine sp (Sv a260 (xZ+1) c261) (zjc (sps [Sv a260 (xZ+1) c261,Sv (aa b238 o239) zy zU,yI at_] ?_))
     have hl264:=H.isLen 6 rfl
     subst hl264
     refine sw (o_tailC H 6 rfl 5 rfl at_ 4 rfl underlying27 ti22 rfl rfl qf fun a263 H=>sw (Vs H 1 rfl 0 rfl 5 rfl rfl underlying27 ti22 rfl qj rfl rfl qp qf fun a265 c266 w267 H=>?_))
     replace H:=H.repsCat true 1 rfl 5 rfl qm
     replace N:Fresh w.heap.size [((vk++Fe191)++P_at_),P192,QG,yQ,P180,rF22aStates,rF22aNext]:=(N.pick [0,7,1,2,3,4,5,6]).join
     refine sp (Sv a265 ((xZ+1)+(((rsL s.qw.length cell (xU s (exG s t).qP i) i_1).drop at_).length)) c266) (zjr (ret1 (Sv a265 ((xZ+1)+(((rsL s.qw.length cell (xU s (exG s t).qP i) i_1).drop at_).length)) c266) rfl rfl ⟨_,rfl,?_⟩))
     replace H:=H.erases [0]
     dsimp only [vS,List.eraseIdx] at H
     refine sp (Sv a265 ((xZ+1)+(((rsL s.qw.length cell (xU s (exG s t).qP i) i_1).drop at_).length)) c266) (xM (b_n (t_n (xO (sp (yI i_1) (sw (zB i_1 1 rfl rfl qf (sp (yI (i_1+1)) (xM ?_)))))))))
     refine qY (m' :=(xX - ((i_1+1):Int)).toNat) qf ⟨_,a265,(xZ+1)+(((rsL s.qw.length cell (xU s (exG s t).qP i) i_1).drop at_).length),c266,((((rsL s.qw.length cell (xU s (exG s t).qP i) i_1).take at_)++[(((xU s (exG s t).qP i)[i_1]!).qE)[cell.toNat]!])++((rsL s.qw.length cell (xU s (exG s t).qP i) i_1).drop at_)),(yu++[Sv ae191 (((((xU s (exG s t).qP i)[i_1]!).qE)[cell.toNat]!).length) ce191])++(xs198.drop (at_ * 1)),((vk++Fe191)++P_at_),i_1+1,P180,uE5,?_,?_,rfl,(N.pick [5,6,0,4]),H.pick [0,1,2,3] [0,17,18,19,20,21,22,23,24,25,26]⟩
     · first | (exfalso;omega) | exact (vW ah qf (Or.inl qf)).trans (zL (XT qf)) | exact (vW ah qf (Or.inr ⟨by assumption,by assumption⟩)).trans (zL (XT qf)) | exact (QO ah qf ql ql).trans (zL (XT qf)) | exact (vW ah qf (Or.inl qf)).trans (zL (XR qf ql)) | exact (vW ah qf (Or.inr ⟨by assumption,by assumption⟩)).trans (zL (XR qf ql)) | exact (QO ah qf ql ql).trans (zL (XR qf ql)) | exact rs_none (res_c qf (fun e=>absurd (e.symm.trans ‹_=false›) qj))
     · omega
    replace h257:=xg h257
    replace h257:=of_decide_eq_true h257
    refine qW (t_n (zcr (sps [Sv QT xZ QS,Sv (aa b238 o239) zy zU,yI at_] ?_)))
    have hl269:=H.isLen 5 rfl
    subst hl269
    refine sw (o_tailC H 5 rfl 4 rfl at_ 3 rfl underlying27 ti22 rfl rfl qf fun a268 H=>sw (Vs H 0 rfl 0 rfl 4 rfl rfl underlying27 ti22 rfl qj rfl rfl qp qf fun a270 c271 w272 H=>?_))
    replace H:=H.repsCat true 3 rfl 4 rfl qm
    replace N:Fresh w.heap.size [(vk++P_at_),Fe191,P192,QG,yQ,P180,rF22aStates,rF22aNext]:=(N.pick [7,8,0,1,2,3,4,5,6]).join
    refine sp (Sv a270 (xZ+(((rsL s.qw.length cell (xU s (exG s t).qP i) i_1).drop at_).length)) c271) (zjr (ret1 (Sv a270 (xZ+(((rsL s.qw.length cell (xU s (exG s t).qP i) i_1).drop at_).length)) c271) rfl rfl ⟨_,rfl,(sp (Sv a270 (xZ+(((rsL s.qw.length cell (xU s (exG s t).qP i) i_1).drop at_).length)) c271) (xM (b_n (t_n (xO (sp (yI i_1) (sw (zB i_1 1 rfl rfl qf (sp (yI (i_1+1)) (xM ?_))))))))))⟩))
    refine qY (m' :=(xX - ((i_1+1):Int)).toNat) qf ⟨_,a270,xZ+(((rsL s.qw.length cell (xU s (exG s t).qP i) i_1).drop at_).length),c271,(((rsL s.qw.length cell (xU s (exG s t).qP i) i_1).take at_)++((rsL s.qw.length cell (xU s (exG s t).qP i) i_1).drop at_)),yu++(xs198.drop (at_ * 1)),(vk++P_at_),i_1+1,P180,uE5,?_,?_,rfl,(N.pick [6,7,0,5]),H.pick [0,1,2,3] [0,16,17,18,19,20,21,22,23,24,25]⟩
    · first | (exfalso;omega) | exact (vW ah qf (Or.inl qf)).trans (zL (XT qf)) | exact (vW ah qf (Or.inr ⟨by assumption,by assumption⟩)).trans (zL (XT qf)) | exact (QO ah qf ql ql).trans (zL (XT qf)) | exact (vW ah qf (Or.inl qf)).trans (zL (XR qf ql)) | exact (vW ah qf (Or.inr ⟨by assumption,by assumption⟩)).trans (zL (XR qf ql)) | exact (QO ah qf ql ql).trans (zL (XR qf ql)) | exact rs_none (res_c qf (fun e=>absurd (e.symm.trans ‹_=false›) qj))
    · omega
   replace h253:=eq_of_beq h253
   refine zk [34,35,36,37,38,39,40] (sp (Bv true) (zjn (xE true rfl (fun _=>xO (sps [Sv QT xZ QS,Sv ae191 (((((xU s (exG s t).qP i)[i_1]!).qE)[cell.toNat]!).length) ce191] (sw (zA H underlying27 ti22 [Sv ae191 (((((xU s (exG s t).qP i)[i_1]!).qE)[cell.toNat]!).length) ce191] fun b273 w274 H=>sw (zG H 1 rfl 0 rfl underlying27 ti22 rfl qj rfl rfl rfl (by simp [Value.oneCell',Value.cells]) qp qf fun a275 c276 w277 H=>?_))))) (fun h=>absurd h qj))))
   replace H:=H.jd 2 rfl 6 rfl
   replace N:Fresh w.heap.size [(vk++Fe191),P192,QG,yQ,P180,rF22aStates,rF22aNext,P_at_]:=(N.pick [7,0,1,2,3,4,5,6,8]).join
   refine sp (Sv a275 (xZ+1) c276) (zjc (sps [Sv a275 (xZ+1) c276,Sv (aa b238 o239) zy zU,yI at_] ?_))
   have hl279:=H.isLen 6 rfl
   subst hl279
   refine sw (o_tailC H 6 rfl 5 rfl at_ 4 rfl underlying27 ti22 rfl rfl qf fun a278 H=>sw (Vs H 1 rfl 0 rfl 5 rfl rfl underlying27 ti22 rfl qj rfl rfl qp qf fun a280 c281 w282 H=>?_))
   replace H:=H.repsCat true 1 rfl 5 rfl qm
   replace N:Fresh w.heap.size [((vk++Fe191)++P_at_),P192,QG,yQ,P180,rF22aStates,rF22aNext]:=(N.pick [0,7,1,2,3,4,5,6]).join
   refine sp (Sv a280 ((xZ+1)+(((rsL s.qw.length cell (xU s (exG s t).qP i) i_1).drop at_).length)) c281) (zjr (ret1 (Sv a280 ((xZ+1)+(((rsL s.qw.length cell (xU s (exG s t).qP i) i_1).drop at_).length)) c281) rfl rfl ⟨_,rfl,?_⟩))
   replace H:=H.erases [0]
   dsimp only [vS,List.eraseIdx] at H
   refine sp (Sv a280 ((xZ+1)+(((rsL s.qw.length cell (xU s (exG s t).qP i) i_1).drop at_).length)) c281) (xM (b_n (t_n (xO (sp (yI i_1) (sw (zB i_1 1 rfl rfl qf (sp (yI (i_1+1)) (xM ?_)))))))))
   refine qY (m' :=(xX - ((i_1+1):Int)).toNat) qf ⟨_,a280,(xZ+1)+(((rsL s.qw.length cell (xU s (exG s t).qP i) i_1).drop at_).length),c281,((((rsL s.qw.length cell (xU s (exG s t).qP i) i_1).take at_)++[(((xU s (exG s t).qP i)[i_1]!).qE)[cell.toNat]!])++((rsL s.qw.length cell (xU s (exG s t).qP i) i_1).drop at_)),(yu++[Sv ae191 (((((xU s (exG s t).qP i)[i_1]!).qE)[cell.toNat]!).length) ce191])++(xs198.drop (at_ * 1)),((vk++Fe191)++P_at_),i_1+1,P180,uE5,?_,?_,rfl,(N.pick [5,6,0,4]),H.pick [0,1,2,3] [0,17,18,19,20,21,22,23,24,25,26]⟩
   · first | (exfalso;omega) | exact (vW ah qf (Or.inl qf)).trans (zL (XT qf)) | exact (vW ah qf (Or.inr ⟨by assumption,by assumption⟩)).trans (zL (XT qf)) | exact (QO ah qf ql ql).trans (zL (XT qf)) | exact (vW ah qf (Or.inl qf)).trans (zL (XR qf ql)) | exact (vW ah qf (Or.inr ⟨by assumption,by assumption⟩)).trans (zL (XR qf ql)) | exact (QO ah qf ql ql).trans (zL (XR qf ql)) | exact rs_none (res_c qf (fun e=>absurd (e.symm.trans ‹_=false›) qj))
   · omega
  refine qW (b_n (t_n (xO (sp (yI i_1) (sw (zB i_1 1 rfl rfl qf (sp (yI (i_1+1)) (xM (qY (m' :=(xX - ((i_1+1):Int)).toNat) qf ⟨_,jl,zy,zU,(rsL s.qw.length cell (xU s (exG s t).qP i) i_1),X3,Q8,i_1+1,P180,uE5,?_,?_,rfl,(N.pick [4,5,6,3]),H.pick [0,1,2,3] [5,4,7,8,9,10,11,12,13,14,15]⟩)))))))))
  · first | (exfalso;omega) | exact (vW ah qf (Or.inl qf)).trans (zL (XT qf)) | exact (vW ah qf (Or.inr ⟨by assumption,by assumption⟩)).trans (zL (XT qf)) | exact (QO ah qf ql ql).trans (zL (XT qf)) | exact (vW ah qf (Or.inl qf)).trans (zL (XR qf ql)) | exact (vW ah qf (Or.inr ⟨by assumption,by assumption⟩)).trans (zL (XR qf ql)) | exact (QO ah qf ql ql).trans (zL (XR qf ql)) | exact rs_none (res_c qf (fun e=>absurd (e.symm.trans ‹_=false›) qj))
  · omega
 refine zx4 (zcr (sps [Sv jl zy zU,Sv jl zy zU,yI 0] (zjr ?_)))
 have H0:=H
 obtain ⟨G283,hg285,hn284,H⟩:=H.yX (α:=yLI) 0 rfl 0 rfl qj
 replace N:Fresh w.heap.size [G283,rF22aStates,rF22aNext,P_i_1]:=Fresh.ice (N.pick [2,0,1,3]) H0 0 hg285.1 hg285.2 (H0.jU [4,5,1])
 clear H0
 obtain rfl:=H.isLen 0 rfl
 refine ret2 (Sv jl ((rsL s.qw.length cell (xU s (exG s t).qP i) i_1).length) zU) (yI 0) rfl rfl rfl ⟨_,rfl,?_,H.base⟩
 rw [rs_0 k0 hc c0 (i:=i) (k:=i_1) qf qf]
 exact ⟨jl,zU,G283,rfl,(N.pick [0]),H.pick [] [0]⟩

theorem implRS_ok (w:World) (s:qI) (t:qH) (cell:Int) {qC:yOA} {qZ:yLN} {qN:yOA} {xG:yLN} {qV:yOA} {xR:yLN} {xm:yOA} {zC:yLN} {qL:yOA} {xC:yLN} (xf:qO.rep w qZ [Sv qC s.qw.length qB] s.qw) (xJ:qO.rep w xG [Sv qN s.qx.length qJ] s.qx) (zi:qO.rep w xR [Sv qV t.qA.length qR] t.qA) (zM:qO.rep w zC [Sv xm t.qE.length xk] t.qE) (xN:qO.rep w xC [Sv qL t.qy.length qK] t.qy):Calls Tryz.prog 52 #[.agg #[yI s.xB,Sv qC s.qw.length qB,Sv qN s.qx.length qJ],.agg #[Sv qV t.qA.length qR,Sv xm t.qE.length xk,Sv qL t.qy.length qK],yI cell] w (Ret (fun v w' =>∃ (ra0:yOA) (rc0:Nat) (rF0:yLN),v=.tuple #[Sv ra0 (((vw s t cell).1).length) rc0,yI ((vw s t cell).2)]∧Fresh w.heap.size [rF0]∧St w w' [] [sF true rF0 ra0 rc0 ((vw s t cell).1)]) w):=by
 refine en func52 ntmps52 ?_
 have H:=(((((St.start w).arg xN).arg zM).arg zi).arg xJ).arg xf
 have vH:=qM xf
 have jw:=qM xJ
 have Qj:=qM zi
 have Q7:=qM zM
 have jV:=qM xN
 clear xf xJ zi zM xN
 have N:=Fresh.nil w.heap.size
 refine zcr (sw (vU H (yS s qC qB qN qJ) fun b1 w2 H=>sw (vU H (yT t qV qR xm xk qL qK) fun b3 w4 H=>sps [yN,yI 0] (zjcc (sw (zl (yS s qC qB qN qJ) isAgg36 sizeOf36 rfl (qF (H.cells 1 rfl) 0 3) ?_))))))
 refine sw (zl (yT t qV qR xm xk qL qK) isAgg38 sizeOf38 rfl (qF (H.cells 0 rfl) 0 3) (sw (oq (validState_ok _ s t (H.get 0 rfl).1 (H.get 1 rfl).1 (H.get 2 rfl).1 (H.get 3 rfl).1 (H.get 4 rfl).1) H fun w6 H=>sp (Bv (!(dec (jE s∧zu s t)))) (zjn (cQ rfl (fun h8=>?_) (fun h8=>?_))))))
 ·skip
  refine zcr (sps [yN,yI 1] (zjr (t_r ?_)))
  replace H:=H.addNil (α:=yLI)
  refine ret2 yN (yI 1) rfl rfl rfl ⟨_,rfl,?_,H.base⟩
  rw [rs_1 ‹_›]
  exact ⟨none,0,[],rfl,N.emp,H.pick [] [0]⟩
 have k0:=(‹jE s∧zu s t›:jE s∧zu s t)
 have k1:=k0.1
 have k2:=k0.2
 obtain ⟨q7,q8,q9,q10⟩:=k2.sizes k1.1
 have q13:=fun k hk=>Nat.le_trans (q10 k hk) (by decide:8≤1000000)
 refine qW (t_n (zcc (sp (yI cell) (oF rfl (oL rfl (H.cell 1 rfl rfl) (sw (oq (sizeI_ok _ s.qw (H.get 0 rfl).1) H fun w9 H=>sw (oq (VX w9 cell 0 (s.qw.length:Int)) H fun w11 H=>sp (Bv (!(inR cell 0 (s.qw.length:Int)))) (zjn (xE (!(inR cell 0 (s.qw.length:Int))) rfl (fun h13=>?_) (fun h13=>?_)))))))))))
 ·skip
  replace h13:=xq h13
  replace h13:=Vh h13
  refine zcr (sps [yN,yI 2] (zjr (t_r ?_)))
  replace H:=H.addNil (α:=yLI)
  refine ret2 yN (yI 2) rfl rfl rfl ⟨_,rfl,?_,H.base⟩
  rw [rs_2 k0 ‹_›]
  exact ⟨none,0,[],rfl,N.emp,H.pick [] [0]⟩
 replace h13:=xg h13
 replace h13:=XA.1 h13
 have hc:0≤cell∧cell≤(s.qw.length:Int):=by assumption
 refine qW (t_n (zcr (sw (zl (yS s qC qB qN qJ) isAgg36 sizeOf36 rfl (qF (H.cells 1 rfl) 0 3) (sw (zl (yT t qV qR xm xk qL qK) isAgg38 sizeOf38 rfl (qF (H.cells 0 rfl) 0 3) ?_))))))
 have sz17:=H.base.size
 refine sw (oc (implHS_ok _ s t (H.get 0 rfl).1 (H.get 1 rfl).1 (H.get 2 rfl).1 (H.get 3 rfl).1 (H.get 4 rfl).1) ?_)
 rintro _ w15 ⟨ra14a,rc14a,rF14a,rfl,M,K⟩ _
 replace N:=N.merge sz17 qm M
 replace H:=H.merge K M
 refine sps [.tuple #[Sv ra14a (((Qk s t).1).length) rc14a,yI ((Qk s t).2)],Sv ra14a (((Qk s t).1).length) rc14a,yI ((Qk s t).2),Sv ra14a (((Qk s t).1).length) rc14a,yI ((Qk s t).2)] (zjcc (sps [yI ((Qk s t).2),Bv (((Qk s t).2:Int) != 0)] (zjn (xE (((Qk s t).2:Int) != 0) rfl (fun h19=>?_) (fun h19=>?_)))))
 ·skip
  replace h19:=bne_iff_ne.1 h19
  refine zcr (sps [yI ((Qk s t).2),yN,yI ((Qk s t).2)] (zjr (t_r ?_)))
  replace H:=H.addNil (α:=yLI)
  refine ret2 yN (yI ((Qk s t).2)) rfl rfl rfl ⟨_,rfl,?_,H.base⟩
  rw [rs_ci k0 hc ‹_›]
  exact ⟨none,0,[],rfl,(N.emp.pick [0]),H.pick [] [0]⟩
 replace h19:=xw h19
 have c1:(Qk s t).2=0:=by omega
 obtain ⟨e1,e2,e3⟩:=hs_ok c1
 refine qW (t_n (zcr (sw (vP H underlying27 ti22 fun b20 w21 H=>sp (Sv (aa b20 0) 0 0) (zjcc (sp (Sv ra14a (((Qk s t).1).length) rc14a) (oN rfl (sp (yI 0) (zjn (qX ?_))))))))))
 obtain ⟨xs22,B23,P24,N,H⟩:=H.pool (α:=qH) 0 rfl N
 replace H:=H.boxRow 0 rfl 1 0 rfl qj
 replace H:=H.vT (α:=yLI)
 refine zD (fun m' ρ w25=>∃ (xY:Env) (zX:yOA) (xX:Nat) (zK:Nat) (out:yLL) (Ql:List Value) (jI:yLN) (k:Nat) (P_k:yLN),ρ=upd (upd (upd (upd (upd (upd xY 2 (yI cell)) 3 (pp b1 0)) 10 (Sv zX xX zK)) 33 (Sv ra14a (((Qk s t).1).length) rc14a)) 34 (yI (((Qk s t).1).length))) 35 (yI k)∧out=(bgL s.qw.length cell (Qk s t).1 k)∧((k:Int)≤(((Qk s t).1).length))∧(∃ b,zX=some ⟨b,0,none⟩)∧m' =((((Qk s t).1).length) - (k:Int)).toNat∧Fresh w.heap.size [jI,P_k]∧St w w25 [rr zX xX zK 22 1 Ql,.box b3 (yT t qV qR xm xk qL qK) 38,.box b1 (yS s qC qB qN qJ) 36] [zf true jI Ql out,zf true P_k (xs22.drop (k * 3)) (((Qk s t).1).drop k),Yf B23 (Sv ra14a (((Qk s t).1).length) rc14a) xs22,sF true rF14a ra14a rc14a ((Qk s t).1),sF false qZ qC qB s.qw,sF false xG qN qJ s.qx,sF false xR qV qR t.qA,sF false zC xm xk t.qE,sF false xC qL qK t.qy]) (((((Qk s t).1).length) - (0:Int)).toNat) ⟨_,(aa b20 0),0,0,([]:yLL),[],[],0,P24,uE6,(by rfl),qf,(by exact ⟨_,rfl⟩),rfl,N.emp,H⟩ ?_
 clear H N
 rintro m' ρ w26 ⟨xY,zX,xX,zK,out,Ql,jI,k,P_k,rfl,rfl,i0,oa,rfl,N,H⟩
 have hn_out:=H.zq (α:=yLI) 0 rfl 0 rfl qj
 have bl0:=bg_len (N:=s.qw.length) (cell:=cell) (E:=(Qk s t).1) k
 refine zcr (sp (Bv (decide ((k:Int) < (((Qk s t).1).length)))) (zjn (xQ (cD rfl (fun h27=>?_) (fun h27=>?_)))))
 ·skip
  have ks:=e1 ((Qk s t).1[k]!) (mem_at (k:=k) qf rfl)
  obtain ⟨z1,z2,z3,z4,z5⟩:=ks
  have z6:=z4.2
  refine qW (t_n (xQ (qX (zcr ?_))))
  obtain ⟨b28,o29,rfl⟩:=H.addr 3 rfl qf
  obtain ⟨ae31Alive,ce31Alive,Fe31Alive,ae31Bags,ce31Bags,Fe31Bags,ae31Around,ce31Around,Fe31Around,P32,N,H⟩:=H.Y8 2 rfl 1 rfl ((N.pick [1,0]):Fresh w.heap.size [P_k,jI]) k k qf qf qf
  refine oI rfl rfl (sw (zl [Sv ae31Alive (((((Qk s t).1)[k]!).qA).length) ce31Alive,Sv ae31Bags (((((Qk s t).1)[k]!).qE).length) ce31Bags,Sv ae31Around (((((Qk s t).1)[k]!).qy).length) ce31Around] isAgg38 sizeOf38 rfl (qF (H.get 3 rfl) 0 3) (sw (zh H ti38 [yN,yN,yN] fun b33 w34 H=>sw (zF H 0 [Sv ae31Alive (((((Qk s t).1)[k]!).qA).length) ce31Alive,Sv ae31Bags (((((Qk s t).1)[k]!).qE).length) ce31Bags,Sv ae31Around (((((Qk s t).1)[k]!).qy).length) ce31Around] sizeOf38 fun w35 H=>zjn (qX (zcr ?_)))))))
  refine sp (yI cell) (oF rfl (oL rfl (H.cell 3 rfl rfl) (sw (oq (sizeI_ok _ s.qw (H.get 9 rfl).1) H fun w36 H=>sps [Bv ((cell:Int) == (s.qw.length:Int)),Bv ((cell:Int) == (s.qw.length:Int))] (zjn (cE rfl (fun h38=>?_) (fun h38=>?_)))))))
  ·skip
   refine xO (sp (Sv zX xX zK) (oF rfl (oL rfl (H.cell 0 rfl rfl) (sw (zA H underlying27 ti22 [Sv ae31Around (((((Qk s t).1)[k]!).qy).length) ce31Around] fun b39 w40 H=>sw (zG H 2 rfl 0 rfl underlying27 ti22 rfl qj rfl rfl rfl (by simp [Value.oneCell',Value.cells]) qp qf fun a41 c42 w43 H=>?_))))))
   replace H:=H.jd 5 rfl 2 rfl
   replace N:Fresh w.heap.size [(jI++Fe31Around),Fe31Alive,Fe31Bags,P32]:=(N.pick [4,2,0,1,3]).join
   refine sp (Sv a41 (xX+1) c42) (xM (b_n (b_n (t_n (xO (sw (zB k 1 rfl rfl qf (sp (yI (k+1)) (xM (qY (m' :=((((Qk s t).1).length) - ((k+1):Int)).toNat) qf ⟨_,a41,xX+1,c42,((bgL s.qw.length cell (Qk s t).1 k)++[(((Qk s t).1)[k]!).qy]),Ql++[Sv ae31Around (((((Qk s t).1)[k]!).qy).length) ce31Around],(jI++Fe31Around),k+1,P32,uE6,?_,?_,?_,rfl,(N.pick [0,3]),H.pick [2,3,4] [0,5,8,9,10,11,12,13,14]⟩))))))))))
   · first | exact bg_some (XT qf) | exact bg_some (XR qf ql) | exact bg_none (res_c qf (fun e=>absurd (e.symm.trans ‹_=false›) qj))
   · omega
   · first | exact oa | exact H.Qn 2 rfl qf
  refine zcr (oF rfl (oL rfl (H.cell 0 rfl rfl) (sp (yI cell) ?_)))
  obtain ⟨b44,o45,rfl⟩:=H.addr 0 rfl qf
  refine oI rfl rfl (oL rfl (H.XX 0 rfl cell qf qf) (sp (Bv (((((Qk s t).1)[k]!).qA)[cell.toNat]!)) (zjn (xE (((((Qk s t).1)[k]!).qA)[cell.toNat]!) rfl (fun h47=>?_) (fun h47=>?_)))))
  ·skip
   obtain ⟨xs48,B49,P50,N,H⟩:=H.pool (α:=yLI) 1 rfl ((N.pick [1,0,2,3,4]):Fresh w.heap.size [Fe31Bags,Fe31Alive,Fe31Around,P32,jI])
   have z7:=(z5 cell.toNat qf).1.2
   refine xO (sp (Sv zX xX zK) (oF rfl (oL rfl (H.cell 0 rfl rfl) (sp (yI cell) ?_))))
   obtain ⟨b51,o52,rfl⟩:=H.addr 3 rfl qf
   obtain ⟨ae54,ce54,Fe54,P55,N,H⟩:=H.drainList 1 rfl 0 rfl N cell cell.toNat qf qf qf
   refine oI rfl rfl (oL rfl (H.xW 1 rfl 0 rfl) (sw (zA H underlying27 ti22 [Sv ae54 ((((((Qk s t).1)[k]!).qE)[cell.toNat]!).length) ce54] fun b56 w57 H=>sw (zG H 2 rfl 0 rfl underlying27 ti22 rfl qj rfl rfl rfl (by simp [Value.oneCell',Value.cells]) qp qf fun a58 c59 w60 H=>?_))))
   replace H:=H.jd 10 rfl 0 rfl
   replace N:Fresh w.heap.size [(jI++Fe54),P55,Fe31Alive,Fe31Around,P32]:=(N.pick [5,0,1,2,3,4]).join
   refine sp (Sv a58 (xX+1) c59) (xM (b_n (b_n (t_n (xO (sw (zB k 1 rfl rfl qf (sp (yI (k+1)) (xM (qY (m' :=((((Qk s t).1).length) - ((k+1):Int)).toNat) qf ⟨_,a58,xX+1,c59,((bgL s.qw.length cell (Qk s t).1 k)++[((((Qk s t).1)[k]!).qE)[cell.toNat]!]),Ql++[Sv ae54 ((((((Qk s t).1)[k]!).qE)[cell.toNat]!).length) ce54],(jI++Fe54),k+1,P32,uE6,?_,?_,?_,rfl,(N.pick [0,4]),H.pick [2,3,4] [0,10,13,14,15,16,17,18,19]⟩))))))))))
   · first | exact bg_some (XT qf) | exact bg_some (XR qf ql) | exact bg_none (res_c qf (fun e=>absurd (e.symm.trans ‹_=false›) qj))
   · omega
   · first | exact oa | exact H.Qn 2 rfl qf
  refine qW (b_n (b_n (t_n (xO (sw (zB k 1 rfl rfl qf (sp (yI (k+1)) (xM (qY (m' :=((((Qk s t).1).length) - ((k+1):Int)).toNat) qf ⟨_,zX,xX,zK,(bgL s.qw.length cell (Qk s t).1 k),Ql,jI,k+1,P32,uE6,?_,?_,?_,rfl,(N.pick [4,3]),H.pick [1,2,3] [5,4,7,8,9,10,11,12,13]⟩)))))))))
  · first | exact bg_some (XT qf) | exact bg_some (XR qf ql) | exact bg_none (res_c qf (fun e=>absurd (e.symm.trans ‹_=false›) qj))
  · omega
  · first | exact oa | exact H.Qn 1 rfl qf
 refine zx4 (zcr (sp (Sv zX xX zK) ?_))
 obtain ⟨b61,rfl⟩:=oa
 refine sw (o_callF #[Sv (aa b61 0) xX zK,.func (.func 94) #[] #[]] rfl rfl call93 (sortRow0 sortL call94 cmpSort H 0 rfl 0 rfl qf) ?_)
 rintro _ w62 ⟨xs63,F64,l65,rfl,hF66,hp67,hs68,H⟩
 replace N:Fresh w.heap.size [F64,P_k]:=Fresh.perm N hF66
 refine zjc (sp (Sv (aa b61 0) xX zK) ?_)
 have pl:=hp67.length_eq
 have bl:=bg_len (N:=s.qw.length) (cell:=cell) (E:=(Qk s t).1) k
 refine sw (o_callF #[Sv (aa b61 0) xX zK,.func (.func 96) #[] #[]] rfl rfl call95 (compactRow H 0 rfl 0 rfl qf) ?_)
 rintro _ w69 ⟨F70,xs71,rfl,hF72,H⟩
 replace N:Fresh w.heap.size [F70,P_k]:=Fresh.less N (fun x hx=>hF72.subset hx) (fun hn=>hn.sublist hF72)
 refine sps [Sv (aa b61 0) ((compL l65).length) zK,yI 0] (zjr ?_)
 have H0:=H
 obtain ⟨G73,hg75,hn74,H⟩:=H.yX (α:=yLI) 0 rfl 0 rfl qj
 replace N:Fresh w.heap.size [G73,P_k]:=Fresh.ice N H0 0 hg75.1 hg75.2 (H0.jU [3])
 clear H0
 refine ret2 (Sv (aa b61 0) ((compL l65).length) zK) (yI 0) rfl rfl rfl ⟨_,rfl,?_,H.base⟩
 rw [rs_i k0 hc c1 (k:=k) qf hp67 (fun x y hx hy h=>hs68 x y hx hy ((cmpL_ahead ((perm_row e1 hc (k:=k) qf hp67 y hy).trans (perm_row e1 hc (k:=k) qf hp67 x qf).symm)).2 h))]
 exact ⟨(aa b61 0),zK,G73,rfl,(N.pick [0]),H.pick [] [0]⟩

theorem law_ResultsOf (w:World) (aS:qI) (aT:qH) (vM:Int) (Qw:yOA) (Qv:Nat) (Jb:yLN) (XK:yOA) (XG:Nat) (FaSRules:yLN) (XJ:yOA) (XF:Nat) (FaTAlive:yLN) (VS:yOA) (VQ:Nat) (FaTBags:yLN) (QX:yOA) (QW:Nat) (FaTAround:yLN) (haSParents:qO.rep w Jb [Sv Qw aS.qw.length Qv] aS.qw) (haSRules:qO.rep w FaSRules [Sv XK aS.qx.length XG] aS.qx) (haTAlive:qO.rep w FaTAlive [Sv XJ aT.qA.length XF] aT.qA) (haTBags:qO.rep w FaTBags [Sv VS aT.qE.length VQ] aT.qE) (haTAround:qO.rep w FaTAround [Sv QX aT.qy.length QW] aT.qy):Calls Tryz.prog 13 #[.agg #[yI aS.xB,Sv Qw aS.qw.length Qv,Sv XK aS.qx.length XG],.agg #[Sv XJ aT.qA.length XF,Sv VS aT.qE.length VQ,Sv QX aT.qy.length QW],yI vM] w (Ret (fun v w' =>v=Bv true) w):=by
 refine en func13 ntmps13 ?_
 have H:=(((((St.start w).arg haTAround).arg haTBags).arg haTAlive).arg haSRules).arg haSParents
 have nhaSParents:=qM haSParents
 have nhaSRules:=qM haSRules
 have nhaTAlive:=qM haTAlive
 have nhaTBags:=qM haTBags
 have nhaTAround:=qM haTAround
 clear haSParents haSRules haTAlive haTBags haTAround
 have N:=Fresh.nil w.heap.size
 have A:=H.ltN (L:=[Jb,FaSRules,FaTAlive,FaTBags,FaTAround]) [0,1,2,3,4]
 have t1:=tot_SystemD aS
 have t2:=tot_StateD aT
 have c0:=VY aS.qw
 have c1:=VY aS.qx
 have c2:=VY aT.qA
 have c3:=VY aT.qE
 have c4:=VY aT.qy
 have f1:=few_rs aS aT vM
 refine zcr (sw (vU H (yS aS Qw Qv XK XG) fun b1 w2 H=>sw (vU H (yT aT XJ XF VS VQ QX QW) fun b3 w4 H=>sp (Bv false) (zjc (sp (yI 1048576) (zjc (sw (zl (yS aS Qw Qv XK XG) isAgg25 sizeOf25 rfl (qF (H.cells 1 rfl) 0 3) (sp (yI 1048576) ?_)))))))))
 refine sw (oq (szSystem_ok _ aS 1048576 (H.get 0 rfl).1 (H.get 1 rfl).1 qf) H fun w5 H=>?_)
 have:=zV (tot aS) 1048576
 refine sp (yI (szR (tot aS) 1048576)) (zjcc (sps [yI (szR (tot aS) 1048576),Bv (decide ((szR (tot aS) 1048576:Int) < 0))] (zjn (cD rfl (fun h7=>?_) (fun h7=>?_)))))
 ·skip
  refine zcr (sp (Bv true) (zjr (t_r (ret1 (Bv true) rfl rfl ⟨_,rfl,?_,H.base⟩))))
  rfl
 refine qW (t_n (zcr (sw (zl (yT aT XJ XF VS VQ QX QW) isAgg29 sizeOf29 rfl (qF (H.cells 0 rfl) 0 3) (sp (yI (szR (tot aS) 1048576)) (sw (oq (szState_ok _ aT (szR (tot aS) 1048576) (H.get 2 rfl).1 (H.get 3 rfl).1 (H.get 4 rfl).1 qf) H fun w8 H=>?_)))))))
 have:=zV (tot aT) (szR (tot aS) 1048576)
 refine sp (yI (szR (tot aT) (szR (tot aS) 1048576))) (zjcc (sps [yI (szR (tot aT) (szR (tot aS) 1048576)),Bv (decide ((szR (tot aT) (szR (tot aS) 1048576):Int) < 0))] (zjn (cD rfl (fun h10=>?_) (fun h10=>?_)))))
 ·skip
  refine zcr (sp (Bv true) (zjr (t_r (ret1 (Bv true) rfl rfl ⟨_,rfl,?_,H.base⟩))))
  rfl
 refine qW (t_n (xQ ?_))
 refine jh rfl H fun H=>rt 0 (.agg #[yI aS.xB,Sv Qw aS.qw.length Qv,Sv XK aS.qx.length XG]) (QL (cs:=(yS aS Qw Qv XK XG)) isAgg25 sizeOf25 rfl (fun _ h=>qF (h.cells 1 rfl) 0 3)) H ?_
 refine rt 2 (.agg #[Sv XJ aT.qA.length XF,Sv VS aT.qE.length VQ,Sv QX aT.qy.length QW]) (QL (cs:=(yT aT XJ XF VS VQ QX QW)) isAgg29 sizeOf29 rfl (fun _ h=>qF (h.cells 0 rfl) 0 3)) H ?_
 refine rtp 4 (yI vM) H ?_
 refine ro 1 rfl ?_
 have sz12:=H.base.size
 refine oc (toSystem_ok _ aS (H.get 0 rfl).1 (H.get 1 rfl).1 qg) ?_
 rintro v17 w15 r17 x16
 obtain ⟨a17Parents,c17Parents,yO,a17Rules,c17Rules,Xj,rfl,f17,H⟩:=H.add_SystemD x16 r17
 replace N:=N.cons f17 sz12 (by intro F hF;simp at hF)
 replace N:=N.split
 refine ⟨H.pick [0,1] [2,3,4,5,6],(ro 3 rfl ?_)⟩
 have sz18:=H.base.size
 have lt19:=H.ltN (L:=[yO,Xj]) [0,1]
 refine oc (toState_ok _ aT (H.get 4 rfl).1 (H.get 5 rfl).1 (H.get 6 rfl).1 qg) ?_
 rintro v23 w21 r23 x22
 obtain ⟨a23Alive,c23Alive,Xy,a23Bags,c23Bags,VB,a23Around,c23Around,QK,rfl,f23,H⟩:=H.add_StateD x22 r23
 replace N:=N.cons f23 sz18 lt19
 replace N:=N.split
 replace N:=N.split
 refine ⟨H.pick [0,1] [5,6,7,8,9],(ro 5 rfl ?_)⟩
 have sz27:=H.base.size
 have lt28:=H.ltN (L:=[Xy,VB,QK,yO,Xj]) [0,1,2,3,4]
 refine oc (specRS_ok _ aS aT vM (H.get 3 rfl).1 (H.get 4 rfl).1 (H.get 0 rfl).1 (H.get 1 rfl).1 (H.get 2 rfl).1) ?_
 rintro _ w25 ⟨ra24a,rc24a,rF24a,rfl,M,K⟩ _
 replace N:=N.merge sz27 lt28 M
 replace H:=H.merge K M
 refine ⟨H.pick [0,1] [6,7,8,9,10],?_⟩
 have S:=H.yU [0,1] [6,7,8,9,10]
 refine rtp 6 (.tuple #[Sv ra24a (((vw aS aT vM).1).length) rc24a,yI ((vw aS aT vM).2)]) S ?_
 refine rtp 7 (Sv ra24a (((vw aS aT vM).1).length) rc24a) S ?_
 refine rtp 8 (yI ((vw aS aT vM).2)) S ?_
 refine rtp 9 (Sv ra24a (((vw aS aT vM).1).length) rc24a) S ?_
 refine rtp 10 (yI ((vw aS aT vM).2)) S ?_
 refine xP qh (t_n (zcr (sw (zl (yS aS Qw Qv XK XG) isAgg25 sizeOf25 rfl (qF (H.cells 1 rfl) 0 3) ?_))))
 have sz29:=H.base.size
 have lt30:=H.ltN (L:=[rF24a,Xy,VB,QK,yO,Xj]) [0,1,2,3,4,5]
 refine sw (oc (toSystem_ok _ aS (H.get 6 rfl).1 (H.get 7 rfl).1 qg) ?_)
 rintro v34 w32 r34 x33
 obtain ⟨Q4,Q3,yM,VM,VG,Xi,rfl,f34,H⟩:=H.add_SystemD x33 r34
 replace N:=N.cons f34 sz29 lt30
 replace N:=N.split
 refine sw (zh H ti36 [yI 0,yN,yN] fun b35 w36 H=>sw (zF H 0 (yS aS Q4 Q3 VM VG) sizeOf36 fun w37 H=>zjc (sw (zl (yT aT XJ XF VS VQ QX QW) isAgg29 sizeOf29 rfl (qF (H.cells 1 rfl) 0 3) ?_))))
 have sz38:=H.base.size
 have lt39:=H.ltN (L:=[yM,Xi,rF24a,Xy,VB,QK,yO,Xj]) [0,1,2,3,4,5,6,7]
 refine sw (oc (toState_ok _ aT (H.get 10 rfl).1 (H.get 11 rfl).1 (H.get 12 rfl).1 qg) ?_)
 rintro v43 w41 r43 x42
 obtain ⟨VL,VF,Xx,a43Bags,c43Bags,VA,XL,XI,QJ,rfl,f43,H⟩:=H.add_StateD x42 r43
 replace N:=N.cons f43 sz38 lt39
 replace N:=N.split
 replace N:=N.split
 refine sw (zh H ti38 [yN,yN,yN] fun b44 w45 H=>sw (zF H 0 (yT aT VL VF a43Bags c43Bags XL XI) sizeOf38 fun w46 H=>zjc (sw (zl (yS aS Q4 Q3 VM VG) isAgg36 sizeOf36 rfl (qF (H.cells 1 rfl) 0 3) ?_))))
 refine sw (zl (yT aT VL VF a43Bags c43Bags XL XI) isAgg38 sizeOf38 rfl (qF (H.cells 0 rfl) 0 3) (sp (yI vM) ?_))
 have sz50:=H.base.size
 have lt51:=H.ltN (L:=[Xx,VA,QJ,yM,Xi,rF24a,Xy,VB,QK,yO,Xj]) [0,1,2,3,4,5,6,7,8,9,10]
 refine sw (oc (implRS_ok _ aS aT vM (H.get 3 rfl).1 (H.get 4 rfl).1 (H.get 0 rfl).1 (H.get 1 rfl).1 (H.get 2 rfl).1) ?_)
 rintro _ w48 ⟨ra47a,rc47a,rF47a,rfl,M,K⟩ _
 replace N:=N.merge sz50 lt51 M
 replace H:=H.merge K M
 refine sps [.tuple #[Sv ra47a (((vw aS aT vM).1).length) rc47a,yI ((vw aS aT vM).2)],Sv ra47a (((vw aS aT vM).1).length) rc47a,yI ((vw aS aT vM).2),Sv ra47a (((vw aS aT vM).1).length) rc47a,yI ((vw aS aT vM).2)] (zjcc (sps [Sv ra47a (((vw aS aT vM).1).length) rc47a,Sv ra24a (((vw aS aT vM).1).length) rc24a] (sw (oq (eqInt64SS_ok _ ((vw aS aT vM).1) ((vw aS aT vM).1) (H.get 0 rfl).1 (H.get 6 rfl).1) H fun w52 H=>?_))))
 refine sps [Bv (!(decide (((vw aS aT vM).1)=((vw aS aT vM).1)))),Bv (!(decide (((vw aS aT vM).1)=((vw aS aT vM).1))))] ?_
 cases h54:(!(decide (((vw aS aT vM).1)=((vw aS aT vM).1))))
 ·skip
  replace h54:=xg h54
  refine qQ 53 rfl rfl (sp (yI ((vw aS aT vM).2)) (qQ 53 rfl rfl (sp (yI ((vw aS aT vM).2)) (qQ 53 rfl rfl (sps [Bv (((vw aS aT vM).2:Int) != ((vw aS aT vM).2)),Bv (((vw aS aT vM).2:Int) != ((vw aS aT vM).2))] (zjn (xE (((vw aS aT vM).2:Int) != ((vw aS aT vM).2)) rfl (fun h=>absurd rfl (bne_iff_ne.1 h)) (fun h55=>?_))))))))
  replace h55:=xw h55
  refine qW (t_n (xQ (xQ ?_)))
  refine jh rfl H fun H=>rt 0 (.agg #[yI aS.xB,Sv Q4 aS.qw.length Q3,Sv VM aS.qx.length VG]) (QL (cs:=(yS aS Q4 Q3 VM VG)) isAgg36 sizeOf36 rfl (fun _ h=>qF (h.cells 1 rfl) 0 3)) H ?_
  refine rt 1 (.agg #[yI aS.xB,Sv Qw aS.qw.length Qv,Sv XK aS.qx.length XG]) (QL (cs:=(yS aS Qw Qv XK XG)) isAgg25 sizeOf25 rfl (fun _ h=>qF (h.cells 3 rfl) 0 3)) H ?_
  refine ro 2 rfl ?_
  have sz57:=H.base.size
  have lt58:=H.ltN (L:=[rF47a,Xx,VA,QJ,yM,Xi,rF24a,Xy,VB,QK,yO,Xj]) [0,1,2,3,4,5,6,7,8,9,10,11]
  refine oc (toSystem_ok _ aS (H.get 12 rfl).1 (H.get 13 rfl).1 qg) ?_
  rintro v62 w60 r62 x61
  obtain ⟨a62Parents,c62Parents,Xn,a62Rules,c62Rules,Yc,rfl,f62,H⟩:=H.add_SystemD x61 r62
  replace N:=N.cons f62 sz57 lt58
  replace N:=N.split
  refine ⟨H.pick [0,1,2,3] [2,3,4,5,6,7,8,9,10,11,12,13,14,15,16,17,18],(ro 3 rfl (oq (eqSystem_ok _ aS aS (H.get 6 rfl).1 (H.get 7 rfl).1 (H.get 0 rfl).1 (H.get 1 rfl).1) H fun w63 H=>⟨H.pick [0,1,2,3] [2,3,4,5,6,7,8,9,10,11,12,13,14,15,16,17,18],(rtp 4 (Bv (!(decide (aS=aS)))) (H.pick [0,1,2,3] [2,3,4,5,6,7,8,9,10,11,12,13,14,15,16,17,18]) ?_)⟩))⟩
  refine xP qh (t_n (xE (!(decide (aS=aS))) rfl (fun h=>absurd (xq h) qm) (fun h65=>?_)))
  replace h65:=xg h65
  refine qW (t_n (xQ (xQ ?_)))
  refine jh rfl H fun H=>rt 0 (.agg #[Sv VL aT.qA.length VF,Sv a43Bags aT.qE.length c43Bags,Sv XL aT.qy.length XI]) (QL (cs:=(yT aT VL VF a43Bags c43Bags XL XI)) isAgg38 sizeOf38 rfl (fun _ h=>qF (h.cells 0 rfl) 0 3)) H ?_
  refine rt 1 (.agg #[Sv XJ aT.qA.length XF,Sv VS aT.qE.length VQ,Sv QX aT.qy.length QW]) (QL (cs:=(yT aT XJ XF VS VQ QX QW)) isAgg29 sizeOf29 rfl (fun _ h=>qF (h.cells 2 rfl) 0 3)) H ?_
  refine ro 2 rfl ?_
  have sz67:=H.base.size
  have lt68:=H.ltN (L:=[Xn,Yc,rF47a,Xx,VA,QJ,yM,Xi,rF24a,Xy,VB,QK,yO,Xj]) [0,1,2,3,4,5,6,7,8,9,10,11,12,13]
  refine oc (toState_ok _ aT (H.get 16 rfl).1 (H.get 17 rfl).1 (H.get 18 rfl).1 qg) ?_
  rintro v72 w70 r72 x71
  obtain ⟨a72Alive,c72Alive,YT,a72Bags,c72Bags,F72Bags,a72Around,c72Around,Vw,rfl,f72,H⟩:=H.add_StateD x71 r72
  replace N:=N.cons f72 sz67 lt68
  replace N:=N.split
  replace N:=N.split
  refine ⟨H.pick [0,1,2,3] [3,4,5,6,7,8,9,10,11,12,13,14,15,16,17,18,19,20,21],(ro 3 rfl (oq (eqState_ok _ aT aT (H.get 6 rfl).1 (H.get 7 rfl).1 (H.get 8 rfl).1 (H.get 0 rfl).1 (H.get 1 rfl).1 (H.get 2 rfl).1) H fun w73 H=>⟨H.pick [0,1,2,3] [3,4,5,6,7,8,9,10,11,12,13,14,15,16,17,18,19,20,21],(rtp 4 (Bv (!(decide (aT=aT)))) (H.pick [0,1,2,3] [3,4,5,6,7,8,9,10,11,12,13,14,15,16,17,18,19,20,21]) ?_)⟩))⟩
  refine xP qh (t_n (xE (!(decide (aT=aT))) rfl (fun h=>absurd (xq h) qm) (fun h75=>?_)))
  replace h75:=xg h75
  refine qW (t_n (zcr (sp (yI 1) (zjc (sw (zl (yS aS Q4 Q3 VM VG) isAgg36 sizeOf36 rfl (qF (H.cells 1 rfl) 0 3) (sp (yI 1) ?_)))))))
  have N76:Fresh w.heap.size [yM,Xi,YT,F72Bags,Vw,Xn,Yc,rF47a,Xx,VA,QJ,rF24a,Xy,VB,QK,yO,Xj]:=(N.pick [9,10,0,1,2,3,4,5,6,7,8,11,12,13,14,15,16])
  refine sw (Yh #[.agg #[yI aS.xB,Sv Q4 aS.qw.length Q3,Sv VM aS.qx.length VG],yI 1] rfl rfl call23 (markSystem_ok w73 aS 1 Q4 Q3 yM VM VG Xi (H.get 9 rfl).1 (H.get 10 rfl).1 (N76.pick [0,1]:Fresh _ [yM,Xi]).join.one.2 (((H.get 9 rfl).2 rfl).app ((H.get 10 rfl).2 rfl)) qf qf) ?_)
  rintro _ w77 ⟨rfl,m79⟩ x78
  replace H:St _ _ [.box b44 (yT aT VL VF a43Bags c43Bags XL XI) 38,.box b35 (yS aS Q4 Q3 VM VG) 36,.box b3 (yT aT XJ XF VS VQ QX QW) 29,.box b1 (yS aS Qw Qv XK XG) 25] [isF true yM (Sv Q4 aS.qw.length Q3) (mrk aS.qw (1)),isF true Xi (Sv VM aS.qx.length VG) (mrk aS.qx (1+(cnt aS.qw:Nat))),sF true YT a72Alive c72Alive aT.qA,sF true F72Bags a72Bags c72Bags aT.qE,sF true Vw a72Around c72Around aT.qy,sF true Xn a62Parents c62Parents aS.qw,sF true Yc a62Rules c62Rules aS.qx,sF true rF47a ra47a rc47a ((vw aS aT vM).1),sF true Xx VL VF aT.qA,sF true VA a43Bags c43Bags aT.qE,sF true QJ XL XI aT.qy,sF true rF24a ra24a rc24a ((vw aS aT vM).1),sF true Xy a23Alive c23Alive aT.qA,sF true VB a23Bags c23Bags aT.qE,sF true QK a23Around c23Around aT.qy,sF true yO a17Parents c17Parents aS.qw,sF true Xj a17Rules c17Rules aS.qx,sF false Jb Qw Qv aS.qw,sF false FaSRules XK XG aS.qx,sF false FaTAlive XJ XF aT.qA,sF false FaTBags VS VQ aT.qE,sF false FaTAround QX QW aT.qy]:=H.chgFacts (Fs:=[yM,Xi]) (L:=[YT,F72Bags,Vw,Xn,Yc,rF47a,Xx,VA,QJ,rF24a,Xy,VB,QK,yO,Xj]) (A:=[Jb,FaSRules,FaTAlive,FaTBags,FaTAround]) N76 A (x78.mono (by intro z hz;simpa using hz)) [9,10] [isF true yM (Sv Q4 aS.qw.length Q3) (mrk aS.qw (1)),isF true Xi (Sv VM aS.qx.length VG) (mrk aS.qx (1+(cnt aS.qw:Nat)))] (all_of ⟨m79.1,⟨m79.2,trivial⟩⟩) [0,1,2,3,4,5,6,7,8,11,12,13,14,15,16,17,18,19,20,21] [0,1,2,3,4,5,6,7,8,9,10,11,12,13,14,15,16,17,18,19]
  replace N:=N76
  refine sp (yI (1+(cnt aS.qw:Nat)+(cnt aS.qx:Nat))) (zjc (sw (zl (yT aT VL VF a43Bags c43Bags XL XI) isAgg38 sizeOf38 rfl (qF (H.cells 0 rfl) 0 3) (sp (yI (1+(cnt aS.qw:Nat)+(cnt aS.qx:Nat))) ?_))))
  have N80:Fresh w.heap.size [Xx,VA,QJ,yM,Xi,YT,F72Bags,Vw,Xn,Yc,rF47a,rF24a,Xy,VB,QK,yO,Xj]:=(N.pick [8,9,10,0,1,2,3,4,5,6,7,11,12,13,14,15,16])
  refine sw (Yh #[.agg #[Sv VL aT.qA.length VF,Sv a43Bags aT.qE.length c43Bags,Sv XL aT.qy.length XI],yI (1+(cnt aS.qw:Nat)+(cnt aS.qx:Nat))] rfl rfl call24 (markState_ok w77 aT (1+(cnt aS.qw:Nat)+(cnt aS.qx:Nat)) VL VF Xx a43Bags c43Bags VA XL XI QJ (H.get 8 rfl).1 (H.get 9 rfl).1 (H.get 10 rfl).1 (N80.pick [0,1,2]:Fresh _ [Xx,VA,QJ]).join.join.one.2 ((((H.get 8 rfl).2 rfl).app ((H.get 9 rfl).2 rfl)).app ((H.get 10 rfl).2 rfl)) qf qf) ?_)
  rintro _ w81 ⟨rfl,m83⟩ x82
  replace H:St _ _ [.box b44 (yT aT VL VF a43Bags c43Bags XL XI) 38,.box b35 (yS aS Q4 Q3 VM VG) 36,.box b3 (yT aT XJ XF VS VQ QX QW) 29,.box b1 (yS aS Qw Qv XK XG) 25] [isF true Xx (Sv VL aT.qA.length VF) (mrk aT.qA (1+(cnt aS.qw:Nat)+(cnt aS.qx:Nat))),isF true VA (Sv a43Bags aT.qE.length c43Bags) (mrk aT.qE (1+(cnt aS.qw:Nat)+(cnt aS.qx:Nat)+(cnt aT.qA:Nat))),isF true QJ (Sv XL aT.qy.length XI) (mrk aT.qy (1+(cnt aS.qw:Nat)+(cnt aS.qx:Nat)+(cnt aT.qA:Nat)+(cnt aT.qE:Nat))),isF true yM (Sv Q4 aS.qw.length Q3) (mrk aS.qw (1)),isF true Xi (Sv VM aS.qx.length VG) (mrk aS.qx (1+(cnt aS.qw:Nat))),sF true YT a72Alive c72Alive aT.qA,sF true F72Bags a72Bags c72Bags aT.qE,sF true Vw a72Around c72Around aT.qy,sF true Xn a62Parents c62Parents aS.qw,sF true Yc a62Rules c62Rules aS.qx,sF true rF47a ra47a rc47a ((vw aS aT vM).1),sF true rF24a ra24a rc24a ((vw aS aT vM).1),sF true Xy a23Alive c23Alive aT.qA,sF true VB a23Bags c23Bags aT.qE,sF true QK a23Around c23Around aT.qy,sF true yO a17Parents c17Parents aS.qw,sF true Xj a17Rules c17Rules aS.qx,sF false Jb Qw Qv aS.qw,sF false FaSRules XK XG aS.qx,sF false FaTAlive XJ XF aT.qA,sF false FaTBags VS VQ aT.qE,sF false FaTAround QX QW aT.qy]:=H.chgFacts (Fs:=[Xx,VA,QJ]) (L:=[yM,Xi,YT,F72Bags,Vw,Xn,Yc,rF47a,rF24a,Xy,VB,QK,yO,Xj]) (A:=[Jb,FaSRules,FaTAlive,FaTBags,FaTAround]) N80 A (x82.mono (by intro z hz;simpa using hz)) [8,9,10] [isF true Xx (Sv VL aT.qA.length VF) (mrk aT.qA (1+(cnt aS.qw:Nat)+(cnt aS.qx:Nat))),isF true VA (Sv a43Bags aT.qE.length c43Bags) (mrk aT.qE (1+(cnt aS.qw:Nat)+(cnt aS.qx:Nat)+(cnt aT.qA:Nat))),isF true QJ (Sv XL aT.qy.length XI) (mrk aT.qy (1+(cnt aS.qw:Nat)+(cnt aS.qx:Nat)+(cnt aT.qA:Nat)+(cnt aT.qE:Nat)))] (all_of ⟨m83.1,⟨m83.2.1,⟨m83.2.2,trivial⟩⟩⟩) [0,1,2,3,4,5,6,7,11,12,13,14,15,16,17,18,19,20,21] [0,1,2,3,4,5,6,7,8,9,10,11,12,13,14,15,16,17,18]
  replace N:=N80
  refine sp (yI (1+(cnt aS.qw:Nat)+(cnt aS.qx:Nat)+(cnt aT.qA:Nat)+(cnt aT.qE:Nat)+(cnt aT.qy:Nat))) (zjcc (sps [yI (1+(cnt aS.qw:Nat)+(cnt aS.qx:Nat)+(cnt aT.qA:Nat)+(cnt aT.qE:Nat)+(cnt aT.qy:Nat)),Bv (decide ((1+(cnt aS.qw:Nat)+(cnt aS.qx:Nat)+(cnt aT.qA:Nat)+(cnt aT.qE:Nat)+(cnt aT.qy:Nat):Int) < 0)),Bv (decide ((1+(cnt aS.qw:Nat)+(cnt aS.qx:Nat)+(cnt aT.qA:Nat)+(cnt aT.qE:Nat)+(cnt aT.qy:Nat):Int) < 0))] ?_))
  cases h84:(decide ((1+(cnt aS.qw:Nat)+(cnt aS.qx:Nat)+(cnt aT.qA:Nat)+(cnt aT.qE:Nat)+(cnt aT.qy:Nat):Int) < 0))
  ·skip
   replace h84:=of_decide_eq_false h84
   refine qQ 76 rfl rfl (sp (Sv ra47a (((vw aS aT vM).1).length) rc47a) (qQ 76 rfl rfl (sp (Sv ra24a (((vw aS aT vM).1).length) rc24a) (qQ 76 rfl rfl (sw (oq (eqInt64SS_ok _ ((vw aS aT vM).1) ((vw aS aT vM).1) (H.get 10 rfl).1 (H.get 11 rfl).1) H fun w85 H=>qQ 76 rfl rfl (sps [Bv (!(decide (((vw aS aT vM).1)=((vw aS aT vM).1)))),Bv (!(decide (((vw aS aT vM).1)=((vw aS aT vM).1)))),Bv (!(decide (((vw aS aT vM).1)=((vw aS aT vM).1))))] ?_)))))))
   cases h87:(!(decide (((vw aS aT vM).1)=((vw aS aT vM).1))))
   ·skip
    replace h87:=xg h87
    refine qQ 82 rfl rfl (sp (yI ((vw aS aT vM).2)) (qQ 82 rfl rfl (sp (yI ((vw aS aT vM).2)) (qQ 82 rfl rfl (sps [Bv (((vw aS aT vM).2:Int) != ((vw aS aT vM).2)),Bv (((vw aS aT vM).2:Int) != ((vw aS aT vM).2))] (zjn (xE (((vw aS aT vM).2:Int) != ((vw aS aT vM).2)) rfl (fun h=>absurd rfl (bne_iff_ne.1 h)) (fun h88=>?_))))))))
    replace h88:=xw h88
    refine qW (t_n (zcr (sp (yI 1) (zjc (sps [Sv ra47a (((vw aS aT vM).1).length) rc47a,yI 1] ?_)))))
    have N89:Fresh w.heap.size [rF47a,Xx,VA,QJ,yM,Xi,YT,F72Bags,Vw,Xn,Yc,rF24a,Xy,VB,QK,yO,Xj]:=(N.pick [10,0,1,2,3,4,5,6,7,8,9,11,12,13,14,15,16])
    refine sw (Yh #[Sv ra47a (((vw aS aT vM).1).length) rc47a,yI 1] rfl rfl call25 (markInt64SS_ok w85 ((vw aS aT vM).1) 1 ra47a rc47a rF47a (H.get 10 rfl).1 (N89.pick [0]:Fresh _ [rF47a]).one.2 ((H.get 10 rfl).2 rfl) qf qf) ?_)
    rintro _ w90 ⟨rfl,m92⟩ x91
    replace H:St _ _ [.box b44 (yT aT VL VF a43Bags c43Bags XL XI) 38,.box b35 (yS aS Q4 Q3 VM VG) 36,.box b3 (yT aT XJ XF VS VQ QX QW) 29,.box b1 (yS aS Qw Qv XK XG) 25] [isF true rF47a (Sv ra47a (((vw aS aT vM).1).length) rc47a) (mrk ((vw aS aT vM).1) (1)),isF true Xx (Sv VL aT.qA.length VF) (mrk aT.qA (1+(cnt aS.qw:Nat)+(cnt aS.qx:Nat))),isF true VA (Sv a43Bags aT.qE.length c43Bags) (mrk aT.qE (1+(cnt aS.qw:Nat)+(cnt aS.qx:Nat)+(cnt aT.qA:Nat))),isF true QJ (Sv XL aT.qy.length XI) (mrk aT.qy (1+(cnt aS.qw:Nat)+(cnt aS.qx:Nat)+(cnt aT.qA:Nat)+(cnt aT.qE:Nat))),isF true yM (Sv Q4 aS.qw.length Q3) (mrk aS.qw (1)),isF true Xi (Sv VM aS.qx.length VG) (mrk aS.qx (1+(cnt aS.qw:Nat))),sF true YT a72Alive c72Alive aT.qA,sF true F72Bags a72Bags c72Bags aT.qE,sF true Vw a72Around c72Around aT.qy,sF true Xn a62Parents c62Parents aS.qw,sF true Yc a62Rules c62Rules aS.qx,sF true rF24a ra24a rc24a ((vw aS aT vM).1),sF true Xy a23Alive c23Alive aT.qA,sF true VB a23Bags c23Bags aT.qE,sF true QK a23Around c23Around aT.qy,sF true yO a17Parents c17Parents aS.qw,sF true Xj a17Rules c17Rules aS.qx,sF false Jb Qw Qv aS.qw,sF false FaSRules XK XG aS.qx,sF false FaTAlive XJ XF aT.qA,sF false FaTBags VS VQ aT.qE,sF false FaTAround QX QW aT.qy]:=H.chgFacts (Fs:=[rF47a]) (L:=[Xx,VA,QJ,yM,Xi,YT,F72Bags,Vw,Xn,Yc,rF24a,Xy,VB,QK,yO,Xj]) (A:=[Jb,FaSRules,FaTAlive,FaTBags,FaTAround]) N89 A (x91.mono (by intro z hz;simpa using hz)) [10] [isF true rF47a (Sv ra47a (((vw aS aT vM).1).length) rc47a) (mrk ((vw aS aT vM).1) (1))] (all_of ⟨m92,trivial⟩) [0,1,2,3,4,5,6,7,8,9,11,12,13,14,15,16,17,18,19,20,21] [0,1,2,3,4,5,6,7,8,9,10,11,12,13,14,15,16,17,18,19,20]
    replace N:=N89
    refine sp (yI (1+(cnt ((vw aS aT vM).1):Nat))) (zjc (sp (yI 1) (zjc (sps [Sv ra47a (((vw aS aT vM).1).length) rc47a,yI 1] ?_))))
    have hn93:=H.isLen 0 rfl
    refine sw (oq (args_eq (by rw [← hn93]) (heldInt64SS_ok _ (mrk ((vw aS aT vM).1) (1)) 1 (hn93▸(H.get 0 rfl).1) (by first | exact mkd_mark _ _ | omega | (simp only [cnt_mark];first | exact mkd_mark _ _ | omega)) (by first | exact mkd_mark _ _ | omega | (simp only [cnt_mark];first | exact mkd_mark _ _ | omega)) (by first | exact mkd_mark _ _ | omega | (simp only [cnt_mark];first | exact mkd_mark _ _ | omega)))) H fun w94 H=>sp (yI (1+(cnt (mrk ((vw aS aT vM).1) (1)):Nat))) (zjcc ?_))
    refine sps [yI (1+(cnt (mrk ((vw aS aT vM).1) (1)):Nat)),Bv (decide ((1+(cnt (mrk ((vw aS aT vM).1) (1)):Nat):Int) < 0))] (zjn (cD rfl (fun h96=>?_) (fun h96=>?_)))
    ·skip
     refine zcr (sp (Bv false) (zjr (t_r (ret1 (Bv false) rfl rfl ⟨_,rfl,?_,H.base⟩))))
     exfalso;first | omega | contradiction
    refine qW (t_n (zcc (sps [yI (1+(cnt (mrk ((vw aS aT vM).1) (1)):Nat)),yI (1+(cnt ((vw aS aT vM).1):Nat)),Bv ((1+(cnt (mrk ((vw aS aT vM).1) (1)):Nat):Int) != (1+(cnt ((vw aS aT vM).1):Nat)))] (zjn (xE ((1+(cnt (mrk ((vw aS aT vM).1) (1)):Nat):Int) != (1+(cnt ((vw aS aT vM).1):Nat))) rfl (fun h97=>?_) (fun h97=>?_))))))
    ·skip
     replace h97:=bne_iff_ne.1 h97
     refine zcr (sp (Bv false) (zjr (t_r (ret1 (Bv false) rfl rfl ⟨_,rfl,?_,H.base⟩))))
     exfalso;first | omega | contradiction | exact h97 (by simp only [cnt_mark])
    replace h97:=xw h97
    refine qW (t_n (xQ ?_))
    refine jh rfl H fun H=>rt 0 (.agg #[yI aS.xB,Sv Qw aS.qw.length Qv,Sv XK aS.qx.length XG]) (QL (cs:=(yS aS Qw Qv XK XG)) isAgg25 sizeOf25 rfl (fun _ h=>qF (h.cells 3 rfl) 0 3)) H ?_
    refine rt 2 (.agg #[Sv XJ aT.qA.length XF,Sv VS aT.qE.length VQ,Sv QX aT.qy.length QW]) (QL (cs:=(yT aT XJ XF VS VQ QX QW)) isAgg29 sizeOf29 rfl (fun _ h=>qF (h.cells 2 rfl) 0 3)) H ?_
    refine rtp 4 (yI vM) H ?_
    refine ro 1 rfl ?_
    have sz99:=H.base.size
    have lt100:=H.ltN (L:=[rF47a,Xx,VA,QJ,yM,Xi,YT,F72Bags,Vw,Xn,Yc,rF24a,Xy,VB,QK,yO,Xj]) [0,1,2,3,4,5,6,7,8,9,10,11,12,13,14,15,16]
    refine oc (toSystem_ok _ aS (H.get 17 rfl).1 (H.get 18 rfl).1 qg) ?_
    rintro v104 w102 r104 x103
    obtain ⟨a104Parents,c104Parents,F104Parents,a104Rules,c104Rules,F104Rules,rfl,f104,H⟩:=H.add_SystemD x103 r104
    replace N:=N.cons f104 sz99 lt100
    replace N:=N.split
    refine ⟨H.pick [0,1,2,3] [2,3,4,5,6,7,8,9,10,11,12,13,14,15,16,17,18,19,20,21,22,23],(ro 3 rfl ?_)⟩
    have sz105:=H.base.size
    have lt106:=H.ltN (L:=[F104Parents,F104Rules,rF47a,Xx,VA,QJ,yM,Xi,YT,F72Bags,Vw,Xn,Yc,rF24a,Xy,VB,QK,yO,Xj]) [0,1,2,3,4,5,6,7,8,9,10,11,12,13,14,15,16,17,18]
    refine oc (toState_ok _ aT (H.get 21 rfl).1 (H.get 22 rfl).1 (H.get 23 rfl).1 qg) ?_
    rintro v110 w108 r110 x109
    obtain ⟨a110Alive,c110Alive,F110Alive,a110Bags,c110Bags,F110Bags,a110Around,c110Around,F110Around,rfl,f110,H⟩:=H.add_StateD x109 r110
    replace N:=N.cons f110 sz105 lt106
    replace N:=N.split
    replace N:=N.split
    refine ⟨H.pick [0,1,2,3] [5,6,7,8,9,10,11,12,13,14,15,16,17,18,19,20,21,22,23,24,25,26],(ro 5 rfl ?_)⟩
    have sz114:=H.base.size
    have lt115:=H.ltN (L:=[F110Alive,F110Bags,F110Around,F104Parents,F104Rules,rF47a,Xx,VA,QJ,yM,Xi,YT,F72Bags,Vw,Xn,Yc,rF24a,Xy,VB,QK,yO,Xj]) [0,1,2,3,4,5,6,7,8,9,10,11,12,13,14,15,16,17,18,19,20,21]
    refine oc (implRS_ok _ aS aT vM (H.get 3 rfl).1 (H.get 4 rfl).1 (H.get 0 rfl).1 (H.get 1 rfl).1 (H.get 2 rfl).1) ?_
    rintro _ w112 ⟨ra111a,rc111a,rF111a,rfl,M,K⟩ _
    replace N:=N.merge sz114 lt115 M
    replace H:=H.merge K M
    refine ⟨H.pick [0,1,2,3] [6,7,8,9,10,11,12,13,14,15,16,17,18,19,20,21,22,23,24,25,26,27],?_⟩
    have S:=H.yU [0,1,2,3] [6,7,8,9,10,11,12,13,14,15,16,17,18,19,20,21,22,23,24,25,26,27]
    refine rtp 6 (.tuple #[Sv ra111a (((vw aS aT vM).1).length) rc111a,yI ((vw aS aT vM).2)]) S ?_
    refine rtp 7 (Sv ra111a (((vw aS aT vM).1).length) rc111a) S ?_
    refine rtp 8 (yI ((vw aS aT vM).2)) S ?_
    refine rtp 9 (Sv ra111a (((vw aS aT vM).1).length) rc111a) S ?_
    refine rtp 10 (yI ((vw aS aT vM).2)) S ?_
    refine xP qh (t_n (zcc (sps [Sv ra111a (((vw aS aT vM).1).length) rc111a,Sv ra24a (((vw aS aT vM).1).length) rc24a] (sw (oq (eqInt64SS_ok _ ((vw aS aT vM).1) ((vw aS aT vM).1) (H.get 0 rfl).1 (H.get 17 rfl).1) H fun w116 H=>sps [Bv (!(decide (((vw aS aT vM).1)=((vw aS aT vM).1)))),Bv (!(decide (((vw aS aT vM).1)=((vw aS aT vM).1))))] ?_)))))
    cases h118:(!(decide (((vw aS aT vM).1)=((vw aS aT vM).1))))
    ·skip
     replace h118:=xg h118
     refine qQ 111 rfl rfl (sp (yI ((vw aS aT vM).2)) (qQ 111 rfl rfl (sp (yI ((vw aS aT vM).2)) (qQ 111 rfl rfl (sps [Bv (((vw aS aT vM).2:Int) != ((vw aS aT vM).2)),Bv (((vw aS aT vM).2:Int) != ((vw aS aT vM).2))] (zjn (xE (((vw aS aT vM).2:Int) != ((vw aS aT vM).2)) rfl (fun h=>absurd rfl (bne_iff_ne.1 h)) (fun h119=>?_))))))))
     replace h119:=xw h119
     refine qW (t_n (zcr (sp (yI 1) (zjc (sps [Sv ra47a (((vw aS aT vM).1).length) rc47a,yI 1] ?_)))))
     have hn120:=H.isLen 6 rfl
     refine sw (oq (args_eq (by rw [← hn120]) (heldInt64SS_ok _ (mrk ((vw aS aT vM).1) (1)) 1 (hn120▸(H.get 6 rfl).1) (by first | exact mkd_mark _ _ | omega | (simp only [cnt_mark];first | exact mkd_mark _ _ | omega)) (by first | exact mkd_mark _ _ | omega | (simp only [cnt_mark];first | exact mkd_mark _ _ | omega)) (by first | exact mkd_mark _ _ | omega | (simp only [cnt_mark];first | exact mkd_mark _ _ | omega)))) H fun w121 H=>sp (yI (1+(cnt (mrk ((vw aS aT vM).1) (1)):Nat))) (zjcc ?_))
     refine sps [yI (1+(cnt (mrk ((vw aS aT vM).1) (1)):Nat)),Bv (decide ((1+(cnt (mrk ((vw aS aT vM).1) (1)):Nat):Int) < 0))] (zjn (cD rfl (fun h123=>?_) (fun h123=>?_)))
     ·skip
      refine zcr (sp (Bv false) (zjr (t_r (ret1 (Bv false) rfl rfl ⟨_,rfl,?_,H.base⟩))))
      exfalso;first | omega | contradiction
     refine qW (t_n (zcc (sps [yI (1+(cnt (mrk ((vw aS aT vM).1) (1)):Nat)),yI (1+(cnt ((vw aS aT vM).1):Nat)),Bv ((1+(cnt (mrk ((vw aS aT vM).1) (1)):Nat):Int) != (1+(cnt ((vw aS aT vM).1):Nat)))] (zjn (xE ((1+(cnt (mrk ((vw aS aT vM).1) (1)):Nat):Int) != (1+(cnt ((vw aS aT vM).1):Nat))) rfl (fun h=>absurd h97 (bne_iff_ne.1 h)) (fun h124=>?_))))))
     replace h124:=xw h124
     refine qW (t_n (zcr (sp (Bv true) (zjr (ret1 (Bv true) rfl rfl ⟨_,rfl,?_,H.base⟩)))))
     rfl
    · exact absurd (xq h118) qm
   · exact absurd (xq h87) qm
  replace h84:=of_decide_eq_true h84
  refine zk [77,78,79,80] (sps [Bv true,Bv true] (zk [83,84,85] (sp (Bv true) (zjn (xE true rfl (fun _=>zcr (sp (Bv false) (zjr (t_r (ret1 (Bv false) rfl rfl ⟨_,rfl,?_,H.base⟩))))) (fun h=>absurd h qj))))))
  exfalso;first | omega | contradiction
 · exact absurd (xq h54) qm
end
end Go.Proofs.YtgjnaocffdhnbaaGreat
