/- Walks and laws, printed by program and by hand: what each function comes to, for all arguments, part 6. -/
import Derived.Test.YtgjnaocffdhnbaaGreatA5
namespace Go.Proofs.YtgjnaocffdhnbaaGreat
set_option linter.unusedVariables false
set_option linter.unusedSimpArgs false
open Go.Proofs.YtgjnaocffdhnbaaGreat.Tot (tot)
open Go.Proofs.YtgjnaocffdhnbaaGreat.Mark (cnt mrk mkd mkd_mark cnt_mark)
section
open Go.Proofs.Tryz
open Go.RowKit
set_option linter.unusedVariables false
set_option linter.unusedSimpArgs false
set_option maxRecDepth 100000
set_option maxHeartbeats 4000000
variable {qy qH qO qZ qI : Nat}
theorem specEx_ok (w:World) (s:qL) (t:qM) {qA:yOA} {qW:yLN} {qK:yOA} {xy:yLN} {qR:yOA} {xJ:yLN} {xh:yOA} {zn:yLN} {qJ:yOA} {xw:yLN} (xf:qP.rep w qW [.slice qA s.qw.length qy] s.qw) (xG:qP.rep w xy [.slice qK s.qx.length qH] s.qx) (zh:qP.rep w xJ [.slice qR t.qB.length qO] t.qB) (zJ:qP.rep w zn [.slice xh t.qE.length qZ] t.qE) (xK:qP.rep w xw [.slice qJ t.qC.length qI] t.qC):Calls Tryz.prog 40 #[.agg #[yI s.xB,.slice qA s.qw.length qy,.slice qK s.qx.length qH],.agg #[.slice qR t.qB.length qO,.slice xh t.qE.length qZ,.slice qJ t.qC.length qI]] w (Ret (fun v w' =>∃ (ra0States:yOA) (rc0States:Nat) (rF0States:yLN) (ra0Next:yOA) (rc0Next:Nat) (rF0Next:yLN),v=.tuple #[.agg #[.slice ra0States (((exG s t).zt).length) rc0States,.slice ra0Next (((exG s t).fNext).length) rc0Next],yI ((Xa s t).2)]∧Fresh w.heap.size [rF0States,rF0Next]∧St w w' [] [sF true rF0States ra0States rc0States ((exG s t).zt),sF true rF0Next ra0Next rc0Next ((exG s t).fNext)]) w):=by
 refine en func40 ntmps40 ?_
 have H:=(((((St.start w).arg xK).arg zJ).arg zh).arg xG).arg xf
 have ve:=qN xf
 have jh:=qN xG
 have yM:=qN zh
 have Qr:=qN zJ
 have jF:=qN xK
 clear xf xG zh zJ xK
 have N:=Fresh.nil w.heap.size
 refine zcr (sw (vz H (yS s qA qy qK qH) fun b1 w2 H=>sw (vz H (yT t qR qO xh qZ qJ qI) fun b3 w4 H=>sw (xI H ti59 [yN,yN] fun b5 w6 H=>sp (yI 0) (zjcc (sw (oq (l03Both_ok _ s t (qF (H.cells 2 rfl) 0 3) (H.get 0 rfl).1 (H.get 1 rfl).1 (qF (H.cells 1 rfl) 0 3) (H.get 2 rfl).1 (H.get 3 rfl).1 (H.get 4 rfl).1) H fun w8 H=>sp (.bool (!(dec (jZ s∧zK s t)))) (zjn ?_))))))))
 refine cQ rfl (fun h10=>?_) (fun h10=>?_)
 ·skip
  refine zcr (sw (jk [yN,yN] [] (sw (zy H 0 [yN,yN] sizeOf59 fun w11 H=>sp (yI 1) (zjr (t_r ?_))))))
  replace H:=H.addNil (α:=qM)
  replace H:=H.addNil (α:=yLI)
  refine retC2 H 0 rfl (yI 1) rfl isAgg59 sizeOf59 rfl rfl ⟨_,rfl,?_,H.base⟩
  obtain ⟨z1,z2⟩:=exG_of (ex_1 ‹_›)
  rw [z1,z2]
  exact ⟨none,0,[],none,0,[],rfl,N.emp.emp,H.pick [] [1,0]⟩
 have k0:=(‹jZ s∧zK s t›:jZ s∧zK s t)
 have k1:=k0.1
 have k2:=k0.2
 obtain ⟨q7,q8,q9,q10⟩:=k2.sizes k1.1
 have q13:=fun k hk=>Nat.le_trans (q10 k hk) (by decide:8≤1000000)
 refine qV (t_n (zcr (sw (zZ #[pp b1 0,pp b3 0] rfl rfl call85 (en func85 ntmps85 ?_)))))
 refine zcr (sw (xI H ti59 [yN,yN] fun b12 w13 H=>sps [yN,yI 0] (zjc (sp (pp b3 0) ?_))))
 have sz17:=H.base.size
 refine sw (oc (l02Own_ok _ t (qF (H.cells 2 rfl) 0 3) (H.get 2 rfl).1 (H.get 3 rfl).1 (H.get 4 rfl).1 qg qg qg qg) ?_)
 rintro _ w15 ⟨ra14Alive,rn14Alive,rc14Alive,ra14Bags,rn14Bags,rc14Bags,rx14Bags,rF14Bags,ra14Around,rn14Around,rc14Around,rfl,M,K⟩ _
 replace N:=N.merge sz17 qm M
 replace H:=H.merge K M
 obtain rfl:=H.rowNB 0 rfl
 obtain rfl:=H.zo (α:=yLI) 1 rfl 0 rfl qj
 obtain rfl:=H.Xk 2 rfl
 refine sw (zI H underlying47 ti38 (yT t ra14Alive rc14Alive ra14Bags rc14Bags ra14Around rc14Around) fun b22 w23 H=>sw (jk [.slice (aa b22 0) 1 1,yN] [(0,.slice (aa b22 0) 1 1)] (sw (xI H ti59 [yN,yN] fun b24 w25 H=>sw (zy H 0 [.slice (aa b22 0) 1 1,yN] sizeOf59 fun w26 H=>zjc (sw (zI H underlying22 ti2 [yI (-1)] fun b27 w28 H=>sp (.slice (aa b27 0) 1 1) (zjcc (sp (yI 0) ?_)))))))))
 refine zjn (qY ?_)
 replace H:=H.boxRowI 0 [(-1)] 1
 replace H:=H.boxRow 2 rfl 3 1 rfl qj
 replace H:=H.vN (α:=qM)
 obtain ⟨G29,N,hn30,H⟩:=H.freezeB 3 rfl N (H.yg [1])
 have H0:=H
 obtain ⟨G31,hg33,hn32,H⟩:=H.Qz (α:=yLI) 4 rfl 2 rfl qj
 replace N:Fresh w.heap.size [G31,G29]:=Fresh.ice (N.pick [1,0]) H0 4 hg33.1 hg33.2 (H0.yg [0])
 clear H0
 obtain ⟨G34,N,hn35,H⟩:=H.vP 5 rfl N (H.yg [0,1])
 replace H:=H.Xy 3 rfl 2 rfl 1 rfl 0 rfl
 replace N:Fresh w.heap.size [([]++(G29++G31++G34))]:=(N.emp.pick [3,2,1,0]).join.join.swap.join
 replace H:St _ _ [rr (aa b27 0) 1 1 2 1 ([(-1)].map (Value.int .i64)),.box b24 [.slice (aa b22 0) 1 1,yN] 59,rr (aa b22 0) 1 1 38 3 (yT t ra14Alive rc14Alive ra14Bags rc14Bags ra14Around rc14Around),rr none 0 0 0 1 [],rr none 0 0 0 1 [],rr none 0 0 0 1 [],.box b12 [yN,yN] 59,.box b5 [yN,yN] 59,.box b3 (yT t qR qO xh qZ qJ qI) 38,.box b1 (yS s qA qy qK qH) 36] [zk true ([]++(G29++G31++G34)) (yT t ra14Alive rc14Alive ra14Bags rc14Bags ra14Around rc14Around) [t],sF true G34 ra14Around rc14Around t.qC,sF true G31 ra14Bags rc14Bags t.qE,sF true G29 ra14Alive rc14Alive t.qB,zk true [] [] ([]:List qM),zk true rF14Bags rx14Bags t.qE,sF false qW qA qy s.qw,sF false xy qK qH s.qx,sF false xJ qR qO t.qB,sF false zn xh qZ t.qE,sF false xw qJ qI t.qC]:=H
 replace H:=H.nilRow 22 1
 replace H:=H.vN (α:=yLI)
 refine zB (fun m' ρ w36=>∃ (xN:Env) (a_from:yOA) (n_from:Nat) (c_from:Nat) (from_:yLI) (i:Nat) (jM:yOA) (jo:Nat) (jq:Nat) (g_States:List qM) (XJ:List Value) (Qx:yLN) (jI:yOA) (jv:Nat) (jH:Nat) (g_Next:yLL) (Q4:List Value) (jQ:yLN),ρ=upd (upd (upd (upd (upd xN 0 (pp b1 0)) 4 (pp b12 0)) 7 (pp b24 0)) 8 (.slice a_from n_from c_from)) 9 (yI i)∧(grRes s t=grGo s (302 - i) i g_States g_Next)∧(∀ u∈g_States,zK s u)∧(0 < g_States.length∧g_States.length≤300)∧(g_Next.length=i)∧(i≤g_States.length)∧(GrOk g_States g_Next)∧(from_.length=g_States.length)∧m' =(301 - i)∧Fresh w.heap.size [Qx,jQ]∧St w w36 [rr jI jv jH 22 1 Q4,rr a_from n_from c_from 2 1 (from_.map (Value.int .i64)),.box b24 [.slice jM jo jq,.slice jI jv jH] 59,rr jM jo jq 38 3 XJ,.box b12 [yN,yN] 59,.box b5 [yN,yN] 59,.box b3 (yT t qR qO xh qZ qJ qI) 38,.box b1 (yS s qA qy qK qH) 36] [zk true jQ Q4 g_Next,zk true Qx XJ g_States,sF false qW qA qy s.qw,sF false xy qK qH s.qx,sF false xJ qR qO t.qB,sF false zn xh qZ t.qE,sF false xw qJ qI t.qC]) ((301 - 0)) ⟨_,(aa b27 0),1,1,[(-1)],0,(aa b22 0),1,1,[t],(yT t ra14Alive rc14Alive ra14Bags rc14Bags ra14Around rc14Around),([]++(G29++G31++G34)),none,0,0,([]:yLL),[],[],uE5,(by rfl),(by exact fun u hu=>by obtain rfl:=List.mem_singleton.1 hu;exact k2),qm,(by rfl),qm,(by exact GrOk.start t),(by rfl),rfl,(N.emp.pick [1,0]),H.pick [0,1,2,3,7,8,9,10] [0,1,7,8,9,10,11]⟩ ?_
 clear H N
 rintro m' ρ w37 ⟨xN,a_from,n_from,c_from,from_,i,jM,jo,jq,g_States,XJ,Qx,jI,jv,jH,g_Next,Q4,jQ,rfl,kr,ka,kl,kn,ki,ko,kf,rfl,N,H⟩
 have hn_from:=H.Xk 1 rfl
 have hn_g_States:=H.zo (α:=qM) 3 rfl 1 rfl qj
 have hn_g_Next:=H.zo (α:=yLI) 0 rfl 0 rfl qj
 refine zcc (sp (yI i) (oF rfl (oL rfl (H.cell 2 rfl rfl) (oN rfl (sp (.bool (decide ((i:Int) < jo))) (zjn (cD rfl (fun h38=>?_) (fun h38=>?_))))))))
 ·skip
  refine qV (t_n (xU (qY (zcr (oF rfl (oL rfl (H.cell 2 rfl rfl) (sp (yI i) ?_)))))))
  obtain ⟨b39,rfl⟩:=H.yP 3 rfl qf
  obtain ⟨ae40Alive,ce40Alive,Fe40Alive,ae40Bags,ce40Bags,Fe40Bags,ae40Around,ce40Around,Fe40Around,hx41,H⟩:=H.rowel_StateD 3 rfl 1 rfl (iv:=i) i qf qf
  refine oI rfl rfl (sw (zl [.slice ae40Alive (((g_States[i]!).qB).length) ce40Alive,.slice ae40Bags (((g_States[i]!).qE).length) ce40Bags,.slice ae40Around (((g_States[i]!).qC).length) ce40Around] isAgg38 sizeOf38 rfl (qF (fun j v hj=>H.rowGet 3 rfl (hx41 j v hj)) 0 3) (sw (xI H ti38 [yN,yN,yN] fun b42 w43 H=>sw (zy H 0 [.slice ae40Alive (((g_States[i]!).qB).length) ce40Alive,.slice ae40Bags (((g_States[i]!).qE).length) ce40Bags,.slice ae40Around (((g_States[i]!).qC).length) ce40Around] sizeOf38 fun w44 H=>zjc ?_)))))
  refine sp (pp b1 0) ?_
  have ks:=ka (g_States[i]!) (mem_at (k:=i) qf rfl)
  have nl:=succ_len s (g_States[i]!)
  have sz48:=H.base.size
  have lt49:=H.ltN (L:=[Qx,jQ]) [4,3]
  refine sw (oc (l03Succ_ok _ s (g_States[i]!) (qF (H.cells 8 rfl) 0 3) (H.get 5 rfl).1 (H.get 6 rfl).1 (qF (H.cells 0 rfl) 0 3) (H.get 0 rfl).1 (H.get 1 rfl).1 (H.get 2 rfl).1 qg qg) ?_)
  rintro _ w46 ⟨ra45a,rn45a,rc45a,rx45a,rF45a,rfl,M,K⟩ _
  replace N:=N.merge sz48 lt49 M
  replace H:=H.merge K M
  obtain rfl:=H.zo (α:=qM) 0 rfl 0 rfl qj
  refine sps [.tuple #[.slice ra45a (((qX s (g_States[i]!)).1).length) rc45a,yI ((qX s (g_States[i]!)).2)],.slice ra45a (((qX s (g_States[i]!)).1).length) rc45a,yI ((qX s (g_States[i]!)).2),.slice ra45a (((qX s (g_States[i]!)).1).length) rc45a,yI ((qX s (g_States[i]!)).2)] (zjcc (sps [yI ((qX s (g_States[i]!)).2),.bool (((qX s (g_States[i]!)).2:Int) != 0)] (zjn (xF (((qX s (g_States[i]!)).2:Int) != 0) rfl (fun h51=>?_) (fun h51=>?_)))))
  ·skip
   replace h51:=bne_iff_ne.1 h51
   refine zcr (sw (jk [yN,yN] [] (sps [.slice a_from n_from c_from,yI ((qX s (g_States[i]!)).2)] (sw (zy H 6 [yN,yN] sizeOf59 fun w52 H=>sps [.slice a_from n_from c_from,yI ((qX s (g_States[i]!)).2)] (zjr (t_r (zr5 (retC3 H 6 rfl (.slice a_from n_from c_from) (yI ((qX s (g_States[i]!)).2)) rfl isAgg59 sizeOf59 rfl rfl rfl ⟨_,rfl,?_⟩)))))))))
   replace H:=H.erases [6,5,4,2,1,0]
   dsimp only [vJ,List.eraseIdx] at H
   refine sps [.tuple #[.agg #[yN,yN],.slice a_from n_from c_from,yI ((qX s (g_States[i]!)).2)],.agg #[yN,yN],.slice a_from n_from c_from,yI ((qX s (g_States[i]!)).2)] (sw (xI H ti59 [yN,yN] fun b53 w54 H=>sw (zy H 0 [yN,yN] sizeOf59 fun w55 H=>sps [.slice a_from n_from c_from,yI ((qX s (g_States[i]!)).2)] (zjc (sw (zl [yN,yN] isAgg59 sizeOf59 rfl (qF (H.cells 0 rfl) 0 2) (sp (yI ((qX s (g_States[i]!)).2)) ?_)))))))
   refine sw (zy H 2 [yN,yN] sizeOf59 fun w56 H=>sp (yI ((qX s (g_States[i]!)).2)) (zjr ?_))
   replace H:=H.addNil (α:=qM)
   replace H:=H.addNil (α:=yLI)
   refine retC2 H 2 rfl (yI ((qX s (g_States[i]!)).2)) rfl isAgg59 sizeOf59 rfl rfl ⟨_,rfl,?_,H.base⟩
   obtain ⟨z1,z2⟩:=exG_of (ex_0 k0 (kr.trans (gr_code qf qf ql)))
   rw [z1,z2]
   exact ⟨none,0,[],none,0,[],rfl,(N.emp.emp.pick [0,1]),H.pick [] [1,0]⟩
  replace h51:=xA h51
  refine qV (t_n (zcr (sw (vU H underlying22 ti2 fun b57 w58 H=>sp (.slice (aa b57 0) 0 0) (zjcc (sp (yI 0) (zjn (qY ?_))))))))
  have H0:=H
  obtain ⟨G59,hg61,hn60,H⟩:=H.Qz (α:=qM) 1 rfl 0 rfl qj
  replace N:Fresh w.heap.size [G59,Qx,jQ]:=Fresh.ice N H0 1 hg61.1 hg61.2 (H0.yg [5,4])
  clear H0
  obtain ⟨xs62,B63,P64,N,H⟩:=H.pool (α:=qM) 0 rfl N
  replace H:=H.boxRowI 0 [] 0
  refine zB (fun m' ρ w65=>∃ (xN:Env) (Xx:yOA) (QQ:Nat) (Xt:Nat) (from__1:yLI) (a_row:yOA) (n_row:Nat) (c_row:Nat) (row:yLI) (k:Nat) (jX:yOA) (zQ:Nat) (jU:Nat) (g_States_1:List qM) (jR:List Value) (vI:yLN) (P_k:yLN),ρ=upd (upd (upd (upd (upd (upd (upd (upd xN 0 (pp b1 0)) 4 (pp b12 0)) 7 (pp b24 0)) 8 (.slice Xx QQ Xt)) 9 (yI i)) 11 (.slice ra45a (((qX s (g_States[i]!)).1).length) rc45a)) 13 (.slice a_row n_row c_row)) 14 (yI k)∧row=(zU g_States (qX s (g_States[i]!)).1 k).2∧g_States_1=(zU g_States (qX s (g_States[i]!)).1 k).1∧((k:Int)≤(((qX s (g_States[i]!)).1).length))∧(from__1.length=(zU g_States (qX s (g_States[i]!)).1 k).1.length)∧m' =((((qX s (g_States[i]!)).1).length) - (k:Int)).toNat∧Fresh w.heap.size [jQ,vI,P_k]∧St w w65 [rr a_row n_row c_row 2 1 (row.map (Value.int .i64)),.box b42 [.slice ae40Alive (((g_States[i]!).qB).length) ce40Alive,.slice ae40Bags (((g_States[i]!).qE).length) ce40Bags,.slice ae40Around (((g_States[i]!).qC).length) ce40Around] 38,rr jI jv jH 22 1 Q4,rr Xx QQ Xt 2 1 (from__1.map (Value.int .i64)),.box b24 [.slice jX zQ jU,.slice jI jv jH] 59,rr jX zQ jU 38 3 jR,.box b12 [yN,yN] 59,.box b5 [yN,yN] 59,.box b3 (yT t qR qO xh qZ qJ qI) 38,.box b1 (yS s qA qy qK qH) 36] [zk true P_k (xs62.drop (k * 3)) (((qX s (g_States[i]!)).1).drop k),cellsF B63 (.slice ra45a (((qX s (g_States[i]!)).1).length) rc45a) xs62,sF true G59 ra45a rc45a ((qX s (g_States[i]!)).1),sF true Fe40Alive ae40Alive ce40Alive ((g_States[i]!).qB),sF true Fe40Bags ae40Bags ce40Bags ((g_States[i]!).qE),sF true Fe40Around ae40Around ce40Around ((g_States[i]!).qC),zk true jQ Q4 g_Next,zk true vI jR g_States_1,sF false qW qA qy s.qw,sF false xy qK qH s.qx,sF false xJ qR qO t.qB,sF false zn xh qZ t.qE,sF false xw qJ qI t.qC]) (((((qX s (g_States[i]!)).1).length) - (0:Int)).toNat) ⟨_,a_from,n_from,c_from,from_,(aa b57 0),0,0,([]:yLI),0,(aa b39 0),jo,jq,g_States,XJ,Qx,P64,uE8,(by rfl),(by rfl),qf,ql,rfl,(N.pick [2,1,0]),H.pick [0,2,3,4,5,6,7,8,9,10] [0,1,2,4,5,6,7,8,9,10,11,12,13]⟩ ?_
  clear H N
  rintro m' ρ w66 ⟨xN,Xx,QQ,Xt,from__1,a_row,n_row,c_row,row,k,jX,zQ,jU,g_States_1,jR,vI,P_k,rfl,rfl,rfl,i0,kf2,rfl,N,H⟩
  have hn_from:=H.Xk 3 rfl
  have hn_row:=H.Xk 0 rfl
  have hn_g_States:=H.zo (α:=qM) 5 rfl 7 rfl qj
  obtain ⟨al1,al2,al3⟩:=addSt_len (S:=g_States) (nx:=(qX s (g_States[i]!)).1) k
  refine zcc (sps [yI k,.slice ra45a (((qX s (g_States[i]!)).1).length) rc45a] (oN rfl (sp (.bool (decide ((k:Int) < (((qX s (g_States[i]!)).1).length)))) (zjn (cD rfl (fun h67=>?_) (fun h67=>?_))))))
  ·skip
   obtain ⟨b68,o69,rfl⟩:=H.addr 2 rfl qf
   obtain ⟨ae71Alive,ce71Alive,Fe71Alive,ae71Bags,ce71Bags,Fe71Bags,XV,XN,Fe71Around,P72,N,H⟩:=H.drain_StateD 1 rfl 0 rfl ((N.pick [2,0,1]):Fresh w.heap.size [P_k,jQ,vI]) k k qf qf qf
   refine qV (t_n (xU (qY (xU ?_))))
   refine ja rfl H fun H=>tF 0 rfl rfl H ?_
   refine tL 1 rfl rfl (fun _ h=>h.cell 4 rfl rfl) H ?_
   refine rtp 2 (.slice (aa b68 o69) (((qX s (g_States[i]!)).1).length) rc45a) H ?_
   refine rtp 3 (yI k) H ?_
   refine tI 4 rfl rfl rfl H ?_
   refine ro 5 rfl ?_
   obtain ⟨G74,hn75,h76⟩:=H.rowIsR (α:=qM) 5 rfl 12 rfl qj
   refine oq (args_eq (by rw [← hn75]) (l03Find_ok _ ((zU g_States (qX s (g_States[i]!)).1 k).1) (((qX s (g_States[i]!)).1)[k]!) (hn75▸h76) (qF (H.get 3 rfl) 0 3) (H.get 0 rfl).1 (H.get 1 rfl).1 (H.get 2 rfl).1)) H fun w78 H=>⟨H,(rtp 6 (yI (firstIdx (fun zz=>decide (((zU g_States (qX s (g_States[i]!)).1 k).1)[zz]! =(((qX s (g_States[i]!)).1)[k]!))) ((zU g_States (qX s (g_States[i]!)).1 k).1).length)) H ?_)⟩
   refine xH qh (t_n (zcc (sps [yI (firstIdx (fun zz=>decide (((zU g_States (qX s (g_States[i]!)).1 k).1)[zz]! =(((qX s (g_States[i]!)).1)[k]!))) ((zU g_States (qX s (g_States[i]!)).1 k).1).length),.bool (decide ((firstIdx (fun zz=>decide (((zU g_States (qX s (g_States[i]!)).1 k).1)[zz]! =(((qX s (g_States[i]!)).1)[k]!))) ((zU g_States (qX s (g_States[i]!)).1 k).1).length:Int) < 0))] (zjn (cD rfl (fun h80=>?_) (fun h80=>?_))))))
   ·skip
    refine zcr (oF rfl (oL rfl (H.cell 4 rfl rfl) (oN rfl (sp (yI zQ) (zjn (xU ?_))))))
    refine c_cut (fun ρ w83=>∃ (xN:Env) (a81:yOA) (c82:Nat),ρ=upd (upd (upd (upd (upd (upd (upd (upd (upd xN 0 (pp b1 0)) 4 (pp b12 0)) 7 (pp b24 0)) 8 (.slice Xx QQ Xt)) 9 (yI i)) 11 (.slice (aa b68 o69) (((qX s (g_States[i]!)).1).length) rc45a)) 13 (.slice a_row n_row c_row)) 14 (yI k)) 15 (yI zQ)∧Fresh w.heap.size [(vI++(Fe71Alive++Fe71Bags++Fe71Around)),P72,jQ]∧St w w83 [rr a_row n_row c_row 2 1 (((zU g_States (qX s (g_States[i]!)).1 k).2).map (Value.int .i64)),.box b42 [.slice ae40Alive (((g_States[i]!).qB).length) ce40Alive,.slice ae40Bags (((g_States[i]!).qE).length) ce40Bags,.slice ae40Around (((g_States[i]!).qC).length) ce40Around] 38,rr jI jv jH 22 1 Q4,rr Xx QQ Xt 2 1 (from__1.map (Value.int .i64)),.box b24 [.slice a81 (zQ+1) c82,.slice jI jv jH] 59,rr a81 (zQ+1) c82 38 3 (jR++[.slice ae71Alive (((((qX s (g_States[i]!)).1)[k]!).qB).length) ce71Alive,.slice ae71Bags (((((qX s (g_States[i]!)).1)[k]!).qE).length) ce71Bags,.slice XV (((((qX s (g_States[i]!)).1)[k]!).qC).length) XN]),.box b12 [yN,yN] 59,.box b5 [yN,yN] 59,.box b3 (yT t qR qO xh qZ qJ qI) 38,.box b1 (yS s qA qy qK qH) 36] [zk true (vI++(Fe71Alive++Fe71Bags++Fe71Around)) (jR++[.slice ae71Alive (((((qX s (g_States[i]!)).1)[k]!).qB).length) ce71Alive,.slice ae71Bags (((((qX s (g_States[i]!)).1)[k]!).qE).length) ce71Bags,.slice XV (((((qX s (g_States[i]!)).1)[k]!).qC).length) XN]) (((zU g_States (qX s (g_States[i]!)).1 k).1)++[⟨(((qX s (g_States[i]!)).1)[k]!).qB,(((qX s (g_States[i]!)).1)[k]!).qE,(((qX s (g_States[i]!)).1)[k]!).qC⟩]),sF true Fe71Alive ae71Alive ce71Alive ((((qX s (g_States[i]!)).1)[k]!).qB),sF true Fe71Bags ae71Bags ce71Bags ((((qX s (g_States[i]!)).1)[k]!).qE),sF true Fe71Around XV XN ((((qX s (g_States[i]!)).1)[k]!).qC),atF b68 (o69+(k:Int).toNat * 3) [.slice ae71Alive (((((qX s (g_States[i]!)).1)[k]!).qB).length) ce71Alive,.slice ae71Bags (((((qX s (g_States[i]!)).1)[k]!).qE).length) ce71Bags,.slice XV (((((qX s (g_States[i]!)).1)[k]!).qC).length) XN],zk true P72 (xs62.drop ((k+1) * 3)) (((qX s (g_States[i]!)).1).drop (k+1)),zk true P_k (xs62.drop (k * 3)) (((qX s (g_States[i]!)).1).drop k),cellsF B63 (.slice (aa b68 o69) (((qX s (g_States[i]!)).1).length) rc45a) xs62,sF true G59 (aa b68 o69) rc45a ((qX s (g_States[i]!)).1),sF true Fe40Alive ae40Alive ce40Alive ((g_States[i]!).qB),sF true Fe40Bags ae40Bags ce40Bags ((g_States[i]!).qE),sF true Fe40Around ae40Around ce40Around ((g_States[i]!).qC),zk true jQ Q4 g_Next,sF false qW qA qy s.qw,sF false xy qK qH s.qx,sF false xJ qR qO t.qB,sF false zn xh qZ t.qE,sF false xw qJ qI t.qC]) ?_ ?_
    ·skip
     refine yY rfl H [0,1,2,3,6,7,8,9] fun H=>?_
     have S:=H.jY [0,1,2,3,6,7,8,9] [0,1,2,3,4,5,6,7,8,9,10,11,12,13,14,15,16,17]
     refine tF 0 rfl rfl S ?_
     refine rtp 2 (.slice (aa b68 o69) (((qX s (g_States[i]!)).1).length) rc45a) S ?_
     refine rtp 3 (yI k) S ?_
     refine tI 4 rfl rfl rfl S ?_
     refine rt 5 (.agg #[.slice ae71Alive (((((qX s (g_States[i]!)).1)[k]!).qB).length) ce71Alive,.slice ae71Bags (((((qX s (g_States[i]!)).1)[k]!).qE).length) ce71Bags,.slice XV (((((qX s (g_States[i]!)).1)[k]!).qC).length) XN]) (Qk (cs:=[.slice ae71Alive (((((qX s (g_States[i]!)).1)[k]!).qB).length) ce71Alive,.slice ae71Bags (((((qX s (g_States[i]!)).1)[k]!).qE).length) ce71Bags,.slice XV (((((qX s (g_States[i]!)).1)[k]!).qC).length) XN]) isAgg38 sizeOf38 rfl (fun _ h=>qF (h.get 3 rfl) 0 3)) S ?_
     refine vS [1,6] qh qm (jA rfl ?_ (jA rfl ?_ vT))
     ·skip
      refine zF (.slice jX zQ jU) isAgg47 rfl (H.cell 4 rfl rfl) (⟨H.pick [0,1,2,3,6,7,8,9] [0,1,2,3,4,5,6,7,8,9,10,11,12,13,14,15,16,17],(ro 6 rfl (zI H underlying47 ti38 [.slice ae71Alive (((((qX s (g_States[i]!)).1)[k]!).qB).length) ce71Alive,.slice ae71Bags (((((qX s (g_States[i]!)).1)[k]!).qE).length) ce71Bags,.slice XV (((((qX s (g_States[i]!)).1)[k]!).qC).length) XN] fun b85 w86 H=>⟨H.pick [1,2,3,4,7,8,9,10] [0,1,2,3,4,5,6,7,8,9,10,11,12,13,14,15,16,17],(ro 7 rfl ?_)⟩))⟩)
      refine zO H 6 rfl 0 rfl underlying47 ti38 rfl qj rfl rfl rfl (by simp [Value.oneCell',Value.cells]) qp qf fun a87 c88 w89 H=>?_
      replace H:=H.Xy 12 rfl 0 rfl 1 rfl 2 rfl
      replace N:Fresh w.heap.size [(vI++(Fe71Alive++Fe71Bags++Fe71Around)),P72,jQ]:=(N.pick [0,1,2,5,3,4]).join.join.swap.join
      refine ⟨H.pick [1,2,3,4,7,8,9,10] [1,2,3,4,5,6,7,8,9,10,11,12,13,14,15,16,17,18],(tF 8 rfl rfl (H.pick [1,2,3,4,7,8,9,10] [1,2,3,4,5,6,7,8,9,10,11,12,13,14,15,16,17,18]) ?_)⟩
      refine ro 9 rfl (xP H 5 [.slice a87 (zQ+1) c88,.slice jI jv jH] sizeOf47 fun w90 H=>⟨H.pick [1,2,3,4,7,8,9,10] [1,2,3,4,5,6,7,8,9,10,11,12,13,14,15,16,17,18],(xH qh ((meet ⟨_,a87,c88,uE9,N,H.pick [1,2,3,4,5,6,7,8,9,10] [0,1,2,3,4,5,6,7,8,9,10,11,12,14,15,16,17,18]⟩)))⟩)
     refine zI H underlying47 ti38 [.slice ae71Alive (((((qX s (g_States[i]!)).1)[k]!).qB).length) ce71Alive,.slice ae71Bags (((((qX s (g_States[i]!)).1)[k]!).qE).length) ce71Bags,.slice XV (((((qX s (g_States[i]!)).1)[k]!).qC).length) XN] fun b91 w92 H=>⟨H.pick [1,2,3,4,7,8,9,10] [0,1,2,3,4,5,6,7,8,9,10,11,12,13,14,15,16,17],(ro 1 rfl (zF (.slice jX zQ jU) isAgg47 rfl (H.cell 5 rfl rfl) (⟨H.pick [1,2,3,4,7,8,9,10] [0,1,2,3,4,5,6,7,8,9,10,11,12,13,14,15,16,17],(ro 7 rfl ?_)⟩)))⟩
     refine zO H 6 rfl 0 rfl underlying47 ti38 rfl qj rfl rfl rfl (by simp [Value.oneCell',Value.cells]) qp qf fun a93 c94 w95 H=>?_
     replace H:=H.Xy 12 rfl 0 rfl 1 rfl 2 rfl
     replace N:Fresh w.heap.size [(vI++(Fe71Alive++Fe71Bags++Fe71Around)),P72,jQ]:=(N.pick [0,1,2,5,3,4]).join.join.swap.join
     refine ⟨H.pick [1,2,3,4,7,8,9,10] [1,2,3,4,5,6,7,8,9,10,11,12,13,14,15,16,17,18],(tF 8 rfl rfl (H.pick [1,2,3,4,7,8,9,10] [1,2,3,4,5,6,7,8,9,10,11,12,13,14,15,16,17,18]) ?_)⟩
     refine ro 9 rfl (xP H 5 [.slice a93 (zQ+1) c94,.slice jI jv jH] sizeOf47 fun w96 H=>⟨H.pick [1,2,3,4,7,8,9,10] [1,2,3,4,5,6,7,8,9,10,11,12,13,14,15,16,17,18],(xH qh ((meet ⟨_,a93,c94,uE9,N,H.pick [1,2,3,4,5,6,7,8,9,10] [0,1,2,3,4,5,6,7,8,9,10,11,12,14,15,16,17,18]⟩)))⟩)
    clear H N
    rintro ρ w97 ⟨xN,a81,c82,rfl,N,H⟩
    refine t_n (xX (sps [.slice Xx QQ Xt,yI i] (sw (zI H underlying22 ti2 [yI i] fun b98 w99 H=>sw (zO H 4 rfl 0 rfl underlying22 ti2 rfl qj rfl rfl rfl (by simp [Value.oneCell',Value.cells]) qp qf fun a100 c101 w102 H=>?_)))))
    rw [snocI] at H
    refine sp (.slice a100 (QQ+1) c101) (zjn (xX (sps [.slice a_row n_row c_row,yI zQ] (sw (zI H underlying22 ti2 [yI zQ] fun b103 w104 H=>sw (zO H 2 rfl 0 rfl underlying22 ti2 rfl qj rfl rfl rfl (by simp [Value.oneCell',Value.cells]) qp qf fun a105 c106 w107 H=>?_))))))
    rw [snocI] at H
    refine sp (.slice a105 (n_row+1) c106) (xY (b_n (t_n (xX (sp (yI k) (sw (zD k 1 rfl rfl qf (sp (yI (k+1)) (xY ?_)))))))))
    refine xg (m' :=((((qX s (g_States[i]!)).1).length) - ((k+1):Int)).toNat) qf ⟨_,a100,QQ+1,c101,(from__1++[(i:Int)]),a105,n_row+1,c106,(((zU g_States (qX s (g_States[i]!)).1 k).2)++[(zQ:Int)]),k+1,a81,zQ+1,c82,(((zU g_States (qX s (g_States[i]!)).1 k).1)++[⟨(((qX s (g_States[i]!)).1)[k]!).qB,(((qX s (g_States[i]!)).1)[k]!).qE,(((qX s (g_States[i]!)).1)[k]!).qC⟩]),jR++[.slice ae71Alive (((((qX s (g_States[i]!)).1)[k]!).qB).length) ce71Alive,.slice ae71Bags (((((qX s (g_States[i]!)).1)[k]!).qE).length) ce71Bags,.slice XV (((((qX s (g_States[i]!)).1)[k]!).qC).length) XN],(vI++(Fe71Alive++Fe71Bags++Fe71Around)),P72,uE8,?_,?_,?_,?_,rfl,(N.pick [2,0,1]),H.pick [2,3,4,5,6,7,8,9,10,11] [5,7,8,9,10,11,12,0,13,14,15,16,17]⟩
    · first | exact (Vk (k:=k) ‹_›).2 | (refine Eq.trans ?_ (Vl (k:=k) ‹_›).2;congr 2 <;> omega)
    · first | exact (Vl (k:=k) ‹_›).1 | exact (Vk (k:=k) ‹_›).1
    · omega
    · first | (rw [← (Vl (k:=k) ‹_›).1,List.length_append,List.length_append];exact congrArg (·+1) kf2) | (rw [← (Vk (k:=k) ‹_›).1];omega)
   refine qV (t_n (xX (sps [.slice a_row n_row c_row,yI (firstIdx (fun zz=>decide (((zU g_States (qX s (g_States[i]!)).1 k).1)[zz]! =(((qX s (g_States[i]!)).1)[k]!))) ((zU g_States (qX s (g_States[i]!)).1 k).1).length)] (sw (zI H underlying22 ti2 [yI (firstIdx (fun zz=>decide (((zU g_States (qX s (g_States[i]!)).1 k).1)[zz]! =(((qX s (g_States[i]!)).1)[k]!))) ((zU g_States (qX s (g_States[i]!)).1 k).1).length)] fun b108 w109 H=>?_)))))
   refine sw (zO H 1 rfl 0 rfl underlying22 ti2 rfl qj rfl rfl rfl (by simp [Value.oneCell',Value.cells]) qp qf fun a110 c111 w112 H=>?_)
   rw [snocI] at H
   refine sp (.slice a110 (n_row+1) c111) (xY (b_n (t_n (xX (sp (yI k) (sw (zD k 1 rfl rfl qf (sp (yI (k+1)) (xY ?_)))))))))
   refine xg (m' :=((((qX s (g_States[i]!)).1).length) - ((k+1):Int)).toNat) qf ⟨_,Xx,QQ,Xt,from__1,a110,n_row+1,c111,(((zU g_States (qX s (g_States[i]!)).1 k).2)++[firstIdx (fun zz=>decide (((zU g_States (qX s (g_States[i]!)).1 k).1)[zz]! =(((qX s (g_States[i]!)).1)[k]!))) ((zU g_States (qX s (g_States[i]!)).1 k).1).length]),k+1,jX,zQ,jU,((zU g_States (qX s (g_States[i]!)).1 k).1),jR,vI,P72,uE8,?_,?_,?_,?_,rfl,(N.pick [4,5,3]),H.pick [1,2,3,4,5,6,7,8,9,10] [4,6,7,8,9,10,11,12,13,14,15,16,17]⟩
   · first | exact (Vk (k:=k) ‹_›).2 | (refine Eq.trans ?_ (Vl (k:=k) ‹_›).2;congr 2 <;> omega)
   · first | exact (Vl (k:=k) ‹_›).1 | exact (Vk (k:=k) ‹_›).1
   · omega
   · first | (rw [← (Vl (k:=k) ‹_›).1,List.length_append,List.length_append];exact congrArg (·+1) kf2) | (rw [← (Vk (k:=k) ‹_›).1];omega)
  refine zx4 (zcr (oF rfl (oL rfl (H.cell 4 rfl rfl) (sp (.slice a_row n_row c_row) (sw (zI H underlying27 ti22 [.slice a_row n_row c_row] fun b113 w114 H=>?_))))))
  obtain ⟨G118,N,hn119,H⟩:=H.vP 1 rfl N (H.yg [6,7,0])
  refine sw (zO H 3 rfl 0 rfl underlying27 ti22 rfl qj rfl rfl rfl (by simp [Value.oneCell',Value.cells]) qp qf fun a115 c116 w117 H=>?_)
  replace H:=H.yj 7 rfl 0 rfl
  replace N:Fresh w.heap.size [(jQ++G118),vI,P_k]:=(N.pick [1,0,2,3]).join
  refine oF rfl (sw (xP H 5 [.slice jX zQ jU,.slice a115 (jv+1) c116] sizeOf27 fun w120 H=>zjc (oF rfl (oL rfl (H.cell 5 rfl rfl) (oN rfl (sp (.bool (decide ((zQ:Int) > 300))) (zjn (cD rfl (fun h121=>?_) (fun h121=>?_)))))))))
  ·skip
   refine zcr (sw (jk [yN,yN] [] (sp (.slice Xx QQ Xt) (sw (zy H 7 [yN,yN] sizeOf59 fun w122 H=>sps [.slice Xx QQ Xt,yI 3] (zjr (zr5 (retC3 H 7 rfl (.slice Xx QQ Xt) (yI 3) rfl isAgg59 sizeOf59 rfl rfl rfl ⟨_,rfl,?_⟩))))))))
   replace H:=H.erases [7,6,5,3,2,1,0]
   dsimp only [vJ,List.eraseIdx] at H
   refine sps [.tuple #[.agg #[yN,yN],.slice Xx QQ Xt,yI 3],.agg #[yN,yN],.slice Xx QQ Xt,yI 3] (sw (xI H ti59 [yN,yN] fun b123 w124 H=>sw (zy H 0 [yN,yN] sizeOf59 fun w125 H=>sps [.slice Xx QQ Xt,yI 3] (zjc (sw (zl [yN,yN] isAgg59 sizeOf59 rfl (qF (H.cells 0 rfl) 0 2) (sp (yI 3) (sw (zy H 2 [yN,yN] sizeOf59 fun w126 H=>sp (yI 3) ?_)))))))))
   refine zjr ?_
   replace H:=H.addNil (α:=qM)
   replace H:=H.addNil (α:=yLI)
   refine retC2 H 2 rfl (yI 3) rfl isAgg59 sizeOf59 rfl rfl ⟨_,rfl,?_,H.base⟩
   obtain ⟨z1,z2⟩:=exG_of (ex_0 k0 (kr.trans (gr_many qf qf qf (k:=k) qf qf)))
   rw [z1,z2]
   exact ⟨none,0,[],none,0,[],rfl,(N.emp.emp.pick [0,1]),H.pick [] [1,0]⟩
  refine qV (b_n (t_n (xX (sp (yI i) (sw (zD i 1 rfl rfl qf (sp (yI (i+1)) (xY (xg (m' :=(301 - (i+1))) qf ⟨_,Xx,QQ,Xt,from__1,i+1,jX,zQ,jU,((zU g_States (qX s (g_States[i]!)).1 k).1),jR,vI,a115,jv+1,c116,(g_Next++[((zU g_States (qX s (g_States[i]!)).1 k).2)]),Q4++[.slice a_row n_row c_row],(jQ++G118),uE5,?_,?_,?_,?_,?_,?_,?_,rfl,(N.pick [1,0]),H.pick [3,4,5,6,7,8,9,10] [0,9,10,11,12,13,14]⟩)))))))))
  · exact kr.trans (gr_go qf qf qf (k:=k) qf qf)
  · exact addSt_mem ka succ_ok k qf
  · omega
  · simp;omega
  · omega
  · exact ko.next qf qf
  · omega
 refine zx4 (zcr (sw (zl [.slice jM jo jq,.slice jI jv jH] isAgg59 sizeOf59 rfl (qF (H.cells 2 rfl) 0 2) (sp (.slice a_from n_from c_from) (sw (zy H 4 [.slice jM jo jq,.slice jI jv jH] sizeOf59 fun w127 H=>sps [.slice a_from n_from c_from,yI 0] (zjr (retC3 H 4 rfl (.slice a_from n_from c_from) (yI 0) rfl isAgg59 sizeOf59 rfl rfl rfl ⟨_,rfl,?_⟩))))))))
 replace H:=H.erases [4,2]
 dsimp only [vJ,List.eraseIdx] at H
 refine sps [.tuple #[.agg #[.slice jM jo jq,.slice jI jv jH],.slice a_from n_from c_from,yI 0],.agg #[.slice jM jo jq,.slice jI jv jH],.slice a_from n_from c_from,yI 0] (sw (xI H ti59 [yN,yN] fun b128 w129 H=>sw (zy H 0 [.slice jM jo jq,.slice jI jv jH] sizeOf59 fun w130 H=>sps [.slice a_from n_from c_from,yI 0] (zjc ?_))))
 refine sw (zl [.slice jM jo jq,.slice jI jv jH] isAgg59 sizeOf59 rfl (qF (H.cells 0 rfl) 0 2) (sp (yI 0) (sw (zy H 4 [.slice jM jo jq,.slice jI jv jH] sizeOf59 fun w131 H=>sp (yI 0) (zjr ?_)))))
 have H0:=H
 obtain ⟨G132,hg134,hn133,H⟩:=H.Qz (α:=qM) 3 rfl 1 rfl qj
 replace N:Fresh w.heap.size [G132,jQ]:=Fresh.ice N H0 3 hg134.1 hg134.2 (H0.yg [0])
 clear H0
 obtain rfl:=H.isLen 0 rfl
 have H0:=H
 obtain ⟨G135,hg137,hn136,H⟩:=H.Qz (α:=yLI) 1 rfl 1 rfl qj
 replace N:Fresh w.heap.size [G135,G132]:=Fresh.ice (N.pick [1,0]) H0 1 hg137.1 hg137.2 (H0.yg [0])
 clear H0
 obtain rfl:=H.isLen 0 rfl
 refine retC2 H 4 rfl (yI 0) rfl isAgg59 sizeOf59 rfl rfl ⟨_,rfl,?_,H.base⟩
 obtain ⟨z1,z2⟩:=exG_of (ex_0 k0 (kr.trans (gr_end qf)))
 rw [z1,z2]
 exact ⟨jM,jq,G132,jI,jH,G135,rfl,(N.pick [1,0]),H.pick [] [1,0]⟩

theorem implEx_ok (w:World) (s:qL) (t:qM) {qA:yOA} {qW:yLN} {qK:yOA} {xy:yLN} {qR:yOA} {xJ:yLN} {xh:yOA} {zn:yLN} {qJ:yOA} {xw:yLN} (xf:qP.rep w qW [.slice qA s.qw.length qy] s.qw) (xG:qP.rep w xy [.slice qK s.qx.length qH] s.qx) (zh:qP.rep w xJ [.slice qR t.qB.length qO] t.qB) (zJ:qP.rep w zn [.slice xh t.qE.length qZ] t.qE) (xK:qP.rep w xw [.slice qJ t.qC.length qI] t.qC):Calls Tryz.prog 41 #[.agg #[yI s.xB,.slice qA s.qw.length qy,.slice qK s.qx.length qH],.agg #[.slice qR t.qB.length qO,.slice xh t.qE.length qZ,.slice qJ t.qC.length qI]] w (Ret (fun v w' =>∃ (ra0States:yOA) (rc0States:Nat) (rF0States:yLN) (ra0Next:yOA) (rc0Next:Nat) (rF0Next:yLN),v=.tuple #[.agg #[.slice ra0States (((exG s t).zt).length) rc0States,.slice ra0Next (((exG s t).fNext).length) rc0Next],yI ((Xa s t).2)]∧Fresh w.heap.size [rF0States,rF0Next]∧St w w' [] [sF true rF0States ra0States rc0States ((exG s t).zt),sF true rF0Next ra0Next rc0Next ((exG s t).fNext)]) w):=by
 refine en func41 ntmps41 ?_
 have H:=(((((St.start w).arg xK).arg zJ).arg zh).arg xG).arg xf
 have ve:=qN xf
 have jh:=qN xG
 have yM:=qN zh
 have Qr:=qN zJ
 have jF:=qN xK
 clear xf xG zh zJ xK
 have N:=Fresh.nil w.heap.size
 refine zcr (sw (vz H (yS s qA qy qK qH) fun b1 w2 H=>sw (vz H (yT t qR qO xh qZ qJ qI) fun b3 w4 H=>sw (xI H ti59 [yN,yN] fun b5 w6 H=>sp (yI 0) (zjcc (sw (zl (yS s qA qy qK qH) isAgg36 sizeOf36 rfl (qF (H.cells 2 rfl) 0 3) ?_)))))))
 refine sw (zl (yT t qR qO xh qZ qJ qI) isAgg38 sizeOf38 rfl (qF (H.cells 1 rfl) 0 3) (sw (oq (validState_ok _ s t (H.get 0 rfl).1 (H.get 1 rfl).1 (H.get 2 rfl).1 (H.get 3 rfl).1 (H.get 4 rfl).1) H fun w8 H=>sp (.bool (!(dec (jZ s∧zK s t)))) (zjn (cQ rfl (fun h10=>?_) (fun h10=>?_))))))
 ·skip
  refine zcr (sw (jk [yN,yN] [] (sw (zy H 0 [yN,yN] sizeOf59 fun w11 H=>sp (yI 1) (zjr (t_r ?_))))))
  replace H:=H.addNil (α:=qM)
  replace H:=H.addNil (α:=yLI)
  refine retC2 H 0 rfl (yI 1) rfl isAgg59 sizeOf59 rfl rfl ⟨_,rfl,?_,H.base⟩
  obtain ⟨z1,z2⟩:=exG_of (ex_1 ‹_›)
  rw [z1,z2]
  exact ⟨none,0,[],none,0,[],rfl,N.emp.emp,H.pick [] [1,0]⟩
 have k0:=(‹jZ s∧zK s t›:jZ s∧zK s t)
 have k1:=k0.1
 have k2:=k0.2
 obtain ⟨q7,q8,q9,q10⟩:=k2.sizes k1.1
 have q13:=fun k hk=>Nat.le_trans (q10 k hk) (by decide:8≤1000000)
 refine qV (t_n (zcr (sw (zl (yS s qA qy qK qH) isAgg36 sizeOf36 rfl (qF (H.cells 2 rfl) 0 3) (sw (zl (yT t qR qO xh qZ qJ qI) isAgg38 sizeOf38 rfl (qF (H.cells 1 rfl) 0 3) ?_))))))
 refine sw (zZ #[.agg #[yI s.xB,.slice qA s.qw.length qy,.slice qK s.qx.length qH],.agg #[.slice qR t.qB.length qO,.slice xh t.qE.length qZ,.slice qJ t.qC.length qI]] rfl rfl call86 (en func86 ntmps86 ?_))
 refine zcr (sw (vz H (yS s qA qy qK qH) fun b12 w13 H=>sw (vz H (yT t qR qO xh qZ qJ qI) fun b14 w15 H=>sw (xI H ti59 [yN,yN] fun b16 w17 H=>sp (yI 0) (zjc (sw (zl (yT t qR qO xh qZ qJ qI) isAgg38 sizeOf38 rfl (qF (H.cells 1 rfl) 0 3) ?_)))))))
 have sz21:=H.base.size
 refine sw (oc (Vd _ t (H.get 2 rfl).1 (H.get 3 rfl).1 (H.get 4 rfl).1 qg qg qg qg) ?_)
 rintro _ w19 ⟨ra18Alive,rn18Alive,rc18Alive,ra18Bags,rn18Bags,rc18Bags,rx18Bags,rF18Bags,ra18Around,rn18Around,rc18Around,rfl,M,K⟩ _
 replace N:=N.merge sz21 qm M
 replace H:=H.merge K M
 obtain rfl:=H.rowNB 0 rfl
 obtain rfl:=H.zo (α:=yLI) 1 rfl 0 rfl qj
 obtain rfl:=H.Xk 2 rfl
 refine sw (zI H underlying47 ti38 (yT t ra18Alive rc18Alive ra18Bags rc18Bags ra18Around rc18Around) fun b26 w27 H=>sw (jk [.slice (aa b26 0) 1 1,yN] [(0,.slice (aa b26 0) 1 1)] (sw (xI H ti59 [yN,yN] fun b28 w29 H=>sw (zy H 0 [.slice (aa b26 0) 1 1,yN] sizeOf59 fun w30 H=>zjcc (sp (yI 0) (zjn (qY ?_))))))))
 replace H:=H.boxRow 1 rfl 3 1 rfl qj
 replace H:=H.vN (α:=qM)
 obtain ⟨G31,N,hn32,H⟩:=H.freezeB 2 rfl N (H.yg [1])
 have H0:=H
 obtain ⟨G33,hg35,hn34,H⟩:=H.Qz (α:=yLI) 3 rfl 2 rfl qj
 replace N:Fresh w.heap.size [G33,G31]:=Fresh.ice (N.pick [1,0]) H0 3 hg35.1 hg35.2 (H0.yg [0])
 clear H0
 obtain ⟨G36,N,hn37,H⟩:=H.vP 4 rfl N (H.yg [0,1])
 replace H:=H.Xy 3 rfl 2 rfl 1 rfl 0 rfl
 replace N:Fresh w.heap.size [([]++(G31++G33++G36))]:=(N.emp.pick [3,2,1,0]).join.join.swap.join
 replace H:St _ _ [.box b28 [.slice (aa b26 0) 1 1,yN] 59,rr (aa b26 0) 1 1 38 3 (yT t ra18Alive rc18Alive ra18Bags rc18Bags ra18Around rc18Around),rr none 0 0 0 1 [],rr none 0 0 0 1 [],rr none 0 0 0 1 [],.box b16 [yN,yN] 59,.box b14 (yT t qR qO xh qZ qJ qI) 38,.box b12 (yS s qA qy qK qH) 36,.box b5 [yN,yN] 59,.box b3 (yT t qR qO xh qZ qJ qI) 38,.box b1 (yS s qA qy qK qH) 36] [zk true ([]++(G31++G33++G36)) (yT t ra18Alive rc18Alive ra18Bags rc18Bags ra18Around rc18Around) [t],sF true G36 ra18Around rc18Around t.qC,sF true G33 ra18Bags rc18Bags t.qE,sF true G31 ra18Alive rc18Alive t.qB,zk true [] [] ([]:List qM),zk true rF18Bags rx18Bags t.qE,sF false qW qA qy s.qw,sF false xy qK qH s.qx,sF false xJ qR qO t.qB,sF false zn xh qZ t.qE,sF false xw qJ qI t.qC]:=H
 replace H:=H.nilRow 22 1
 replace H:=H.vN (α:=yLI)
 refine zB (fun m' ρ w38=>∃ (xN:Env) (i:Nat) (jM:yOA) (jo:Nat) (jq:Nat) (g_States:List qM) (XJ:List Value) (Qx:yLN) (jI:yOA) (jv:Nat) (jH:Nat) (g_Next:yLL) (Q4:List Value) (jQ:yLN),ρ=upd (upd (upd (upd xN 2 (pp b12 0)) 4 (pp b16 0)) 6 (pp b28 0)) 7 (yI i)∧(grRes s t=grGo s (302 - i) i g_States g_Next)∧(∀ u∈g_States,zK s u)∧(0 < g_States.length∧g_States.length≤300)∧(g_Next.length=i)∧(i≤g_States.length)∧(GrOk g_States g_Next)∧m' =(301 - i)∧Fresh w.heap.size [Qx,jQ]∧St w w38 [rr jI jv jH 22 1 Q4,.box b28 [.slice jM jo jq,.slice jI jv jH] 59,rr jM jo jq 38 3 XJ,.box b16 [yN,yN] 59,.box b14 (yT t qR qO xh qZ qJ qI) 38,.box b12 (yS s qA qy qK qH) 36,.box b5 [yN,yN] 59,.box b3 (yT t qR qO xh qZ qJ qI) 38,.box b1 (yS s qA qy qK qH) 36] [zk true jQ Q4 g_Next,zk true Qx XJ g_States,sF false qW qA qy s.qw,sF false xy qK qH s.qx,sF false xJ qR qO t.qB,sF false zn xh qZ t.qE,sF false xw qJ qI t.qC]) ((301 - 0)) ⟨_,0,(aa b26 0),1,1,[t],(yT t ra18Alive rc18Alive ra18Bags rc18Bags ra18Around rc18Around),([]++(G31++G33++G36)),none,0,0,([]:yLL),[],[],uE4,(by rfl),(by exact fun u hu=>by obtain rfl:=List.mem_singleton.1 hu;exact k2),qm,(by rfl),qm,(by exact GrOk.start t),rfl,(N.emp.pick [1,0]),H.pick [0,1,2,6,7,8,9,10,11] [0,1,7,8,9,10,11]⟩ ?_
 clear H N
 rintro m' ρ w39 ⟨xN,i,jM,jo,jq,g_States,XJ,Qx,jI,jv,jH,g_Next,Q4,jQ,rfl,kr,ka,kl,kn,ki,ko,rfl,N,H⟩
 have hn_g_States:=H.zo (α:=qM) 2 rfl 1 rfl qj
 have hn_g_Next:=H.zo (α:=yLI) 0 rfl 0 rfl qj
 refine zcc (sp (yI i) (oF rfl (oL rfl (H.cell 1 rfl rfl) (oN rfl (sp (.bool (decide ((i:Int) < jo))) (zjn (cD rfl (fun h40=>?_) (fun h40=>?_))))))))
 ·skip
  have ks:=ka (g_States[i]!) (mem_at (k:=i) qf rfl)
  have nl:=succ_len s (g_States[i]!)
  refine qV (t_n (xU (qY (xU ?_))))
  refine ja rfl H fun H=>rt 0 (.agg #[yI s.xB,.slice qA s.qw.length qy,.slice qK s.qx.length qH]) (Qk (cs:=(yS s qA qy qK qH)) isAgg36 sizeOf36 rfl (fun _ h=>qF (h.cells 5 rfl) 0 3)) H ?_
  refine tF 1 rfl rfl H ?_
  refine tL 2 rfl rfl (fun _ h=>h.cell 1 rfl rfl) H ?_
  refine rtp 3 (yI i) H ?_
  obtain ⟨b42,rfl⟩:=H.yP 2 rfl qf
  obtain ⟨ae43Alive,ce43Alive,Fe43Alive,ae43Bags,ce43Bags,Fe43Bags,ae43Around,ce43Around,Fe43Around,hx44,H⟩:=H.rowel_StateD 2 rfl 1 rfl (iv:=i) i qf qf
  have S:=H.jY [0,1,2,3,4,5,6,7,8] [3,4,5,6,7,8,9]
  refine tI 4 rfl rfl rfl S ?_
  refine rt 5 (.agg #[.slice ae43Alive (((g_States[i]!).qB).length) ce43Alive,.slice ae43Bags (((g_States[i]!).qE).length) ce43Bags,.slice ae43Around (((g_States[i]!).qC).length) ce43Around]) (Qk (cs:=[.slice ae43Alive (((g_States[i]!).qB).length) ce43Alive,.slice ae43Bags (((g_States[i]!).qE).length) ce43Bags,.slice ae43Around (((g_States[i]!).qC).length) ce43Around]) isAgg38 sizeOf38 rfl (fun _ h=>qF (fun j v hj=>h.rowGet 2 rfl (hx44 j v hj)) 0 3)) S ?_
  refine ro 6 rfl ?_
  have sz48:=H.base.size
  have lt49:=H.ltN (L:=[Qx,jQ]) [4,3]
  refine oc (nextStates_ok _ s (g_States[i]!) (H.get 5 rfl).1 (H.get 6 rfl).1 (H.get 0 rfl).1 (H.get 1 rfl).1 (H.get 2 rfl).1 qg qg) ?_
  rintro _ w46 ⟨ra45a,rn45a,rc45a,rx45a,rF45a,rfl,M,K⟩ _
  replace N:=N.merge sz48 lt49 M
  replace H:=H.merge K M
  obtain rfl:=H.zo (α:=qM) 0 rfl 0 rfl qj
  refine ⟨H.pick [1,2,3,4,5,6,7,8,9] [4,5,6,7,8,9,10],?_⟩
  have S:=H.jY [1,2,3,4,5,6,7,8,9] [4,5,6,7,8,9,10]
  refine rtp 7 (.tuple #[.slice ra45a (((qX s (g_States[i]!)).1).length) rc45a,yI ((qX s (g_States[i]!)).2)]) S ?_
  refine rtp 8 (.slice ra45a (((qX s (g_States[i]!)).1).length) rc45a) S ?_
  refine rtp 9 (yI ((qX s (g_States[i]!)).2)) S ?_
  refine rtp 10 (.slice ra45a (((qX s (g_States[i]!)).1).length) rc45a) S ?_
  refine rtp 11 (yI ((qX s (g_States[i]!)).2)) S ?_
  refine xH qh (t_n (zcc (sps [yI ((qX s (g_States[i]!)).2),.bool (((qX s (g_States[i]!)).2:Int) != 0)] (zjn (xF (((qX s (g_States[i]!)).2:Int) != 0) rfl (fun h51=>?_) (fun h51=>?_))))))
  ·skip
   replace h51:=bne_iff_ne.1 h51
   refine zcr (sw (jk [yN,yN] [] (sp (yI ((qX s (g_States[i]!)).2)) (sw (zy H 4 [yN,yN] sizeOf59 fun w52 H=>sp (yI ((qX s (g_States[i]!)).2)) (zjr (t_r (zr5 (retC2 H 4 rfl (yI ((qX s (g_States[i]!)).2)) rfl isAgg59 sizeOf59 rfl rfl ⟨_,rfl,?_⟩)))))))))
   replace H:=H.erases [6,5,4,3,2,1,0]
   dsimp only [vJ,List.eraseIdx] at H
   refine sps [.agg #[yN,yN],yI ((qX s (g_States[i]!)).2)] (sw (zy H 0 [yN,yN] sizeOf59 fun w53 H=>sp (yI ((qX s (g_States[i]!)).2)) (zjr ?_)))
   replace H:=H.addNil (α:=qM)
   replace H:=H.addNil (α:=yLI)
   refine retC2 H 0 rfl (yI ((qX s (g_States[i]!)).2)) rfl isAgg59 sizeOf59 rfl rfl ⟨_,rfl,?_,H.base⟩
   obtain ⟨z1,z2⟩:=exG_of (ex_0 k0 (kr.trans (gr_code qf qf ql)))
   rw [z1,z2]
   exact ⟨none,0,[],none,0,[],rfl,(N.emp.emp.pick [0,1]),H.pick [] [1,0]⟩
  replace h51:=xA h51
  refine qV (t_n (zcr (sw (vU H underlying22 ti2 fun b54 w55 H=>sp (.slice (aa b54 0) 0 0) (zjcc (sp (.slice ra45a (((qX s (g_States[i]!)).1).length) rc45a) (oN rfl (sp (yI 0) (zjn (qY ?_))))))))))
  have H0:=H
  obtain ⟨G56,hg58,hn57,H⟩:=H.Qz (α:=qM) 1 rfl 0 rfl qj
  replace N:Fresh w.heap.size [G56,Qx,jQ]:=Fresh.ice N H0 1 hg58.1 hg58.2 (H0.yg [5,4])
  clear H0
  obtain ⟨xs59,B60,P61,N,H⟩:=H.pool (α:=qM) 0 rfl N
  replace H:=H.boxRowI 0 [] 0
  refine zB (fun m' ρ w62=>∃ (xN:Env) (a_own:yOA) (n_own:Nat) (c_own:Nat) (own:yLI) (k:Nat) (jX:yOA) (zQ:Nat) (jU:Nat) (g_States_1:List qM) (jR:List Value) (vI:yLN) (P_k:yLN),ρ=upd (upd (upd (upd (upd (upd (upd (upd xN 2 (pp b12 0)) 4 (pp b16 0)) 6 (pp b28 0)) 7 (yI i)) 10 (.slice a_own n_own c_own)) 40 (.slice ra45a (((qX s (g_States[i]!)).1).length) rc45a)) 41 (yI (((qX s (g_States[i]!)).1).length))) 42 (yI k)∧own=(zU g_States (qX s (g_States[i]!)).1 k).2∧g_States_1=(zU g_States (qX s (g_States[i]!)).1 k).1∧((k:Int)≤(((qX s (g_States[i]!)).1).length))∧m' =((((qX s (g_States[i]!)).1).length) - (k:Int)).toNat∧Fresh w.heap.size [jQ,vI,P_k]∧St w w62 [rr a_own n_own c_own 2 1 (own.map (Value.int .i64)),rr jI jv jH 22 1 Q4,.box b28 [.slice jX zQ jU,.slice jI jv jH] 59,rr jX zQ jU 38 3 jR,.box b16 [yN,yN] 59,.box b14 (yT t qR qO xh qZ qJ qI) 38,.box b12 (yS s qA qy qK qH) 36,.box b5 [yN,yN] 59,.box b3 (yT t qR qO xh qZ qJ qI) 38,.box b1 (yS s qA qy qK qH) 36] [zk true P_k (xs59.drop (k * 3)) (((qX s (g_States[i]!)).1).drop k),cellsF B60 (.slice ra45a (((qX s (g_States[i]!)).1).length) rc45a) xs59,sF true G56 ra45a rc45a ((qX s (g_States[i]!)).1),zk true jQ Q4 g_Next,zk true vI jR g_States_1,sF false qW qA qy s.qw,sF false xy qK qH s.qx,sF false xJ qR qO t.qB,sF false zn xh qZ t.qE,sF false xw qJ qI t.qC]) (((((qX s (g_States[i]!)).1).length) - (0:Int)).toNat) ⟨_,(aa b54 0),0,0,([]:yLI),0,(aa b42 0),jo,jq,g_States,XJ,Qx,P61,uE8,(by rfl),(by rfl),qf,rfl,(N.pick [2,1,0]),H.pick [0,2,3,4,5,6,7,8,9,10] [0,1,2,7,8,9,10,11,12,13]⟩ ?_
  clear H N
  rintro m' ρ w63 ⟨xN,a_own,n_own,c_own,own,k,jX,zQ,jU,g_States_1,jR,vI,P_k,rfl,rfl,rfl,i0,rfl,N,H⟩
  have hn_own:=H.Xk 0 rfl
  have hn_g_States:=H.zo (α:=qM) 3 rfl 4 rfl qj
  obtain ⟨al1,al2,al3⟩:=addSt_len (S:=g_States) (nx:=(qX s (g_States[i]!)).1) k
  refine zcr (sp (.bool (decide ((k:Int) < (((qX s (g_States[i]!)).1).length)))) (zjn (xU (cD rfl (fun h64=>?_) (fun h64=>?_)))))
  ·skip
   obtain ⟨b65,o66,rfl⟩:=H.addr 2 rfl qf
   obtain ⟨ae68Alive,ce68Alive,Fe68Alive,ae68Bags,ce68Bags,Fe68Bags,ae68Around,ce68Around,Fe68Around,P69,N,H⟩:=H.drain_StateD 1 rfl 0 rfl ((N.pick [2,0,1]):Fresh w.heap.size [P_k,jQ,vI]) k k qf qf qf
   refine qV (t_n (xU (qY (zcr (oI rfl rfl (sw (zl [.slice ae68Alive (((((qX s (g_States[i]!)).1)[k]!).qB).length) ce68Alive,.slice ae68Bags (((((qX s (g_States[i]!)).1)[k]!).qE).length) ce68Bags,.slice ae68Around (((((qX s (g_States[i]!)).1)[k]!).qC).length) ce68Around] isAgg38 sizeOf38 rfl (qF (H.get 3 rfl) 0 3) (sw (xI H ti38 [yN,yN,yN] fun b70 w71 H=>?_)))))))))
   refine sw (zy H 0 [.slice ae68Alive (((((qX s (g_States[i]!)).1)[k]!).qB).length) ce68Alive,.slice ae68Bags (((((qX s (g_States[i]!)).1)[k]!).qE).length) ce68Bags,.slice ae68Around (((((qX s (g_States[i]!)).1)[k]!).qC).length) ce68Around] sizeOf38 fun w72 H=>zjc (oF rfl (oL rfl (H.cell 3 rfl rfl) ?_)))
   refine sw (zl [.slice ae68Alive (((((qX s (g_States[i]!)).1)[k]!).qB).length) ce68Alive,.slice ae68Bags (((((qX s (g_States[i]!)).1)[k]!).qE).length) ce68Bags,.slice ae68Around (((((qX s (g_States[i]!)).1)[k]!).qC).length) ce68Around] isAgg38 sizeOf38 rfl (qF (H.cells 0 rfl) 0 3) ?_)
   obtain ⟨G73,hn74,h75⟩:=H.rowIsR (α:=qM) 4 rfl 9 rfl qj
   refine sw (oq (args_eq (by rw [← hn74]) (find_ok _ ((zU g_States (qX s (g_States[i]!)).1 k).1) (((qX s (g_States[i]!)).1)[k]!) (hn74▸h75) (H.get 0 rfl).1 (H.get 1 rfl).1 (H.get 2 rfl).1)) H fun w77 H=>sp (yI (firstIdx (fun zz=>decide (((zU g_States (qX s (g_States[i]!)).1 k).1)[zz]! =(((qX s (g_States[i]!)).1)[k]!))) ((zU g_States (qX s (g_States[i]!)).1 k).1).length)) (zjcc ?_))
   refine sps [yI (firstIdx (fun zz=>decide (((zU g_States (qX s (g_States[i]!)).1 k).1)[zz]! =(((qX s (g_States[i]!)).1)[k]!))) ((zU g_States (qX s (g_States[i]!)).1 k).1).length),.bool (decide ((firstIdx (fun zz=>decide (((zU g_States (qX s (g_States[i]!)).1 k).1)[zz]! =(((qX s (g_States[i]!)).1)[k]!))) ((zU g_States (qX s (g_States[i]!)).1 k).1).length:Int) < 0))] (zjn (cD rfl (fun h79=>?_) (fun h79=>?_)))
   ·skip
    refine zcr (oF rfl (oL rfl (H.cell 3 rfl rfl) ?_))
    obtain ⟨G80,hn81,h82⟩:=H.rowIsR (α:=qM) 4 rfl 9 rfl qj
    refine sw (oq (args_eq (by rw [← hn81]) (sizeS_ok _ ((zU g_States (qX s (g_States[i]!)).1 k).1) (hn81▸h82))) H fun w84 H=>sp (yI (((zU g_States (qX s (g_States[i]!)).1 k).1).length)) (zjn (xX (oF rfl (oL rfl (H.cell 3 rfl rfl) (sw (zl [.slice ae68Alive (((((qX s (g_States[i]!)).1)[k]!).qB).length) ce68Alive,.slice ae68Bags (((((qX s (g_States[i]!)).1)[k]!).qE).length) ce68Bags,.slice ae68Around (((((qX s (g_States[i]!)).1)[k]!).qC).length) ce68Around] isAgg38 sizeOf38 rfl (qF (H.cells 0 rfl) 0 3) ?_)))))))
    refine sw (zI H underlying47 ti38 [.slice ae68Alive (((((qX s (g_States[i]!)).1)[k]!).qB).length) ce68Alive,.slice ae68Bags (((((qX s (g_States[i]!)).1)[k]!).qE).length) ce68Bags,.slice ae68Around (((((qX s (g_States[i]!)).1)[k]!).qC).length) ce68Around] fun b86 w87 H=>sw (zO H 5 rfl 0 rfl underlying47 ti38 rfl qj rfl rfl rfl (by simp [Value.oneCell',Value.cells]) qp qf fun a88 c89 w90 H=>?_))
    replace H:=H.Xy 9 rfl 0 rfl 1 rfl 2 rfl
    replace N:Fresh w.heap.size [(vI++(Fe68Alive++Fe68Bags++Fe68Around)),P69,jQ]:=(N.pick [0,1,2,5,3,4]).join.join.swap.join
    refine oF rfl (sw (xP H 4 [.slice a88 (zQ+1) c89,.slice jI jv jH] sizeOf47 fun w91 H=>zjn (xX (sps [.slice a_own n_own c_own,yI (((zU g_States (qX s (g_States[i]!)).1 k).1).length)] (sw (zI H underlying22 ti2 [yI (((zU g_States (qX s (g_States[i]!)).1 k).1).length)] fun b92 w93 H=>sw (zO H 3 rfl 0 rfl underlying22 ti2 rfl qj rfl rfl rfl (by simp [Value.oneCell',Value.cells]) qp qf fun a94 c95 w96 H=>?_)))))))
    rw [snocI] at H
    refine sp (.slice a94 (n_own+1) c95) (xY (b_n (t_n (xX (sw (zD k 1 rfl rfl qf (sp (yI (k+1)) (xY ?_))))))))
    refine xg (m' :=((((qX s (g_States[i]!)).1).length) - ((k+1):Int)).toNat) qf ⟨_,a94,n_own+1,c95,(((zU g_States (qX s (g_States[i]!)).1 k).2)++[(((zU g_States (qX s (g_States[i]!)).1 k).1).length:Int)]),k+1,a88,zQ+1,c89,(((zU g_States (qX s (g_States[i]!)).1 k).1)++[⟨(((qX s (g_States[i]!)).1)[k]!).qB,(((qX s (g_States[i]!)).1)[k]!).qE,(((qX s (g_States[i]!)).1)[k]!).qC⟩]),jR++[.slice ae68Alive (((((qX s (g_States[i]!)).1)[k]!).qB).length) ce68Alive,.slice ae68Bags (((((qX s (g_States[i]!)).1)[k]!).qE).length) ce68Bags,.slice ae68Around (((((qX s (g_States[i]!)).1)[k]!).qC).length) ce68Around],(vI++(Fe68Alive++Fe68Bags++Fe68Around)),P69,uE8,?_,?_,?_,rfl,(N.pick [2,0,1]),H.pick [3,4,5,6,7,8,9,10,11,12] [5,7,8,9,0,11,12,13,14,15]⟩
    · first | exact (Vk (k:=k) ‹_›).2 | (refine Eq.trans ?_ (Vl (k:=k) ‹_›).2;congr 2 <;> omega)
    · first | exact (Vl (k:=k) ‹_›).1 | exact (Vk (k:=k) ‹_›).1
    · omega
   refine qV (t_n (xX (sps [.slice a_own n_own c_own,yI (firstIdx (fun zz=>decide (((zU g_States (qX s (g_States[i]!)).1 k).1)[zz]! =(((qX s (g_States[i]!)).1)[k]!))) ((zU g_States (qX s (g_States[i]!)).1 k).1).length)] (sw (zI H underlying22 ti2 [yI (firstIdx (fun zz=>decide (((zU g_States (qX s (g_States[i]!)).1 k).1)[zz]! =(((qX s (g_States[i]!)).1)[k]!))) ((zU g_States (qX s (g_States[i]!)).1 k).1).length)] fun b97 w98 H=>?_)))))
   refine sw (zO H 2 rfl 0 rfl underlying22 ti2 rfl qj rfl rfl rfl (by simp [Value.oneCell',Value.cells]) qp qf fun a99 c100 w101 H=>?_)
   rw [snocI] at H
   refine sp (.slice a99 (n_own+1) c100) (xY (b_n (t_n (xX (sw (zD k 1 rfl rfl qf (sp (yI (k+1)) (xY ?_))))))))
   refine xg (m' :=((((qX s (g_States[i]!)).1).length) - ((k+1):Int)).toNat) qf ⟨_,a99,n_own+1,c100,(((zU g_States (qX s (g_States[i]!)).1 k).2)++[firstIdx (fun zz=>decide (((zU g_States (qX s (g_States[i]!)).1 k).1)[zz]! =(((qX s (g_States[i]!)).1)[k]!))) ((zU g_States (qX s (g_States[i]!)).1 k).1).length]),k+1,jX,zQ,jU,((zU g_States (qX s (g_States[i]!)).1 k).1),jR,vI,P69,uE8,?_,?_,?_,rfl,(N.pick [4,5,3]),H.pick [2,3,4,5,6,7,8,9,10,11] [4,6,7,8,9,10,11,12,13,14]⟩
   · first | exact (Vk (k:=k) ‹_›).2 | (refine Eq.trans ?_ (Vl (k:=k) ‹_›).2;congr 2 <;> omega)
   · first | exact (Vl (k:=k) ‹_›).1 | exact (Vk (k:=k) ‹_›).1
   · omega
  refine zx4 (zcc (oF rfl (oL rfl (H.cell 2 rfl rfl) (oN rfl (sp (.bool (decide ((zQ:Int) > 300))) (zjn (cD rfl (fun h102=>?_) (fun h102=>?_))))))))
  ·skip
   refine zcr (sw (jk [yN,yN] [] (sw (zy H 4 [yN,yN] sizeOf59 fun w103 H=>sp (yI 3) (zjr (t_r (zr5 (retC2 H 4 rfl (yI 3) rfl isAgg59 sizeOf59 rfl rfl ⟨_,rfl,?_⟩))))))))
   replace H:=H.erases [6,5,4,3,2,1,0]
   dsimp only [vJ,List.eraseIdx] at H
   refine sps [.agg #[yN,yN],yI 3] (sw (zy H 0 [yN,yN] sizeOf59 fun w104 H=>sp (yI 3) (zjr ?_)))
   replace H:=H.addNil (α:=qM)
   replace H:=H.addNil (α:=yLI)
   refine retC2 H 0 rfl (yI 3) rfl isAgg59 sizeOf59 rfl rfl ⟨_,rfl,?_,H.base⟩
   obtain ⟨z1,z2⟩:=exG_of (ex_0 k0 (kr.trans (gr_many qf qf qf (k:=k) qf qf)))
   rw [z1,z2]
   exact ⟨none,0,[],none,0,[],rfl,(N.emp.emp.pick [0,1]),H.pick [] [1,0]⟩
  refine qV (t_n (xX (oF rfl (oL rfl (H.cell 2 rfl rfl) (sp (.slice a_own n_own c_own) (sw (zI H underlying27 ti22 [.slice a_own n_own c_own] fun b105 w106 H=>?_)))))))
  obtain ⟨G110,N,hn111,H⟩:=H.vP 1 rfl N (H.yg [3,4,0])
  refine sw (zO H 2 rfl 0 rfl underlying27 ti22 rfl qj rfl rfl rfl (by simp [Value.oneCell',Value.cells]) qp qf fun a107 c108 w109 H=>?_)
  replace H:=H.yj 4 rfl 0 rfl
  replace N:Fresh w.heap.size [(jQ++G110),vI,P_k]:=(N.pick [1,0,2,3]).join
  refine oF rfl (sw (xP H 3 [.slice jX zQ jU,.slice a107 (jv+1) c108] sizeOf27 fun w112 H=>xY (b_n (t_n (xX (sp (yI i) (sw (zD i 1 rfl rfl qf (sp (yI (i+1)) (xY ?_))))))))))
  refine xg (m' :=(301 - (i+1))) qf ⟨_,i+1,jX,zQ,jU,((zU g_States (qX s (g_States[i]!)).1 k).1),jR,vI,a107,jv+1,c108,(g_Next++[((zU g_States (qX s (g_States[i]!)).1 k).2)]),Q4++[.slice a_own n_own c_own],(jQ++G110),uE4,?_,?_,?_,?_,?_,?_,rfl,(N.pick [1,0]),H.pick [2,3,4,5,6,7,8,9,10] [0,6,7,8,9,10,11]⟩
  · exact kr.trans (gr_go qf qf qf (k:=k) qf qf)
  · exact addSt_mem ka succ_ok k qf
  · omega
  · simp;omega
  · omega
  · exact ko.next qf qf
 refine zx4 (zcr (sw (zl [.slice jM jo jq,.slice jI jv jH] isAgg59 sizeOf59 rfl (qF (H.cells 1 rfl) 0 2) (sw (zy H 3 [.slice jM jo jq,.slice jI jv jH] sizeOf59 fun w113 H=>sp (yI 0) (zjr (retC2 H 3 rfl (yI 0) rfl isAgg59 sizeOf59 rfl rfl ⟨_,rfl,?_⟩)))))))
 replace H:=H.erases [5,4,3,1]
 dsimp only [vJ,List.eraseIdx] at H
 refine sps [.agg #[.slice jM jo jq,.slice jI jv jH],yI 0] (sw (zy H 2 [.slice jM jo jq,.slice jI jv jH] sizeOf59 fun w114 H=>sp (yI 0) (zjr ?_)))
 have H0:=H
 obtain ⟨G115,hg117,hn116,H⟩:=H.Qz (α:=qM) 1 rfl 1 rfl qj
 replace N:Fresh w.heap.size [G115,jQ]:=Fresh.ice N H0 1 hg117.1 hg117.2 (H0.yg [0])
 clear H0
 obtain rfl:=H.isLen 0 rfl
 have H0:=H
 obtain ⟨G118,hg120,hn119,H⟩:=H.Qz (α:=yLI) 0 rfl 1 rfl qj
 replace N:Fresh w.heap.size [G118,G115]:=Fresh.ice (N.pick [1,0]) H0 0 hg120.1 hg120.2 (H0.yg [0])
 clear H0
 obtain rfl:=H.isLen 0 rfl
 refine retC2 H 2 rfl (yI 0) rfl isAgg59 sizeOf59 rfl rfl ⟨_,rfl,?_,H.base⟩
 obtain ⟨z1,z2⟩:=exG_of (ex_0 k0 (kr.trans (gr_end qf)))
 rw [z1,z2]
 exact ⟨jM,jq,G115,jI,jH,G118,rfl,(N.pick [1,0]),H.pick [] [1,0]⟩
theorem specIC_ok (w:World) (s:qL) (t:qM) {qA:yOA} {qW:yLN} {qK:yOA} {xy:yLN} {qR:yOA} {xJ:yLN} {xh:yOA} {zn:yLN} {qJ:yOA} {xw:yLN} (xf:qP.rep w qW [.slice qA s.qw.length qy] s.qw) (xG:qP.rep w xy [.slice qK s.qx.length qH] s.qx) (zh:qP.rep w xJ [.slice qR t.qB.length qO] t.qB) (zJ:qP.rep w zn [.slice xh t.qE.length qZ] t.qE) (xK:qP.rep w xw [.slice qJ t.qC.length qI] t.qC):Calls Tryz.prog 38 #[.agg #[yI s.xB,.slice qA s.qw.length qy,.slice qK s.qx.length qH],.agg #[.slice qR t.qB.length qO,.slice xh t.qE.length qZ,.slice qJ t.qC.length qI]] w (Ret (fun v w' =>v=.tuple #[.bool ((Q9 s t).1),yI ((Q9 s t).2)]) w):=by
 refine en func38 ntmps38 ?_
 have H:=(((((St.start w).arg xK).arg zJ).arg zh).arg xG).arg xf
 have ve:=qN xf
 have jh:=qN xG
 have yM:=qN zh
 have Qr:=qN zJ
 have jF:=qN xK
 clear xf xG zh zJ xK
 have N:=Fresh.nil w.heap.size
 refine zcr (sw (vz H (yS s qA qy qK qH) fun b1 w2 H=>sw (vz H (yT t qR qO xh qZ qJ qI) fun b3 w4 H=>sps [.bool false,yI 0] (zjc (sw (zl (yS s qA qy qK qH) isAgg36 sizeOf36 rfl (qF (H.cells 1 rfl) 0 3) ?_))))))
 refine sw (zl (yT t qR qO xh qZ qJ qI) isAgg38 sizeOf38 rfl (qF (H.cells 0 rfl) 0 3) ?_)
 have sz8:=H.base.size
 refine sw (oc (specEx_ok _ s t (H.get 0 rfl).1 (H.get 1 rfl).1 (H.get 2 rfl).1 (H.get 3 rfl).1 (H.get 4 rfl).1) ?_)
 rintro _ w6 ⟨ra5aStates,rc5aStates,rF5aStates,ra5aNext,rc5aNext,rF5aNext,rfl,M,K⟩ _
 replace N:=N.merge sz8 qm M
 replace H:=H.merge K M
 refine sps [.tuple #[.agg #[.slice ra5aStates (((exG s t).zt).length) rc5aStates,.slice ra5aNext (((exG s t).fNext).length) rc5aNext],yI ((Xa s t).2)],.agg #[.slice ra5aStates (((exG s t).zt).length) rc5aStates,.slice ra5aNext (((exG s t).fNext).length) rc5aNext],yI ((Xa s t).2)] (sw (xI H ti59 [yN,yN] fun b10 w11 H=>sw (zy H 0 [.slice ra5aStates (((exG s t).zt).length) rc5aStates,.slice ra5aNext (((exG s t).fNext).length) rc5aNext] sizeOf59 fun w12 H=>sp (yI ((Xa s t).2)) (zjcc (sps [yI ((Xa s t).2),.bool (((Xa s t).2:Int) != 0)] ?_)))))
 refine zjn (xF (((Xa s t).2:Int) != 0) rfl (fun h13=>?_) (fun h13=>?_))
 ·skip
  replace h13:=bne_iff_ne.1 h13
  refine zcr (sps [yI ((Xa s t).2),.bool false,yI ((Xa s t).2)] (zjr (t_r (ret2 (.bool false) (yI ((Xa s t).2)) rfl rfl rfl ⟨_,rfl,?_,H.base⟩))))
  rw [ic_c ‹_›]
 replace h13:=xA h13
 have c0:(Xa s t).2=0:=by omega
 have ga:=ex_all c0
 have k0:=ex_valid c0
 have k1:=k0.1
 have gp:=ga.pos
 have gl:=ga.le
 have gn:=ga.len
 refine qV (t_n (zcr (sw (zZ #[pp b10 0] rfl rfl call81 (en func81 ntmps81 ?_)))))
 refine zcr (sps [yN,.bool false] (zjc (sps [pp b10 0,pp b10 0] (oF rfl (oL rfl (H.cell 0 rfl rfl) (oN rfl (sp (yI (((exG s t).fNext).length)) (zjc (sp (yI (((exG s t).fNext).length)) (sw (jr H underlying22 ti2 (((exG s t).fNext).length) rfl rfl qf qf qf fun b14 w15 H=>sp (.slice (aa b14 0) (((exG s t).fNext).length) (((exG s t).fNext).length)) (zjc (sp (yI (((exG s t).fNext).length)) ?_)))))))))))))
 refine sw (o_makeB H underlying26 ti4 (((exG s t).fNext).length) rfl rfl qf qf qf fun b16 w17 H=>sp (.slice (aa b16 0) (((exG s t).fNext).length) (((exG s t).fNext).length)) (zjc (sps [yI (((exG s t).fNext).length),yI (((exG s t).fNext).length)] (zjn (xU (qY ?_))))))
 refine zB (fun m' ρ w18=>∃ (xN:Env) (left:Int) (done:List Bool) (depth:yLI),ρ=upd (upd (upd (upd (upd xN 0 (pp b10 0)) 4 (yI (((exG s t).fNext).length))) 5 (.slice (aa b14 0) (((exG s t).fNext).length) (((exG s t).fNext).length))) 6 (.slice (aa b16 0) (((exG s t).fNext).length) (((exG s t).fNext).length))) 7 (yI left)∧(LayI (exG s t).fNext depth done left)∧m' =(left:Int).toNat∧Fresh w.heap.size [rF5aStates,rF5aNext]∧St w w18 [rr (aa b16 0) (((exG s t).fNext).length) (((exG s t).fNext).length) 4 1 (done.map (Value.bool)),rr (aa b14 0) (((exG s t).fNext).length) (((exG s t).fNext).length) 2 1 (depth.map (Value.int .i64)),.box b10 [.slice ra5aStates (((exG s t).zt).length) rc5aStates,.slice ra5aNext (((exG s t).fNext).length) rc5aNext] 59,.box b3 (yT t qR qO xh qZ qJ qI) 38,.box b1 (yS s qA qy qK qH) 36] [sF true rF5aStates ra5aStates rc5aStates ((exG s t).zt),sF true rF5aNext ra5aNext rc5aNext ((exG s t).fNext),sF false qW qA qy s.qw,sF false xy qK qH s.qx,sF false xJ qR qO t.qB,sF false zn xh qZ t.qE,sF false xw qJ qI t.qC]) (((((exG s t).fNext).length):Int).toNat) ⟨_,((exG s t).fNext).length,(List.replicate (((exG s t).fNext).length) (false)),(List.replicate (((exG s t).fNext).length) (0:Int)),uE5,(by exact LayI.start (exG s t).fNext),rfl,N,H⟩ ?_
 clear H N
 rintro m' ρ w19 ⟨xN,left,done,depth,rfl,l1,rfl,N,H⟩
 have hn_done:=H.rowNB 0 rfl
 have hn_depth:=H.Xk 1 rfl
 refine zcc (sps [yI left,.bool (decide ((left:Int) > 0))] (zjn (cD rfl (fun h20=>?_) (fun h20=>?_))))
 ·skip
  refine qV (t_n (qY (zcr (sp (.bool false) (zjcc (sp (yI 0) (zjn (qY ?_))))))))
  refine zB (fun m' ρ w21=>∃ (xN:Env) (left_1:Int) (found:Bool) (i:Nat) (done_1:List Bool) (depth_1:yLI),ρ=upd (upd (upd (upd (upd (upd (upd xN 0 (pp b10 0)) 4 (yI (((exG s t).fNext).length))) 5 (.slice (aa b14 0) (((exG s t).fNext).length) (((exG s t).fNext).length))) 6 (.slice (aa b16 0) (((exG s t).fNext).length) (((exG s t).fNext).length))) 7 (yI left_1)) 8 (.bool found)) 9 (yI i)∧((i:Int)≤(((exG s t).fNext).length))∧(LayI (exG s t).fNext depth_1 done_1 left_1)∧(found=true→left_1 < left)∧(found=false→left_1=left∧NoneR (exG s t).fNext done_1 i)∧(left_1≤left)∧m' =((((exG s t).fNext).length) - (i:Int)).toNat∧Fresh w.heap.size [rF5aStates,rF5aNext]∧St w w21 [rr (aa b16 0) (((exG s t).fNext).length) (((exG s t).fNext).length) 4 1 (done_1.map (Value.bool)),rr (aa b14 0) (((exG s t).fNext).length) (((exG s t).fNext).length) 2 1 (depth_1.map (Value.int .i64)),.box b10 [.slice ra5aStates (((exG s t).zt).length) rc5aStates,.slice ra5aNext (((exG s t).fNext).length) rc5aNext] 59,.box b3 (yT t qR qO xh qZ qJ qI) 38,.box b1 (yS s qA qy qK qH) 36] [sF true rF5aStates ra5aStates rc5aStates ((exG s t).zt),sF true rF5aNext ra5aNext rc5aNext ((exG s t).fNext),sF false qW qA qy s.qw,sF false xy qK qH s.qx,sF false xJ qR qO t.qB,sF false zn xh qZ t.qE,sF false xw qJ qI t.qC]) (((((exG s t).fNext).length) - (0:Int)).toNat) ⟨_,left,false,0,done,depth,uE7,qf,ql,(by exact fun h=>by cases h),(by exact fun _=>⟨rfl,fun j hj=>by omega⟩),qf,rfl,N,H⟩ ?_
  clear H N
  rintro m' ρ w22 ⟨xN,left_1,found,i,done_1,depth_1,rfl,i0,l2,l3,l4,l5,rfl,N,H⟩
  have hn_done:=H.rowNB 0 rfl
  have hn_depth:=H.Xk 1 rfl
  refine zcc (sps [yI i,yI (((exG s t).fNext).length),.bool (decide ((i:Int) < (((exG s t).fNext).length)))] (zjn (cD rfl (fun h23=>?_) (fun h23=>?_))))
  ·skip
   refine qV (t_n (xU (qY (zcc (sps [.slice (aa b16 0) (((exG s t).fNext).length) (((exG s t).fNext).length),yI i] (oI rfl rfl (oL rfl (H.rowBool 0 rfl (iv:=i) (i:=i) qf qf) (zjn (xF (done_1[i]!) rfl (fun h24=>?_) (fun h24=>?_))))))))))
   ·skip
    refine c_exit (t_x (b_x (t_n (xX (sp (yI i) (sw (zD i 1 rfl rfl qf (sp (yI (i+1)) (xY (xg (m' :=((((exG s t).fNext).length) - ((i+1):Int)).toNat) qf ⟨_,left_1,found,i+1,done_1,depth_1,uE7,?_,?_,?_,?_,?_,rfl,N,H⟩))))))))))
    · omega
    · first | assumption | exact l2.set qf ql (fun q hq=>by have:=(ga.ok.rows i qf q hq).2;omega) (fun q hq=>rdTo_true ‹rdTo _ _ _=true› q qf) qf
    · first | assumption | exact fun _=>by omega
    · first | exact fun h=>Bool.noConfusion h | exact fun h=>⟨(l4 h).1,(l4 h).2.succ (.inl ql)⟩ | exact fun h=>⟨(l4 h).1,(l4 h).2.succ (.inr (by obtain ⟨q,h1,h2⟩:=rdTo_false ‹rdTo _ _ _=false›;exact ⟨q,by omega,h2⟩))⟩
    · omega
   refine qV (t_n (zcr (sp (.bool true) (zjc (sp (yI 0) (zjcc (sp (yI 0) (zjn (qY ?_)))))))))
   refine zB (fun m' ρ w25=>∃ (xN:Env) (ready:Bool) (best:Int) (k:Nat),ρ=upd (upd (upd (upd (upd (upd (upd (upd (upd (upd xN 0 (pp b10 0)) 4 (yI (((exG s t).fNext).length))) 5 (.slice (aa b14 0) (((exG s t).fNext).length) (((exG s t).fNext).length))) 6 (.slice (aa b16 0) (((exG s t).fNext).length) (((exG s t).fNext).length))) 7 (yI left_1)) 8 (.bool found)) 9 (yI i)) 10 (.bool ready)) 11 (yI best)) 12 (yI k)∧ready=(rdTo done_1 ((exG s t).fNext[i]!) k)∧best=(mxF (fun j=>depth_1[j]!) ((exG s t).fNext[i]!) k)∧((k:Int)≤((((exG s t).fNext)[i]!).length))∧m' =(((((exG s t).fNext)[i]!).length) - (k:Int)).toNat∧Fresh w.heap.size [rF5aStates,rF5aNext]∧St w w25 [rr (aa b16 0) (((exG s t).fNext).length) (((exG s t).fNext).length) 4 1 (done_1.map (Value.bool)),rr (aa b14 0) (((exG s t).fNext).length) (((exG s t).fNext).length) 2 1 (depth_1.map (Value.int .i64)),.box b10 [.slice ra5aStates (((exG s t).zt).length) rc5aStates,.slice ra5aNext (((exG s t).fNext).length) rc5aNext] 59,.box b3 (yT t qR qO xh qZ qJ qI) 38,.box b1 (yS s qA qy qK qH) 36] [sF true rF5aStates ra5aStates rc5aStates ((exG s t).zt),sF true rF5aNext ra5aNext rc5aNext ((exG s t).fNext),sF false qW qA qy s.qw,sF false xy qK qH s.qx,sF false xJ qR qO t.qB,sF false zn xh qZ t.qE,sF false xw qJ qI t.qC]) ((((((exG s t).fNext)[i]!).length) - (0:Int)).toNat) ⟨_,true,0,0,uE10,(by rfl),(by rfl),qf,rfl,N,H⟩ ?_
   clear H N
   rintro m' ρ w26 ⟨xN,ready,best,k,rfl,rfl,rfl,i0,rfl,N,H⟩
   refine zcc (sps [yI k,pp b10 0,pp b10 0] (oF rfl (oL rfl (H.cell 2 rfl rfl) (sp (yI i) ?_))))
   obtain ⟨b27,o28,rfl⟩:=H.addr 1 rfl qf
   obtain ⟨ae30,ce30,Fe30,H⟩:=H.vH 1 rfl i i qf qf qf
   refine oI rfl rfl (oL rfl (H.xR 1 rfl 0 rfl) (oN rfl (sp (.bool (decide ((k:Int) < ((((exG s t).fNext)[i]!).length)))) (zjn (cD rfl (fun h31=>?_) (fun h31=>?_))))))
   ·skip
    obtain ⟨r1,r2⟩:=ga.ok.rows i qf k qf
    have r3:=l2.nn ((((exG s t).fNext[i]!)[k]!).toNat) qf
    have r4:=l2.ol
    have r5:=l2.dl
    have r6:=l2.lf
    have r7:=List.count_le_length (a:=true) (l:=done_1)
    have r8:=ga.ok.lens i qf
    refine qV (t_n (xU (qY (zcr (sps [pp b10 0,pp b10 0] (oF rfl (oL rfl (H.cell 2 rfl rfl) (sp (yI i) (oI rfl rfl (oL rfl (H.xR 1 rfl 0 rfl) (sp (yI k) ?_)))))))))))
    obtain ⟨b32,o33,rfl⟩:=H.addr 0 rfl qf
    refine oI rfl rfl (oL rfl (H.jy 0 rfl k qf qf) (sp (yI ((((exG s t).fNext)[i]!)[k]!)) (zjc (sps [.bool (rdTo done_1 ((exG s t).fNext[i]!) k),.bool (rdTo done_1 ((exG s t).fNext[i]!) k)] ?_))))
    cases h35:((rdTo done_1 ((exG s t).fNext[i]!) k))
    ·skip
     refine xZ [59,60,61,62] (sps [.bool false,.bool false] (zjn (xX (sps [yI (mxF (fun j=>depth_1[j]!) ((exG s t).fNext[i]!) k),.slice (aa b14 0) (((exG s t).fNext).length) (((exG s t).fNext).length),yI ((((exG s t).fNext)[i]!)[k]!)] (oI rfl rfl (oL rfl (H.rowInt 1 rfl (iv:=(((exG s t).fNext)[i]!)[k]!) (i:=(((((exG s t).fNext)[i]!)[k]!).toNat)) qf qf) (sw (zD (depth_1[((((exG s t).fNext)[i]!)[k]!).toNat]!) 1 rfl rfl qf (sw (oq (l00Max_ok w26 (mxF (fun j=>depth_1[j]!) ((exG s t).fNext[i]!) k) ((depth_1[((((exG s t).fNext)[i]!)[k]!).toNat]!)+1)) H fun w37 H=>?_))))))))))
     refine sp (yI (max (mxF (fun j=>depth_1[j]!) ((exG s t).fNext[i]!) k) ((depth_1[((((exG s t).fNext)[i]!)[k]!).toNat]!)+1))) (xY (b_n (t_n (xX (sp (yI k) (sw (zD k 1 rfl rfl qf (sp (yI (k+1)) (xY (xg (m' :=(((((exG s t).fNext)[i]!).length) - ((k+1):Int)).toNat) qf ⟨_,false,max (mxF (fun j=>depth_1[j]!) ((exG s t).fNext[i]!) k) ((depth_1[((((exG s t).fNext)[i]!)[k]!).toNat]!)+1),k+1,uE10,?_,?_,?_,rfl,N,H.pick [0,1,2,3,4] [2,3,4,5,6,7,8]⟩))))))))))
     · first | rfl | (rw [rdTo,‹rdTo _ _ _=false›];rfl) | (rw [rdTo,‹rdTo _ _ _=true›];rfl)
     · rfl
     · omega
    refine qQ 58 rfl rfl (sp (.slice (aa b16 0) (((exG s t).fNext).length) (((exG s t).fNext).length)) (qQ 58 rfl rfl (sp (yI ((((exG s t).fNext)[i]!)[k]!)) (qQ 58 rfl rfl (oI rfl rfl (qQ 58 rfl rfl (oL rfl (H.rowBool 0 rfl (iv:=(((exG s t).fNext)[i]!)[k]!) (i:=(((((exG s t).fNext)[i]!)[k]!).toNat)) qf qf) (sps [.bool (done_1[((((exG s t).fNext)[i]!)[k]!).toNat]!),.bool (done_1[((((exG s t).fNext)[i]!)[k]!).toNat]!)] (zjn (xX ?_))))))))))
    refine sps [yI (mxF (fun j=>depth_1[j]!) ((exG s t).fNext[i]!) k),.slice (aa b14 0) (((exG s t).fNext).length) (((exG s t).fNext).length),yI ((((exG s t).fNext)[i]!)[k]!)] (oI rfl rfl (oL rfl (H.rowInt 1 rfl (iv:=(((exG s t).fNext)[i]!)[k]!) (i:=(((((exG s t).fNext)[i]!)[k]!).toNat)) qf qf) (sw (zD (depth_1[((((exG s t).fNext)[i]!)[k]!).toNat]!) 1 rfl rfl qf (sw (oq (l00Max_ok w26 (mxF (fun j=>depth_1[j]!) ((exG s t).fNext[i]!) k) ((depth_1[((((exG s t).fNext)[i]!)[k]!).toNat]!)+1)) H fun w40 H=>?_))))))
    refine sp (yI (max (mxF (fun j=>depth_1[j]!) ((exG s t).fNext[i]!) k) ((depth_1[((((exG s t).fNext)[i]!)[k]!).toNat]!)+1))) (xY (b_n (t_n (xX (sp (yI k) (sw (zD k 1 rfl rfl qf (sp (yI (k+1)) (xY (xg (m' :=(((((exG s t).fNext)[i]!).length) - ((k+1):Int)).toNat) qf ⟨_,done_1[((((exG s t).fNext)[i]!)[k]!).toNat]!,max (mxF (fun j=>depth_1[j]!) ((exG s t).fNext[i]!) k) ((depth_1[((((exG s t).fNext)[i]!)[k]!).toNat]!)+1),k+1,uE10,?_,?_,?_,rfl,N,H.pick [0,1,2,3,4] [2,3,4,5,6,7,8]⟩))))))))))
    · first | rfl | (rw [rdTo,‹rdTo _ _ _=false›];rfl) | (rw [rdTo,‹rdTo _ _ _=true›];rfl)
    · rfl
    · omega
   refine zx4 (zcr (sp (.bool (rdTo done_1 ((exG s t).fNext[i]!) k)) (zjn (xF ((rdTo done_1 ((exG s t).fNext[i]!) k)) rfl (fun h42=>?_) (fun h42=>?_)))))
   ·skip
    have r4:=l2.ol
    have r6:=l2.lf
    have r7:=List.count_le_length (a:=true) (l:=done_1)
    refine zcr (sps [.slice (aa b16 0) (((exG s t).fNext).length) (((exG s t).fNext).length),yI i] (oI rfl rfl (sw (Qm H 0 rfl true sizeOf4 rfl rfl (i:=i) qf qf fun w43 H=>zjc (sps [.slice (aa b14 0) (((exG s t).fNext).length) (((exG s t).fNext).length),yI i,yI (mxF (fun j=>depth_1[j]!) ((exG s t).fNext[i]!) k)] (oI rfl rfl (sw (QW H 1 rfl (mxF (fun j=>depth_1[j]!) ((exG s t).fNext[i]!) k) sizeOf2 rfl rfl (i:=i) qf qf fun w44 H=>zjc (sp (.bool true) (zjn (xX (sp (yI left_1) ?_))))))))))))
    refine sw (o_sub left_1 1 rfl rfl qf (sp (yI (left_1 - 1)) (xY (b_n (t_n (xX (sp (yI i) (sw (zD i 1 rfl rfl qf (sp (yI (i+1)) (xY (xg (m' :=((((exG s t).fNext).length) - ((i+1):Int)).toNat) qf ⟨_,left_1 - 1,true,i+1,(done_1.set i true),(depth_1.set i (mxF (fun j=>depth_1[j]!) ((exG s t).fNext[i]!) k)),uE7,?_,?_,?_,?_,?_,rfl,N,H.pick [0,1,2,3,4] [2,3,4,5,6,7,8]⟩))))))))))))
    · omega
    · first | assumption | exact l2.set qf ql (fun q hq=>by have:=(ga.ok.rows i qf q hq).2;omega) (fun q hq=>rdTo_true ‹rdTo _ _ _=true› q qf) qf
    · first | assumption | exact fun _=>by omega
    · first | exact fun h=>Bool.noConfusion h | exact fun h=>⟨(l4 h).1,(l4 h).2.succ (.inl ql)⟩ | exact fun h=>⟨(l4 h).1,(l4 h).2.succ (.inr (by obtain ⟨q,h1,h2⟩:=rdTo_false ‹rdTo _ _ _=false›;exact ⟨q,by omega,h2⟩))⟩
    · omega
   refine qV (b_n (t_n (xX (sp (yI i) (sw (zD i 1 rfl rfl qf (sp (yI (i+1)) (xY (xg (m' :=((((exG s t).fNext).length) - ((i+1):Int)).toNat) qf ⟨_,left_1,found,i+1,done_1,depth_1,uE7,?_,?_,?_,?_,?_,rfl,N,H.pick [0,1,2,3,4] [2,3,4,5,6,7,8]⟩)))))))))
   · omega
   · first | assumption | exact l2.set qf ql (fun q hq=>by have:=(ga.ok.rows i qf q hq).2;omega) (fun q hq=>rdTo_true ‹rdTo _ _ _=true› q qf) qf
   · first | assumption | exact fun _=>by omega
   · first | exact fun h=>Bool.noConfusion h | exact fun h=>⟨(l4 h).1,(l4 h).2.succ (.inl ql)⟩ | exact fun h=>⟨(l4 h).1,(l4 h).2.succ (.inr (by obtain ⟨q,h1,h2⟩:=rdTo_false ‹rdTo _ _ _=false›;exact ⟨q,by omega,h2⟩))⟩
   · omega
  refine zx4 (zcr (sps [.bool found,.bool !found] (zjn (xF (!found) rfl (fun h45=>?_) (fun h45=>?_)))))
  ·skip
   replace h45:=xq h45
   obtain ⟨e1,e2⟩:=l4 (by cases found <;> simp_all)
   refine zcr (sps [.slice (aa b14 0) (((exG s t).fNext).length) (((exG s t).fNext).length),.slice (aa b14 0) (((exG s t).fNext).length) (((exG s t).fNext).length),.bool false] (zjr (b_r (t_r (b_r (t_r (ret2 (.slice (aa b14 0) (((exG s t).fNext).length) (((exG s t).fNext).length)) (.bool false) rfl rfl rfl ⟨_,rfl,?_⟩)))))))
   replace H:=H.erases [0]
   dsimp only [vJ,List.eraseIdx] at H
   refine sps [.tuple #[.slice (aa b14 0) (((exG s t).fNext).length) (((exG s t).fNext).length),.bool false],.slice (aa b14 0) (((exG s t).fNext).length) (((exG s t).fNext).length),.bool false,.slice (aa b14 0) (((exG s t).fNext).length) (((exG s t).fNext).length),.bool false] (zjc (sps [.bool false,.bool false] (xZ [25,26,27] (sps [.bool false,.bool false,yI 0] (zjr (ret2 (.bool false) (yI 0) rfl rfl rfl ⟨_,rfl,?_,H.base⟩))))))
   rw [ic_n c0 (lay_not l2 qf ga.ok gn (by rw [show (exG s t).fNext.length=i by omega];exact e2))]
  replace h45:=xk h45
  have l6:=l3 (by cases found <;> simp_all)
  refine qV (b_n (xg (m' :=(left_1:Int).toNat) qf ⟨_,left_1,done_1,depth_1,uE5,?_,rfl,N,H⟩))
  · assumption
 refine zx4 (zcr (sps [.slice (aa b14 0) (((exG s t).fNext).length) (((exG s t).fNext).length),.slice (aa b14 0) (((exG s t).fNext).length) (((exG s t).fNext).length),.bool true] (zjr (ret2 (.slice (aa b14 0) (((exG s t).fNext).length) (((exG s t).fNext).length)) (.bool true) rfl rfl rfl ⟨_,rfl,?_⟩))))
 replace H:=H.erases [0]
 dsimp only [vJ,List.eraseIdx] at H
 refine sps [.tuple #[.slice (aa b14 0) (((exG s t).fNext).length) (((exG s t).fNext).length),.bool true],.slice (aa b14 0) (((exG s t).fNext).length) (((exG s t).fNext).length),.bool true,.slice (aa b14 0) (((exG s t).fNext).length) (((exG s t).fNext).length),.bool true] (zjc (sps [.bool true,.bool true] (qQ 24 rfl rfl (sw (zZ #[pp b1 0,pp b10 0] rfl rfl call83 (en func83 ntmps83 ?_))))))
 refine zcr (sp yN (zjc (sw (vU H underlying47 ti38 fun b46 w47 H=>sp (.slice (aa b46 0) 0 0) (zjcc (sp (yI 0) (zjn (qY ?_))))))))
 replace H:=H.boxRow 0 rfl 3 0 rfl qj
 replace H:=H.vN (α:=qM)
 replace H:St _ _ [rr (aa b46 0) 0 0 38 3 [],rr (aa b14 0) (((exG s t).fNext).length) (((exG s t).fNext).length) 2 1 (depth.map (Value.int .i64)),.box b10 [.slice ra5aStates (((exG s t).zt).length) rc5aStates,.slice ra5aNext (((exG s t).fNext).length) rc5aNext] 59,.box b3 (yT t qR qO xh qZ qJ qI) 38,.box b1 (yS s qA qy qK qH) 36] [zk true [] [] ([]:List qM),sF true rF5aStates ra5aStates rc5aStates ((exG s t).zt),sF true rF5aNext ra5aNext rc5aNext ((exG s t).fNext),sF false qW qA qy s.qw,sF false xy qK qH s.qx,sF false xJ qR qO t.qB,sF false zn xh qZ t.qE,sF false xw qJ qI t.qC]:=H
 refine zB (fun m' ρ w48=>∃ (xN:Env) (vk:yOA) (zq:Nat) (zT:Nat) (out:List qM) (Ql:List Value) (yG:yLN) (i:Nat),ρ=upd (upd (upd (upd xN 0 (pp b1 0)) 1 (pp b10 0)) 5 (.slice vk zq zT)) 6 (yI i)∧out=(endsL s (exG s t).zt i)∧((i:Int)≤(((exG s t).zt).length))∧m' =((((exG s t).zt).length) - (i:Int)).toNat∧Fresh w.heap.size [rF5aStates,rF5aNext,yG]∧St w w48 [rr vk zq zT 38 3 Ql,rr (aa b14 0) (((exG s t).fNext).length) (((exG s t).fNext).length) 2 1 (depth.map (Value.int .i64)),.box b10 [.slice ra5aStates (((exG s t).zt).length) rc5aStates,.slice ra5aNext (((exG s t).fNext).length) rc5aNext] 59,.box b3 (yT t qR qO xh qZ qJ qI) 38,.box b1 (yS s qA qy qK qH) 36] [zk true yG Ql out,sF true rF5aStates ra5aStates rc5aStates ((exG s t).zt),sF true rF5aNext ra5aNext rc5aNext ((exG s t).fNext),sF false qW qA qy s.qw,sF false xy qK qH s.qx,sF false xJ qR qO t.qB,sF false zn xh qZ t.qE,sF false xw qJ qI t.qC]) (((((exG s t).zt).length) - (0:Int)).toNat) ⟨_,(aa b46 0),0,0,([]:List qM),[],[],0,uE4,(by rfl),qf,rfl,(N.emp.pick [1,2,0]),H⟩ ?_
 clear H N
 rintro m' ρ w49 ⟨xN,vk,zq,zT,out,Ql,yG,i,rfl,rfl,i0,rfl,N,H⟩
 have hn_out:=H.zo (α:=qM) 0 rfl 0 rfl qj
 have el:=ends_len s (exG s t).zt i
 refine zcc (sps [yI i,pp b10 0,pp b10 0] (oF rfl (oL rfl (H.cell 2 rfl rfl) (oN rfl (sp (.bool (decide ((i:Int) < (((exG s t).zt).length)))) (zjn (cD rfl (fun h50=>?_) (fun h50=>?_))))))))
 ·skip
  have ks:=ga.st ((exG s t).zt[i]!) (mem_at (k:=i) qf rfl)
  obtain ⟨y7,y8,y9,y10⟩:=ks.sizes k1.1
  have y13:=fun k hk=>Nat.le_trans (y10 k hk) (by decide:8≤1000000)
  refine qV (t_n (xU (qY (zcr (sps [pp b1 0,pp b10 0,pp b10 0] (oF rfl (oL rfl (H.cell 2 rfl rfl) (sp (yI i) ?_))))))))
  obtain ⟨b51,o52,rfl⟩:=H.addr 1 rfl qf
  obtain ⟨ae54Alive,ce54Alive,Fe54Alive,ae54Bags,ce54Bags,Fe54Bags,ae54Around,ce54Around,Fe54Around,H⟩:=H.elem_StateD 1 rfl i i qf qf qf
  refine oI rfl rfl (sw (oq (l03Halted_ok _ s (((exG s t).zt)[i]!) (qF (H.cells 4 rfl) 0 3) (H.get 7 rfl).1 (H.get 8 rfl).1 (qF (H.get 3 rfl) 0 3) (H.get 0 rfl).1 (H.get 1 rfl).1 (H.get 2 rfl).1 qg qg) H fun w56 H=>zjn (cP rfl (fun h58=>?_) (fun h58=>?_))))
  ·skip
   refine xX (sps [.slice vk zq zT,pp b10 0,pp b10 0] (oF rfl (oL rfl (H.cell 2 rfl rfl) (sp (yI i) (oI rfl rfl ?_)))))
   have sz62:=H.base.size
   have lt63:=H.ltN (L:=[rF5aStates,rF5aNext,yG]) [5,6,4]
   refine sw (oc (l02Own_ok _ (((exG s t).zt)[i]!) (qF (H.get 3 rfl) 0 3) (H.get 0 rfl).1 (H.get 1 rfl).1 (H.get 2 rfl).1 qg qg qg qg) ?_)
   rintro _ w60 ⟨ra59Alive,rn59Alive,rc59Alive,ra59Bags,rn59Bags,rc59Bags,rx59Bags,rF59Bags,ra59Around,rn59Around,rc59Around,rfl,M,K⟩ _
   replace N:=N.merge sz62 lt63 M
   replace H:=H.merge K M
   obtain rfl:=H.rowNB 0 rfl
   obtain rfl:=H.zo (α:=yLI) 1 rfl 0 rfl qj
   obtain rfl:=H.Xk 2 rfl
   refine sw (zI H underlying47 ti38 [.slice ra59Alive (((((exG s t).zt)[i]!).qB).length) rc59Alive,.slice ra59Bags (((((exG s t).zt)[i]!).qE).length) rc59Bags,.slice ra59Around (((((exG s t).zt)[i]!).qC).length) rc59Around] fun b67 w68 H=>?_)
   obtain ⟨G72,N,hn73,H⟩:=H.freezeB 1 rfl N (H.yg [0,6,7,5])
   have H0:=H
   obtain ⟨G74,hg76,hn75,H⟩:=H.Qz (α:=yLI) 2 rfl 1 rfl qj
   replace N:Fresh w.heap.size [G74,G72,rF5aStates,rF5aNext,yG]:=Fresh.ice (N.pick [1,0,2,3,4]) H0 2 hg76.1 hg76.2 (H0.yg [0,7,8,6])
   clear H0
   obtain ⟨G77,N,hn78,H⟩:=H.vP 3 rfl N (H.yg [0,1,8,9,7])
   refine sw (zO H 4 rfl 0 rfl underlying47 ti38 rfl qj rfl rfl rfl (by simp [Value.oneCell',Value.cells]) qp qf fun a69 c70 w71 H=>?_)
   replace H:=H.Xy 8 rfl 2 rfl 1 rfl 0 rfl
   replace N:Fresh w.heap.size [(yG++(G72++G74++G77)),rF5aStates,rF5aNext]:=(N.pick [2,1,0,5,3,4]).join.join.swap.join
   refine sp (.slice a69 (zq+1) c70) (xY (b_n (t_n (xX (sp (yI i) (sw (zD i 1 rfl rfl qf (sp (yI (i+1)) (xY ?_)))))))))
   refine xg (m' :=((((exG s t).zt).length) - ((i+1):Int)).toNat) qf ⟨_,a69,zq+1,c70,((endsL s (exG s t).zt i)++[⟨(((exG s t).zt)[i]!).qB,(((exG s t).zt)[i]!).qE,(((exG s t).zt)[i]!).qC⟩]),Ql++[.slice ra59Alive (((((exG s t).zt)[i]!).qB).length) rc59Alive,.slice ra59Bags (((((exG s t).zt)[i]!).qE).length) rc59Bags,.slice ra59Around (((((exG s t).zt)[i]!).qC).length) rc59Around],(yG++(G72++G74++G77)),i+1,uE4,?_,?_,rfl,(N.pick [1,2,0]),H.pick [4,5,6,7,8] [0,10,11,12,13,14,15,16]⟩
   · first | exact ends_yes qf ‹_› | exact ends_no qf ‹_›
   · omega
  refine qV (b_n (t_n (xX (sp (yI i) (sw (zD i 1 rfl rfl qf (sp (yI (i+1)) (xY (xg (m' :=((((exG s t).zt).length) - ((i+1):Int)).toNat) qf ⟨_,vk,zq,zT,(endsL s (exG s t).zt i),Ql,yG,i+1,uE4,?_,?_,rfl,N,H.pick [0,1,2,3,4] [4,5,6,7,8,9,10,11]⟩)))))))))
  · first | exact ends_yes qf ‹_› | exact ends_no qf ‹_›
  · omega
 refine zx4 (zcr (sps [.slice vk zq zT,.slice vk zq zT] (zjr (ret1 (.slice vk zq zT) rfl rfl ⟨_,rfl,(qQ 24 rfl rfl (oN rfl (qQ 24 rfl rfl (sps [.bool ((zq:Int) == 1),.bool ((zq:Int) == 1),.bool ((zq:Int) == 1),yI 0] (zjr (ret2 (.bool ((zq:Int) == 1)) (yI 0) rfl rfl rfl ⟨_,rfl,?_,H.base⟩))))))⟩))))
 rw [ic_y c0 (lay_end (S:=(exG s t).zt) l1 qf qf).halts (i:=i) qf,dec_one (n:=zq) qf]

theorem implIC_ok (w:World) (s:qL) (t:qM) {qA:yOA} {qW:yLN} {qK:yOA} {xy:yLN} {qR:yOA} {xJ:yLN} {xh:yOA} {zn:yLN} {qJ:yOA} {xw:yLN} (xf:qP.rep w qW [.slice qA s.qw.length qy] s.qw) (xG:qP.rep w xy [.slice qK s.qx.length qH] s.qx) (zh:qP.rep w xJ [.slice qR t.qB.length qO] t.qB) (zJ:qP.rep w zn [.slice xh t.qE.length qZ] t.qE) (xK:qP.rep w xw [.slice qJ t.qC.length qI] t.qC):Calls Tryz.prog 39 #[.agg #[yI s.xB,.slice qA s.qw.length qy,.slice qK s.qx.length qH],.agg #[.slice qR t.qB.length qO,.slice xh t.qE.length qZ,.slice qJ t.qC.length qI]] w (Ret (fun v w' =>v=.tuple #[.bool ((Q9 s t).1),yI ((Q9 s t).2)]) w):=by
 refine en func39 ntmps39 ?_
 have H:=(((((St.start w).arg xK).arg zJ).arg zh).arg xG).arg xf
 have ve:=qN xf
 have jh:=qN xG
 have yM:=qN zh
 have Qr:=qN zJ
 have jF:=qN xK
 clear xf xG zh zJ xK
 have N:=Fresh.nil w.heap.size
 refine zcr (sw (vz H (yS s qA qy qK qH) fun b1 w2 H=>sw (vz H (yT t qR qO xh qZ qJ qI) fun b3 w4 H=>sps [.bool false,yI 0] (zjc (sw (zl (yS s qA qy qK qH) isAgg36 sizeOf36 rfl (qF (H.cells 1 rfl) 0 3) ?_))))))
 refine sw (zl (yT t qR qO xh qZ qJ qI) isAgg38 sizeOf38 rfl (qF (H.cells 0 rfl) 0 3) ?_)
 have sz8:=H.base.size
 refine sw (oc (implEx_ok _ s t (H.get 0 rfl).1 (H.get 1 rfl).1 (H.get 2 rfl).1 (H.get 3 rfl).1 (H.get 4 rfl).1) ?_)
 rintro _ w6 ⟨ra5aStates,rc5aStates,rF5aStates,ra5aNext,rc5aNext,rF5aNext,rfl,M,K⟩ _
 replace N:=N.merge sz8 qm M
 replace H:=H.merge K M
 refine sps [.tuple #[.agg #[.slice ra5aStates (((exG s t).zt).length) rc5aStates,.slice ra5aNext (((exG s t).fNext).length) rc5aNext],yI ((Xa s t).2)],.agg #[.slice ra5aStates (((exG s t).zt).length) rc5aStates,.slice ra5aNext (((exG s t).fNext).length) rc5aNext],yI ((Xa s t).2)] (sw (xI H ti59 [yN,yN] fun b10 w11 H=>sw (zy H 0 [.slice ra5aStates (((exG s t).zt).length) rc5aStates,.slice ra5aNext (((exG s t).fNext).length) rc5aNext] sizeOf59 fun w12 H=>sp (yI ((Xa s t).2)) (zjcc (sps [yI ((Xa s t).2),.bool (((Xa s t).2:Int) != 0)] ?_)))))
 refine zjn (xF (((Xa s t).2:Int) != 0) rfl (fun h13=>?_) (fun h13=>?_))
 ·skip
  replace h13:=bne_iff_ne.1 h13
  refine zcr (sps [yI ((Xa s t).2),.bool false,yI ((Xa s t).2)] (zjr (t_r (ret2 (.bool false) (yI ((Xa s t).2)) rfl rfl rfl ⟨_,rfl,?_,H.base⟩))))
  rw [ic_c ‹_›]
 replace h13:=xA h13
 have c0:(Xa s t).2=0:=by omega
 have ga:=ex_all c0
 have k0:=ex_valid c0
 have k1:=k0.1
 have gp:=ga.pos
 have gl:=ga.le
 have gn:=ga.len
 refine qV (t_n (zcr (sw (zl [.slice ra5aStates (((exG s t).zt).length) rc5aStates,.slice ra5aNext (((exG s t).fNext).length) rc5aNext] isAgg59 sizeOf59 rfl (qF (H.cells 0 rfl) 0 2) (sw (zZ #[.agg #[.slice ra5aStates (((exG s t).zt).length) rc5aStates,.slice ra5aNext (((exG s t).fNext).length) rc5aNext]] rfl rfl call82 (en func82 ntmps82 ?_)))))))
 refine zcr (sw (vz H [.slice ra5aStates (((exG s t).zt).length) rc5aStates,.slice ra5aNext (((exG s t).fNext).length) rc5aNext] fun b14 w15 H=>sps [yI 0,.bool false] (zjn (xU ?_))))
 refine c_cut (fun ρ w20=>∃ (xN:Env) (b16:Nat) (b17:Nat) (b18:Nat) (b19:Nat),ρ=upd (upd (upd xN 1 (pp b14 0)) 4 (pp b16 0)) 5 (pp b17 0)∧Fresh w.heap.size [rF5aStates,rF5aNext]∧St w w20 [.box b17 [.slice (aa b18 0) (((exG s t).fNext).length) (((exG s t).fNext).length)] 22,.box b16 [.slice (aa b19 0) (((exG s t).fNext).length) (((exG s t).fNext).length)] 118,rr (aa b18 0) (((exG s t).fNext).length) (((exG s t).fNext).length) 2 1 ((List.replicate (((exG s t).fNext).length) (0:Int)).map (Value.int .i64)),rr (aa b19 0) (((exG s t).fNext).length) (((exG s t).fNext).length) 3 1 ((List.replicate (((exG s t).fNext).length) (0:Int)).map (Value.int .i64)),.box b14 [.slice ra5aStates (((exG s t).zt).length) rc5aStates,.slice ra5aNext (((exG s t).fNext).length) rc5aNext] 59,.box b10 [.slice ra5aStates (((exG s t).zt).length) rc5aStates,.slice ra5aNext (((exG s t).fNext).length) rc5aNext] 59,.box b3 (yT t qR qO xh qZ qJ qI) 38,.box b1 (yS s qA qy qK qH) 36] [sF true rF5aStates ra5aStates rc5aStates ((exG s t).zt),sF true rF5aNext ra5aNext rc5aNext ((exG s t).fNext),sF false qW qA qy s.qw,sF false xy qK qH s.qx,sF false xJ qR qO t.qB,sF false zn xh qZ t.qE,sF false xw qJ qI t.qC]) ?_ ?_
 ·skip
  refine ja rfl H fun H=>?_
  refine Xo (fun ρ w26=>∃ (xN:Env) (b22:Nat) (b23:Nat) (b24:Nat),ρ=upd (upd (upd (upd (upd xN 1 (pp b14 0)) 4 (pp b23 0)) 5 (pp b24 0)) 11 (.slice (aa b22 0) (((exG s t).fNext).length) (((exG s t).fNext).length))) 14 (yI (((exG s t).fNext).length))∧Fresh w.heap.size [rF5aStates,rF5aNext]∧St w w26 [.box b24 [yN] 22,.box b23 [yN] 118,rr (aa b22 0) (((exG s t).fNext).length) (((exG s t).fNext).length) 3 1 ((List.replicate (((exG s t).fNext).length) (0:Int)).map (Value.int .i64)),.box b14 [.slice ra5aStates (((exG s t).zt).length) rc5aStates,.slice ra5aNext (((exG s t).fNext).length) rc5aNext] 59,.box b10 [.slice ra5aStates (((exG s t).zt).length) rc5aStates,.slice ra5aNext (((exG s t).fNext).length) rc5aNext] 59,.box b3 (yT t qR qO xh qZ qJ qI) 38,.box b1 (yS s qA qy qK qH) 36] [sF true rF5aStates ra5aStates rc5aStates ((exG s t).zt),sF true rF5aNext ra5aNext rc5aNext ((exG s t).fNext),sF false qW qA qy s.qw,sF false xy qK qH s.qx,sF false xJ qR qO t.qB,sF false zn xh qZ t.qE,sF false xw qJ qI t.qC]) 3 #[true,true,true,true,true,true,true,false,true,true,false,false] ?_ fun L25=>?_
  ·skip
   rintro ρ w27 ⟨xN,b22,b23,b24,rfl,N,H⟩
   refine vS [7,10] qh qm (jA rfl ?_ (jA rfl ?_ vT))
   ·skip
    refine jr H underlying22 ti2 (((exG s t).fNext).length) rfl rfl qf qf qf fun b28 w29 H=>⟨H.pick [4,5,6,7] [0,1,2,3,4,5,6],(ro 10 rfl (xP H 2 [.slice (aa b22 0) (((exG s t).fNext).length) (((exG s t).fNext).length)] sizeOf118 fun w30 H=>⟨H.pick [4,5,6,7] [0,1,2,3,4,5,6],(ro 11 rfl (xP H 1 [.slice (aa b28 0) (((exG s t).fNext).length) (((exG s t).fNext).length)] sizeOf22 fun w31 H=>⟨H.pick [4,5,6,7] [0,1,2,3,4,5,6],(xH qh ((meet ⟨_,b23,b24,b28,b22,uE3,N,H.pick [1,2,0,3,4,5,6,7] [0,1,2,3,4,5,6]⟩)))⟩))⟩))⟩
   refine xP H 1 [.slice (aa b22 0) (((exG s t).fNext).length) (((exG s t).fNext).length)] sizeOf118 fun w32 H=>⟨H.pick [3,4,5,6] [0,1,2,3,4,5,6],(ro 7 rfl (jr H underlying22 ti2 (((exG s t).fNext).length) rfl rfl qf qf qf fun b33 w34 H=>⟨H.pick [4,5,6,7] [0,1,2,3,4,5,6],(ro 11 rfl (xP H 1 [.slice (aa b33 0) (((exG s t).fNext).length) (((exG s t).fNext).length)] sizeOf22 fun w35 H=>⟨H.pick [4,5,6,7] [0,1,2,3,4,5,6],(xH qh ((meet ⟨_,b23,b24,b33,b22,uE3,N,H.pick [1,2,0,3,4,5,6,7] [0,1,2,3,4,5,6]⟩)))⟩))⟩))⟩
  refine Xo (fun ρ w39=>∃ (xN:Env) (b36:Nat) (b37:Nat),ρ=upd (upd (upd xN 1 (pp b14 0)) 11 (.slice (aa b36 0) (((exG s t).fNext).length) (((exG s t).fNext).length))) 15 (.slice (aa b37 0) (((exG s t).fNext).length) (((exG s t).fNext).length))∧Fresh w.heap.size [rF5aStates,rF5aNext]∧St w w39 [rr (aa b37 0) (((exG s t).fNext).length) (((exG s t).fNext).length) 2 1 ((List.replicate (((exG s t).fNext).length) (0:Int)).map (Value.int .i64)),rr (aa b36 0) (((exG s t).fNext).length) (((exG s t).fNext).length) 3 1 ((List.replicate (((exG s t).fNext).length) (0:Int)).map (Value.int .i64)),.box b14 [.slice ra5aStates (((exG s t).zt).length) rc5aStates,.slice ra5aNext (((exG s t).fNext).length) rc5aNext] 59,.box b10 [.slice ra5aStates (((exG s t).zt).length) rc5aStates,.slice ra5aNext (((exG s t).fNext).length) rc5aNext] 59,.box b3 (yT t qR qO xh qZ qJ qI) 38,.box b1 (yS s qA qy qK qH) 36] [sF true rF5aStates ra5aStates rc5aStates ((exG s t).zt),sF true rF5aNext ra5aNext rc5aNext ((exG s t).fNext),sF false qW qA qy s.qw,sF false xy qK qH s.qx,sF false xJ qR qO t.qB,sF false zn xh qZ t.qE,sF false xw qJ qI t.qC]) 4 #[true,true,true,true,true,true,true,true,false,false,false,false] ?_ fun L38=>?_
  ·skip
   rintro ρ w40 ⟨xN,b36,b37,rfl,N,H⟩
   refine vS [8,9] qh qm (jA rfl ?_ (jA rfl ?_ vT))
   ·skip
    refine xI H ti118 [yN] fun b41 w42 H=>⟨H.pick [3,4,5,6] [0,1,2,3,4,5,6],(ro 9 rfl (xI H ti22 [yN] fun b43 w44 H=>⟨H.pick [4,5,6,7] [0,1,2,3,4,5,6],(ro 10 rfl (xP H 1 [.slice (aa b36 0) (((exG s t).fNext).length) (((exG s t).fNext).length)] sizeOf118 fun w45 H=>⟨H.pick [4,5,6,7] [0,1,2,3,4,5,6],(ro 11 rfl (xP H 0 [.slice (aa b37 0) (((exG s t).fNext).length) (((exG s t).fNext).length)] sizeOf22 fun w46 H=>⟨H.pick [4,5,6,7] [0,1,2,3,4,5,6],(xH qh ((meet ⟨_,b41,b43,b37,b36,uE3,N,H⟩)))⟩))⟩))⟩))⟩
   refine xI H ti22 [yN] fun b47 w48 H=>⟨H.pick [3,4,5,6] [0,1,2,3,4,5,6],(ro 8 rfl (xI H ti118 [yN] fun b49 w50 H=>⟨H.pick [4,5,6,7] [0,1,2,3,4,5,6],(ro 10 rfl (xP H 0 [.slice (aa b36 0) (((exG s t).fNext).length) (((exG s t).fNext).length)] sizeOf118 fun w51 H=>⟨H.pick [4,5,6,7] [0,1,2,3,4,5,6],(ro 11 rfl (xP H 1 [.slice (aa b37 0) (((exG s t).fNext).length) (((exG s t).fNext).length)] sizeOf22 fun w52 H=>⟨H.pick [4,5,6,7] [0,1,2,3,4,5,6],(xH qh (?_))⟩))⟩))⟩))⟩
   exact meet ⟨_,b49,b47,b37,b36,uE3,N,H.pick [1,0,2,3,4,5,6,7] [0,1,2,3,4,5,6]⟩
  refine Xo (fun ρ w56=>∃ (xN:Env) (b53:Nat) (b54:Nat),ρ=upd (upd (upd (upd xN 1 (pp b14 0)) 4 (pp b54 0)) 11 (.slice (aa b53 0) (((exG s t).fNext).length) (((exG s t).fNext).length))) 14 (yI (((exG s t).fNext).length))∧Fresh w.heap.size [rF5aStates,rF5aNext]∧St w w56 [.box b54 [yN] 118,rr (aa b53 0) (((exG s t).fNext).length) (((exG s t).fNext).length) 3 1 ((List.replicate (((exG s t).fNext).length) (0:Int)).map (Value.int .i64)),.box b14 [.slice ra5aStates (((exG s t).zt).length) rc5aStates,.slice ra5aNext (((exG s t).fNext).length) rc5aNext] 59,.box b10 [.slice ra5aStates (((exG s t).zt).length) rc5aStates,.slice ra5aNext (((exG s t).fNext).length) rc5aNext] 59,.box b3 (yT t qR qO xh qZ qJ qI) 38,.box b1 (yS s qA qy qK qH) 36] [sF true rF5aStates ra5aStates rc5aStates ((exG s t).zt),sF true rF5aNext ra5aNext rc5aNext ((exG s t).fNext),sF false qW qA qy s.qw,sF false xy qK qH s.qx,sF false xJ qR qO t.qB,sF false zn xh qZ t.qE,sF false xw qJ qI t.qC]) 4 #[true,true,true,true,true,true,true,false,true,false,false,false] ?_ fun L55=>?_
  ·skip
   rintro ρ w57 ⟨xN,b53,b54,rfl,N,H⟩
   refine vS [7,9] qh qm (jA rfl ?_ (jA rfl ?_ vT))
   ·skip
    refine jr H underlying22 ti2 (((exG s t).fNext).length) rfl rfl qf qf qf fun b58 w59 H=>⟨H.pick [3,4,5,6] [0,1,2,3,4,5,6],(ro 9 rfl (xI H ti22 [yN] fun b60 w61 H=>⟨H.pick [4,5,6,7] [0,1,2,3,4,5,6],(ro 10 rfl (xP H 2 [.slice (aa b53 0) (((exG s t).fNext).length) (((exG s t).fNext).length)] sizeOf118 fun w62 H=>⟨H.pick [4,5,6,7] [0,1,2,3,4,5,6],(ro 11 rfl (xP H 0 [.slice (aa b58 0) (((exG s t).fNext).length) (((exG s t).fNext).length)] sizeOf22 fun w63 H=>⟨H.pick [4,5,6,7] [0,1,2,3,4,5,6],(xH qh (?_))⟩))⟩))⟩))⟩
    exact meet ⟨_,b54,b60,b58,b53,uE3,N,H.pick [0,2,1,3,4,5,6,7] [0,1,2,3,4,5,6]⟩
   refine xI H ti22 [yN] fun b64 w65 H=>⟨H.pick [3,4,5,6] [0,1,2,3,4,5,6],(Qe L25 ⟨_,b53,b54,b64,uE5,N,H⟩)⟩
  refine Xo (fun ρ w69=>∃ (xN:Env) (b66:Nat) (b67:Nat),ρ=upd (upd (upd (upd xN 1 (pp b14 0)) 5 (pp b67 0)) 11 (.slice (aa b66 0) (((exG s t).fNext).length) (((exG s t).fNext).length))) 14 (yI (((exG s t).fNext).length))∧Fresh w.heap.size [rF5aStates,rF5aNext]∧St w w69 [.box b67 [yN] 22,rr (aa b66 0) (((exG s t).fNext).length) (((exG s t).fNext).length) 3 1 ((List.replicate (((exG s t).fNext).length) (0:Int)).map (Value.int .i64)),.box b14 [.slice ra5aStates (((exG s t).zt).length) rc5aStates,.slice ra5aNext (((exG s t).fNext).length) rc5aNext] 59,.box b10 [.slice ra5aStates (((exG s t).zt).length) rc5aStates,.slice ra5aNext (((exG s t).fNext).length) rc5aNext] 59,.box b3 (yT t qR qO xh qZ qJ qI) 38,.box b1 (yS s qA qy qK qH) 36] [sF true rF5aStates ra5aStates rc5aStates ((exG s t).zt),sF true rF5aNext ra5aNext rc5aNext ((exG s t).fNext),sF false qW qA qy s.qw,sF false xy qK qH s.qx,sF false xJ qR qO t.qB,sF false zn xh qZ t.qE,sF false xw qJ qI t.qC]) 4 #[true,true,true,true,true,true,true,false,false,true,false,false] ?_ fun L68=>?_
  ·skip
   rintro ρ w70 ⟨xN,b66,b67,rfl,N,H⟩
   refine vS [7,8] qh qm (jA rfl ?_ (jA rfl ?_ vT))
   ·skip
    refine jr H underlying22 ti2 (((exG s t).fNext).length) rfl rfl qf qf qf fun b71 w72 H=>⟨H.pick [3,4,5,6] [0,1,2,3,4,5,6],(ro 8 rfl (xI H ti118 [yN] fun b73 w74 H=>⟨H.pick [4,5,6,7] [0,1,2,3,4,5,6],(ro 10 rfl (xP H 0 [.slice (aa b66 0) (((exG s t).fNext).length) (((exG s t).fNext).length)] sizeOf118 fun w75 H=>⟨H.pick [4,5,6,7] [0,1,2,3,4,5,6],(ro 11 rfl (xP H 2 [.slice (aa b71 0) (((exG s t).fNext).length) (((exG s t).fNext).length)] sizeOf22 fun w76 H=>⟨H.pick [4,5,6,7] [0,1,2,3,4,5,6],(xH qh (?_))⟩))⟩))⟩))⟩
    exact meet ⟨_,b73,b67,b71,b66,uE3,N,H.pick [2,0,1,3,4,5,6,7] [0,1,2,3,4,5,6]⟩
   refine xI H ti118 [yN] fun b77 w78 H=>⟨H.pick [3,4,5,6] [0,1,2,3,4,5,6],(Qe L25 ⟨_,b66,b77,b67,uE5,N,H.pick [1,0,2,3,4,5,6] [0,1,2,3,4,5,6]⟩)⟩
  refine Xo (fun ρ w82=>∃ (xN:Env) (b79:Nat) (b80:Nat),ρ=upd (upd (upd (upd xN 1 (pp b14 0)) 4 (pp b80 0)) 10 (yI (((exG s t).fNext).length))) 15 (.slice (aa b79 0) (((exG s t).fNext).length) (((exG s t).fNext).length))∧Fresh w.heap.size [rF5aStates,rF5aNext]∧St w w82 [.box b80 [yN] 118,rr (aa b79 0) (((exG s t).fNext).length) (((exG s t).fNext).length) 2 1 ((List.replicate (((exG s t).fNext).length) (0:Int)).map (Value.int .i64)),.box b14 [.slice ra5aStates (((exG s t).zt).length) rc5aStates,.slice ra5aNext (((exG s t).fNext).length) rc5aNext] 59,.box b10 [.slice ra5aStates (((exG s t).zt).length) rc5aStates,.slice ra5aNext (((exG s t).fNext).length) rc5aNext] 59,.box b3 (yT t qR qO xh qZ qJ qI) 38,.box b1 (yS s qA qy qK qH) 36] [sF true rF5aStates ra5aStates rc5aStates ((exG s t).zt),sF true rF5aNext ra5aNext rc5aNext ((exG s t).fNext),sF false qW qA qy s.qw,sF false xy qK qH s.qx,sF false xJ qR qO t.qB,sF false zn xh qZ t.qE,sF false xw qJ qI t.qC]) 4 #[true,true,true,false,true,true,true,true,true,false,false,false] ?_ fun L81=>?_
  ·skip
   rintro ρ w83 ⟨xN,b79,b80,rfl,N,H⟩
   refine vS [3,9] qh qm (jA rfl ?_ (jA rfl ?_ vT))
   ·skip
    refine jr H underlying118 ti3 (((exG s t).fNext).length) rfl rfl qf qf qf fun b84 w85 H=>⟨H.pick [3,4,5,6] [0,1,2,3,4,5,6],(ro 9 rfl (xI H ti22 [yN] fun b86 w87 H=>⟨H.pick [4,5,6,7] [0,1,2,3,4,5,6],(ro 10 rfl (xP H 2 [.slice (aa b84 0) (((exG s t).fNext).length) (((exG s t).fNext).length)] sizeOf118 fun w88 H=>⟨H.pick [4,5,6,7] [0,1,2,3,4,5,6],(ro 11 rfl (xP H 0 [.slice (aa b79 0) (((exG s t).fNext).length) (((exG s t).fNext).length)] sizeOf22 fun w89 H=>⟨H.pick [4,5,6,7] [0,1,2,3,4,5,6],(xH qh (?_))⟩))⟩))⟩))⟩
    exact meet ⟨_,b80,b86,b79,b84,uE3,N,H.pick [0,2,3,1,4,5,6,7] [0,1,2,3,4,5,6]⟩
   refine xI H ti22 [yN] fun b90 w91 H=>⟨H.pick [3,4,5,6] [0,1,2,3,4,5,6],(ro 3 rfl (jr H underlying118 ti3 (((exG s t).fNext).length) rfl rfl qf qf qf fun b92 w93 H=>⟨H.pick [4,5,6,7] [0,1,2,3,4,5,6],(ro 10 rfl (xP H 2 [.slice (aa b92 0) (((exG s t).fNext).length) (((exG s t).fNext).length)] sizeOf118 fun w94 H=>⟨H.pick [4,5,6,7] [0,1,2,3,4,5,6],(ro 11 rfl (xP H 1 [.slice (aa b79 0) (((exG s t).fNext).length) (((exG s t).fNext).length)] sizeOf22 fun w95 H=>⟨H.pick [4,5,6,7] [0,1,2,3,4,5,6],(xH qh (?_))⟩))⟩))⟩))⟩
   exact meet ⟨_,b80,b90,b79,b92,uE3,N,H.pick [1,2,3,0,4,5,6,7] [0,1,2,3,4,5,6]⟩
  refine Xo (fun ρ w99=>∃ (xN:Env) (b96:Nat) (b97:Nat),ρ=upd (upd (upd (upd xN 1 (pp b14 0)) 5 (pp b97 0)) 10 (yI (((exG s t).fNext).length))) 15 (.slice (aa b96 0) (((exG s t).fNext).length) (((exG s t).fNext).length))∧Fresh w.heap.size [rF5aStates,rF5aNext]∧St w w99 [.box b97 [yN] 22,rr (aa b96 0) (((exG s t).fNext).length) (((exG s t).fNext).length) 2 1 ((List.replicate (((exG s t).fNext).length) (0:Int)).map (Value.int .i64)),.box b14 [.slice ra5aStates (((exG s t).zt).length) rc5aStates,.slice ra5aNext (((exG s t).fNext).length) rc5aNext] 59,.box b10 [.slice ra5aStates (((exG s t).zt).length) rc5aStates,.slice ra5aNext (((exG s t).fNext).length) rc5aNext] 59,.box b3 (yT t qR qO xh qZ qJ qI) 38,.box b1 (yS s qA qy qK qH) 36] [sF true rF5aStates ra5aStates rc5aStates ((exG s t).zt),sF true rF5aNext ra5aNext rc5aNext ((exG s t).fNext),sF false qW qA qy s.qw,sF false xy qK qH s.qx,sF false xJ qR qO t.qB,sF false zn xh qZ t.qE,sF false xw qJ qI t.qC]) 4 #[true,true,true,false,true,true,true,true,false,true,false,false] ?_ fun L98=>?_
  ·skip
   rintro ρ w100 ⟨xN,b96,b97,rfl,N,H⟩
   refine vS [3,8] qh qm (jA rfl ?_ (jA rfl ?_ vT))
   ·skip
    refine jr H underlying118 ti3 (((exG s t).fNext).length) rfl rfl qf qf qf fun b101 w102 H=>⟨H.pick [3,4,5,6] [0,1,2,3,4,5,6],(ro 8 rfl (xI H ti118 [yN] fun b103 w104 H=>⟨H.pick [4,5,6,7] [0,1,2,3,4,5,6],(ro 10 rfl (xP H 0 [.slice (aa b101 0) (((exG s t).fNext).length) (((exG s t).fNext).length)] sizeOf118 fun w105 H=>⟨H.pick [4,5,6,7] [0,1,2,3,4,5,6],(ro 11 rfl (xP H 2 [.slice (aa b96 0) (((exG s t).fNext).length) (((exG s t).fNext).length)] sizeOf22 fun w106 H=>⟨H.pick [4,5,6,7] [0,1,2,3,4,5,6],(xH qh (?_))⟩))⟩))⟩))⟩
    exact meet ⟨_,b103,b97,b96,b101,uE3,N,H.pick [2,0,3,1,4,5,6,7] [0,1,2,3,4,5,6]⟩
   refine xI H ti118 [yN] fun b107 w108 H=>⟨H.pick [3,4,5,6] [0,1,2,3,4,5,6],(ro 3 rfl (jr H underlying118 ti3 (((exG s t).fNext).length) rfl rfl qf qf qf fun b109 w110 H=>⟨H.pick [4,5,6,7] [0,1,2,3,4,5,6],(ro 10 rfl (xP H 1 [.slice (aa b109 0) (((exG s t).fNext).length) (((exG s t).fNext).length)] sizeOf118 fun w111 H=>⟨H.pick [4,5,6,7] [0,1,2,3,4,5,6],(ro 11 rfl (xP H 2 [.slice (aa b96 0) (((exG s t).fNext).length) (((exG s t).fNext).length)] sizeOf22 fun w112 H=>⟨H.pick [4,5,6,7] [0,1,2,3,4,5,6],(xH qh (?_))⟩))⟩))⟩))⟩
   exact meet ⟨_,b107,b97,b96,b109,uE3,N,H.pick [2,1,3,0,4,5,6,7] [0,1,2,3,4,5,6]⟩
  refine Xo (fun ρ w116=>∃ (xN:Env) (b113:Nat) (b114:Nat),ρ=upd (upd (upd (upd (upd xN 1 (pp b14 0)) 4 (pp b113 0)) 5 (pp b114 0)) 10 (yI (((exG s t).fNext).length))) 14 (yI (((exG s t).fNext).length))∧Fresh w.heap.size [rF5aStates,rF5aNext]∧St w w116 [.box b114 [yN] 22,.box b113 [yN] 118,.box b14 [.slice ra5aStates (((exG s t).zt).length) rc5aStates,.slice ra5aNext (((exG s t).fNext).length) rc5aNext] 59,.box b10 [.slice ra5aStates (((exG s t).zt).length) rc5aStates,.slice ra5aNext (((exG s t).fNext).length) rc5aNext] 59,.box b3 (yT t qR qO xh qZ qJ qI) 38,.box b1 (yS s qA qy qK qH) 36] [sF true rF5aStates ra5aStates rc5aStates ((exG s t).zt),sF true rF5aNext ra5aNext rc5aNext ((exG s t).fNext),sF false qW qA qy s.qw,sF false xy qK qH s.qx,sF false xJ qR qO t.qB,sF false zn xh qZ t.qE,sF false xw qJ qI t.qC]) 4 #[true,true,true,false,true,true,true,false,true,true,false,false] ?_ fun L115=>?_
  ·skip
   rintro ρ w117 ⟨xN,b113,b114,rfl,N,H⟩
   refine vS [3,7] qh qm (jA rfl ?_ (jA rfl ?_ vT))
   ·skip
    refine jr H underlying118 ti3 (((exG s t).fNext).length) rfl rfl qf qf qf fun b118 w119 H=>⟨H.pick [3,4,5,6] [0,1,2,3,4,5,6],(Qe L25 ⟨_,b118,b113,b114,uE5,N,H.pick [1,2,0,3,4,5,6] [0,1,2,3,4,5,6]⟩)⟩
   refine jr H underlying22 ti2 (((exG s t).fNext).length) rfl rfl qf qf qf fun b120 w121 H=>⟨H.pick [3,4,5,6] [0,1,2,3,4,5,6],(ro 3 rfl (jr H underlying118 ti3 (((exG s t).fNext).length) rfl rfl qf qf qf fun b122 w123 H=>⟨H.pick [4,5,6,7] [0,1,2,3,4,5,6],(ro 10 rfl (xP H 3 [.slice (aa b122 0) (((exG s t).fNext).length) (((exG s t).fNext).length)] sizeOf118 fun w124 H=>⟨H.pick [4,5,6,7] [0,1,2,3,4,5,6],(ro 11 rfl (xP H 2 [.slice (aa b120 0) (((exG s t).fNext).length) (((exG s t).fNext).length)] sizeOf22 fun w125 H=>?_))⟩))⟩))⟩
   refine ⟨H.pick [4,5,6,7] [0,1,2,3,4,5,6],(xH qh ((meet ⟨_,b113,b114,b120,b122,uE3,N,H.pick [2,3,1,0,4,5,6,7] [0,1,2,3,4,5,6]⟩)))⟩
  refine tF 0 rfl rfl H ?_
  refine tL 1 rfl rfl (fun _ h=>h.cell 0 rfl rfl) H ?_
  refine tN 2 rfl rfl H ?_
  refine tF 4 rfl rfl H ?_
  refine tL 5 rfl rfl (fun _ h=>h.cell 0 rfl rfl) H ?_
  refine tN 6 rfl rfl H ?_
  refine vS [3,7,8,9] qh qm (jA rfl ?_ (jA rfl ?_ (jA rfl ?_ (jA rfl ?_ vT))))
  ·skip
   refine jr H underlying118 ti3 (((exG s t).fNext).length) rfl rfl qf qf qf fun b126 w127 H=>⟨H.pick [1,2,3,4] [0,1,2,3,4,5,6],(vS [7,8,9] qh qm (jA rfl ?_ (jA rfl ?_ (jA rfl ?_ vT))))⟩
   ·skip
    refine jr H underlying22 ti2 (((exG s t).fNext).length) rfl rfl qf qf qf fun b128 w129 H=>⟨H.pick [2,3,4,5] [0,1,2,3,4,5,6],(Qe L38 ⟨_,b126,b128,uE3,N,H⟩)⟩
   ·skip
    refine xI H ti118 [yN] fun b130 w131 H=>⟨H.pick [2,3,4,5] [0,1,2,3,4,5,6],(Qe L55 ⟨_,b126,b130,uE4,N,H⟩)⟩
   refine xI H ti22 [yN] fun b132 w133 H=>⟨H.pick [2,3,4,5] [0,1,2,3,4,5,6],(Qe L68 ⟨_,b126,b132,uE4,N,H⟩)⟩
  ·skip
   refine jr H underlying22 ti2 (((exG s t).fNext).length) rfl rfl qf qf qf fun b134 w135 H=>⟨H.pick [1,2,3,4] [0,1,2,3,4,5,6],(vS [3,8,9] qh qm (jA rfl ?_ (jA rfl ?_ (jA rfl ?_ vT))))⟩
   ·skip
    refine jr H underlying118 ti3 (((exG s t).fNext).length) rfl rfl qf qf qf fun b136 w137 H=>⟨H.pick [2,3,4,5] [0,1,2,3,4,5,6],(Qe L38 ⟨_,b136,b134,uE3,N,H.pick [1,0,2,3,4,5] [0,1,2,3,4,5,6]⟩)⟩
   ·skip
    refine xI H ti118 [yN] fun b138 w139 H=>⟨H.pick [2,3,4,5] [0,1,2,3,4,5,6],(Qe L81 ⟨_,b134,b138,uE4,N,H⟩)⟩
   refine xI H ti22 [yN] fun b140 w141 H=>⟨H.pick [2,3,4,5] [0,1,2,3,4,5,6],(Qe L98 ⟨_,b134,b140,uE4,N,H⟩)⟩
  ·skip
   refine xI H ti118 [yN] fun b142 w143 H=>⟨H.pick [1,2,3,4] [0,1,2,3,4,5,6],(vS [3,7,9] qh qm (jA rfl ?_ (jA rfl ?_ (jA rfl ?_ vT))))⟩
   ·skip
    refine jr H underlying118 ti3 (((exG s t).fNext).length) rfl rfl qf qf qf fun b144 w145 H=>⟨H.pick [2,3,4,5] [0,1,2,3,4,5,6],(Qe L55 ⟨_,b144,b142,uE4,N,H.pick [1,0,2,3,4,5] [0,1,2,3,4,5,6]⟩)⟩
   ·skip
    refine jr H underlying22 ti2 (((exG s t).fNext).length) rfl rfl qf qf qf fun b146 w147 H=>⟨H.pick [2,3,4,5] [0,1,2,3,4,5,6],(Qe L81 ⟨_,b146,b142,uE4,N,H.pick [1,0,2,3,4,5] [0,1,2,3,4,5,6]⟩)⟩
   refine xI H ti22 [yN] fun b148 w149 H=>⟨H.pick [2,3,4,5] [0,1,2,3,4,5,6],(Qe L115 ⟨_,b142,b148,uE5,N,H⟩)⟩
  refine xI H ti22 [yN] fun b150 w151 H=>⟨H.pick [1,2,3,4] [0,1,2,3,4,5,6],(vS [3,7,8] qh qm (jA rfl ?_ (jA rfl ?_ (jA rfl ?_ vT))))⟩
  ·skip
   refine jr H underlying118 ti3 (((exG s t).fNext).length) rfl rfl qf qf qf fun b152 w153 H=>⟨H.pick [2,3,4,5] [0,1,2,3,4,5,6],(Qe L68 ⟨_,b152,b150,uE4,N,H.pick [1,0,2,3,4,5] [0,1,2,3,4,5,6]⟩)⟩
  ·skip
   refine jr H underlying22 ti2 (((exG s t).fNext).length) rfl rfl qf qf qf fun b154 w155 H=>⟨H.pick [2,3,4,5] [0,1,2,3,4,5,6],(Qe L98 ⟨_,b154,b150,uE4,N,H.pick [1,0,2,3,4,5] [0,1,2,3,4,5,6]⟩)⟩
  refine xI H ti118 [yN] fun b156 w157 H=>⟨H.pick [2,3,4,5] [0,1,2,3,4,5,6],(Qe L115 ⟨_,b156,b150,uE5,N,H.pick [1,0,2,3,4,5] [0,1,2,3,4,5,6]⟩)⟩
 clear H N
 rintro ρ w158 ⟨xN,b16,b17,b18,b19,rfl,N,H⟩
 refine t_n (zcr (sw (xI H ti139 [.nilFunc] fun b159 w160 H=>zjc (sp (.func (.func 120) #[] #[pp b16 0,pp b14 0,pp b159 0,pp b17 0]) (sw (xP H 0 [.func (.func 120) #[] #[pp b16 0,pp b14 0,pp b159 0,pp b17 0]] sizeOf139 fun w161 H=>zjc (oL rfl (H.cell 0 rfl rfl) ?_)))))))
 replace H:=H.unfreeI 1 rfl
 have rin:=ga.ok.rowsIn gn qf
 have vi:=VisI.start (exG s t).fNext
 have v00:(List.replicate (exG s t).fNext.length (0:Int))[(0:Int).toNat]! =0:=repAt1 qf
 have H1:St w w161 [.box b16 [.slice (aa b19 0) (((exG s t).fNext).length) (((exG s t).fNext).length)] 118,.box b14 [.slice ra5aStates (((exG s t).zt).length) rc5aStates,.slice ra5aNext (((exG s t).fNext).length) rc5aNext] 59,.box b159 [.func (.func 120) #[] #[pp b16 0,pp b14 0,pp b159 0,pp b17 0]] 139,.box b17 [.slice (aa b18 0) (((exG s t).fNext).length) (((exG s t).fNext).length)] 22,rr (aa b19 0) (((exG s t).fNext).length) (((exG s t).fNext).length) 3 1 ((List.replicate (((exG s t).fNext).length) (0:Int)).map (Value.int .i64)),rr (aa b18 0) (((exG s t).fNext).length) (((exG s t).fNext).length) 2 1 ((List.replicate (((exG s t).fNext).length) (0:Int)).map (Value.int .i64)),.box b10 [.slice ra5aStates (((exG s t).zt).length) rc5aStates,.slice ra5aNext (((exG s t).fNext).length) rc5aNext] 59,.box b3 (yT t qR qO xh qZ qJ qI) 38,.box b1 (yS s qA qy qK qH) 36] [sF false rF5aNext ra5aNext rc5aNext ((exG s t).fNext),sF false rF5aNext ra5aNext rc5aNext ((exG s t).fNext),sF true rF5aStates ra5aStates rc5aStates ((exG s t).zt),sF true rF5aNext ra5aNext rc5aNext ((exG s t).fNext),sF false qW qA qy s.qw,sF false xy qK qH s.qx,sF false xJ qR qO t.qB,sF false zn xh qZ t.qE,sF false xw qJ qI t.qC]:=H.pick [2,5,0,1,4,3,6,7,8] [0,0,1,2,3,4,5,6,7]
 have N1:Fresh _ [rF5aStates,rF5aNext]:=N
 have K1:Kept [] [sF false rF5aNext ra5aNext rc5aNext ((exG s t).fNext),sF true rF5aStates ra5aStates rc5aStates ((exG s t).zt),sF true rF5aNext ra5aNext rc5aNext ((exG s t).fNext),sF false qW qA qy s.qw,sF false xy qK qH s.qx,sF false xJ qR qO t.qB,sF false zn xh qZ t.qE,sF false xw qJ qI t.qC]:=Kept.nil _
 replace K1:=K1.cons (F:=rF5aNext) 0 rfl rfl
 replace K1:=K1.cons (F:=rF5aStates) 1 rfl rfl
 refine sw (o_callF #[yI 0,pp b16 0,pp b14 0,pp b159 0,pp b17 0] rfl rfl call120 (visit_ok 300 (0:Int) (List.replicate (((exG s t).fNext).length) (0:Int)) (List.replicate (((exG s t).fNext).length) (0:Int)) ((exG s t).fNext) ra5aStates (((exG s t).zt).length) rc5aStates ra5aNext rc5aNext rF5aNext b16 b14 b159 b17 (aa b19 0) (((exG s t).fNext).length) (((exG s t).fNext).length) (aa b18 0) (((exG s t).fNext).length) (((exG s t).fNext).length) H1 N1 K1 (by first | assumption | exact vi | exact v.vi) (by first | assumption | exact ⟨by omega,by omega⟩) ql ql (by first | assumption | exact v.open' qf p4 | exact fun j hj=>(rep0 hj).elim) (by first | omega | exact rep_cnt qf)) ?_)
 clear H H1 N1 K1
 rintro _ w162 ⟨marks163,most163,hx164,hx165,hx166,rfl,N,H⟩
 refine sp (.bool (dec (Halts ((exG s t).fNext) (0:Int).toNat))) (zjc (oL rfl (H.cell 3 rfl rfl) (oI rfl rfl (oL rfl (H.rowInt 5 rfl (iv:=0) (i:=0) qf qf) (sps [.bool (dec (Halts ((exG s t).fNext) (0:Int).toNat)),yI (most163[0]!),.bool (dec (Halts ((exG s t).fNext) (0:Int).toNat))] (zjr (ret2 (yI (most163[0]!)) (.bool (dec (Halts ((exG s t).fNext) (0:Int).toNat))) rfl rfl rfl ⟨_,rfl,?_⟩)))))))
 replace H:=H.erases [5,4,3,2,1,0]
 dsimp only [vJ,List.eraseIdx] at H
 refine sps [.tuple #[yI (most163[0]!),.bool (dec (Halts ((exG s t).fNext) (0:Int).toNat))],yI (most163[0]!),.bool (dec (Halts ((exG s t).fNext) (0:Int).toNat)),yI (most163[0]!),.bool (dec (Halts ((exG s t).fNext) (0:Int).toNat))] (zjc (sps [.bool (dec (Halts ((exG s t).fNext) (0:Int).toNat)),.bool (dec (Halts ((exG s t).fNext) (0:Int).toNat))] ?_))
 cases h167:(dec (Halts ((exG s t).fNext) (0:Int).toNat))
 ·skip
  replace h167:=zV h167
  refine xZ [26,27,28,29] (sps [.bool false,.bool false,yI 0] (zjr (ret2 (.bool false) (yI 0) rfl rfl rfl ⟨_,rfl,?_,H.base⟩)))
  rw [ic_n c0 ‹_›]
 replace h167:=Qb h167
 refine qQ 25 rfl rfl (sw (zl [.slice ra5aStates (((exG s t).zt).length) rc5aStates,.slice ra5aNext (((exG s t).fNext).length) rc5aNext] isAgg59 sizeOf59 rfl (qF (H.cells 0 rfl) 0 2) (qQ 25 rfl rfl (sw (zZ #[.agg #[.slice ra5aStates (((exG s t).zt).length) rc5aStates,.slice ra5aNext (((exG s t).fNext).length) rc5aNext]] rfl rfl call84 (en func84 ntmps84 ?_))))))
 refine zcr (sw (vz H [.slice ra5aStates (((exG s t).zt).length) rc5aStates,.slice ra5aNext (((exG s t).fNext).length) rc5aNext] fun b168 w169 H=>sp yN (zjc (sw (vU H underlying22 ti2 fun b170 w171 H=>sp (.slice (aa b170 0) 0 0) (zjcc (oF rfl (oL rfl (H.cell 1 rfl rfl) (oN rfl (sp (yI 0) (zjn (qY ?_))))))))))))
 replace H:=H.boxRowI 0 [] 0
 refine zB (fun m' ρ w172=>∃ (xN:Env) (vk:yOA) (zq:Nat) (zT:Nat) (out:yLI) (i:Nat),ρ=upd (upd (upd (upd xN 3 (.slice vk zq zT)) 8 (.slice ra5aNext (((exG s t).fNext).length) rc5aNext)) 9 (yI (((exG s t).fNext).length))) 10 (yI i)∧out=(idxL (exG s t).fNext i)∧((i:Int)≤(((exG s t).fNext).length))∧m' =((((exG s t).fNext).length) - (i:Int)).toNat∧Fresh w.heap.size [rF5aStates,rF5aNext]∧St w w172 [rr vk zq zT 2 1 (out.map (Value.int .i64)),.box b168 [.slice ra5aStates (((exG s t).zt).length) rc5aStates,.slice ra5aNext (((exG s t).fNext).length) rc5aNext] 59,.box b10 [.slice ra5aStates (((exG s t).zt).length) rc5aStates,.slice ra5aNext (((exG s t).fNext).length) rc5aNext] 59,.box b3 (yT t qR qO xh qZ qJ qI) 38,.box b1 (yS s qA qy qK qH) 36] [sF false rF5aNext ra5aNext rc5aNext ((exG s t).fNext),sF false rF5aNext ra5aNext rc5aNext ((exG s t).fNext),sF true rF5aStates ra5aStates rc5aStates ((exG s t).zt),sF true rF5aNext ra5aNext rc5aNext ((exG s t).fNext),sF false qW qA qy s.qw,sF false xy qK qH s.qx,sF false xJ qR qO t.qB,sF false zn xh qZ t.qE,sF false xw qJ qI t.qC]) (((((exG s t).fNext).length) - (0:Int)).toNat) ⟨_,(aa b170 0),0,0,([]:yLI),0,uE4,(by rfl),qf,rfl,N,H⟩ ?_
 clear H N
 rintro m' ρ w173 ⟨xN,vk,zq,zT,out,i,rfl,rfl,i0,rfl,N,H⟩
 have hn_out:=H.Xk 0 rfl
 have il:=idx_len (exG s t).fNext i
 refine zcr (sp (.bool (decide ((i:Int) < (((exG s t).fNext).length)))) (zjn (xU (cD rfl (fun h174=>?_) (fun h174=>?_)))))
 ·skip
  refine qV (t_n (xU (qY (zcr (sp (yI i) ?_)))))
  obtain ⟨b175,o176,rfl⟩:=H.addr 0 rfl qf
  obtain ⟨ae178,ce178,Fe178,H⟩:=H.vH 0 rfl i i qf qf qf
  refine oI rfl rfl (oL rfl (H.xR 1 rfl 0 rfl) (sps [yI i,.slice ae178 ((((exG s t).fNext)[i]!).length) ce178] (zjc (sp (.slice ae178 ((((exG s t).fNext)[i]!).length) ce178) (oN rfl (sp (.bool (((((exG s t).fNext)[i]!).length:Int) == 0)) (zjn (cE rfl (fun h179=>?_) (fun h179=>?_)))))))))
  ·skip
   refine xX (sps [.slice vk zq zT,yI i] (sw (zI H underlying22 ti2 [yI i] fun b180 w181 H=>sw (zO H 1 rfl 0 rfl underlying22 ti2 rfl qj rfl rfl rfl (by simp [Value.oneCell',Value.cells]) qp qf fun a182 c183 w184 H=>?_))))
   rw [snocI] at H
   refine sp (.slice a182 (zq+1) c183) (xY (b_n (t_n (xX (sw (zD i 1 rfl rfl qf (sp (yI (i+1)) (xY (xg (m' :=((((exG s t).fNext).length) - ((i+1):Int)).toNat) qf ⟨_,a182,zq+1,c183,((idxL (exG s t).fNext i)++[(i:Int)]),i+1,uE4,?_,?_,rfl,N,H.pick [1,2,3,4,5] [2,3,4,5,6,7,8,9,10]⟩)))))))))
   · first | exact idx_yes qf | exact idx_no qf
   · omega
  refine qV (b_n (t_n (xX (sw (zD i 1 rfl rfl qf (sp (yI (i+1)) (xY (xg (m' :=((((exG s t).fNext).length) - ((i+1):Int)).toNat) qf ⟨_,vk,zq,zT,(idxL (exG s t).fNext i),i+1,uE4,?_,?_,rfl,N,H.pick [0,1,2,3,4] [2,3,4,5,6,7,8,9,10]⟩))))))))
  · first | exact idx_yes qf | exact idx_no qf
  · omega
 refine zx4 (zcr (sps [.slice vk zq zT,.slice vk zq zT] (zjr (ret1 (.slice vk zq zT) rfl rfl ⟨_,rfl,?_⟩))))
 replace H:=H.erases [1]
 dsimp only [vJ,List.eraseIdx] at H
 refine qQ 25 rfl rfl (oN rfl (qQ 25 rfl rfl (sps [.bool ((zq:Int) == 1),.bool ((zq:Int) == 1),.bool ((zq:Int) == 1),yI 0] (zjr (ret2 (.bool ((zq:Int) == 1)) (yI 0) rfl rfl rfl ⟨_,rfl,?_,H.base⟩)))))
 rw [ic_i c0 ‹_› (i:=i) qf,dec_one (n:=zq) qf]

theorem law_IsConfluent (w:World) (aS:qL) (aT:qM) (XZ:yOA) (XR:Nat) (FaSParents:yLN) (aaSRules:yOA) (caSRules:Nat) (FaSRules:yLN) (aaTAlive:yOA) (caTAlive:Nat) (FaTAlive:yLN) (aaTBags:yOA) (caTBags:Nat) (FaTBags:yLN) (aaTAround:yOA) (caTAround:Nat) (FaTAround:yLN) (haSParents:qP.rep w FaSParents [.slice XZ aS.qw.length XR] aS.qw) (haSRules:qP.rep w FaSRules [.slice aaSRules aS.qx.length caSRules] aS.qx) (haTAlive:qP.rep w FaTAlive [.slice aaTAlive aT.qB.length caTAlive] aT.qB) (haTBags:qP.rep w FaTBags [.slice aaTBags aT.qE.length caTBags] aT.qE) (haTAround:qP.rep w FaTAround [.slice aaTAround aT.qC.length caTAround] aT.qC):Calls Tryz.prog 8 #[.agg #[yI aS.xB,.slice XZ aS.qw.length XR,.slice aaSRules aS.qx.length caSRules],.agg #[.slice aaTAlive aT.qB.length caTAlive,.slice aaTBags aT.qE.length caTBags,.slice aaTAround aT.qC.length caTAround]] w (Ret (fun v w' =>v=.bool true) w):=by
 refine en func8 ntmps8 ?_
 have H:=(((((St.start w).arg haTAround).arg haTBags).arg haTAlive).arg haSRules).arg haSParents
 have nhaSParents:=qN haSParents
 have nhaSRules:=qN haSRules
 have nhaTAlive:=qN haTAlive
 have nhaTBags:=qN haTBags
 have nhaTAround:=qN haTAround
 clear haSParents haSRules haTAlive haTBags haTAround
 have N:=Fresh.nil w.heap.size
 have A:=H.ltN (L:=[FaSParents,FaSRules,FaTAlive,FaTBags,FaTAround]) [0,1,2,3,4]
 have t1:=tot_SystemD aS
 have t2:=tot_StateD aT
 have c0:=XM aS.qw
 have c1:=XM aS.qx
 have c2:=XM aT.qB
 have c3:=XM aT.qE
 have c4:=XM aT.qC
 refine zcr (sw (vz H (yS aS XZ XR aaSRules caSRules) fun b1 w2 H=>sw (vz H (yT aT aaTAlive caTAlive aaTBags caTBags aaTAround caTAround) fun b3 w4 H=>sp (.bool false) (zjc (sp (yI 1048576) (zjc (sw (zl (yS aS XZ XR aaSRules caSRules) isAgg25 sizeOf25 rfl (qF (H.cells 1 rfl) 0 3) (sp (yI 1048576) ?_)))))))))
 refine sw (oq (szSystem_ok _ aS 1048576 (H.get 0 rfl).1 (H.get 1 rfl).1 qf) H fun w5 H=>?_)
 have:=zL (tot aS) 1048576
 refine sp (yI (szR (tot aS) 1048576)) (zjcc (sps [yI (szR (tot aS) 1048576),.bool (decide ((szR (tot aS) 1048576:Int) < 0))] (zjn (cD rfl (fun h7=>?_) (fun h7=>?_)))))
 ·skip
  refine zcr (sp (.bool true) (zjr (t_r (ret1 (.bool true) rfl rfl ⟨_,rfl,?_,H.base⟩))))
  rfl
 refine qV (t_n (zcr (sw (zl (yT aT aaTAlive caTAlive aaTBags caTBags aaTAround caTAround) isAgg29 sizeOf29 rfl (qF (H.cells 0 rfl) 0 3) (sp (yI (szR (tot aS) 1048576)) (sw (oq (szState_ok _ aT (szR (tot aS) 1048576) (H.get 2 rfl).1 (H.get 3 rfl).1 (H.get 4 rfl).1 qf) H fun w8 H=>?_)))))))
 have:=zL (tot aT) (szR (tot aS) 1048576)
 refine sp (yI (szR (tot aT) (szR (tot aS) 1048576))) (zjcc (sps [yI (szR (tot aT) (szR (tot aS) 1048576)),.bool (decide ((szR (tot aT) (szR (tot aS) 1048576):Int) < 0))] (zjn (cD rfl (fun h10=>?_) (fun h10=>?_)))))
 ·skip
  refine zcr (sp (.bool true) (zjr (t_r (ret1 (.bool true) rfl rfl ⟨_,rfl,?_,H.base⟩))))
  rfl
 refine qV (t_n (xU ?_))
 refine ja rfl H fun H=>rt 0 (.agg #[yI aS.xB,.slice XZ aS.qw.length XR,.slice aaSRules aS.qx.length caSRules]) (Qk (cs:=(yS aS XZ XR aaSRules caSRules)) isAgg25 sizeOf25 rfl (fun _ h=>qF (h.cells 1 rfl) 0 3)) H ?_
 refine rt 2 (.agg #[.slice aaTAlive aT.qB.length caTAlive,.slice aaTBags aT.qE.length caTBags,.slice aaTAround aT.qC.length caTAround]) (Qk (cs:=(yT aT aaTAlive caTAlive aaTBags caTBags aaTAround caTAround)) isAgg29 sizeOf29 rfl (fun _ h=>qF (h.cells 0 rfl) 0 3)) H ?_
 refine ro 1 rfl ?_
 have sz12:=H.base.size
 refine oc (toSystem_ok _ aS (H.get 0 rfl).1 (H.get 1 rfl).1 qg) ?_
 rintro v17 w15 r17 x16
 obtain ⟨a17Parents,c17Parents,F17Parents,a17Rules,c17Rules,F17Rules,rfl,f17,H⟩:=H.add_SystemD x16 r17
 replace N:=N.cons f17 sz12 (by intro F hF;simp at hF)
 replace N:=N.split
 refine ⟨H.pick [0,1] [2,3,4,5,6],(ro 3 rfl ?_)⟩
 have sz18:=H.base.size
 have lt19:=H.ltN (L:=[F17Parents,F17Rules]) [0,1]
 refine oc (toState_ok _ aT (H.get 4 rfl).1 (H.get 5 rfl).1 (H.get 6 rfl).1 qg) ?_
 rintro v23 w21 r23 x22
 obtain ⟨a23Alive,c23Alive,F23Alive,a23Bags,c23Bags,F23Bags,a23Around,c23Around,F23Around,rfl,f23,H⟩:=H.add_StateD x22 r23
 replace N:=N.cons f23 sz18 lt19
 replace N:=N.split
 replace N:=N.split
 refine ⟨H.pick [0,1] [5,6,7,8,9],(ro 4 rfl (oq (specIC_ok _ aS aT (H.get 3 rfl).1 (H.get 4 rfl).1 (H.get 0 rfl).1 (H.get 1 rfl).1 (H.get 2 rfl).1) H fun w25 H=>⟨H.pick [0,1] [5,6,7,8,9],?_⟩))⟩
 have S:=H.jY [0,1] [5,6,7,8,9]
 refine rtp 5 (.tuple #[.bool ((Q9 aS aT).1),yI ((Q9 aS aT).2)]) S ?_
 refine rtp 6 (.bool ((Q9 aS aT).1)) S ?_
 refine rtp 7 (yI ((Q9 aS aT).2)) S ?_
 refine rtp 8 (.bool ((Q9 aS aT).1)) S ?_
 refine rtp 9 (yI ((Q9 aS aT).2)) S ?_
 refine xH qh (t_n (zcr (sw (zl (yS aS XZ XR aaSRules caSRules) isAgg25 sizeOf25 rfl (qF (H.cells 1 rfl) 0 3) ?_))))
 have sz27:=H.base.size
 have lt28:=H.ltN (L:=[F23Alive,F23Bags,F23Around,F17Parents,F17Rules]) [0,1,2,3,4]
 refine sw (oc (toSystem_ok _ aS (H.get 5 rfl).1 (H.get 6 rfl).1 qg) ?_)
 rintro v32 w30 r32 x31
 obtain ⟨a32Parents,c32Parents,F32Parents,a32Rules,c32Rules,F32Rules,rfl,f32,H⟩:=H.add_SystemD x31 r32
 replace N:=N.cons f32 sz27 lt28
 replace N:=N.split
 refine sw (xI H ti36 [yI 0,yN,yN] fun b33 w34 H=>sw (zy H 0 (yS aS a32Parents c32Parents a32Rules c32Rules) sizeOf36 fun w35 H=>zjc (sw (zl (yT aT aaTAlive caTAlive aaTBags caTBags aaTAround caTAround) isAgg29 sizeOf29 rfl (qF (H.cells 1 rfl) 0 3) ?_))))
 have sz36:=H.base.size
 have lt37:=H.ltN (L:=[F32Parents,F32Rules,F23Alive,F23Bags,F23Around,F17Parents,F17Rules]) [0,1,2,3,4,5,6]
 refine sw (oc (toState_ok _ aT (H.get 9 rfl).1 (H.get 10 rfl).1 (H.get 11 rfl).1 qg) ?_)
 rintro v41 w39 r41 x40
 obtain ⟨a41Alive,c41Alive,F41Alive,a41Bags,c41Bags,F41Bags,a41Around,c41Around,F41Around,rfl,f41,H⟩:=H.add_StateD x40 r41
 replace N:=N.cons f41 sz36 lt37
 replace N:=N.split
 replace N:=N.split
 refine sw (xI H ti38 [yN,yN,yN] fun b42 w43 H=>sw (zy H 0 (yT aT a41Alive c41Alive a41Bags c41Bags a41Around c41Around) sizeOf38 fun w44 H=>zjc (sw (zl (yS aS a32Parents c32Parents a32Rules c32Rules) isAgg36 sizeOf36 rfl (qF (H.cells 1 rfl) 0 3) ?_))))
 refine sw (zl (yT aT a41Alive c41Alive a41Bags c41Bags a41Around c41Around) isAgg38 sizeOf38 rfl (qF (H.cells 0 rfl) 0 3) (sw (oq (implIC_ok _ aS aT (H.get 3 rfl).1 (H.get 4 rfl).1 (H.get 0 rfl).1 (H.get 1 rfl).1 (H.get 2 rfl).1) H fun w46 H=>sps [.tuple #[.bool ((Q9 aS aT).1),yI ((Q9 aS aT).2)],.bool ((Q9 aS aT).1),yI ((Q9 aS aT).2),.bool ((Q9 aS aT).1),yI ((Q9 aS aT).2)] (zjcc (sps [.bool ((Q9 aS aT).1),.bool ((Q9 aS aT).1)] (sw (o_neB underlying4 ((Q9 aS aT).1) ((Q9 aS aT).1) rfl rfl ?_)))))))
 refine sp (.bool (((Q9 aS aT).1) != ((Q9 aS aT).1))) ?_
 cases h48:(((Q9 aS aT).1) != ((Q9 aS aT).1))
 ·skip
  replace h48:=xA h48
  refine qQ 43 rfl rfl (sp (yI ((Q9 aS aT).2)) (qQ 43 rfl rfl (sp (yI ((Q9 aS aT).2)) (qQ 43 rfl rfl (sps [.bool (((Q9 aS aT).2:Int) != ((Q9 aS aT).2)),.bool (((Q9 aS aT).2:Int) != ((Q9 aS aT).2))] (zjn (xF (((Q9 aS aT).2:Int) != ((Q9 aS aT).2)) rfl (fun h=>absurd rfl (bne_iff_ne.1 h)) (fun h49=>?_))))))))
  replace h49:=xA h49
  refine qV (t_n (xU (xU ?_)))
  refine ja rfl H fun H=>rt 0 (.agg #[yI aS.xB,.slice a32Parents aS.qw.length c32Parents,.slice a32Rules aS.qx.length c32Rules]) (Qk (cs:=(yS aS a32Parents c32Parents a32Rules c32Rules)) isAgg36 sizeOf36 rfl (fun _ h=>qF (h.cells 1 rfl) 0 3)) H ?_
  refine rt 1 (.agg #[yI aS.xB,.slice XZ aS.qw.length XR,.slice aaSRules aS.qx.length caSRules]) (Qk (cs:=(yS aS XZ XR aaSRules caSRules)) isAgg25 sizeOf25 rfl (fun _ h=>qF (h.cells 3 rfl) 0 3)) H ?_
  refine ro 2 rfl ?_
  have sz51:=H.base.size
  have lt52:=H.ltN (L:=[F41Alive,F41Bags,F41Around,F32Parents,F32Rules,F23Alive,F23Bags,F23Around,F17Parents,F17Rules]) [0,1,2,3,4,5,6,7,8,9]
  refine oc (toSystem_ok _ aS (H.get 10 rfl).1 (H.get 11 rfl).1 qg) ?_
  rintro v56 w54 r56 x55
  obtain ⟨a56Parents,c56Parents,F56Parents,a56Rules,c56Rules,F56Rules,rfl,f56,H⟩:=H.add_SystemD x55 r56
  replace N:=N.cons f56 sz51 lt52
  replace N:=N.split
  refine ⟨H.pick [0,1,2,3] [2,3,4,5,6,7,8,9,10,11,12,13,14,15,16],(ro 3 rfl (oq (eqSystem_ok _ aS aS (H.get 5 rfl).1 (H.get 6 rfl).1 (H.get 0 rfl).1 (H.get 1 rfl).1) H fun w57 H=>⟨H.pick [0,1,2,3] [2,3,4,5,6,7,8,9,10,11,12,13,14,15,16],(rtp 4 (.bool (!(decide (aS=aS)))) (H.pick [0,1,2,3] [2,3,4,5,6,7,8,9,10,11,12,13,14,15,16]) ?_)⟩))⟩
  refine xH qh (t_n (xF (!(decide (aS=aS))) rfl (fun h=>absurd (xq h) qm) (fun h59=>?_)))
  replace h59:=xk h59
  refine qV (t_n (xU (xU ?_)))
  refine ja rfl H fun H=>rt 0 (.agg #[.slice a41Alive aT.qB.length c41Alive,.slice a41Bags aT.qE.length c41Bags,.slice a41Around aT.qC.length c41Around]) (Qk (cs:=(yT aT a41Alive c41Alive a41Bags c41Bags a41Around c41Around)) isAgg38 sizeOf38 rfl (fun _ h=>qF (h.cells 0 rfl) 0 3)) H ?_
  refine rt 1 (.agg #[.slice aaTAlive aT.qB.length caTAlive,.slice aaTBags aT.qE.length caTBags,.slice aaTAround aT.qC.length caTAround]) (Qk (cs:=(yT aT aaTAlive caTAlive aaTBags caTBags aaTAround caTAround)) isAgg29 sizeOf29 rfl (fun _ h=>qF (h.cells 2 rfl) 0 3)) H ?_
  refine ro 2 rfl ?_
  have sz61:=H.base.size
  have lt62:=H.ltN (L:=[F56Parents,F56Rules,F41Alive,F41Bags,F41Around,F32Parents,F32Rules,F23Alive,F23Bags,F23Around,F17Parents,F17Rules]) [0,1,2,3,4,5,6,7,8,9,10,11]
  refine oc (toState_ok _ aT (H.get 14 rfl).1 (H.get 15 rfl).1 (H.get 16 rfl).1 qg) ?_
  rintro v66 w64 r66 x65
  obtain ⟨a66Alive,c66Alive,F66Alive,a66Bags,c66Bags,F66Bags,a66Around,c66Around,F66Around,rfl,f66,H⟩:=H.add_StateD x65 r66
  replace N:=N.cons f66 sz61 lt62
  replace N:=N.split
  replace N:=N.split
  refine ⟨H.pick [0,1,2,3] [3,4,5,6,7,8,9,10,11,12,13,14,15,16,17,18,19],(ro 3 rfl (oq (eqState_ok _ aT aT (H.get 5 rfl).1 (H.get 6 rfl).1 (H.get 7 rfl).1 (H.get 0 rfl).1 (H.get 1 rfl).1 (H.get 2 rfl).1) H fun w67 H=>⟨H.pick [0,1,2,3] [3,4,5,6,7,8,9,10,11,12,13,14,15,16,17,18,19],(rtp 4 (.bool (!(decide (aT=aT)))) (H.pick [0,1,2,3] [3,4,5,6,7,8,9,10,11,12,13,14,15,16,17,18,19]) ?_)⟩))⟩
  refine xH qh (t_n (xF (!(decide (aT=aT))) rfl (fun h=>absurd (xq h) qm) (fun h69=>?_)))
  replace h69:=xk h69
  refine qV (t_n (zcr (sp (.bool true) (zjr (ret1 (.bool true) rfl rfl ⟨_,rfl,?_,H.base⟩)))))
  rfl
 replace h48:=bne_iff_ne.1 h48
 refine xZ [44,45,46] (sp (.bool true) (zjn (xF true rfl (fun _=>zcr (sp (.bool false) (zjr (t_r (ret1 (.bool false) rfl rfl ⟨_,rfl,?_,H.base⟩))))) (fun h=>absurd h qj))))
 exfalso;first | omega | contradiction
end
end Go.Proofs.YtgjnaocffdhnbaaGreat
