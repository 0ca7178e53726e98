/- Walks and laws, printed by program and by hand: what each function comes to, for all arguments, part 5. -/
import Derived.Test.YtdhklgjmiamiaaaGreatA4
namespace Go.Proofs.YtdhklgjmiamiaaaGreat
open Go.Proofs.Tryz
set_option linter.unusedVariables false
set_option linter.unusedSimpArgs false
set_option maxRecDepth 100000
set_option maxHeartbeats 4000000
open Go.RowKit
open Go.Proofs.Tryz
open Go.Proofs.YtdhklgjmiamiaaaGreat.Tot (tot)
open Go.Proofs.YtdhklgjmiamiaaaGreat.Mark (cnt mrk mkd mkd_mark cnt_mark)
variable{D D' M' l:yLI}{Fl xJ xW xu zF zk:yLN}{M a c kk v:Int}{Ns:List yLN}{R:yLL}{S:List qG}{W0 w:World}{al qF qM qO qV xm:yOA}{b i j k n qE qL qN qU xk:Nat}{ps:List Prv}{rules:List yH}{s:qH}{t u:TypeId}{x y:Operand}{Γ:List Fact}
section
theorem specAH_ok(w:World)(s:qH)(t:qG)(xe:zP w xu qF qE s.qA)(xE:zP w xW qO qN s.qB)(xR:zP w zk qV qU t.qK)(zu:zP w zF xm xk t.qQ)(xB:zP w xJ qM qL t.qJ):Calls Tryz.prog 28 #[.agg #[yI s.zf,Sv qF s.qA.length qE,Sv qO s.qB.length qN],.agg #[Sv qV t.qK.length qU,Sv xm t.qQ.length xk,Sv qM t.qJ.length qL]] w (Ret (fun v w'=>v=.tuple #[Bv ((Qn s t).1),yI ((Qn s t).2)]) w):=by
 refine en func28 ntmps28 ?_
 have H:=(((((St.start w).arg xB).arg zu).arg xR).arg xE).arg xe
 have jT:=qR xR
 have yR:=qR zu
 have jv:=qR xB
 clear xe xE xR zu xB
 have N:=Fresh.nil w.heap.size
 refine zcr<|sw<|zN H (yS s qF qE qO qN) fun b1 w2 H=>sw<|zN H (yT t qV qU xm xk qM qL) fun b3 w4 H=>sp (Bv false)<|sp (yI 0)<|zjc<|sw<|xy (yS s qF qE qO qN) isAgg27 sizeOf27 rfl (qC (H.cells 1 rfl) 0 3)<|sw<|xy (yT t qV qU xm xk qM qL) isAgg31 sizeOf31 rfl (qC (H.cells 0 rfl) 0 3)<|sw<|zW #[.agg #[yI s.zf,Sv qF s.qA.length qE,Sv qO s.qB.length qN],.agg #[Sv qV t.qK.length qU,Sv xm t.qQ.length xk,Sv qM t.qJ.length qL]] rfl rfl call20<|en func20 ntmps20 ?_
 refine zcr<|sw<|zN H (yS s qF qE qO qN) fun b5 w6 H=>sw<|zN H (yT t qV qU xm xk qM qL) fun b7 w8 H=>sw<|xg H ti46 [yN,yN] fun b9 ov H=>sp (yI 0)<|zjcc<|sw<|oq (l03Both_ok _ s t (qC (H.cells 2 rfl) 0 3) (H.get 0 rfl).1 (H.get 1 rfl).1 (qC (H.cells 1 rfl) 0 3) (H.get 2 rfl).1 (H.get 3 rfl).1 (H.get 4 rfl).1) H fun we H=>sq 1<|zjn<|cQ rfl (fun eE=>?_)<|fun eE=>?_
 ·refine zcr (sw<|vg [yN,yN] []<|sw<|xx H 0 [yN,yN] sizeOf46 fun uK H=>sp (yI 1)<|zjr<|t_r<|XC H 0 rfl (yI 1) rfl isAgg46 sizeOf46 rfl rfl ⟨_,rfl,?_⟩)
  replace H:=H.erases [2,1,0]
  dsimp only[zU,List.eraseIdx] at H
  refine sq 2<|sp (yI 1)<|sw<|xg H ti46 [yN,yN] fun m1 GW H=>sw<|xx H 0 [yN,yN] sizeOf46 fun EY H=>sp (yI 1)<|zjcc<|sp (yI 1)<|sp (Bv true)<|zjn<|cTr rfl<|zcr<|sp (yI 1)<|sp (Bv false)<|sp (yI 1)<|zjr<|t_r<|ret2 (Bv false) (yI 1) rfl rfl rfl ⟨_,rfl,?_,H.base⟩
  rw[ah_1 ‹_›]
 have k0:=(‹vz s/\xK s t›:vz s/\xK s t)
 have k1:=k0.1
 have k2:=k0.2
 obtain⟨q7,q8,q9,Bz⟩:=k2.sizes k1.1
 have Uj:=fun k hk=>Nat.le_trans (Bz k hk) (by decide:8<=1000000)
 refine qZ<|t_n<|zcr<|sw<|zW #[pp b5 0,pp b7 0] rfl rfl call65<|en func65 ntmps65 ?_
 refine zcr<|sw<|xg H ti46 [yN,yN] fun gO tr H=>sq 1<|sp (yI 0)<|zjc<|sq 1 ?_
 have am7:=H.base.size
 refine sw<|oc (l02Own_ok _ t (qC (H.cells 2 rfl) 0 3) (H.get 2 rfl).1 (H.get 3 rfl).1 (H.get 4 rfl).1 qg qg qg qg) ?_
 rintro _ GP ⟨iX,UJ,iq,lH,aa6,kU,Jx,If,fV,SD,fZ,rfl,M,K⟩ _
 replace N:=N.merge am7 qm M
 replace H:=H.merge K M
 obtain rfl:=H.Xg 0 rfl
 obtain rfl:=H.xQ (α:=yLI) 1 rfl 0 rfl qj
 obtain rfl:=H.jy 2 rfl
 refine sw<|zl H underlying38 ti31 (yT t iX iq lH kU fV fZ) fun Bn BB H=>sw<|vg [Sv (aa Bn 0) 1 1,yN] [(0,Sv (aa Bn 0) 1 1)]<|sw<|xg H ti46 [yN,yN] fun BD G6 H=>sw<|xx H 0 [Sv (aa Bn 0) 1 1,yN] sizeOf46 fun Ml H=>zjc<|sw<|zl H underlying24 ti2 [yI (-1)] fun mV Ao H=>sq 1<|zjcc<|sp (yI 0)<|zjn<|xf ?_
 replace H:=H.boxRowI 0 [(-1)] 1
 replace H:=H.boxRow 2 rfl 3 1 rfl qj
 replace H:=H.vP (α:=qG)
 obtain⟨Ip,N,Mq,H⟩:=H.freezeB 3 rfl N<|H.vX [1]
 have H0:=H
 obtain⟨kJ,af7,Tx,H⟩:=H.yC (α:=yLI) 4 rfl 2 rfl qj
 replace N:Fresh w.heap.size [kJ,Ip]:=Fresh.ice (N.pick [1,0]) H0 4 af7.1 af7.2<|H0.vX [0]
 clear H0
 obtain⟨G41,N,awb,H⟩:=H.zQ 5 rfl N<|H.vX [0,1]
 replace H:=H.Qo 3 rfl 2 rfl 1 rfl 0 rfl
 replace N:Fresh w.heap.size [([]++(Ip++kJ++G41))]:=(N.emp.pick [3,2,1,0]).join.join.swap.join
 replace H:St _ _ [rr (aa mV 0) 1 1 2 1 ([(-1)].map<|Value.int .i64),.box BD [Sv (aa Bn 0) 1 1,yN] 46,rr (aa Bn 0) 1 1 31 3<|yT t iX iq lH kU fV fZ,rr none 0 0 0 1 [],rr none 0 0 0 1 [],rr none 0 0 0 1 [],.box gO [yN,yN] 46,.box b9 [yN,yN] 46,.box b7 (yT t qV qU xm xk qM qL) 31,.box b5 (yS s qF qE qO qN) 27,.box b3 (yT t qV qU xm xk qM qL) 31,.box b1 (yS s qF qE qO qN) 27] [xG true ([]++(Ip++kJ++G41)) (yT t iX iq lH kU fV fZ) [t],sF true G41 fV fZ t.qJ,sF true kJ lH kU t.qQ,sF true Ip iX iq t.qK,xG true [] [] ([]:List qG),xG true If Jx t.qQ,sF false xu qF qE s.qA,sF false xW qO qN s.qB,sF false zk qV qU t.qK,sF false zF xm xk t.qQ,sF false xJ qM qL t.qJ]:=H
 replace H:=H.nilRow 24 1
 replace H:=H.vP (α:=yLI)
 refine zD ((fun Z0 Z1 Z2 Z3 Z4 Z5 Z6 Z7 Z8 Z9 bG=>fun m' ρ KQ=>∃(xN:Env) (pa:yOA) (pA:Nat) (pt:Nat) (ar:yLI) (i:Nat) (xM:yOA) (xH:Nat) (xI:Nat) (ag:List qG) (zH:List Value) (vM:yLN) (zh:yOA) (qI:Nat) (zg:Nat) (aj:yLL) (vT:List Value) (zL:yLN),ρ=upd (upd (upd (upd (upd xN 0<|pp b5 0) 4<|pp gO 0) 7<|pp BD 0) 8<|Sv pa pA pt) 9 (yI i)/\(Yf s t=grGo s (302-i) i ag aj)/\(∀u∈ag,xK s u)/\(0<ag.length/\ag.length<=300)/\(aj.length=i)/\(i<=ag.length)/\(GrOk ag aj)/\(ar.length=ag.length)/\m'=(301-i)/\Fresh w.heap.size [zL]/\St w KQ [rr zh qI zg 24 1 vT,rr pa pA pt 2 1<|ar.map<|Value.int .i64,.box BD [Sv xM xH xI,Sv zh qI zg] 46,rr xM xH xI 31 3 zH,Z0,Z1,Z2,Z3,Z4,Z5] [xG true zL vT aj,xG true vM zH ag,Z6,Z7,Z8,Z9,bG]) _ _ _ _ _ _ _ _ _ _ _) ((301-0)) ⟨_,(aa mV 0),1,1,[(-1)],0,(aa Bn 0),1,1,[t],(yT t iX iq lH kU fV fZ),([]++(Ip++kJ++G41)),none,0,0,([]:yLL),[],[],uE5,(by rfl),(by exact fun u hu=>by obtain rfl:=List.mem_singleton.1 hu;exact k2),qm,(by rfl),qm,(by exact GrOk.start t),(by rfl),rfl,(N.emp.pick [0]),H.pick (0::1::2::3::zR 7 6) (0::1::zR 7 5)⟩ ?_
 clear H N
 rintro m' ρ JC ⟨xN,pa,pA,pt,ar,i,xM,xH,xI,ag,zH,vM,zh,qI,zg,aj,vT,zL,rfl,kr,ka,kl,kn,ki,ko,kf,rfl,N,H⟩
 have M6:=H.jy 1 rfl
 have V9:=H.xQ (α:=qG) 3 rfl 1 rfl qj
 have oU:=H.xQ (α:=yLI) 0 rfl 0 rfl qj
 refine zcc<|sp (yI i)<|oF rfl<|oL rfl (H.cell 2 rfl rfl)<|oN rfl<|sq 1<|zjn<|cD rfl (fun pT=>?_)<|fun pT=>?_
 ·refine qZ (t_n<|xU<|xf<|zcr<|oF rfl<|oL rfl (H.cell 2 rfl rfl)<|sp (yI i) ?_)
  obtain⟨Uh,rfl⟩:=H.jR 3 rfl qf
  obtain⟨l8,lY,Gz,nY,nB,Io,i6,j8,Cy,F8,H⟩:=H.Yd 3 rfl 1 rfl (iv:=i) i qf qf
  refine oI rfl rfl<|sw<|xy [Sv l8 (((ag[i]!).qK).length) lY,Sv nY (((ag[i]!).qQ).length) nB,Sv i6 (((ag[i]!).qJ).length) j8] isAgg31 sizeOf31 rfl (qC (fun j v hj=>H.VI 3 rfl<|F8 j v hj) 0 3)<|sw<|xg H ti31 [yN,yN,yN] fun Lq Pt H=>sw<|xx H 0 [Sv l8 (((ag[i]!).qK).length) lY,Sv nY (((ag[i]!).qQ).length) nB,Sv i6 (((ag[i]!).qJ).length) j8] sizeOf31 fun w51 H=>zjc<|sq 1 ?_
  have ks:=ka (ag[i]!)<|mem_at (k:=i) qf rfl
  have nl:=succ_len s<|ag[i]!
  have Km:=H.base.size
  have JO:=H.ltN (L:=[zL]) [3]
  refine sw<|oc (l03Succ_ok _ s (ag[i]!) (qC (H.cells 8 rfl) 0 3) (H.get 5 rfl).1 (H.get 6 rfl).1 (qC (H.cells 0 rfl) 0 3) (H.get 0 rfl).1 (H.get 1 rfl).1 (H.get 2 rfl).1 qg qg) ?_
  rintro _ LJ ⟨zd,Q1,rX,Ou,OY,rfl,M,K⟩ _
  replace N:=N.merge Km JO M
  replace H:=H.merge K M
  obtain rfl:=H.xQ (α:=qG) 0 rfl 0 rfl qj
  refine sq 5<|zjcc<|sq 1<|sp (Bv (((qW s<|ag[i]!).2:Int) != 0))<|zjn<|zX (((qW s<|ag[i]!).2:Int) != 0) rfl (fun mi=>?_)<|fun mi=>?_
  ·replace mi:=bne_iff_ne.1 mi
   refine zcr<|sw<|vg [yN,yN] []<|sq 2<|sw<|xx H 6 [yN,yN] sizeOf46 fun N9 H=>sq 2<|zjr<|t_r<|zr5<|retC3 H 6 rfl (Sv pa pA pt) (yI ((qW s<|ag[i]!).2)) rfl isAgg46 sizeOf46 rfl rfl rfl ⟨_,rfl,?_⟩
   replace H:=H.erases [6,5,4,2,1,0]
   dsimp only[zU,List.eraseIdx] at H
   refine sq 4<|sw<|xg H ti46 [yN,yN] fun GO Sq H=>sw<|xx H 0 [yN,yN] sizeOf46 fun GT H=>sq 2<|zjc<|sw<|xy [yN,yN] isAgg46 sizeOf46 rfl (qC (H.cells 0 rfl) 0 2)<|sq 1<|sw<|xx H 2 [yN,yN] sizeOf46 fun Wo H=>sq 1<|zjr<|XC H 2 rfl (yI ((qW s<|ag[i]!).2)) rfl isAgg46 sizeOf46 rfl rfl ⟨_,rfl,?_⟩
   replace H:=H.erases [4,3,2,1,0]
   dsimp only[zU,List.eraseIdx] at H
   refine sq 3<|sw<|xg H ti46 [yN,yN] fun LH LE H=>sw<|xx H 0 [yN,yN] sizeOf46 fun Hl H=>sq 1<|zjcc<|sq 1<|sp (Bv (((qW s<|ag[i]!).2:Int) != 0))<|zjn<|zX (((qW s<|ag[i]!).2:Int) != 0) rfl (fun BC=>?_)<|fun h=>absurd (xA h) mi
   replace BC:=bne_iff_ne.1 BC
   refine zcr<|sq 1<|sp (Bv false)<|sq 1<|zjr<|t_r<|ret2 (Bv false) (yI ((qW s<|ag[i]!).2)) rfl rfl rfl ⟨_,rfl,?_,H.base⟩
   rw[ah_c k0 (kr.trans<|gr_code qf qf ql) rfl ql]
  replace mi:=xA mi
  refine qZ<|t_n<|zcr<|sw<|ja H underlying24 ti2 fun b68 KF H=>sq 1<|zjcc<|sp (yI 0)<|zjn<|xf ?_
  have H0:=H
  obtain⟨G70,ahx,az8,H⟩:=H.yC (α:=qG) 1 rfl 0 rfl qj
  replace N:Fresh w.heap.size [G70,zL]:=Fresh.ice N H0 1 ahx.1 ahx.2<|H0.vX [4]
  clear H0
  replace H:=H.boxRowI 0 [] 0
  refine zD ((fun Z0 Z1 Z2 Z3 Z4 Z5 Z6 Z7 Z8 Z9 bG bX eZ i8 mb oX EW JG=>fun m' ρ N5=>∃(xN:Env) (iz:yOA) (iL:Nat) (iO:Nat) (eY:yLI) (wJ:yOA) (vj:Nat) (wl:Nat) (row:yLI) (k:Nat) (jM:yOA) (vk:Nat) (jL:Nat) (aU:List qG) (yD:List Value) (yQ:yLN),ρ=upd (upd (upd (upd (upd (upd (upd (upd xN 0<|pp b5 0) 4<|pp gO 0) 7<|pp BD 0) 8<|Sv iz iL iO) 9<|yI i) 11<|Sv zd (((qW s<|ag[i]!).1).length) rX) 13<|Sv wJ vj wl) 14 (yI k)/\row=(vC ag (qW s<|ag[i]!).1 k).2/\aU=(vC ag (qW s<|ag[i]!).1 k).1/\((k:Int)<=(((qW s<|ag[i]!).1).length))/\(eY.length=(vC ag (qW s<|ag[i]!).1 k).1.length)/\m'=((((qW s<|ag[i]!).1).length)-(k:Int)).toNat/\Fresh w.heap.size [G70,zL]/\St w N5 [rr wJ vj wl 2 1<|row.map<|Value.int .i64,Z0,Z1,rr iz iL iO 2 1<|eY.map<|Value.int .i64,.box BD [Sv jM vk jL,Sv zh qI zg] 46,rr jM vk jL 31 3 yD,Z2,Z3,Z4,Z5,Z6,Z7] [Z8,Z9,bG,bX,eZ,xG true yQ yD aU,i8,mb,oX,EW,JG]) _ _ _ _ _ _ _ _ _ _ _ _ _ _ _ _ _ _) (((((qW s<|ag[i]!).1).length)-(0:Int)).toNat) ⟨_,pa,pA,pt,ar,(aa b68 0),0,0,([]:yLI),0,(aa Uh 0),xH,xI,ag,zH,vM,uE8,(by rfl),(by rfl),qf,ql,rfl,N,H.pick (0::zR 2 11) (0::zR 2 10)⟩ ?_
  clear H N
  rintro m' ρ w74 ⟨xN,iz,iL,iO,eY,wJ,vj,wl,row,k,jM,vk,jL,aU,yD,yQ,rfl,rfl,rfl,i0,kf2,rfl,N,H⟩
  have M6:=H.jy 3 rfl
  have amo:=H.jy 0 rfl
  have V9:=H.xQ (α:=qG) 5 rfl 5 rfl qj
  obtain⟨al1,al2,al3⟩:=Xp (S:=ag) (nx:=(qW s<|ag[i]!).1) k
  refine zcc<|sp (yI k)<|sq 1<|oN rfl<|sq 1<|zjn<|cD rfl (fun BR=>?_)<|fun BR=>?_
  ·refine qZ (t_n<|xU<|xf<|xU<|ji rfl H fun H=>tF 0 rfl rfl H ?_)
   refine tL 1 rfl rfl (fun _ h=>h.cell 4 rfl rfl) H ?_
   refine rtl 2 H ?_
   refine rtp 3 (yI k) H ?_
   obtain⟨Bt,o78,rfl⟩:=H.addr 0 rfl qf
   obtain⟨es,dT,wo,gh,fR,AN,du,dr,tV,H⟩:=H.XO 0 rfl k k qf qf qf
   refine tI 4 rfl rfl rfl (H.pick (zR 0 12)<|zR 4 11)<|ro 5 rfl ?_
   obtain⟨G81,aeC,KU⟩:=H.QL (α:=qG) 5 rfl 9 rfl qj
   refine oq (Qu (by rw[←aeC])<|l03Find_ok _ ((vC ag (qW s<|ag[i]!).1 k).1) (((qW s<|ag[i]!).1)[k]!) (aeC▸KU) (qC (H.get 3 rfl) 0 3) (H.get 0 rfl).1 (H.get 1 rfl).1 (H.get 2 rfl).1) H fun w85 H=>⟨H.pick (zR 0 12)<|zR 4 11,(rtl 6 (H.pick (zR 0 12)<|zR 4 11) ?_)⟩
   refine xC qh<|t_n<|zcc<|sq 1<|sp (Bv<|decide ((firstIdx (fun zz=>decide (((vC ag (qW s<|ag[i]!).1 k).1)[zz]! =(((qW s<|ag[i]!).1)[k]!))) ((vC ag (qW s<|ag[i]!).1 k).1).length:Int)<0))<|zjn<|cD rfl (fun h87=>?_)<|fun h87=>?_
   ·refine zcr (oF rfl<|oL rfl (H.cell 4 rfl rfl)<|oN rfl<|sq 1<|zjn<|xU<|VD (fun ρ KV=>∃(xN:Env) (W8:yOA) (YK:Nat),ρ=upd (upd (upd (upd (upd (upd (upd (upd (upd xN 0<|pp b5 0) 4<|pp gO 0) 7<|pp BD 0) 8<|Sv iz iL iO) 9<|yI i) 11<|Sv (aa Bt o78) (((qW s<|ag[i]!).1).length) rX) 13<|Sv wJ vj wl) 14<|yI k) 15 (yI vk)/\Fresh w.heap.size [G70,zL]/\St w KV [rr wJ vj wl 2 1 (((vC ag (qW s<|ag[i]!).1 k).2).map<|Value.int .i64),.box Lq [Sv l8 (((ag[i]!).qK).length) lY,Sv nY (((ag[i]!).qQ).length) nB,Sv i6 (((ag[i]!).qJ).length) j8] 31,rr zh qI zg 24 1 vT,rr iz iL iO 2 1<|eY.map<|Value.int .i64,.box BD [Sv W8 (vk+1) YK,Sv zh qI zg] 46,rr W8 (vk+1) YK 31 3<|yD++[Sv es (((((qW s<|ag[i]!).1)[k]!).qK).length) dT,Sv gh (((((qW s<|ag[i]!).1)[k]!).qQ).length) fR,Sv du (((((qW s<|ag[i]!).1)[k]!).qJ).length) dr],.box gO [yN,yN] 46,.box b9 [yN,yN] 46,.box b7 (yT t qV qU xm xk qM qL) 31,.box b5 (yS s qF qE qO qN) 27,.box b3 (yT t qV qU xm xk qM qL) 31,.box b1 (yS s qF qE qO qN) 27] [xG true (yQ++(wo++AN++tV)) (yD++[Sv es (((((qW s<|ag[i]!).1)[k]!).qK).length) dT,Sv gh (((((qW s<|ag[i]!).1)[k]!).qQ).length) fR,Sv du (((((qW s<|ag[i]!).1)[k]!).qJ).length) dr]) (((vC ag (qW s<|ag[i]!).1 k).1)++[⟨(((qW s<|ag[i]!).1)[k]!).qK,(((qW s<|ag[i]!).1)[k]!).qQ,(((qW s<|ag[i]!).1)[k]!).qJ⟩]),sF true wo es dT ((((qW s<|ag[i]!).1)[k]!).qK),sF true AN gh fR ((((qW s<|ag[i]!).1)[k]!).qQ),sF true tV du dr ((((qW s<|ag[i]!).1)[k]!).qJ),atF Bt (o78+(k:Int).toNat*3) [Sv es (((((qW s<|ag[i]!).1)[k]!).qK).length) dT,Sv gh (((((qW s<|ag[i]!).1)[k]!).qQ).length) fR,Sv du (((((qW s<|ag[i]!).1)[k]!).qJ).length) dr],sF true G70 (aa Bt o78) rX ((qW s<|ag[i]!).1),sF true Gz l8 lY ((ag[i]!).qK),sF true Io nY nB ((ag[i]!).qQ),sF true Cy i6 j8 ((ag[i]!).qJ),xG true zL vT aj,sF false xu qF qE s.qA,sF false xW qO qN s.qB,sF false zk qV qU t.qK,sF false zF xm xk t.qQ,sF false xJ qM qL t.qJ]) ?_ ?_)
    ·refine Qd rfl H (0::1::2::3::zR 6 6) fun H=>?_
     have S:=H.jF (0::1::2::3::zR 6 6)<|zR 0 15
     refine tF 0 rfl rfl S ?_
     refine rtl 2 S ?_
     refine rtp 3 (yI k) S ?_
     refine tI 4 rfl rfl rfl S ?_
     refine rt 5 _ (yF (cs:=[Sv es (((((qW s<|ag[i]!).1)[k]!).qK).length) dT,Sv gh (((((qW s<|ag[i]!).1)[k]!).qQ).length) fR,Sv du (((((qW s<|ag[i]!).1)[k]!).qJ).length) dr]) isAgg31 sizeOf31 rfl<|fun _ h=>qC (h.get 3 rfl) 0 3) S ?_
     refine zY [1,6] qh qm<|vG rfl ?_<|vG rfl ?_ zZ
     ·refine zB (Sv jM vk jL) isAgg38 rfl (H.cell 4 rfl rfl) (⟨H.pick (0::1::2::3::zR 6 6)<|zR 0 15,(ro 6 rfl<|zl H underlying38 ti31 [Sv es (((((qW s<|ag[i]!).1)[k]!).qK).length) dT,Sv gh (((((qW s<|ag[i]!).1)[k]!).qQ).length) fR,Sv du (((((qW s<|ag[i]!).1)[k]!).qJ).length) dr] fun b92 Vv H=>⟨H.pick (1::2::3::4::zR 7 6)<|zR 0 15,(ro 7 rfl ?_)⟩)⟩)
      refine zt H 6 rfl 0 rfl underlying38 ti31 rfl qj rfl rfl rfl qw qp qf fun T5 UF WY H=>?_
      replace H:=H.Qo 9 rfl 0 rfl 1 rfl 2 rfl
      refine⟨H.pick (1::2::3::4::zR 7 6)<|zR 1 15,(tF 8 rfl rfl (H.pick (1::2::3::4::zR 7 6)<|zR 1 15) ?_)⟩
      refine ro 9 rfl<|xn H 5 [Sv T5 (vk+1) UF,Sv zh qI zg] sizeOf38 fun NP H=>⟨H.pick (1::2::3::4::zR 7 6)<|zR 1 15,(xC qh ((meet ⟨_,T5,UF,uE9,N,H.pick (zR 1 12) [0,1,2,3,4,5,6,7,8,9,11,12,13,14,15]⟩)))⟩
     refine zl H underlying38 ti31 [Sv es (((((qW s<|ag[i]!).1)[k]!).qK).length) dT,Sv gh (((((qW s<|ag[i]!).1)[k]!).qQ).length) fR,Sv du (((((qW s<|ag[i]!).1)[k]!).qJ).length) dr] fun PD Lu H=>⟨H.pick (1::2::3::4::zR 7 6)<|zR 0 15,(ro 1 rfl<|zB (Sv jM vk jL) isAgg38 rfl (H.cell 5 rfl rfl)<|⟨H.pick (1::2::3::4::zR 7 6)<|zR 0 15,(ro 7 rfl ?_)⟩)⟩
     refine zt H 6 rfl 0 rfl underlying38 ti31 rfl qj rfl rfl rfl qw qp qf fun Gk FU xc H=>?_
     replace H:=H.Qo 9 rfl 0 rfl 1 rfl 2 rfl
     refine⟨H.pick (1::2::3::4::zR 7 6)<|zR 1 15,(tF 8 rfl rfl (H.pick (1::2::3::4::zR 7 6)<|zR 1 15) ?_)⟩
     refine ro 9 rfl<|xn H 5 [Sv Gk (vk+1) FU,Sv zh qI zg] sizeOf38 fun Iz H=>⟨H.pick (1::2::3::4::zR 7 6)<|zR 1 15,(xC qh ((meet ⟨_,Gk,FU,uE9,N,H.pick (zR 1 12) [0,1,2,3,4,5,6,7,8,9,11,12,13,14,15]⟩)))⟩
    clear H N
    rintro ρ zv ⟨xN,W8,YK,rfl,N,H⟩
    refine t_n<|xX<|sq 1<|sp (yI i)<|sw<|zl H underlying24 ti2 [yI i] fun M8 RG H=>sw<|zt H 4 rfl 0 rfl underlying24 ti2 rfl qj rfl rfl rfl qw qp qf fun E6 Gh Mf H=>?_
    rw[snocI] at H
    refine sq 1<|zjn<|xX<|sq 2<|sw<|zl H underlying24 ti2 [yI vk] fun FG M0 H=>sw<|zt H 2 rfl 0 rfl underlying24 ti2 rfl qj rfl rfl rfl qw qp qf fun avH ax6 Lz H=>?_
    rw[snocI] at H
    refine sq 1<|xZ<|b_n<|t_n<|xX<|sp (yI k)<|sw<|zC k 1 rfl rfl qf<|sq 1<|xZ<|xh (m':=((((qW s<|ag[i]!).1).length)-((k+1):Int)).toNat) qf ⟨_,_,_,_,_,_,_,_,_,k+1,_,_,_,_,_,_,uE8,?_,?_,?_,?_,rfl,N,H.pick (zR 2 12) (5::6::7::8::9::0::zR 10 5)⟩
    ·(refine Eq.trans ?_ (Qi (k:=k) ‹_›).2;congr 2 <;> omega)
    ·exact(Qi (k:=k) ‹_›).1
    ·omega
    ·(rw[←(Qi (k:=k) ‹_›).1,List.length_append,List.length_append];exact congrArg (·+1) kf2)
   refine qZ<|t_n<|xX<|sq 2<|sw<|zl H underlying24 ti2 [yI<|firstIdx (fun zz=>decide (((vC ag (qW s<|ag[i]!).1 k).1)[zz]! =(((qW s<|ag[i]!).1)[k]!))) ((vC ag (qW s<|ag[i]!).1 k).1).length] fun As oe H=>(sw<|zt H 1 rfl 0 rfl underlying24 ti2 rfl qj rfl rfl rfl qw qp qf fun Ca CR Jt H=>?_)
   rw[snocI] at H
   refine sq 1<|xZ<|b_n<|t_n<|xX<|sp (yI k)<|sw<|zC k 1 rfl rfl qf<|sq 1<|xZ<|xh (m':=((((qW s<|ag[i]!).1).length)-((k+1):Int)).toNat) qf ⟨_,_,_,_,_,_,_,_,_,k+1,_,_,_,_,_,_,uE8,?_,?_,?_,?_,rfl,N,H.pick (zR 1 12)<|zR 4 11⟩
   ·exact(Qh (k:=k) ‹_›).2
   ·exact(Qh (k:=k) ‹_›).1
   ·omega
   ·(rw[←(Qh (k:=k) ‹_›).1];omega)
  refine zx4<|zcr<|oF rfl<|oL rfl (H.cell 4 rfl rfl)<|sq 1<|sw<|zl H underlying29 ti24 [Sv wJ vj wl] fun RT Fg H=>?_
  obtain⟨aks,N,asQ,H⟩:=H.zQ 1 rfl N<|H.vX [0,4]
  refine sw<|zt H 3 rfl 0 rfl underlying29 ti24 rfl qj rfl rfl rfl qw qp qf fun Kh IF GB H=>?_
  replace H:=H.yh 5 rfl 0 rfl
  replace N:Fresh w.heap.size [(zL++aks),G70]:=(N.pick [2,0,1]).join
  refine oF rfl<|sw<|xn H 5 [Sv jM vk jL,Sv Kh (qI+1) IF] sizeOf29 fun Ko H=>zjc<|oF rfl<|oL rfl (H.cell 5 rfl rfl)<|oN rfl<|sp (Bv<|decide ((vk:Int)>300))<|zjn<|cD rfl (fun apR=>?_)<|fun apR=>?_
  ·refine zcr (sw<|vg [yN,yN] []<|sq 1<|sw<|xx H 7 [yN,yN] sizeOf46 fun H7 H=>sq 1<|sp (yI 3)<|zjr<|zr5<|retC3 H 7 rfl (Sv iz iL iO) (yI 3) rfl isAgg46 sizeOf46 rfl rfl rfl ⟨_,rfl,?_⟩)
   replace H:=H.erases [7,6,5,3,2,1,0]
   dsimp only[zU,List.eraseIdx] at H
   refine sq 3<|sp (yI 3)<|sw<|xg H ti46 [yN,yN] fun gr MU H=>sw<|xx H 0 [yN,yN] sizeOf46 fun Zk H=>sq 1<|sp (yI 3)<|zjc<|sw<|xy [yN,yN] isAgg46 sizeOf46 rfl (qC (H.cells 0 rfl) 0 2)<|sp (yI 3)<|sw<|xx H 2 [yN,yN] sizeOf46 fun LZ H=>sp (yI 3)<|zjr<|XC H 2 rfl (yI 3) rfl isAgg46 sizeOf46 rfl rfl ⟨_,rfl,?_⟩
   replace H:=H.erases [4,3,2,1,0]
   dsimp only[zU,List.eraseIdx] at H
   refine sq 2<|sp (yI 3)<|sw<|xg H ti46 [yN,yN] fun LY A8 H=>sw<|xx H 0 [yN,yN] sizeOf46 fun agV H=>sp (yI 3)<|zjcc<|sp (yI 3)<|sp (Bv true)<|zjn<|cTr rfl<|zcr<|sp (yI 3)<|sp (Bv false)<|sp (yI 3)<|zjr<|t_r<|ret2 (Bv false) (yI 3) rfl rfl rfl ⟨_,rfl,?_,H.base⟩
   rw[ah_c k0 (kr.trans<|gr_many qf qf qf (k:=k) qf qf) rfl qj]
  refine qZ<|b_n<|t_n<|xX<|sp (yI i)<|sw<|zC i 1 rfl rfl qf<|sq 1<|xZ<|xh (m':=(301-(i+1))) qf ⟨_,_,_,_,_,i+1,_,_,_,_,_,_,_,_,_,_,_,_,uE5,?_,?_,?_,?_,?_,?_,?_,rfl,(N.pick [0]),H.pick (zR 3 10) (0::zR 7 6)⟩
  ·exact kr.trans<|gr_go qf qf qf (k:=k) qf qf
  ·exact addSt_mem ka succ_ok k qf
  ·omega
  ·simp;omega
  ·omega
  ·exact ko.next qf qf
  ·omega
 refine zx4<|zcr<|sw<|xy [Sv xM xH xI,Sv zh qI zg] isAgg46 sizeOf46 rfl (qC (H.cells 2 rfl) 0 2)<|sq 1<|sw<|xx H 4 [Sv xM xH xI,Sv zh qI zg] sizeOf46 fun CW H=>sq 1<|sp (yI 0)<|zjr<|retC3 H 4 rfl (Sv pa pA pt) (yI 0) rfl isAgg46 sizeOf46 rfl rfl rfl ⟨_,rfl,?_⟩
 replace H:=H.erases [4,2]
 dsimp only[zU,List.eraseIdx] at H
 refine sq 3<|sp (yI 0)<|sw<|xg H ti46 [yN,yN] fun mJ abV H=>sw<|xx H 0 [Sv xM xH xI,Sv zh qI zg] sizeOf46 fun CN H=>sq 1<|sp (yI 0)<|zjc<|sw<|xy [Sv xM xH xI,Sv zh qI zg] isAgg46 sizeOf46 rfl (qC (H.cells 0 rfl) 0 2)<|sp (yI 0)<|sw<|xx H 4 [Sv xM xH xI,Sv zh qI zg] sizeOf46 fun T9 H=>sp (yI 0)<|zjr<|XC H 4 rfl (yI 0) rfl isAgg46 sizeOf46 rfl rfl ⟨_,rfl,?_⟩
 replace H:=H.erases [6,5,4,2,0]
 dsimp only[zU,List.eraseIdx] at H
 refine sq 2<|sp (yI 0)<|sw<|xg H ti46 [yN,yN] fun gV Ih H=>sw<|xx H 0 [Sv xM xH xI,Sv zh qI zg] sizeOf46 fun Ln H=>sp (yI 0)<|zjcc<|sp (yI 0)<|sp (Bv false)<|zjn<|cFr rfl<|qZ<|t_n<|zcr<|sw<|zW #[pp gV 0] rfl rfl call63<|en func63 ntmps63 ?_
 refine zcr<|sq 1<|sp (Bv false)<|zjc<|sq 2<|oF rfl<|oL rfl (H.cell 0 rfl rfl)<|oN rfl<|sq 1<|zjc<|sq 1<|sw<|zq H underlying24 ti2 qI rfl rfl qf qf qf fun AX GI H=>sq 1<|zjc<|sq 1<|sw<|o_makeB H underlying28 ti4 qI rfl rfl qf qf qf fun mQ Kk H=>sq 1<|zjc<|sq 2<|zjn<|xU<|xf<|zD ((fun Z0 Z1 Z2 Z3 Z4 Z5 Z6 Z7 Z8 Z9 bG bX=>fun m' ρ CP=>∃(xN:Env) (left:Int) (done:List Bool) (Dn:yLI),ρ=upd (upd (upd (upd (upd xN 0<|pp gV 0) 4<|yI qI) 5<|Sv (aa AX 0) qI qI) 6<|Sv (aa mQ 0) qI qI) 7 (yI left)/\(LayI aj Dn done left)/\m'=(left:Int).toNat/\Fresh w.heap.size [zL]/\St w CP [rr (aa mQ 0) qI qI 4 1<|done.map<|Value.bool,rr (aa AX 0) qI qI 2 1<|Dn.map<|Value.int .i64,Z0,Z1,Z2,Z3,Z4] [Z5,Z6,Z7,Z8,Z9,bG,bX]) _ _ _ _ _ _ _ _ _ _ _ _) ((qI:Int).toNat) ⟨_,qI,(List.replicate qI<|false),(List.replicate qI (0:Int)),uE5,(by rw[show qI=aj.length by omega];exact LayI.start aj),rfl,N,H⟩ ?_
 clear H N
 rintro m' ρ R7 ⟨xN,left,done,Dn,rfl,l1,rfl,N,H⟩
 have Lg:=H.Xg 0 rfl
 have J1:=H.jy 1 rfl
 refine zcc<|sq 1<|sp (Bv<|decide ((left:Int)>0))<|zjn<|cD rfl (fun ET=>?_)<|fun ET=>?_
 ·refine qZ (t_n<|xf<|zcr<|sp (Bv false)<|zjcc<|sp (yI 0)<|zjn<|xf<|zD ((fun Z0 Z1 Z2 Z3 Z4 Z5 Z6 Z7 Z8 Z9 bG bX=>fun m' ρ Mb=>∃(xN:Env) (j4:Int) (nA:Bool) (az:Nat) (fG:List Bool) (dA:yLI),ρ=upd (upd (upd (upd (upd (upd (upd xN 0<|pp gV 0) 4<|yI qI) 5<|Sv (aa AX 0) qI qI) 6<|Sv (aa mQ 0) qI qI) 7<|yI j4) 8<|Bv nA) 9 (yI az)/\((az:Int)<=qI)/\(LayI aj dA fG j4)/\(nA=true->j4<left)/\(nA=false->j4=left/\NoneR aj fG az)/\(j4<=left)/\m'=(qI-(az:Int)).toNat/\Fresh w.heap.size [zL]/\St w Mb [rr (aa mQ 0) qI qI 4 1<|fG.map<|Value.bool,rr (aa AX 0) qI qI 2 1<|dA.map<|Value.int .i64,Z0,Z1,Z2,Z3,Z4] [Z5,Z6,Z7,Z8,Z9,bG,bX]) _ _ _ _ _ _ _ _ _ _ _ _) ((qI-(0:Int)).toNat) ⟨_,left,false,0,done,Dn,uE7,qf,ql,(by exact fun h=>by cases h),(by exact fun _=>⟨rfl,fun j hj=>by omega⟩),qf,rfl,N,H⟩ ?_)
  clear H N
  rintro m' ρ Fr ⟨xN,j4,nA,az,fG,dA,rfl,i0,l2,l3,l4,l5,rfl,N,H⟩
  have Lg:=H.Xg 0 rfl
  have J1:=H.jy 1 rfl
  refine zcc<|sq 3<|zjn<|cD rfl (fun Ur=>?_)<|fun Ur=>?_
  ·refine qZ (t_n<|xU<|xf<|zcc<|sq 2<|oI rfl rfl<|oL rfl (H.rowBool 0 rfl (iv:=az) (i:=az) qf qf)<|zjn<|zX _ rfl (fun akD=>?_)<|fun akD=>?_)
   ·refine VR (t_x<|b_x<|t_n<|xX<|sq 1<|sw<|zC az 1 rfl rfl qf<|sq 1<|xZ<|xh (m':=(qI-((az+1):Int)).toNat) qf ⟨_,_,_,az+1,_,_,uE7,?_,?_,?_,?_,?_,rfl,N,H⟩)
    ·omega
    ·assumption
    ·assumption
    ·exact fun h=>⟨(l4 h).1,(l4 h).2.succ<|.inl ql⟩
    ·omega
   refine qZ<|t_n<|zcr<|sp (Bv true)<|zjc<|sp (yI 0)<|zjcc<|sp (yI 0)<|zjn<|xf<|zD ((fun Z0 Z1 Z2 Z3 Z4 Z5 Z6 Z7 Z8 Z9 bG bX eZ i8=>fun m' ρ EN=>∃(xN:Env) (ready:Bool) (dz:Int) (k:Nat),ρ=upd (upd (upd (upd (upd (upd (upd (upd (upd (upd xN 0<|pp gV 0) 4<|yI qI) 5<|Sv (aa AX 0) qI qI) 6<|Sv (aa mQ 0) qI qI) 7<|yI j4) 8<|Bv nA) 9<|yI az) 10<|Bv ready) 11<|yI dz) 12 (yI k)/\ready=(rdTo fG (aj[az]!) k)/\dz=(mxF (fun j=>dA[j]!) (aj[az]!) k)/\((k:Int)<=((aj[az]!).length))/\m'=(((aj[az]!).length)-(k:Int)).toNat/\Fresh w.heap.size [zL]/\St w EN [Z0,Z1,Z2,Z3,Z4,Z5,Z6] [Z7,Z8,Z9,bG,bX,eZ,i8]) _ _ _ _ _ _ _ _ _ _ _ _ _ _) ((((aj[az]!).length)-(0:Int)).toNat) ⟨_,true,0,0,uE10,(by rfl),(by rfl),qf,rfl,N,H⟩ ?_
   clear H N
   rintro m' ρ B2 ⟨xN,ready,dz,k,rfl,rfl,rfl,i0,rfl,N,H⟩
   refine zcc<|sp (yI k)<|sq 2<|oF rfl<|oL rfl (H.cell 2 rfl rfl)<|sq 1 ?_
   obtain⟨Sm,rfl⟩:=H.jR 3 rfl qf
   refine oI rfl rfl ?_
   obtain⟨awe,az5,avT,avP,akO,H⟩:=H.jS 3 rfl 0 rfl (iv:=az) az qf qf
   refine oL rfl (akO)<|oN rfl<|sq 1<|zjn<|cD rfl (fun GA=>?_)<|fun GA=>?_
   ·obtain⟨r1,r2⟩:=ko.rows az qf k qf
    have r3:=l2.nn (((aj[az]!)[k]!).toNat) qf
    have r6:=l2.lf
    have r7:=List.count_le_length (a:=true) (l:=fG)
    have r8:=ko.lens az qf
    refine qZ<|t_n<|xU<|xf<|zcr<|sq 2<|oF rfl<|oL rfl (H.cell 2 rfl rfl)<|sq 1<|oI rfl rfl ?_
    obtain⟨auE,ax3,uP,av3,nE,H⟩:=H.jS 3 rfl 1 rfl (iv:=az) az qf qf
    refine oL rfl (nE)<|sp (yI k) ?_
    obtain⟨aeO,ajv,rfl⟩:=H.addr 0 rfl qf
    refine oI rfl rfl<|oL rfl (H.zS 0 rfl k qf)<|sq 1<|zjc<|sp (Bv<|rdTo fG (aj[az]!) k)<|sp (Bv<|rdTo fG (aj[az]!) k) ?_
    cases h173:((rdTo fG (aj[az]!) k))
    ·refine xY (zR 59 4) (sp (Bv false)<|sp (Bv false)<|zjn<|xX<|sq 3<|oI rfl rfl<|oL rfl (H.Xb 1 rfl (iv:=(aj[az]!)[k]!) (i:=(((aj[az]!)[k]!).toNat)) qf qf)<|sw<|zC (dA[((aj[az]!)[k]!).toNat]!) 1 rfl rfl qf<|sw<|oq (l00Max_ok B2 (mxF (fun j=>dA[j]!) (aj[az]!) k) ((dA[((aj[az]!)[k]!).toNat]!)+1)) H fun Rq H=>sq 1<|xZ<|b_n<|t_n<|xX<|sp (yI k)<|sw<|zC k 1 rfl rfl qf<|sq 1<|xZ<|xh (m':=(((aj[az]!).length)-((k+1):Int)).toNat) qf ⟨_,_,_,k+1,uE10,?_,?_,?_,rfl,N,H.pick (zR 0 7)<|zR 2 7⟩)
     ·(rw[rdTo,‹rdTo _ _ _=false›];rfl)
     ·rfl
     ·omega
    refine qP 58 rfl rfl<|sq 1<|qP 58 rfl rfl<|sq 1<|qP 58 rfl rfl<|oI rfl rfl<|qP 58 rfl rfl<|oL rfl (H.rowBool 0 rfl (iv:=(aj[az]!)[k]!) (i:=(((aj[az]!)[k]!).toNat)) qf qf)<|sq 2<|zjn<|xX<|sq 3<|oI rfl rfl<|oL rfl (H.Xb 1 rfl (iv:=(aj[az]!)[k]!) (i:=(((aj[az]!)[k]!).toNat)) qf qf)<|sw<|zC (dA[((aj[az]!)[k]!).toNat]!) 1 rfl rfl qf<|sw<|oq (l00Max_ok B2 (mxF (fun j=>dA[j]!) (aj[az]!) k) ((dA[((aj[az]!)[k]!).toNat]!)+1)) H fun ZH H=>sq 1<|xZ<|b_n<|t_n<|xX<|sp (yI k)<|sw<|zC k 1 rfl rfl qf<|sq 1<|xZ<|xh (m':=(((aj[az]!).length)-((k+1):Int)).toNat) qf ⟨_,_,_,k+1,uE10,?_,?_,?_,rfl,N,H.pick (zR 0 7)<|zR 2 7⟩
    ·(rw[rdTo,‹rdTo _ _ _=true›];rfl)
    ·rfl
    ·omega
   refine zx4<|zcr<|sp (Bv<|rdTo fG (aj[az]!) k)<|zjn<|zX _ rfl (fun anL=>?_)<|fun anL=>?_
   ·have r6:=l2.lf
    have r7:=List.count_le_length (a:=true) (l:=fG)
    refine zcr<|sq 2<|oI rfl rfl<|sw<|QJ H 0 rfl true sizeOf4 rfl rfl (i:=az) qf qf fun ML H=>zjc<|sq 3<|oI rfl rfl<|sw<|Qe H 1 rfl (mxF (fun j=>dA[j]!) (aj[az]!) k) sizeOf2 rfl rfl (i:=az) qf qf fun acP H=>zjc<|sp (Bv true)<|zjn<|xX<|sq 1<|sw<|o_sub j4 1 rfl rfl qf<|sq 1<|xZ<|b_n<|t_n<|xX<|sq 1<|sw<|zC az 1 rfl rfl qf<|sq 1<|xZ<|xh (m':=(qI-((az+1):Int)).toNat) qf ⟨_,_,_,az+1,_,_,uE7,?_,?_,?_,?_,?_,rfl,N,H.pick (zR 0 7)<|zR 1 7⟩
    ·omega
    ·exact l2.set qf ql (fun q hq=>by have:=(ko.rows az qf q hq).2;omega) (fun q hq=>rdTo_true ‹rdTo _ _ _=true› q qf) qf
    ·exact fun _=>by omega
    ·exact fun h=>Bool.noConfusion h
    ·omega
   refine qZ<|b_n<|t_n<|xX<|sq 1<|sw<|zC az 1 rfl rfl qf<|sq 1<|xZ<|xh (m':=(qI-((az+1):Int)).toNat) qf ⟨_,_,_,az+1,_,_,uE7,?_,?_,?_,?_,?_,rfl,N,H.pick (zR 0 7)<|zR 1 7⟩
   ·omega
   ·assumption
   ·assumption
   ·exact fun h=>⟨(l4 h).1,(l4 h).2.succ<|.inr (by obtain⟨q,h1,h2⟩:=rdTo_false ‹rdTo _ _ _=false›;exact⟨q,by omega,h2⟩)⟩
   ·omega
  refine zx4<|zcr<|sp (Bv nA)<|sp (Bv !nA)<|zjn<|zX _ rfl (fun Cf=>?_)<|fun Cf=>?_
  ·replace Cf:=x8 Cf
   obtain⟨e1,e2⟩:=l4<|by cases nA <;> simp_all
   refine zcr<|sq 2<|sp (Bv false)<|zjr<|b_r<|t_r<|b_r<|t_r<|ret2 (Sv (aa AX 0) qI qI) (Bv false) rfl rfl rfl ⟨_,rfl,?_⟩
   replace H:=H.erases [0]
   dsimp only[zU,List.eraseIdx] at H
   refine sq 2<|sp (Bv false)<|sq 1<|sp (Bv false)<|zjc<|sp (Bv false)<|sp (Bv false)<|sp (yI 0)<|zjr<|ret2 (Bv false) (yI 0) rfl rfl rfl ⟨_,rfl,?_,H.base⟩
   rw[ah_n k0 (kr.trans<|gr_end qf)<|lay_not l2 qf ko qf<|by rw[show aj.length=az by omega];exact e2]
  replace Cf:=xO Cf
  have l6:=l3<|by cases nA <;> simp_all
  refine qZ<|b_n<|xh (m':=(j4:Int).toNat) qf ⟨_,_,_,_,uE5,?_,rfl,N,H⟩
  ·assumption
 refine zx4<|zcr<|sq 2<|sp (Bv true)<|zjr<|ret2 (Sv (aa AX 0) qI qI) (Bv true) rfl rfl rfl ⟨_,rfl,?_⟩
 replace H:=H.erases [0]
 dsimp only[zU,List.eraseIdx] at H
 refine sq 2<|sp (Bv true)<|sq 1<|sp (Bv true)<|zjc<|sp (Bv true)<|sp (Bv true)<|sp (yI 0)<|zjr<|ret2 (Bv true) (yI 0) rfl rfl rfl ⟨_,rfl,?_,H.base⟩
 rw[ah_y k0 (kr.trans<|gr_end qf)<|lay_end (S:=ag) l1 qf qf]
end
section
inductive Rch(R:yLL):Nat->Nat->Prop
 |refl (j:Nat):Rch R j j
 |step {j i:Nat} (k:Nat):k<(R[j]!).length->Rch R (((R[j]!)[k]!).toNat) i->Rch R j i
theorem Rch.one(h:Rch R j i)(hk:k<(R[i]!).length):Rch R j (((R[i]!)[k]!).toNat):=by
 induction h with
 |refl j=>exact .step k hk<|.refl _
 |step q hq _ ih=>exact .step q hq<|ih hk
theorem Rch.not(hk:k<(R[i]!).length)(h:Rch R (((R[i]!)[k]!).toNat) i):¬Halts R i:=
 not_halt (p:=fun j=>Rch R j i) (fun j hj=>by
  cases hj with
  |refl=>exact⟨k,hk,h⟩
  |step q hq h1=>exact⟨q,hq,h1⟩) (.refl i)
theorem not_go(hk:k<(R[i]!).length)(h:¬Halts R (((R[i]!)[k]!).toNat)):¬Halts R i:=fun hi=>h<|hi.go hk
def RowsIn(R:yLL):Prop:=R.length<=300/\∀j,j<R.length->(R[j]!).length<=300/\∀k,k<(R[j]!).length->0<=(R[j]!)[k]! /\((R[j]!)[k]!).toNat<R.length
structure VisI(R:yLL)(M D:yLI):Prop where
 ml:M.length=R.length
 dl:D.length=R.length
 mr:∀j,j<R.length->M[j]! =0\/M[j]! =1\/M[j]! =2
 fi:∀j,j<R.length->M[j]! =2->Fi R j (D[j]!)
 nz:∀j,j<R.length->M[j]! =0->D[j]! =0
 bd:∀j,j<R.length->0<=D[j]! /\D[j]! <=M.count 2/\(M[j]! =2->D[j]! +1<=M.count 2)
structure VisEnd(R:yLL)(M D M' D':yLI)(i:Nat):Prop where
 vi:VisI R M' D'
 me:M'[i]! =2
 kp:∀j:Nat,M[j]! ≠0->M'[j]! =M[j]! /\D'[j]! =D[j]!
 op:∀j:Nat,M'[j]! =1->M[j]! =1
 c0:M'.count 0<=M.count 0
 c2:M.count 2<=M'.count 2
structure VisL(R:yLL)(M D M' D':yLI)(i k:Nat):Prop where
 vi:VisI R M' D'
 m0:M[i]! =0
 me:M'[i]! =1
 kp:∀j:Nat,M[j]! ≠0->M'[j]! =M[j]! /\D'[j]! =D[j]!
 op:∀j:Nat,M'[j]! =1->M[j]! =1\/j=i
 dn:∀q:Nat,q<k->M'[((R[i]!)[q]!).toNat]! =2
 mx:D'[i]! =mxF (fun j=>D'[j]!) (R[i]!) k
 c0:M'.count 0<M.count 0
 c2:M.count 2<=M'.count 2
theorem count_setI{b:Int}:∀ {i:Nat},i<l.length->l[i]! =b->b≠a->((l.set i a).count c:Int)=l.count c+(if a=c then 1 else 0)-(if b=c then 1 else 0):=by
 induction l with
 |nil=>intro i h;simp at h
 |cons x l ih=>
  intro i h h1 Ij
  cases i with
  |zero=>simp at h1;subst h1;rw[List.set_cons_zero,List.count_cons,List.count_cons];simp only[beq_iff_eq];split <;> split <;> omega
  |succ i=>
   have:=ih (i:=i) (by simpa using h) (by simpa using h1) Ij
   rw[List.set_cons_succ,List.count_cons,List.count_cons];omega
theorem setAt0:(l.set i a)[j]! =if i=j/\j<l.length then a else l[j]! :=by
 by_cases h:j<l.length
 ·rw[setAt1 h];simp[h]
 ·rw[if_neg qf,getElem!_neg _ j<|by simpa using h,getElem!_neg _ j<|by simpa using h]
theorem VisI.start(R:yLL):VisI R (List.replicate R.length 0) (List.replicate R.length 0):=
 ⟨by simp,by simp,fun j hj=>by rw[repAt1 hj];omega,fun j hj h=>by rw[repAt1 hj] at h;exact absurd h qj,fun j hj _=>repAt1 hj,fun j hj=>by rw[repAt1 hj];exact⟨by omega,by omega,fun h=>absurd h qj⟩⟩
theorem VisL.start{M:yLI}(h:VisI R M D)(hi:i<R.length)(h0:M[i]! =0):VisL R M D (M.set i 1) D i 0:=by
 have hm:=h.ml
 have c2:=count_setI (c:=2) (a:=1) (show i<M.length by omega) h0 qj
 have c0:=count_setI (c:=0) (a:=1) (show i<M.length by omega) h0 qj
 simp only[Int.reduceEq,if_false,if_true] at c0 c2
 refine⟨⟨by simp[h.ml],h.dl,fun j hj=>?_,fun j hj hx=>?_,fun j hj hx=>?_,fun j hj=>?_⟩,h0,by rw[setAt0,if_pos ⟨rfl,by omega⟩],fun j hj=>?_,fun j hj=>?_,fun q hq=>by omega,h.nz i hi h0,by omega,by omega⟩
 ·rw[setAt0];split
  ·omega
  ·exact h.mr j hj
 ·rw[setAt0] at hx;split at hx
  ·omega
  ·exact h.fi j hj hx
 ·rw[setAt0] at hx;split at hx
  ·omega
  ·exact h.nz j hj hx
 ·have hb:=h.bd j hj
  rw[setAt0];split
  ·exact⟨hb.1,by omega,fun hx=>absurd hx qj⟩
  ·exact⟨hb.1,by omega,fun hx=>by have:=hb.2.2 hx;omega⟩
 ·rw[setAt0,if_neg<|by rintro⟨rfl,_⟩;exact hj h0];exact⟨rfl,rfl⟩
 ·rw[setAt0] at hj;split at hj
  ·exact .inr qf
  ·exact .inl hj
theorem VisL.open'{M:yLI}(h:VisL R M D M' D' i k)(hk:k<(R[i]!).length)(hr:∀j,M[j]! =1->Rch R j i):∀j,M'[j]! =1->Rch R j (((R[i]!)[k]!).toNat):=fun j hj=>by
 rcases h.op j hj with h1|rfl
 ·exact(hr j h1).one hk
 ·exact(Rch.refl j).one hk
theorem VisL.cyc{M:yLI}(h:VisL R M D M' D' i k)(hk:k<(R[i]!).length)(hr:∀j,M[j]! =1->Rch R j i)(h1:M'[((R[i]!)[k]!).toNat]! =1):¬Halts R i:=by
 refine Rch.not hk ?_
 rcases h.op _ h1 with h2|h2
 ·exact hr _ h2
 ·rw[h2];exact .refl i
theorem VisL.go{M:yLI}(h:VisL R M D M' D' i k)(hk:k<(R[i]!).length)(hi:i<R.length)(hR:RowsIn R)(h1:M'[((R[i]!)[k]!).toNat]! =2):VisL R M D M' (D'.set i<|max (D'[i]!)<|D'[((R[i]!)[k]!).toNat]! +1) i (k+1):=by
 have hv:=h.vi
 have hk1:=((hR.2 i hi).2 k hk).2
 have iQ:i≠((R[i]!)[k]!).toNat:=fun e=>by have:=h.me;rw[e,h1] at this;exact absurd this qj
 have hb:=hv.bd i hi
 have hb1:=hv.bd _ hk1
 have O4:=hb1.2.2 h1
 have hs:∀j,j≠i->(D'.set i<|max (D'[i]!)<|D'[((R[i]!)[k]!).toNat]! +1)[j]! =D'[j]! :=fun j hj=>by rw[setAt0,if_neg qf]
 have hme:(D'.set i<|max (D'[i]!)<|D'[((R[i]!)[k]!).toNat]! +1)[i]! =max (D'[i]!) (D'[((R[i]!)[k]!).toNat]! +1):=by rw[setAt0,if_pos ⟨rfl,by rw[hv.dl];exact hi⟩]
 have hdn:∀q,q<k+1->M'[((R[i]!)[q]!).toNat]! =2:=fun q hq=>by
  by_cases e:q=k
  ·subst e;exact h1
  ·exact h.dn q qf
 refine⟨⟨hv.ml,by simp[hv.dl],hv.mr,fun j hj hx=>?_,fun j hj hx=>?_,fun j hj=>?_⟩,h.m0,h.me,fun j hj=>?_,h.op,hdn,?_,h.c0,h.c2⟩
 ·rw[hs j (fun e=>by subst e;rw[h.me] at hx;exact absurd hx qj)];exact hv.fi j hj hx
 ·rw[hs j (fun e=>by subst e;rw[h.me] at hx;exact absurd hx qj)];exact hv.nz j hj hx
 ·by_cases e:j=i
  ·subst e;rw[hme];exact⟨by omega,by omega,fun hx=>by rw[h.me] at hx;exact absurd hx qj⟩
  ·rw[hs j e];exact hv.bd j hj
 ·have h2:=h.kp j hj
  by_cases e:j=i
  ·subst e;exact absurd h.m0 hj
  ·rw[hs j e];exact h2
 ·rw[hme,mxF,hs _<|Ne.symm iQ]
  rw[mxF_congr (g':=fun j=>D'[j]!) k fun q hq=>hs _ (fun e=>by have:=h.dn q hq;rw[e,h.me] at this;exact absurd this qj)]
  rw[←h.mx]
theorem VisL.sub{M M2 D2:yLI}{j':Nat}(h:VisL R M D M' D' i k)(e:VisEnd R M' D' M2 D2 j'):VisL R M D M2 D2 i k:=by
 have hi:=e.kp i<|by rw[h.me];decide
 have hq:∀q,q<k->M2[((R[i]!)[q]!).toNat]! =2/\D2[((R[i]!)[q]!).toNat]! =D'[((R[i]!)[q]!).toNat]! :=fun q hq=>by
  have h1:=h.dn q hq
  obtain⟨a,b⟩:=e.kp _ (show M'[((R[i]!)[q]!).toNat]! ≠0 by rw[h1];decide)
  exact⟨a.trans h1,b⟩
 refine⟨e.vi,h.m0,hi.1.trans h.me,fun j hj=>?_,fun j hj=>h.op j<|e.op j hj,fun q hk=>(hq q hk).1,?_,by have:=e.c0;have:=h.c0;omega,by have:=e.c2;have:=h.c2;omega⟩
 ·obtain⟨a,b⟩:=h.kp j hj
  obtain⟨c,d⟩:=e.kp j<|by rw[a];exact hj
  exact⟨c.trans a,d.trans b⟩
 ·rw[hi.2,h.mx];exact mxF_congr k fun q hk=>(hq q hk).2.symm
theorem VisL.fin{M:yLI}(h:VisL R M D M' D' i k)(hi:i<R.length)(hk:k=(R[i]!).length):VisEnd R M D (M'.set i 2) D' i/\Halts R i:=by
 subst hk
 have hv:=h.vi
 have hl:=hv.ml
 have hf:Fi R i (D'[i]!):=by
  rw[h.mx];exact fi_step fun q hq=>by
   have h1:=h.dn q hq
   have:((R[i]!)[q]!).toNat<R.length:=by
    rcases Nat.lt_or_ge ((R[i]!)[q]!).toNat R.length with a|a
    ·exact a
    ·rw[getElem!_neg _ _ qf] at h1;exact absurd h1 qj
   exact hv.fi _ this h1
 have c2:=count_setI (c:=2) (a:=2) (show i<M'.length by omega) h.me qj
 have c0:=count_setI (c:=0) (a:=2) (show i<M'.length by omega) h.me qj
 simp only[Int.reduceEq,if_false,if_true] at c0 c2
 refine⟨⟨⟨by simp[hl],hv.dl,fun j hj=>?_,fun j hj hx=>?_,fun j hj hx=>?_,fun j hj=>?_⟩,by rw[setAt0,if_pos ⟨rfl,by omega⟩],fun j hj=>?_,fun j hj=>?_,by have:=h.c0;omega,by have:=h.c2;omega⟩,hf.halts⟩
 ·rw[setAt0];split
  ·omega
  ·exact hv.mr j hj
 ·by_cases e:j=i
  ·subst e;exact hf
  ·rw[setAt0,if_neg qf] at hx;exact hv.fi j hj hx
 ·by_cases e:j=i
  ·subst e;rw[setAt0,if_pos ⟨rfl,by omega⟩] at hx;exact absurd hx qj
  ·rw[setAt0,if_neg qf] at hx;exact hv.nz j hj hx
 ·have hb:=hv.bd j hj
  exact⟨hb.1,by omega,fun hx=>by
   by_cases e:j=i
   ·omega
   ·rw[setAt0,if_neg qf] at hx;have:=hb.2.2 hx;omega⟩
 ·rw[setAt0,if_neg<|by rintro⟨rfl,_⟩;exact hj h.m0];exact h.kp j hj
 ·rw[setAt0] at hj;split at hj
  ·omega
  ·rename_i hx;rcases h.op j hj with h1|h1
   ·exact h1
   ·omega
theorem GrOk.rowsIn(h:GrOk S R)(hl:R.length=S.length)(h3:R.length<=300):RowsIn R:=
 ⟨h3,fun j hj=>⟨h.lens j hj,fun k hk=>by have:=h.rows j hj k hk;omega⟩⟩
theorem VisI.top{M:yLI}(h:VisI R M D)(hR:RowsIn R)(hj:j<R.length):0<=D[j]! /\D[j]! <=300:=by
 have h1:=h.bd j hj
 have h2:=List.count_le_length (a:=2) (l:=M)
 have h3:=h.ml
 have h4:=hR.1
 omega
theorem rep0(h:(List.replicate n (0:Int))[j]! =1):False:=by
 by_cases hj:j<n
 ·rw[repAt1 hj] at h;exact absurd h qj
 ·rw[getElem!_neg _ j<|by simpa using hj] at h;exact absurd h qj
theorem rep_cnt(h:n<=300):(List.replicate n (0:Int)).count 0<=300:=Nat.le_trans List.count_le_length<|by simpa using h
theorem ah_h{t:qG}(h:vz s/\xK s t)(h1:Yf s t=((S,R),0)):Qn s t=(dec<|Halts R 0,0):=by rw[Qn,if_pos h,if_pos<|by rw[h1],h1]
end
section
variable{cl : Nat}
theorem find_ok(w:World)(l:List qG)(u:qG){j0:yOA}{ju:Nat}{xV:yLN}{mP:yOA}{mw:Nat}{Cv:yLN}{fJ:yOA}{fO:Nat}{s9:yLN}(hl:zP w Fl al cl l)(nw:zP w xV j0 ju u.qK)(tU:zP w Cv mP mw u.qQ)(lc:zP w s9 fJ fO u.qJ):Calls Tryz.prog 68 #[Sv al l.length cl,.agg #[Sv j0 u.qK.length ju,Sv mP u.qQ.length mw,Sv fJ u.qJ.length fO]] w (Ret (fun v w'=>v=yI (firstIdx (fun zz=>decide<|l[zz]! =u) l.length)) w):=by
 refine en func68 ntmps68 ?_
 have H:=((((St.start w).arg lc).arg tU).arg nw).arg hl
 have y4:=qR hl
 clear hl nw tU lc
 have N:=Fresh.nil w.heap.size
 refine zcr<|sw<|zN H (yT u j0 ju mP mw fJ fO) fun b1 w2 H=>sp (yI 0)<|zjc<|sq 1<|sp (.func (.func 116) #[] #[pp b1 0])<|sw<|zW #[Sv al l.length cl,.func (.func 116) #[] #[pp b1 0]] rfl rfl call115<|en func115 ntmps115 ?_
 refine zcr<|sp (yI 0)<|zjcc<|sq 1<|oN rfl<|sp (yI 0)<|zjn<|xf<|zD ((fun Z0 Z1 Z2 Z3 Z4=>fun m' ρ w3=>∃(xN:Env) (i:Nat),ρ=upd (upd (upd (upd xN 0<|Sv al l.length cl) 1<|.func (.func 116) #[] #[pp b1 0]) 7<|yI l.length) 8 (yI i)/\((i:Int)<=l.length)/\(noneTo (fun zz=>decide<|l[zz]! =u) i)/\m'=(l.length-(i:Int)).toNat/\Fresh w.heap.size []/\St w w3 [Z0] [Z1,Z2,Z3,Z4]) _ _ _ _ _) ((l.length-(0:Int)).toNat) ⟨_,0,uE4,qf,qx,rfl,N,H⟩ ?_
 clear H N
 rintro m' ρ w4 ⟨xN,i,rfl,i0,i1,rfl,N,H⟩
 refine zcr<|sq 1<|zjn<|xU<|cD rfl (fun h5=>?_)<|fun h5=>?_
 ·refine qZ (t_n<|xU<|xf<|zcr<|sp (yI i)<|sp (yI i)<|zjc<|sp (.func (.func 116) #[] #[pp b1 0])<|sq 1<|sp (yI i) ?_)
  obtain⟨b6,o7,rfl⟩:=H.addr 0 rfl qf
  obtain⟨om,og,ad3,rQ,rJ,aiD,lQ,lR,Wk,H⟩:=H.XO 0 rfl i i qf qf qf
  refine oI rfl rfl<|sw<|xy [Sv om (((l[i]!).qK).length) og,Sv rQ (((l[i]!).qQ).length) rJ,Sv lQ (((l[i]!).qJ).length) lR] isAgg31 sizeOf31 rfl (qC (H.get 3 rfl) 0 3)<|sw<|zW #[.agg #[Sv om (((l[i]!).qK).length) og,Sv rQ (((l[i]!).qQ).length) rJ,Sv lQ (((l[i]!).qJ).length) lR],pp b1 0] rfl rfl call116<|en func116 ntmps116 ?_
  refine zcr<|sw<|zN H [Sv om (((l[i]!).qK).length) og,Sv rQ (((l[i]!).qQ).length) rJ,Sv lQ (((l[i]!).qJ).length) lR] fun g9 rL H=>sp (Bv false)<|zjc<|sw<|xy [Sv om (((l[i]!).qK).length) og,Sv rQ (((l[i]!).qQ).length) rJ,Sv lQ (((l[i]!).qJ).length) lR] isAgg31 sizeOf31 rfl (qC (H.cells 0 rfl) 0 3)<|sw<|xy (yT u j0 ju mP mw fJ fO) isAgg31 sizeOf31 rfl (qC (H.cells 1 rfl) 0 3)<|sw<|oq (sameState_ok _ (l[i]!) u (H.get 0 rfl).1 (H.get 1 rfl).1 (H.get 2 rfl).1 (H.get 5 rfl).1 (H.get 6 rfl).1 (H.get 7 rfl).1) H fun xp H=>sq 1<|zjr<|ret1 (Bv<|decide ((l[i]!)=u)) rfl rfl ⟨_,rfl,?_⟩
  replace H:=H.erases [0]
  dsimp only[zU,List.eraseIdx] at H
  refine zjn<|cD rfl (fun mc=>?_)<|fun mc=>?_
  ·refine zcr (sp (yI i)<|sp (yI i)<|zjr<|zr5<|ret1 (yI i) rfl rfl ⟨_,rfl,(sp (yI i)<|zjr<|rH1 (yI i) H ?_)⟩)
   rw[Xj (k:=i) qf i1<|decide_eq_true ‹_›]
  refine qZ<|b_n<|t_n<|xX<|sw<|zC i 1 rfl rfl qf<|sq 1<|xZ<|xh (m':=(l.length-((i+1):Int)).toNat) qf ⟨_,i+1,uE4,?_,?_,rfl,N,H.pick [0]<|zR 4 4⟩
  ·omega
  ·exact noneTo_succ i1<|decide_eq_false ‹_›
 refine zx4<|zcr<|sq 1<|zjr<|ret1 (yI (-1)) rfl rfl ⟨_,rfl,(sq 1<|zjr<|rH1 (yI (-1)) H ?_)⟩
 rw[firstIdx_none<|fun j hj=>i1 j qf]
theorem sizeS_ok(w:World)(l:List qG)(hl:zP w Fl al cl l):Calls Tryz.prog 114 #[Sv al l.length cl] w (Ret (fun v w'=>v=yI l.length) w):=by
 refine en func114 ntmps114 ?_
 have H:=(St.start w).arg hl
 clear hl
 refine zcr<|sp (yI 0)<|zjc<|sq 1<|oN rfl<|sq 1<|zjr<|rH1 (yI l.length) H ?_
 rfl
def visit_ok_S(f:Nat):Prop:=∀ {W0 w:World} {ps:List Prv} {Γ:List Fact} {Ns:List yLN} (z:Int) (bK:yLI) (most:yLI) (R:yLL) (aS:yOA) (nS:Nat) (cS:Nat) (aR:yOA) (cR:Nat) (FR:yLN) (bm:Nat) (bg:Nat) (bv:Nat) (bd:Nat) (LX:yOA) (My:Nat) (z8:Nat) (IX:yOA) (Ng:Nat) (B0:Nat) (H:St W0 w ((.box bm [Sv LX My z8] 135)::(.box bg [Sv aS nS cS,Sv aR R.length cR] 46)::(.box bv [.func (.func 111) #[] #[pp bm 0,pp bg 0,pp bv 0,pp bd 0]] 71)::(.box bd [Sv IX Ng B0] 24)::(rr LX My z8 3 1<|bK.map<|Value.int .i64)::(rr IX Ng B0 2 1<|most.map<|Value.int .i64)::ps) ((sF false FR aR cR R)::Γ)) (N:Fresh W0.heap.size (Ns)) (K0:Kept Ns Γ) (p0:VisI R bK most) (p1:0<=z/\z.toNat<R.length) (p2:bK[z.toNat]! =0) (p3:RowsIn R) (p4:∀j:Nat,bK[j]! =1->Rch R j z.toNat) (p5:bK.count 0<=f),Calls Tryz.prog 111 #[yI z,pp bm 0,pp bg 0,pp bv 0,pp bd 0] w (fun e w'=>∃v,e=.returned v/\∃(mE:yLI) (tf:yLI),(mE.length=bK.length)/\(tf.length=most.length)/\(Halts R z.toNat->VisEnd R bK most mE tf z.toNat)/\v=Bv (dec<|Halts R z.toNat)/\Fresh W0.heap.size (Ns)/\St W0 w' ((.box bm [Sv LX My z8] 135)::(.box bg [Sv aS nS cS,Sv aR R.length cR] 46)::(.box bv [.func (.func 111) #[] #[pp bm 0,pp bg 0,pp bv 0,pp bd 0]] 71)::(.box bd [Sv IX Ng B0] 24)::(rr LX My z8 3 1<|mE.map<|Value.int .i64)::(rr IX Ng B0 2 1<|tf.map<|Value.int .i64)::ps) ((sF false FR aR cR R)::Γ))
theorem visit_ok_step(f:Nat)(IH:∀k,k<f->visit_ok_S k)(z:Int)(bK:yLI)(most:yLI)(R:yLL)(aS:yOA)(nS:Nat)(cS:Nat)(aR:yOA)(cR:Nat)(FR:yLN)(bm:Nat)(bg:Nat)(bv:Nat)(bd:Nat)(LX:yOA)(My:Nat)(z8:Nat)(IX:yOA)(Ng:Nat)(B0:Nat)(H:St W0 w ((.box bm [Sv LX My z8] 135)::(.box bg [Sv aS nS cS,Sv aR R.length cR] 46)::(.box bv [.func (.func 111) #[] #[pp bm 0,pp bg 0,pp bv 0,pp bd 0]] 71)::(.box bd [Sv IX Ng B0] 24)::(rr LX My z8 3 1<|bK.map<|Value.int .i64)::(rr IX Ng B0 2 1<|most.map<|Value.int .i64)::ps) ((sF false FR aR cR R)::Γ))(N:Fresh W0.heap.size (Ns))(K0:Kept Ns Γ)(p0:VisI R bK most)(p1:0<=z/\z.toNat<R.length)(p2:bK[z.toNat]! =0)(p3:RowsIn R)(p4:∀j:Nat,bK[j]! =1->Rch R j z.toNat)(p5:bK.count 0<=f):Calls Tryz.prog 111 #[yI z,pp bm 0,pp bg 0,pp bv 0,pp bd 0] w (fun e w'=>∃v,e=.returned v/\∃(mE:yLI) (tf:yLI),(mE.length=bK.length)/\(tf.length=most.length)/\(Halts R z.toNat->VisEnd R bK most mE tf z.toNat)/\v=Bv (dec<|Halts R z.toNat)/\Fresh W0.heap.size (Ns)/\St W0 w' ((.box bm [Sv LX My z8] 135)::(.box bg [Sv aS nS cS,Sv aR R.length cR] 46)::(.box bv [.func (.func 111) #[] #[pp bm 0,pp bg 0,pp bv 0,pp bd 0]] 71)::(.box bd [Sv IX Ng B0] 24)::(rr LX My z8 3 1<|mE.map<|Value.int .i64)::(rr IX Ng B0 2 1<|tf.map<|Value.int .i64)::ps) ((sF false FR aR cR R)::Γ)):=by
 refine en func111 ntmps111 ?_
 have nR:=qR (H.get 0 rfl).1
 obtain rfl:=H.jy 4 rfl
 obtain rfl:=H.jy 5 rfl
 obtain⟨p6,p7⟩:=p1
 have ml:=p0.ml
 have dl:=p0.dl
 have p8:=p3.1
 have p9:=(p3.2 z.toNat p7).1
 have v0:=VisL.start p0 p7 p2
 refine zcr<|sp (Bv false)<|zjc<|oL rfl (H.cell 0 rfl rfl)<|sp (yI z) ?_
 obtain⟨b1,rfl⟩:=H.jR 4 rfl qf
 refine oI rfl rfl<|sw<|Qe H 4 rfl 1 sizeOf3 rfl rfl (i:=z.toNat) qf qf fun w2 H=>?_
 dsimp only[List.set] at H
 refine zjcc<|oF rfl<|oL rfl (H.cell 1 rfl rfl)<|sp (yI z) ?_
 obtain⟨b3,o4,rfl⟩:=H.addr 0 rfl qf
 obtain⟨ae6,Nc,Fe6,H⟩:=H.jo 0 rfl z z.toNat qf qf qf
 refine oI rfl rfl<|oL rfl (H.zo 1 rfl 0 rfl)<|oN rfl<|sp (yI 0)<|zjn<|xf<|zD ((fun Z0 Z1 Z2 Z3 Z4 Z5 Z6=>fun m' ρ w7=>∃(xN:Env) (av:Nat) (bk:yLI) (bI:yLI),ρ=upd (upd (upd (upd (upd (upd (upd xN 0<|yI z) 1<|pp bm 0) 3<|pp bv 0) 4<|pp bd 0) 16<|Sv ae6 ((R[z.toNat]!).length) Nc) 17<|yI ((R[z.toNat]!).length)) 18 (yI av)/\((av:Int)<=((R[z.toNat]!).length))/\(VisL R bK most bI bk z.toNat av)/\(bI.length=bK.length)/\(bk.length=most.length)/\m'=(((R[z.toNat]!).length)-(av:Int)).toNat/\Fresh W0.heap.size (Ns)/\St W0 w7 (Z0::Z1::Z2::Z3::(rr (aa b1 0) bK.length z8 3 1<|bI.map<|Value.int .i64)::(rr IX most.length B0 2 1<|bk.map<|Value.int .i64)::ps) (Z4::Z5::Z6::Γ)) _ _ _ _ _ _ _) ((((R[z.toNat]!).length)-(0:Int)).toNat) ⟨_,0,most,(bK.set z.toNat 1),uE7,qf,(by exact v0),qm,(by rfl),rfl,N,H⟩ ?_
 clear H N
 rintro m' ρ w8 ⟨xN,av,bk,bI,rfl,i0,v,ml1,dl1,rfl,N,H⟩
 refine zcr<|sq 1<|zjn<|xU<|cD rfl (fun h9=>?_)<|fun h9=>?_
 ·obtain⟨q1,q2⟩:=(p3.2 z.toNat p7).2 av qf
  have q3:=v.vi.top p3 q2
  refine qZ<|t_n<|xU<|xf<|zcr ?_
  obtain⟨g9,F7,rfl⟩:=H.addr 0 rfl qf
  refine oI rfl rfl<|oL rfl (H.zS 0 rfl av qf)<|sq 1<|zjcc<|oL rfl (H.cell 0 rfl rfl)<|sq 1<|oI rfl rfl<|oL rfl (H.Xb 4 rfl (iv:=(R[z.toNat]!)[av]!) (i:=(((R[z.toNat]!)[av]! :Int).toNat)) qf qf)<|sp (Bv ((bI[((R[z.toNat]!)[av]! :Int).toNat]! :Int) == 1))<|sp (Bv ((bI[((R[z.toNat]!)[av]! :Int).toNat]! :Int) == 1)) ?_
  cases dS:((bI[((R[z.toNat]!)[av]! :Int).toNat]! :Int) == 1)
  ·replace dS:=ne_of_beq_false dS
   refine qP 27 rfl rfl<|oL rfl (H.cell 0 rfl rfl)<|qP 27 rfl rfl<|sq 1<|qP 27 rfl rfl<|oI rfl rfl<|qP 27 rfl rfl<|oL rfl (H.Xb 4 rfl (iv:=(R[z.toNat]!)[av]!) (i:=(((R[z.toNat]!)[av]! :Int).toNat)) qf qf)<|qP 27 rfl rfl<|sp (Bv ((bI[((R[z.toNat]!)[av]! :Int).toNat]! :Int) == 0))<|qP 27 rfl rfl<|sp (Bv ((bI[((R[z.toNat]!)[av]! :Int).toNat]! :Int) == 0)) ?_
   cases eE:((bI[((R[z.toNat]!)[av]! :Int).toNat]! :Int) == 0)
   ·replace eE:=ne_of_beq_false eE
    refine xY (zR 34 4)<|qP 27 rfl rfl<|sp (Bv false)<|sp (Bv false)<|zjn<|cFr rfl<|qZ<|t_n ?_
    obtain⟨Fo,rfl⟩:=H.jR 5 rfl qf
    refine VD (fun ρ KX=>∃(xN:Env),ρ=upd (upd (upd (upd (upd (upd (upd (upd (upd (upd (upd (upd (upd (upd xN 0<|yI z) 1<|pp bm 0) 3<|pp bv 0) 4<|pp bd 0) 16<|Sv (aa g9 F7) ((R[z.toNat]!).length) Nc) 17<|yI ((R[z.toNat]!).length)) 18<|yI av) 28<|Sv (aa b1 0) bK.length z8) 29<|yI ((R[z.toNat]!)[av]!)) 30<|pp b1<|0+((R[z.toNat]!)[av]! :Int).toNat*1) 31<|yI<|bI[((R[z.toNat]!)[av]! :Int).toNat]!) 32<|Bv false) 33<|Bv false) 38 (Bv false)/\Fresh W0.heap.size (Ns)/\St W0 KX ((.box bm [Sv (aa b1 0) bK.length z8] 135)::(.box bg [Sv aS nS cS,Sv (aa b3 o4) R.length cR] 46)::(.box bv [.func (.func 111) #[] #[pp bm 0,pp bg 0,pp bv 0,pp bd 0]] 71)::(.box bd [Sv (aa Fo 0) most.length B0] 24)::(rr (aa b1 0) bK.length z8 3 1<|bI.map<|Value.int .i64)::(rr (aa Fo 0) most.length B0 2 1 ((bk.set z.toNat<|max (bk[z.toNat]!) ((bk[((R[z.toNat]!)[av]! :Int).toNat]!)+1)).map<|Value.int .i64))::ps) ((sF false Fe6 (aa g9 F7) Nc<|R[z.toNat]!)::(atF b3 (o4+(z:Int).toNat*1) [Sv (aa g9 F7) ((R[z.toNat]!).length) Nc])::(sF false FR (aa b3 o4) cR R)::Γ)) ?_ ?_
    ·refine XT rfl H [0,1,2,3,4] [0,1,2] fun H=>?_
     have S:=H.jF (zR 0 5) [0,1,2]
     refine tL 0 rfl rfl (fun _ h=>h.cell 3 rfl rfl) S ?_
     refine rtp 1 (yI z) S ?_
     refine tL 2 rfl rfl (fun _ h=>h.cell 3 rfl rfl) S ?_
     refine rtp 3 (yI z) S ?_
     refine tI 4 rfl rfl rfl S ?_
     refine tL 6 rfl rfl (fun _ h=>h.cell 3 rfl rfl) S ?_
     refine rtl 7 S ?_
     refine tI 8 rfl rfl rfl S ?_
     refine zY [5,9] qh qm<|vG rfl ?_<|vG rfl ?_ zZ
     ·refine zB (yI<|bk[z.toNat]!) isAgg2 rfl (H.Xb 5 rfl (iv:=z) (i:=z.toNat) qf qf) (⟨H.pick (zR 0 5) [0,1,2],(ro 9 rfl<|zB (yI<|bk[((R[z.toNat]!)[av]! :Int).toNat]!) isAgg2 rfl (H.Xb 5 rfl (iv:=(R[z.toNat]!)[av]!) (i:=(((R[z.toNat]!)[av]! :Int).toNat)) qf qf)<|⟨H.pick (zR 0 5) [0,1,2],?_⟩)⟩)
      have S:=H.jF (zR 0 5) [0,1,2]
      refine rt 10 _ (y_add (bk[((R[z.toNat]!)[av]! :Int).toNat]!) 1 rfl rfl qf) S ?_
      refine rt 11 _ (y_max (bk[z.toNat]!) ((bk[((R[z.toNat]!)[av]! :Int).toNat]!)+1) rfl rfl) S ?_
      refine tI 12 rfl rfl rfl S ?_
      refine ro 13 rfl<|Qe H 5 rfl (max (bk[z.toNat]!) ((bk[((R[z.toNat]!)[av]! :Int).toNat]!)+1)) sizeOf2 rfl rfl (i:=z.toNat) qf qf fun EY H=>?_
      dsimp only[List.set] at H
      refine⟨H.pick (zR 0 5) [0,1,2],(xC qh ((meet ⟨_,uE14,N,H⟩)))⟩
     refine zB (yI<|bk[((R[z.toNat]!)[av]! :Int).toNat]!) isAgg2 rfl (H.Xb 5 rfl (iv:=(R[z.toNat]!)[av]!) (i:=(((R[z.toNat]!)[av]! :Int).toNat)) qf qf)<|⟨H.pick (zR 0 5) [0,1,2],(rt 10 _ (y_add (bk[((R[z.toNat]!)[av]! :Int).toNat]!) 1 rfl rfl qf) (H.pick (zR 0 5) [0,1,2]) ?_)⟩
     refine ro 5 rfl<|zB (yI<|bk[z.toNat]!) isAgg2 rfl (H.Xb 5 rfl (iv:=z) (i:=z.toNat) qf qf)<|⟨H.pick (zR 0 5) [0,1,2],?_⟩
     have S:=H.jF (zR 0 5) [0,1,2]
     refine rt 11 _ (y_max (bk[z.toNat]!) ((bk[((R[z.toNat]!)[av]! :Int).toNat]!)+1) rfl rfl) S ?_
     refine tI 12 rfl rfl rfl S ?_
     refine ro 13 rfl<|Qe H 5 rfl (max (bk[z.toNat]!) ((bk[((R[z.toNat]!)[av]! :Int).toNat]!)+1)) sizeOf2 rfl rfl (i:=z.toNat) qf qf fun y6 H=>?_
     dsimp only[List.set] at H
     refine⟨H.pick (zR 0 5) [0,1,2],(xC qh ((meet ⟨_,uE14,N,H⟩)))⟩
    clear H N
    rintro ρ tr ⟨xN,rfl,N,H⟩
    refine b_n<|t_n<|xX<|sw<|zC av 1 rfl rfl qf<|sq 1<|xZ<|xh (m':=(((R[z.toNat]!).length)-((av+1):Int)).toNat) qf ⟨_,av+1,_,_,uE7,?_,?_,?_,?_,rfl,N,H⟩
    ·omega
    ·exact v.go qf p7 p3 (by have:=v.vi.mr _ q2;omega)
    ·omega
    ·simp;omega
   replace eE:=eq_of_beq eE
   refine qP 33 rfl rfl<|oL rfl (H.cell 2 rfl rfl)<|qP 33 rfl rfl<|sq 1<|qP 33 rfl rfl ?_
   have c0:=v.c0
   have H1:=H.y9 6 3 [0,1,2,3,4,5] [2,0,1] qo qo
   have N1:Fresh _ (Ns):=N
   have K1:Kept (Ns) ((sF false Fe6 (aa g9 F7) Nc<|R[z.toNat]!)::(atF b3 (o4+(z:Int).toNat*1) [Sv (aa g9 F7) ((R[z.toNat]!).length) Nc])::Γ):=K0.behind 2 rfl
   refine sw<|ve #[yI ((R[z.toNat]!)[av]!),pp bm 0,pp bg 0,pp bv 0,pp bd 0] rfl rfl call111 (IH (f-1) qf ((R[z.toNat]!)[av]!) bI bk R aS nS cS (aa b3 o4) cR FR bm bg bv bd (aa b1 0) bK.length z8 IX most.length B0 H1 N1 K1 (by exact v.vi) (by exact⟨by omega,by omega⟩) ql ql (by exact v.open' qf p4)<|by omega) ?_
   clear H H1 N1 K1
   rintro _ G4 ⟨X1,iG,apu,aoR,axy,rfl,N,H⟩
   refine qP 33 rfl rfl<|sq 1<|qP 27 rfl rfl<|sq 2<|zjn<|cQ rfl (fun GY=>?_)<|fun GY=>?_
   ·refine zcr (sp (Bv false)<|zjr<|t_r<|zr5<|ret1 (Bv false) rfl rfl ⟨_,rfl,?_⟩)
    have nh:¬Halts R z.toNat:=by exact not_go (k:=av) qf ql
    rw[xw nh]
    exact⟨X1,iG,(by omega),(by omega),(by exact fun hh=>absurd hh nh),rfl,N,H.vU 6 3 (zR 0 6) [0] qo qo⟩
   have v1:=v.sub ((‹Halts R _->VisEnd R _ _ _ _ _›) ‹Halts R _›)
   have q4:=v1.vi.top p3 q2
   refine qZ<|t_n ?_
   obtain⟨Bn,rfl⟩:=H.jR 5 rfl qf
   refine VD (fun ρ BB=>∃(xN:Env),ρ=upd (upd (upd (upd (upd (upd (upd (upd (upd (upd (upd (upd (upd (upd (upd (upd (upd (upd xN 0<|yI z) 1<|pp bm 0) 3<|pp bv 0) 4<|pp bd 0) 16<|Sv (aa g9 F7) ((R[z.toNat]!).length) Nc) 17<|yI ((R[z.toNat]!).length)) 18<|yI av) 28<|Sv (aa b1 0) bK.length z8) 29<|yI ((R[z.toNat]!)[av]!)) 30<|pp b1<|0+((R[z.toNat]!)[av]! :Int).toNat*1) 31<|yI<|bI[((R[z.toNat]!)[av]! :Int).toNat]!) 32<|Bv true) 33<|Bv true) 34<|.func (.func 111) #[] #[pp bm 0,pp bg 0,pp bv 0,pp bd 0]) 35<|yI ((R[z.toNat]!)[av]!)) 36<|Bv<|dec<|Halts R ((R[z.toNat]!)[av]!).toNat) 37<|Bv (!(dec<|Halts R ((R[z.toNat]!)[av]!).toNat))) 38 (Bv (!(dec<|Halts R ((R[z.toNat]!)[av]!).toNat)))/\Fresh W0.heap.size (Ns)/\St W0 BB ((.box bm [Sv (aa b1 0) bK.length z8] 135)::(.box bg [Sv aS nS cS,Sv (aa b3 o4) R.length cR] 46)::(.box bv [.func (.func 111) #[] #[pp bm 0,pp bg 0,pp bv 0,pp bd 0]] 71)::(.box bd [Sv (aa Bn 0) most.length B0] 24)::(rr (aa b1 0) bK.length z8 3 1<|X1.map<|Value.int .i64)::(rr (aa Bn 0) most.length B0 2 1 ((iG.set z.toNat<|max (iG[z.toNat]!) ((iG[((R[z.toNat]!)[av]! :Int).toNat]!)+1)).map<|Value.int .i64))::ps) ((sF false FR (aa b3 o4) cR R)::(sF false Fe6 (aa g9 F7) Nc<|R[z.toNat]!)::(atF b3 (o4+(z:Int).toNat*1) [Sv (aa g9 F7) ((R[z.toNat]!).length) Nc])::Γ)) ?_ ?_
   ·refine XT rfl H [0,1,2,3,4] [0,1,2] fun H=>?_
    have S:=H.jF (zR 0 5) [0,1,2]
    refine tL 0 rfl rfl (fun _ h=>h.cell 3 rfl rfl) S ?_
    refine rtp 1 (yI z) S ?_
    refine tL 2 rfl rfl (fun _ h=>h.cell 3 rfl rfl) S ?_
    refine rtp 3 (yI z) S ?_
    refine tI 4 rfl rfl rfl S ?_
    refine tL 6 rfl rfl (fun _ h=>h.cell 3 rfl rfl) S ?_
    refine rtl 7 S ?_
    refine tI 8 rfl rfl rfl S ?_
    refine zY [5,9] qh qm<|vG rfl ?_<|vG rfl ?_ zZ
    ·refine zB (yI<|iG[z.toNat]!) isAgg2 rfl (H.Xb 5 rfl (iv:=z) (i:=z.toNat) qf qf) (⟨H.pick (zR 0 5) [0,1,2],(ro 9 rfl<|zB (yI<|iG[((R[z.toNat]!)[av]! :Int).toNat]!) isAgg2 rfl (H.Xb 5 rfl (iv:=(R[z.toNat]!)[av]!) (i:=(((R[z.toNat]!)[av]! :Int).toNat)) qf qf)<|⟨H.pick (zR 0 5) [0,1,2],?_⟩)⟩)
     have S:=H.jF (zR 0 5) [0,1,2]
     refine rt 10 _ (y_add (iG[((R[z.toNat]!)[av]! :Int).toNat]!) 1 rfl rfl qf) S ?_
     refine rt 11 _ (y_max (iG[z.toNat]!) ((iG[((R[z.toNat]!)[av]! :Int).toNat]!)+1) rfl rfl) S ?_
     refine tI 12 rfl rfl rfl S ?_
     refine ro 13 rfl<|Qe H 5 rfl (max (iG[z.toNat]!) ((iG[((R[z.toNat]!)[av]! :Int).toNat]!)+1)) sizeOf2 rfl rfl (i:=z.toNat) qf qf fun G6 H=>?_
     dsimp only[List.set] at H
     refine⟨H.pick (zR 0 5) [0,1,2],(xC qh ((meet ⟨_,uE18,N,H⟩)))⟩
    refine zB (yI<|iG[((R[z.toNat]!)[av]! :Int).toNat]!) isAgg2 rfl (H.Xb 5 rfl (iv:=(R[z.toNat]!)[av]!) (i:=(((R[z.toNat]!)[av]! :Int).toNat)) qf qf)<|⟨H.pick (zR 0 5) [0,1,2],(rt 10 _ (y_add (iG[((R[z.toNat]!)[av]! :Int).toNat]!) 1 rfl rfl qf) (H.pick (zR 0 5) [0,1,2]) ?_)⟩
    refine ro 5 rfl<|zB (yI<|iG[z.toNat]!) isAgg2 rfl (H.Xb 5 rfl (iv:=z) (i:=z.toNat) qf qf)<|⟨H.pick (zR 0 5) [0,1,2],?_⟩
    have S:=H.jF (zR 0 5) [0,1,2]
    refine rt 11 _ (y_max (iG[z.toNat]!) ((iG[((R[z.toNat]!)[av]! :Int).toNat]!)+1) rfl rfl) S ?_
    refine tI 12 rfl rfl rfl S ?_
    refine ro 13 rfl<|Qe H 5 rfl (max (iG[z.toNat]!) ((iG[((R[z.toNat]!)[av]! :Int).toNat]!)+1)) sizeOf2 rfl rfl (i:=z.toNat) qf qf fun Ml H=>?_
    dsimp only[List.set] at H
    refine⟨H.pick (zR 0 5) [0,1,2],(xC qh ((meet ⟨_,uE18,N,H⟩)))⟩
   clear H N
   rintro ρ Gj ⟨xN,rfl,N,H⟩
   refine b_n<|t_n<|xX<|sw<|zC av 1 rfl rfl qf<|sq 1<|xZ<|xh (m':=(((R[z.toNat]!).length)-((av+1):Int)).toNat) qf ⟨_,av+1,_,_,uE7,?_,?_,?_,?_,rfl,N,H.vU 6 3 (zR 0 6) [1,2,0] qo qo⟩
   ·omega
   ·exact(v.sub (‹Halts R _->VisEnd R _ _ _ _ _› ‹Halts R _›)).go qf p7 p3 (‹Halts R _->VisEnd R _ _ _ _ _› ‹Halts R _›).me
   ·omega
   ·simp;omega
  replace dS:=eq_of_beq dS
  refine xY (zR 28 11)<|sp (Bv true)<|zjn<|cTr rfl<|zcr<|sp (Bv false)<|zjr<|t_r<|zr5<|ret1 (Bv false) rfl rfl ⟨_,rfl,?_⟩
  have nh:¬Halts R z.toNat:=by exact v.cyc qf p4 ql
  rw[xw nh]
  exact⟨bI,bk,(by omega),(by omega),(by exact fun hh=>absurd hh nh),rfl,N,H.vU 6 3 (zR 0 6) [2] qo qo⟩
 refine zx4<|zcr<|oL rfl (H.cell 0 rfl rfl)<|sp (yI z)<|oI rfl rfl<|sw<|Qe H 4 rfl 2 sizeOf3 rfl rfl (i:=z.toNat) qf qf fun Ao H=>?_
 dsimp only[List.set] at H
 refine zjc<|sp (Bv true)<|zjr<|ret1 (Bv true) rfl rfl ⟨_,rfl,?_⟩
 have v2:=v.fin p7 qf
 rw[jP v2.2]
 exact⟨(bI.set z.toNat 2),bk,(by(simp;omega)),(by omega),(by exact fun _=>v2.1),rfl,N,H.vU 6 3 (zR 0 6) [2] qo qo⟩
theorem visit_ok(f:Nat):visit_ok_S f:=Nat.strongRecOn (motive:=visit_ok_S) f fun f IH=>by unfold visit_ok_S;intros;apply visit_ok_step f IH <;> assumption
theorem implAH_ok(w:World)(s:qH)(t:qG)(xe:zP w xu qF qE s.qA)(xE:zP w xW qO qN s.qB)(xR:zP w zk qV qU t.qK)(zu:zP w zF xm xk t.qQ)(xB:zP w xJ qM qL t.qJ):Calls Tryz.prog 29 #[.agg #[yI s.zf,Sv qF s.qA.length qE,Sv qO s.qB.length qN],.agg #[Sv qV t.qK.length qU,Sv xm t.qQ.length xk,Sv qM t.qJ.length qL]] w (Ret (fun v w'=>v=.tuple #[Bv ((Qn s t).1),yI ((Qn s t).2)]) w):=by
 refine en func29 ntmps29 ?_
 have H:=(((((St.start w).arg xB).arg zu).arg xR).arg xE).arg xe
 have jT:=qR xR
 have yR:=qR zu
 have jv:=qR xB
 clear xe xE xR zu xB
 have N:=Fresh.nil w.heap.size
 refine zcr<|sw<|zN H (yS s qF qE qO qN) fun b1 w2 H=>sw<|zN H (yT t qV qU xm xk qM qL) fun b3 w4 H=>sp (Bv false)<|sp (yI 0)<|zjc<|sw<|xy (yS s qF qE qO qN) isAgg27 sizeOf27 rfl (qC (H.cells 1 rfl) 0 3)<|sw<|xy (yT t qV qU xm xk qM qL) isAgg31 sizeOf31 rfl (qC (H.cells 0 rfl) 0 3)<|sw<|zW #[.agg #[yI s.zf,Sv qF s.qA.length qE,Sv qO s.qB.length qN],.agg #[Sv qV t.qK.length qU,Sv xm t.qQ.length xk,Sv qM t.qJ.length qL]] rfl rfl call21<|en func21 ntmps21 ?_
 refine zcr<|sw<|zN H (yS s qF qE qO qN) fun b5 w6 H=>sw<|zN H (yT t qV qU xm xk qM qL) fun b7 w8 H=>sw<|xg H ti46 [yN,yN] fun b9 ov H=>sp (yI 0)<|zjcc<|sw<|xy (yS s qF qE qO qN) isAgg27 sizeOf27 rfl (qC (H.cells 2 rfl) 0 3)<|sw<|xy (yT t qV qU xm xk qM qL) isAgg31 sizeOf31 rfl (qC (H.cells 1 rfl) 0 3)<|sw<|oq (QA _ s t (H.get 0 rfl).1 (H.get 1 rfl).1 (H.get 2 rfl).1 (H.get 3 rfl).1 (H.get 4 rfl).1) H fun we H=>sq 1<|zjn<|cQ rfl (fun eE=>?_)<|fun eE=>?_
 ·refine zcr (sw<|vg [yN,yN] []<|sw<|xx H 0 [yN,yN] sizeOf46 fun uK H=>sp (yI 1)<|zjr<|t_r<|XC H 0 rfl (yI 1) rfl isAgg46 sizeOf46 rfl rfl ⟨_,rfl,?_⟩)
  replace H:=H.erases [2,1,0]
  dsimp only[zU,List.eraseIdx] at H
  refine sq 2<|sp (yI 1)<|sw<|xg H ti46 [yN,yN] fun m1 GW H=>sw<|xx H 0 [yN,yN] sizeOf46 fun EY H=>sp (yI 1)<|zjcc<|sp (yI 1)<|sp (Bv true)<|zjn<|cTr rfl<|zcr<|sp (yI 1)<|sp (Bv false)<|sp (yI 1)<|zjr<|t_r<|ret2 (Bv false) (yI 1) rfl rfl rfl ⟨_,rfl,?_,H.base⟩
  rw[ah_1 ‹_›]
 have k0:=(‹vz s/\xK s t›:vz s/\xK s t)
 have k1:=k0.1
 have k2:=k0.2
 obtain⟨q7,q8,q9,Bz⟩:=k2.sizes k1.1
 have Uj:=fun k hk=>Nat.le_trans (Bz k hk) (by decide:8<=1000000)
 refine qZ<|t_n<|zcr<|sw<|xy (yS s qF qE qO qN) isAgg27 sizeOf27 rfl (qC (H.cells 2 rfl) 0 3)<|sw<|xy (yT t qV qU xm xk qM qL) isAgg31 sizeOf31 rfl (qC (H.cells 1 rfl) 0 3)<|sw<|zW #[.agg #[yI s.zf,Sv qF s.qA.length qE,Sv qO s.qB.length qN],.agg #[Sv qV t.qK.length qU,Sv xm t.qQ.length xk,Sv qM t.qJ.length qL]] rfl rfl call66<|en func66 ntmps66 ?_
 refine zcr<|sw<|zN H (yS s qF qE qO qN) fun gO tr H=>sw<|zN H (yT t qV qU xm xk qM qL) fun pg GP H=>sw<|xg H ti46 [yN,yN] fun zw Ks H=>sp (yI 0)<|zjc<|sw<|xy (yT t qV qU xm xk qM qL) isAgg31 sizeOf31 rfl (qC (H.cells 1 rfl) 0 3) ?_
 have TH:=H.base.size
 refine sw<|oc (Q9 _ t (H.get 2 rfl).1 (H.get 3 rfl).1 (H.get 4 rfl).1 qg qg qg qg) ?_
 rintro _ BP ⟨Vg,EX,Vd,cz,Hn,cv,tk,so,XE,BJ,XD,rfl,M,K⟩ _
 replace N:=N.merge TH qm M
 replace H:=H.merge K M
 obtain rfl:=H.Xg 0 rfl
 obtain rfl:=H.xQ (α:=yLI) 1 rfl 0 rfl qj
 obtain rfl:=H.jy 2 rfl
 refine sw<|zl H underlying38 ti31 (yT t Vg Vd cz cv XE XD) fun mX Gj H=>sw<|vg [Sv (aa mX 0) 1 1,yN] [(0,Sv (aa mX 0) 1 1)]<|sw<|xg H ti46 [yN,yN] fun CL Gy H=>sw<|xx H 0 [Sv (aa mX 0) 1 1,yN] sizeOf46 fun Jk H=>zjcc<|sp (yI 0)<|zjn<|xf ?_
 replace H:=H.boxRow 1 rfl 3 1 rfl qj
 replace H:=H.vP (α:=qG)
 obtain⟨kJ,N,Tx,H⟩:=H.freezeB 2 rfl N<|H.vX [1]
 have H0:=H
 obtain⟨Bk,GJ,SG,H⟩:=H.yC (α:=yLI) 3 rfl 2 rfl qj
 replace N:Fresh w.heap.size [Bk,kJ]:=Fresh.ice (N.pick [1,0]) H0 3 GJ.1 GJ.2<|H0.vX [0]
 clear H0
 obtain⟨oV,N,agv,H⟩:=H.zQ 4 rfl N<|H.vX [0,1]
 replace H:=H.Qo 3 rfl 2 rfl 1 rfl 0 rfl
 replace N:Fresh w.heap.size [([]++(kJ++Bk++oV))]:=(N.emp.pick [3,2,1,0]).join.join.swap.join
 replace H:St _ _ [.box CL [Sv (aa mX 0) 1 1,yN] 46,rr (aa mX 0) 1 1 31 3<|yT t Vg Vd cz cv XE XD,rr none 0 0 0 1 [],rr none 0 0 0 1 [],rr none 0 0 0 1 [],.box zw [yN,yN] 46,.box pg (yT t qV qU xm xk qM qL) 31,.box gO (yS s qF qE qO qN) 27,.box b9 [yN,yN] 46,.box b7 (yT t qV qU xm xk qM qL) 31,.box b5 (yS s qF qE qO qN) 27,.box b3 (yT t qV qU xm xk qM qL) 31,.box b1 (yS s qF qE qO qN) 27] [xG true ([]++(kJ++Bk++oV)) (yT t Vg Vd cz cv XE XD) [t],sF true oV XE XD t.qJ,sF true Bk cz cv t.qQ,sF true kJ Vg Vd t.qK,xG true [] [] ([]:List qG),xG true so tk t.qQ,sF false xu qF qE s.qA,sF false xW qO qN s.qB,sF false zk qV qU t.qK,sF false zF xm xk t.qQ,sF false xJ qM qL t.qJ]:=H
 replace H:=H.nilRow 24 1
 replace H:=H.vP (α:=yLI)
 refine zD ((fun Z0 Z1 Z2 Z3 Z4 Z5 Z6 Z7 Z8 Z9 bG bX eZ=>fun m' ρ LQ=>∃(xN:Env) (i:Nat) (xM:yOA) (xH:Nat) (xI:Nat) (ag:List qG) (zH:List Value) (vM:yLN) (zh:yOA) (qI:Nat) (zg:Nat) (aj:yLL) (vT:List Value) (zL:yLN),ρ=upd (upd (upd (upd xN 2<|pp gO 0) 4<|pp zw 0) 6<|pp CL 0) 7 (yI i)/\(Yf s t=grGo s (302-i) i ag aj)/\(∀u∈ag,xK s u)/\(0<ag.length/\ag.length<=300)/\(aj.length=i)/\(i<=ag.length)/\(GrOk ag aj)/\m'=(301-i)/\Fresh w.heap.size [zL]/\St w LQ [rr zh qI zg 24 1 vT,.box CL [Sv xM xH xI,Sv zh qI zg] 46,rr xM xH xI 31 3 zH,Z0,Z1,Z2,Z3,Z4,Z5,Z6,Z7] [xG true zL vT aj,xG true vM zH ag,Z8,Z9,bG,bX,eZ]) _ _ _ _ _ _ _ _ _ _ _ _ _) ((301-0)) ⟨_,0,(aa mX 0),1,1,[t],(yT t Vg Vd cz cv XE XD),([]++(kJ++Bk++oV)),none,0,0,([]:yLL),[],[],uE4,(by rfl),(by exact fun u hu=>by obtain rfl:=List.mem_singleton.1 hu;exact k2),qm,(by rfl),qm,(by exact GrOk.start t),rfl,(N.emp.pick [0]),H.pick (0::1::2::zR 6 8) (0::1::zR 7 5)⟩ ?_
 clear H N
 rintro m' ρ Dz ⟨xN,i,xM,xH,xI,ag,zH,vM,zh,qI,zg,aj,vT,zL,rfl,kr,ka,kl,kn,ki,ko,rfl,N,H⟩
 have V9:=H.xQ (α:=qG) 2 rfl 1 rfl qj
 have oU:=H.xQ (α:=yLI) 0 rfl 0 rfl qj
 refine zcc<|sp (yI i)<|oF rfl<|oL rfl (H.cell 1 rfl rfl)<|oN rfl<|sq 1<|zjn<|cD rfl (fun h47=>?_)<|fun h47=>?_
 ·have ks:=ka (ag[i]!) (mem_at (k:=i) qf rfl)
  have nl:=succ_len s<|ag[i]!
  refine qZ<|t_n<|xU<|xf<|xU<|ji rfl H fun H=>rt 0 _ (yF (cs:=(yS s qF qE qO qN)) isAgg27 sizeOf27 rfl<|fun _ h=>qC (h.cells 5 rfl) 0 3) H ?_
  refine tF 1 rfl rfl H ?_
  refine tL 2 rfl rfl (fun _ h=>h.cell 1 rfl rfl) H ?_
  refine rtp 3 (yI i) H ?_
  obtain⟨Lq,rfl⟩:=H.jR 2 rfl qf
  obtain⟨oK,oC,FT,rV,ux,H9,mT,mG,CF,Cj,H⟩:=H.Yd 2 rfl 1 rfl (iv:=i) i qf qf
  have S:=H.jF (zR 0 11)<|zR 3 7
  refine tI 4 rfl rfl rfl S ?_
  refine rt 5 _ (yF (cs:=[Sv oK (((ag[i]!).qK).length) oC,Sv rV (((ag[i]!).qQ).length) ux,Sv mT (((ag[i]!).qJ).length) mG]) isAgg31 sizeOf31 rfl<|fun _ h=>qC (fun j v hj=>h.VI 2 rfl<|Cj j v hj) 0 3) S ?_
  refine ro 6 rfl ?_
  have Km:=H.base.size
  have JO:=H.ltN (L:=[zL]) [3]
  refine oc (nextStates_ok _ s (ag[i]!) (H.get 5 rfl).1 (H.get 6 rfl).1 (H.get 0 rfl).1 (H.get 1 rfl).1 (H.get 2 rfl).1 qg qg) ?_
  rintro _ LJ ⟨zd,Q1,rX,Ou,OY,rfl,M,K⟩ _
  replace N:=N.merge Km JO M
  replace H:=H.merge K M
  obtain rfl:=H.xQ (α:=qG) 0 rfl 0 rfl qj
  refine⟨H.pick (zR 1 11)<|zR 4 7,?_⟩
  have S:=H.jF (zR 1 11)<|zR 4 7
  refine rtl 7 S ?_
  refine rtl 8 S ?_
  refine rtl 9 S ?_
  refine rtl 10 S ?_
  refine rtl 11 S ?_
  refine xC qh<|t_n<|zcc<|sq 1<|sp (Bv (((qW s<|ag[i]!).2:Int) != 0))<|zjn<|zX (((qW s<|ag[i]!).2:Int) != 0) rfl (fun mi=>?_)<|fun mi=>?_
  ·replace mi:=bne_iff_ne.1 mi
   refine zcr<|sw<|vg [yN,yN] []<|sq 1<|sw<|xx H 4 [yN,yN] sizeOf46 fun N9 H=>sq 1<|zjr<|t_r<|zr5<|XC H 4 rfl (yI ((qW s<|ag[i]!).2)) rfl isAgg46 sizeOf46 rfl rfl ⟨_,rfl,?_⟩
   replace H:=H.erases [6,5,4,3,2,1,0]
   dsimp only[zU,List.eraseIdx] at H
   refine sq 2<|sw<|xx H 0 [yN,yN] sizeOf46 fun Sj H=>sq 1<|zjr<|XC H 0 rfl (yI ((qW s<|ag[i]!).2)) rfl isAgg46 sizeOf46 rfl rfl ⟨_,rfl,?_⟩
   replace H:=H.erases [2,1,0]
   dsimp only[zU,List.eraseIdx] at H
   refine sq 3<|sw<|xg H ti46 [yN,yN] fun OA GT H=>sw<|xx H 0 [yN,yN] sizeOf46 fun Wo H=>sq 1<|zjcc<|sq 1<|sp (Bv (((qW s<|ag[i]!).2:Int) != 0))<|zjn<|zX (((qW s<|ag[i]!).2:Int) != 0) rfl (fun wh=>?_)<|fun h=>absurd (xA h) mi
   replace wh:=bne_iff_ne.1 wh
   refine zcr<|sq 1<|sp (Bv false)<|sq 1<|zjr<|t_r<|ret2 (Bv false) (yI ((qW s<|ag[i]!).2)) rfl rfl rfl ⟨_,rfl,?_,H.base⟩
   rw[ah_c k0 (kr.trans<|gr_code qf qf ql) rfl ql]
  replace mi:=xA mi
  refine qZ<|t_n<|zcr<|sw<|ja H underlying24 ti2 fun BE Hl H=>sq 1<|zjcc<|sq 1<|oN rfl<|sp (yI 0)<|zjn<|xf ?_
  have H0:=H
  obtain⟨P2,Id,K3,H⟩:=H.yC (α:=qG) 1 rfl 0 rfl qj
  replace N:Fresh w.heap.size [P2,zL]:=Fresh.ice N H0 1 Id.1 Id.2<|H0.vX [4]
  clear H0
  replace H:=H.boxRowI 0 [] 0
  refine zD ((fun Z0 Z1 Z2 Z3 Z4 Z5 Z6 Z7 Z8 Z9 bG bX eZ i8 mb oX=>fun m' ρ UU=>∃(xN:Env) (gB:yOA) (gH:Nat) (gE:Nat) (own:yLI) (k:Nat) (jM:yOA) (vk:Nat) (jL:Nat) (aU:List qG) (yD:List Value) (yQ:yLN),ρ=upd (upd (upd (upd (upd (upd (upd (upd xN 2<|pp gO 0) 4<|pp zw 0) 6<|pp CL 0) 7<|yI i) 10<|Sv gB gH gE) 40<|Sv zd (((qW s<|ag[i]!).1).length) rX) 41<|yI (((qW s<|ag[i]!).1).length)) 42 (yI k)/\own=(vC ag (qW s<|ag[i]!).1 k).2/\aU=(vC ag (qW s<|ag[i]!).1 k).1/\((k:Int)<=(((qW s<|ag[i]!).1).length))/\m'=((((qW s<|ag[i]!).1).length)-(k:Int)).toNat/\Fresh w.heap.size [P2,zL]/\St w UU [rr gB gH gE 2 1<|own.map<|Value.int .i64,Z0,.box CL [Sv jM vk jL,Sv zh qI zg] 46,rr jM vk jL 31 3 yD,Z1,Z2,Z3,Z4,Z5,Z6,Z7,Z8] [Z9,bG,xG true yQ yD aU,bX,eZ,i8,mb,oX]) _ _ _ _ _ _ _ _ _ _ _ _ _ _ _ _) (((((qW s<|ag[i]!).1).length)-(0:Int)).toNat) ⟨_,(aa BE 0),0,0,([]:yLI),0,(aa Lq 0),xH,xI,ag,zH,vM,uE8,(by rfl),(by rfl),qf,rfl,N,H.pick (0::zR 2 11) (0::zR 5 7)⟩ ?_
  clear H N
  rintro m' ρ LL ⟨xN,gB,gH,gE,own,k,jM,vk,jL,aU,yD,yQ,rfl,rfl,rfl,i0,rfl,N,H⟩
  have tB:=H.jy 0 rfl
  have V9:=H.xQ (α:=qG) 3 rfl 2 rfl qj
  obtain⟨al1,al2,al3⟩:=Xp (S:=ag) (nx:=(qW s<|ag[i]!).1) k
  refine zcr<|sq 1<|zjn<|xU<|cD rfl (fun K7=>?_)<|fun K7=>?_
  ·refine qZ (t_n<|xU<|xf<|zcr ?_)
   obtain⟨b73,o74,rfl⟩:=H.addr 0 rfl qf
   obtain⟨Vt,Vr,EO,cr,cy,Jg,XJ,XH,BH,H⟩:=H.XO 0 rfl k k qf qf qf
   refine oI rfl rfl<|sw<|xy [Sv Vt (((((qW s<|ag[i]!).1)[k]!).qK).length) Vr,Sv cr (((((qW s<|ag[i]!).1)[k]!).qQ).length) cy,Sv XJ (((((qW s<|ag[i]!).1)[k]!).qJ).length) XH] isAgg31 sizeOf31 rfl (qC (H.get 3 rfl) 0 3)<|sw<|xg H ti31 [yN,yN,yN] fun Bt RH H=>(sw<|xx H 0 [Sv Vt (((((qW s<|ag[i]!).1)[k]!).qK).length) Vr,Sv cr (((((qW s<|ag[i]!).1)[k]!).qQ).length) cy,Sv XJ (((((qW s<|ag[i]!).1)[k]!).qJ).length) XH] sizeOf31 fun NB H=>zjc<|oF rfl<|oL rfl (H.cell 3 rfl rfl)<|sw<|xy [Sv Vt (((((qW s<|ag[i]!).1)[k]!).qK).length) Vr,Sv cr (((((qW s<|ag[i]!).1)[k]!).qQ).length) cy,Sv XJ (((((qW s<|ag[i]!).1)[k]!).qJ).length) XH] isAgg31 sizeOf31 rfl (qC (H.cells 0 rfl) 0 3) ?_)
   obtain⟨SN,my,Dw⟩:=H.QL (α:=qG) 4 rfl 6 rfl qj
   refine sw<|oq (Qu (by rw[←my])<|find_ok _ ((vC ag (qW s<|ag[i]!).1 k).1) (((qW s<|ag[i]!).1)[k]!) (my▸Dw) (H.get 0 rfl).1 (H.get 1 rfl).1 (H.get 2 rfl).1) H fun KD H=>sq 1<|zjcc<|sq 1<|sp (Bv<|decide ((firstIdx (fun zz=>decide (((vC ag (qW s<|ag[i]!).1 k).1)[zz]! =(((qW s<|ag[i]!).1)[k]!))) ((vC ag (qW s<|ag[i]!).1 k).1).length:Int)<0))<|zjn<|cD rfl (fun mY=>?_)<|fun mY=>?_
   ·refine zcr (oF rfl<|oL rfl (H.cell 3 rfl rfl) ?_)
    obtain⟨G87,EQ,y2⟩:=H.QL (α:=qG) 4 rfl 6 rfl qj
    refine sw<|oq (Qu (by rw[←EQ])<|sizeS_ok _ ((vC ag (qW s<|ag[i]!).1 k).1)<|EQ▸y2) H fun MV H=>sq 1<|zjn<|xX<|oF rfl<|oL rfl (H.cell 3 rfl rfl)<|sw<|xy [Sv Vt (((((qW s<|ag[i]!).1)[k]!).qK).length) Vr,Sv cr (((((qW s<|ag[i]!).1)[k]!).qQ).length) cy,Sv XJ (((((qW s<|ag[i]!).1)[k]!).qJ).length) XH] isAgg31 sizeOf31 rfl (qC (H.cells 0 rfl) 0 3)<|sw<|zl H underlying38 ti31 [Sv Vt (((((qW s<|ag[i]!).1)[k]!).qK).length) Vr,Sv cr (((((qW s<|ag[i]!).1)[k]!).qQ).length) cy,Sv XJ (((((qW s<|ag[i]!).1)[k]!).qJ).length) XH] fun GM L8 H=>sw<|zt H 5 rfl 0 rfl underlying38 ti31 rfl qj rfl rfl rfl qw qp qf fun a95 c96 NP H=>?_
    replace H:=H.Qo 6 rfl 0 rfl 1 rfl 2 rfl
    refine oF rfl<|sw<|xn H 4 [Sv a95 (vk+1) c96,Sv zh qI zg] sizeOf38 fun S5 H=>zjn<|xX<|sq 2<|sw<|zl H underlying24 ti2 [yI (((vC ag (qW s<|ag[i]!).1 k).1).length)] fun b99 HK H=>sw<|zt H 3 rfl 0 rfl underlying24 ti2 rfl qj rfl rfl rfl qw qp qf fun IS JK Iz H=>?_
    rw[snocI] at H
    refine sq 1<|xZ<|b_n<|t_n<|xX<|sw<|zC k 1 rfl rfl qf<|sq 1<|xZ<|xh (m':=((((qW s<|ag[i]!).1).length)-((k+1):Int)).toNat) qf ⟨_,_,_,_,_,k+1,_,_,_,_,_,_,uE8,?_,?_,?_,rfl,N,H.pick (zR 3 12) (5::6::0::zR 8 5)⟩
    ·(refine Eq.trans ?_ (Qi (k:=k) ‹_›).2;congr 2 <;> omega)
    ·exact(Qi (k:=k) ‹_›).1
    ·omega
   refine qZ<|t_n<|xX<|sq 2<|sw<|zl H underlying24 ti2 [yI<|firstIdx (fun zz=>decide (((vC ag (qW s<|ag[i]!).1 k).1)[zz]! =(((qW s<|ag[i]!).1)[k]!))) ((vC ag (qW s<|ag[i]!).1 k).1).length] fun TS Gi H=>(sw<|zt H 2 rfl 0 rfl underlying24 ti2 rfl qj rfl rfl rfl qw qp qf fun apV aot LF H=>?_)
   rw[snocI] at H
   refine sq 1<|xZ<|b_n<|t_n<|xX<|sw<|zC k 1 rfl rfl qf<|sq 1<|xZ<|xh (m':=((((qW s<|ag[i]!).1).length)-((k+1):Int)).toNat) qf ⟨_,_,_,_,_,k+1,_,_,_,_,_,_,uE8,?_,?_,?_,rfl,N,H.pick (zR 2 12)<|zR 4 8⟩
   ·exact(Qh (k:=k) ‹_›).2
   ·exact(Qh (k:=k) ‹_›).1
   ·omega
  refine zx4<|zcc<|oF rfl<|oL rfl (H.cell 2 rfl rfl)<|oN rfl<|sp (Bv<|decide ((vk:Int)>300))<|zjn<|cD rfl (fun Hc=>?_)<|fun Hc=>?_
  ·refine zcr (sw<|vg [yN,yN] []<|sw<|xx H 4 [yN,yN] sizeOf46 fun Tp H=>sp (yI 3)<|zjr<|t_r<|zr5<|XC H 4 rfl (yI 3) rfl isAgg46 sizeOf46 rfl rfl ⟨_,rfl,?_⟩)
   replace H:=H.erases [6,5,4,3,2,1,0]
   dsimp only[zU,List.eraseIdx] at H
   refine sq 1<|sp (yI 3)<|sw<|xx H 0 [yN,yN] sizeOf46 fun M0 H=>sp (yI 3)<|zjr<|XC H 0 rfl (yI 3) rfl isAgg46 sizeOf46 rfl rfl ⟨_,rfl,?_⟩
   replace H:=H.erases [2,1,0]
   dsimp only[zU,List.eraseIdx] at H
   refine sq 2<|sp (yI 3)<|sw<|xg H ti46 [yN,yN] fun akQ Aw H=>sw<|xx H 0 [yN,yN] sizeOf46 fun Lz H=>sp (yI 3)<|zjcc<|sp (yI 3)<|sp (Bv true)<|zjn<|cTr rfl<|zcr<|sp (yI 3)<|sp (Bv false)<|sp (yI 3)<|zjr<|t_r<|ret2 (Bv false) (yI 3) rfl rfl rfl ⟨_,rfl,?_,H.base⟩
   rw[ah_c k0 (kr.trans<|gr_many qf qf qf (k:=k) qf qf) rfl qj]
  refine qZ<|t_n<|xX<|oF rfl<|oL rfl (H.cell 2 rfl rfl)<|sq 1<|sw<|zl H underlying29 ti24 [Sv gB gH gE] fun As oe H=>?_
  obtain⟨sB,N,OS,H⟩:=H.zQ 1 rfl N<|H.vX [0,1]
  refine sw<|zt H 2 rfl 0 rfl underlying29 ti24 rfl qj rfl rfl rfl qw qp qf fun Ca CR Jt H=>?_
  replace H:=H.yh 2 rfl 0 rfl
  replace N:Fresh w.heap.size [(zL++sB),P2]:=(N.pick [2,0,1]).join
  refine oF rfl<|sw<|xn H 3 [Sv jM vk jL,Sv Ca (qI+1) CR] sizeOf29 fun SL H=>xZ<|b_n<|t_n<|xX<|sp (yI i)<|sw<|zC i 1 rfl rfl qf<|sq 1<|xZ<|xh (m':=(301-(i+1))) qf ⟨_,i+1,_,_,_,_,_,_,_,_,_,_,_,_,uE4,?_,?_,?_,?_,?_,?_,rfl,(N.pick [0]),H.pick (zR 2 11) (0::zR 4 6)⟩
  ·exact kr.trans<|gr_go qf qf qf (k:=k) qf qf
  ·exact addSt_mem ka succ_ok k qf
  ·omega
  ·simp;omega
  ·omega
  ·exact ko.next qf qf
 refine zx4<|zcr<|sw<|xy [Sv xM xH xI,Sv zh qI zg] isAgg46 sizeOf46 rfl (qC (H.cells 1 rfl) 0 2)<|sw<|xx H 3 [Sv xM xH xI,Sv zh qI zg] sizeOf46 fun EM H=>sp (yI 0)<|zjr<|XC H 3 rfl (yI 0) rfl isAgg46 sizeOf46 rfl rfl ⟨_,rfl,?_⟩
 replace H:=H.erases [5,4,3,1]
 dsimp only[zU,List.eraseIdx] at H
 refine sq 1<|sp (yI 0)<|sw<|xx H 2 [Sv xM xH xI,Sv zh qI zg] sizeOf46 fun GB H=>sp (yI 0)<|zjr<|XC H 2 rfl (yI 0) rfl isAgg46 sizeOf46 rfl rfl ⟨_,rfl,?_⟩
 replace H:=H.erases [4,3,2]
 dsimp only[zU,List.eraseIdx] at H
 refine sq 2<|sp (yI 0)<|sw<|xg H ti46 [yN,yN] fun jt FM H=>sw<|xx H 0 [Sv xM xH xI,Sv zh qI zg] sizeOf46 fun Ko H=>sp (yI 0)<|zjcc<|sp (yI 0)<|sp (Bv false)<|zjn<|cFr rfl<|qZ<|t_n<|zcr<|sw<|xy [Sv xM xH xI,Sv zh qI zg] isAgg46 sizeOf46 rfl (qC (H.cells 0 rfl) 0 2)<|sw<|zW #[.agg #[Sv xM xH xI,Sv zh qI zg]] rfl rfl call64<|en func64 ntmps64 ?_
 refine zcr<|sw<|zN H [Sv xM xH xI,Sv zh qI zg] fun bj H7 H=>sp (yI 0)<|sp (Bv false)<|zjn<|xU<|VD (fun ρ FW=>∃(xN:Env) (gr:Nat) (gS:Nat) (ld:Nat) (gt:Nat),ρ=upd (upd (upd xN 1<|pp bj 0) 4<|pp gr 0) 5 (pp gS 0)/\Fresh w.heap.size [zL]/\St w FW [.box gS [Sv (aa ld 0) qI qI] 24,.box gr [Sv (aa gt 0) qI qI] 135,rr (aa ld 0) qI qI 2 1 ((List.replicate qI (0:Int)).map<|Value.int .i64),rr (aa gt 0) qI qI 3 1 ((List.replicate qI (0:Int)).map<|Value.int .i64),.box bj [Sv xM xH xI,Sv zh qI zg] 46,.box jt [Sv xM xH xI,Sv zh qI zg] 46,rr zh qI zg 24 1 vT,rr xM xH xI 31 3 zH,.box b3 (yT t qV qU xm xk qM qL) 31,.box b1 (yS s qF qE qO qN) 27] [xG true zL vT aj,xG true vM zH ag,sF false xu qF qE s.qA,sF false xW qO qN s.qB,sF false zk qV qU t.qK,sF false zF xm xk t.qQ,sF false xJ qM qL t.qJ]) ?_ ?_
 ·refine ji rfl H fun H=>?_
  refine yL (fun ρ CN=>∃(xN:Env) (lC:Nat) (pd:Nat) (mJ:Nat),ρ=upd (upd (upd (upd (upd xN 1<|pp bj 0) 4<|pp pd 0) 5<|pp mJ 0) 11<|Sv (aa lC 0) qI qI) 14 (yI qI)/\Fresh w.heap.size [zL]/\St w CN [.box mJ [yN] 24,.box pd [yN] 135,rr (aa lC 0) qI qI 3 1 ((List.replicate qI (0:Int)).map<|Value.int .i64),.box bj [Sv xM xH xI,Sv zh qI zg] 46,.box jt [Sv xM xH xI,Sv zh qI zg] 46,rr zh qI zg 24 1 vT,rr xM xH xI 31 3 zH,.box b3 (yT t qV qU xm xk qM qL) 31,.box b1 (yS s qF qE qO qN) 27] [xG true zL vT aj,xG true vM zH ag,sF false xu qF qE s.qA,sF false xW qO qN s.qB,sF false zk qV qU t.qK,sF false zF xm xk t.qQ,sF false xJ qM qL t.qJ]) 3 #[true,true,true,true,true,true,true,false,true,true,false,false] ?_ fun B1=>?_
  ·rintro ρ T9 ⟨xN,lC,pd,mJ,rfl,N,H⟩
   refine zY [7,10] qh qm<|vG rfl ?_<|vG rfl ?_ zZ
   ·refine zq H underlying24 ti2 qI rfl rfl qf qf qf fun gV Ih H=>⟨H.pick (zR 4 6)<|zR 0 7,(ro 10 rfl<|xn H 2 [Sv (aa lC 0) qI qI] sizeOf135 fun Ln H=>⟨H.pick (zR 4 6)<|zR 0 7,(ro 11 rfl<|xn H 1 [Sv (aa gV 0) qI qI] sizeOf24 fun FQ H=>⟨H.pick (zR 4 6)<|zR 0 7,(xC qh ((meet ⟨_,pd,mJ,gV,lC,uE3,N,H.pick (1::2::0::zR 3 7)<|zR 0 7⟩)))⟩)⟩)⟩
   refine xn H 1 [Sv (aa lC 0) qI qI] sizeOf135 fun GI H=>⟨H.pick (zR 3 6)<|zR 0 7,(ro 7 rfl<|zq H underlying24 ti2 qI rfl rfl qf qf qf fun mQ Kk H=>⟨H.pick (zR 4 6)<|zR 0 7,(ro 11 rfl<|xn H 1 [Sv (aa mQ 0) qI qI] sizeOf24 fun CP H=>⟨H.pick (zR 4 6)<|zR 0 7,(xC qh ((meet ⟨_,pd,mJ,mQ,lC,uE3,N,H.pick (1::2::0::zR 3 7)<|zR 0 7⟩)))⟩)⟩)⟩
  refine yL (fun ρ Fr=>∃(xN:Env) (kd:Nat) (jN:Nat),ρ=upd (upd (upd xN 1<|pp bj 0) 11<|Sv (aa kd 0) qI qI) 15 (Sv (aa jN 0) qI qI)/\Fresh w.heap.size [zL]/\St w Fr [rr (aa jN 0) qI qI 2 1 ((List.replicate qI (0:Int)).map<|Value.int .i64),rr (aa kd 0) qI qI 3 1 ((List.replicate qI (0:Int)).map<|Value.int .i64),.box bj [Sv xM xH xI,Sv zh qI zg] 46,.box jt [Sv xM xH xI,Sv zh qI zg] 46,rr zh qI zg 24 1 vT,rr xM xH xI 31 3 zH,.box b3 (yT t qV qU xm xk qM qL) 31,.box b1 (yS s qF qE qO qN) 27] [xG true zL vT aj,xG true vM zH ag,sF false xu qF qE s.qA,sF false xW qO qN s.qB,sF false zk qV qU t.qK,sF false zF xm xk t.qQ,sF false xJ qM qL t.qJ]) 4 #[true,true,true,true,true,true,true,true,false,false,false,false] ?_ fun H4=>?_
  ·rintro ρ SP ⟨xN,kd,jN,rfl,N,H⟩
   refine zY [8,9] qh qm<|vG rfl ?_<|vG rfl ?_ zZ
   ·refine xg H ti135 [yN] fun TD EN H=>⟨H.pick (zR 3 6)<|zR 0 7,(ro 9 rfl<|xg H ti24 [yN] fun Rp Nb H=>⟨H.pick (zR 4 6)<|zR 0 7,(ro 10 rfl<|xn H 1 [Sv (aa kd 0) qI qI] sizeOf135 fun KY H=>⟨H.pick (zR 4 6)<|zR 0 7,(ro 11 rfl<|xn H 0 [Sv (aa jN 0) qI qI] sizeOf24 fun BN H=>⟨H.pick (zR 4 6)<|zR 0 7,(xC qh ((meet ⟨_,TD,Rp,jN,kd,uE3,N,H⟩)))⟩)⟩)⟩)⟩
   refine xg H ti24 [yN] fun BS Ai H=>⟨H.pick (zR 3 6)<|zR 0 7,(ro 8 rfl<|xg H ti135 [yN] fun TY TA H=>⟨H.pick (zR 4 6)<|zR 0 7,(ro 10 rfl<|xn H 0 [Sv (aa kd 0) qI qI] sizeOf135 fun ao8 H=>⟨H.pick (zR 4 6)<|zR 0 7,(ro 11 rfl<|xn H 1 [Sv (aa jN 0) qI qI] sizeOf24 fun Tw H=>⟨H.pick (zR 4 6)<|zR 0 7,(xC qh ((meet ⟨_,TY,BS,jN,kd,uE3,N,H.pick (1::0::zR 2 8)<|zR 0 7⟩)))⟩)⟩)⟩)⟩
  refine yL (fun ρ LN=>∃(xN:Env) (ny:Nat) (sJ:Nat),ρ=upd (upd (upd (upd xN 1<|pp bj 0) 4<|pp sJ 0) 11<|Sv (aa ny 0) qI qI) 14 (yI qI)/\Fresh w.heap.size [zL]/\St w LN [.box sJ [yN] 135,rr (aa ny 0) qI qI 3 1 ((List.replicate qI (0:Int)).map<|Value.int .i64),.box bj [Sv xM xH xI,Sv zh qI zg] 46,.box jt [Sv xM xH xI,Sv zh qI zg] 46,rr zh qI zg 24 1 vT,rr xM xH xI 31 3 zH,.box b3 (yT t qV qU xm xk qM qL) 31,.box b1 (yS s qF qE qO qN) 27] [xG true zL vT aj,xG true vM zH ag,sF false xu qF qE s.qA,sF false xW qO qN s.qB,sF false zk qV qU t.qK,sF false zF xm xk t.qQ,sF false xJ qM qL t.qJ]) 4 #[true,true,true,true,true,true,true,false,true,false,false,false] ?_ fun JF=>?_
  ·rintro ρ LM ⟨xN,ny,sJ,rfl,N,H⟩
   refine zY [7,9] qh qm<|vG rfl ?_<|vG rfl ?_ zZ
   ·refine zq H underlying24 ti2 qI rfl rfl qf qf qf fun CE Ma H=>⟨H.pick (zR 3 6)<|zR 0 7,(ro 9 rfl<|xg H ti24 [yN] fun TP Rq H=>⟨H.pick (zR 4 6)<|zR 0 7,(ro 10 rfl<|xn H 2 [Sv (aa ny 0) qI qI] sizeOf135 fun Tq H=>⟨H.pick (zR 4 6)<|zR 0 7,(ro 11 rfl<|xn H 0 [Sv (aa CE 0) qI qI] sizeOf24 fun adR H=>⟨H.pick (zR 4 6)<|zR 0 7,(xC qh<|?_)⟩)⟩)⟩)⟩
    exact meet ⟨_,sJ,TP,CE,ny,uE3,N,H.pick (0::2::1::zR 3 7)<|zR 0 7⟩
   refine xg H ti24 [yN] fun uN STz H=>⟨H.pick (zR 3 6)<|zR 0 7,(jq B1 ⟨_,ny,sJ,uN,uE5,N,H⟩)⟩
  refine yL (fun ρ Fe=>∃(xN:Env) (lx:Nat) (sv:Nat),ρ=upd (upd (upd (upd xN 1<|pp bj 0) 5<|pp sv 0) 11<|Sv (aa lx 0) qI qI) 14 (yI qI)/\Fresh w.heap.size [zL]/\St w Fe [.box sv [yN] 24,rr (aa lx 0) qI qI 3 1 ((List.replicate qI (0:Int)).map<|Value.int .i64),.box bj [Sv xM xH xI,Sv zh qI zg] 46,.box jt [Sv xM xH xI,Sv zh qI zg] 46,rr zh qI zg 24 1 vT,rr xM xH xI 31 3 zH,.box b3 (yT t qV qU xm xk qM qL) 31,.box b1 (yS s qF qE qO qN) 27] [xG true zL vT aj,xG true vM zH ag,sF false xu qF qE s.qA,sF false xW qO qN s.qB,sF false zk qV qU t.qK,sF false zF xm xk t.qQ,sF false xJ qM qL t.qJ]) 4 #[true,true,true,true,true,true,true,false,false,true,false,false] ?_ fun HY=>?_
  ·rintro ρ ab9 ⟨xN,lx,sv,rfl,N,H⟩
   refine zY [7,8] qh qm<|vG rfl ?_<|vG rfl ?_ zZ
   ·refine zq H underlying24 ti2 qI rfl rfl qf qf qf fun I7 Lp H=>⟨H.pick (zR 3 6)<|zR 0 7,(ro 8 rfl<|xg H ti135 [yN] fun Si agL H=>⟨H.pick (zR 4 6)<|zR 0 7,(ro 10 rfl<|xn H 0 [Sv (aa lx 0) qI qI] sizeOf135 fun M1 H=>⟨H.pick (zR 4 6)<|zR 0 7,(ro 11 rfl<|xn H 2 [Sv (aa I7 0) qI qI] sizeOf24 fun acl H=>⟨H.pick (zR 4 6)<|zR 0 7,(xC qh<|?_)⟩)⟩)⟩)⟩
    exact meet ⟨_,Si,sv,I7,lx,uE3,N,H.pick (2::0::1::zR 3 7)<|zR 0 7⟩
   refine xg H ti135 [yN] fun S3 UB H=>⟨H.pick (zR 3 6)<|zR 0 7,(jq B1 ⟨_,lx,S3,sv,uE5,N,H.pick (1::0::zR 2 7)<|zR 0 7⟩)⟩
  refine yL (fun ρ M5=>∃(xN:Env) (mD:Nat) (o0:Nat),ρ=upd (upd (upd (upd xN 1<|pp bj 0) 4<|pp o0 0) 10<|yI qI) 15 (Sv (aa mD 0) qI qI)/\Fresh w.heap.size [zL]/\St w M5 [.box o0 [yN] 135,rr (aa mD 0) qI qI 2 1 ((List.replicate qI (0:Int)).map<|Value.int .i64),.box bj [Sv xM xH xI,Sv zh qI zg] 46,.box jt [Sv xM xH xI,Sv zh qI zg] 46,rr zh qI zg 24 1 vT,rr xM xH xI 31 3 zH,.box b3 (yT t qV qU xm xk qM qL) 31,.box b1 (yS s qF qE qO qN) 27] [xG true zL vT aj,xG true vM zH ag,sF false xu qF qE s.qA,sF false xW qO qN s.qB,sF false zk qV qU t.qK,sF false zF xm xk t.qQ,sF false xJ qM qL t.qJ]) 4 #[true,true,true,false,true,true,true,true,true,false,false,false] ?_ fun IT=>?_
  ·rintro ρ SY ⟨xN,mD,o0,rfl,N,H⟩
   refine zY [3,9] qh qm<|vG rfl ?_<|vG rfl ?_ zZ
   ·refine zq H underlying135 ti3 qI rfl rfl qf qf qf fun rG Sh H=>⟨H.pick (zR 3 6)<|zR 0 7,(ro 9 rfl<|xg H ti24 [yN] fun BF Lb H=>⟨H.pick (zR 4 6)<|zR 0 7,(ro 10 rfl<|xn H 2 [Sv (aa rG 0) qI qI] sizeOf135 fun ahb H=>⟨H.pick (zR 4 6)<|zR 0 7,(ro 11 rfl<|xn H 0 [Sv (aa mD 0) qI qI] sizeOf24 fun aeu H=>⟨H.pick (zR 4 6)<|zR 0 7,(xC qh<|?_)⟩)⟩)⟩)⟩
    exact meet ⟨_,o0,BF,mD,rG,uE3,N,H.pick (0::2::3::1::zR 4 6)<|zR 0 7⟩
   refine xg H ti24 [yN] fun E1 ahm H=>⟨H.pick (zR 3 6)<|zR 0 7,(ro 3 rfl<|zq H underlying135 ti3 qI rfl rfl qf qf qf fun xd afU H=>⟨H.pick (zR 4 6)<|zR 0 7,(ro 10 rfl<|xn H 2 [Sv (aa xd 0) qI qI] sizeOf135 fun apd H=>⟨H.pick (zR 4 6)<|zR 0 7,(ro 11 rfl<|xn H 1 [Sv (aa mD 0) qI qI] sizeOf24 fun RS H=>⟨H.pick (zR 4 6)<|zR 0 7,(xC qh<|?_)⟩)⟩)⟩)⟩
   exact meet ⟨_,o0,E1,mD,xd,uE3,N,H.pick (1::2::3::0::zR 4 6)<|zR 0 7⟩
  refine yL (fun ρ GD=>∃(xN:Env) (kK:Nat) (ut:Nat),ρ=upd (upd (upd (upd xN 1<|pp bj 0) 5<|pp ut 0) 10<|yI qI) 15 (Sv (aa kK 0) qI qI)/\Fresh w.heap.size [zL]/\St w GD [.box ut [yN] 24,rr (aa kK 0) qI qI 2 1 ((List.replicate qI (0:Int)).map<|Value.int .i64),.box bj [Sv xM xH xI,Sv zh qI zg] 46,.box jt [Sv xM xH xI,Sv zh qI zg] 46,rr zh qI zg 24 1 vT,rr xM xH xI 31 3 zH,.box b3 (yT t qV qU xm xk qM qL) 31,.box b1 (yS s qF qE qO qN) 27] [xG true zL vT aj,xG true vM zH ag,sF false xu qF qE s.qA,sF false xW qO qN s.qB,sF false zk qV qU t.qK,sF false zF xm xk t.qQ,sF false xJ qM qL t.qJ]) 4 #[true,true,true,false,true,true,true,true,false,true,false,false] ?_ fun IM=>?_
  ·rintro ρ ajp ⟨xN,kK,ut,rfl,N,H⟩
   refine zY [3,8] qh qm<|vG rfl ?_<|vG rfl ?_ zZ
   ·refine zq H underlying135 ti3 qI rfl rfl qf qf qf fun IZ Mu H=>⟨H.pick (zR 3 6)<|zR 0 7,(ro 8 rfl<|xg H ti135 [yN] fun T8 ac2 H=>⟨H.pick (zR 4 6)<|zR 0 7,(ro 10 rfl<|xn H 0 [Sv (aa IZ 0) qI qI] sizeOf135 fun amw H=>⟨H.pick (zR 4 6)<|zR 0 7,(ro 11 rfl<|xn H 2 [Sv (aa kK 0) qI qI] sizeOf24 fun Nj H=>⟨H.pick (zR 4 6)<|zR 0 7,(xC qh<|?_)⟩)⟩)⟩)⟩
    exact meet ⟨_,T8,ut,kK,IZ,uE3,N,H.pick (2::0::3::1::zR 4 6)<|zR 0 7⟩
   refine xg H ti135 [yN] fun Ud aau H=>⟨H.pick (zR 3 6)<|zR 0 7,(ro 3 rfl<|zq H underlying135 ti3 qI rfl rfl qf qf qf fun J4 akp H=>⟨H.pick (zR 4 6)<|zR 0 7,(ro 10 rfl<|xn H 1 [Sv (aa J4 0) qI qI] sizeOf135 fun aln H=>⟨H.pick (zR 4 6)<|zR 0 7,(ro 11 rfl<|xn H 2 [Sv (aa kK 0) qI qI] sizeOf24 fun ak1 H=>⟨H.pick (zR 4 6)<|zR 0 7,(xC qh<|?_)⟩)⟩)⟩)⟩
   exact meet ⟨_,Ud,ut,kK,J4,uE3,N,H.pick (2::1::3::0::zR 4 6)<|zR 0 7⟩
  refine yL (fun ρ IJ=>∃(xN:Env) (sK:Nat) (ue:Nat),ρ=upd (upd (upd (upd (upd xN 1<|pp bj 0) 4<|pp sK 0) 5<|pp ue 0) 10<|yI qI) 14 (yI qI)/\Fresh w.heap.size [zL]/\St w IJ [.box ue [yN] 24,.box sK [yN] 135,.box bj [Sv xM xH xI,Sv zh qI zg] 46,.box jt [Sv xM xH xI,Sv zh qI zg] 46,rr zh qI zg 24 1 vT,rr xM xH xI 31 3 zH,.box b3 (yT t qV qU xm xk qM qL) 31,.box b1 (yS s qF qE qO qN) 27] [xG true zL vT aj,xG true vM zH ag,sF false xu qF qE s.qA,sF false xW qO qN s.qB,sF false zk qV qU t.qK,sF false zF xm xk t.qQ,sF false xJ qM qL t.qJ]) 4 #[true,true,true,false,true,true,true,false,true,true,false,false] ?_ fun Jf=>?_
  ·rintro ρ Zv ⟨xN,sK,ue,rfl,N,H⟩
   refine zY [3,7] qh qm<|vG rfl ?_<|vG rfl ?_ zZ
   ·refine zq H underlying135 ti3 qI rfl rfl qf qf qf fun Kd adi H=>⟨H.pick (zR 3 6)<|zR 0 7,(jq B1 ⟨_,Kd,sK,ue,uE5,N,H.pick (1::2::0::zR 3 6)<|zR 0 7⟩)⟩
   refine zq H underlying24 ti2 qI rfl rfl qf qf qf fun I2 afK H=>⟨H.pick (zR 3 6)<|zR 0 7,(ro 3 rfl<|zq H underlying135 ti3 qI rfl rfl qf qf qf fun rC aan H=>⟨H.pick (zR 4 6)<|zR 0 7,(ro 10 rfl<|xn H 3 [Sv (aa rC 0) qI qI] sizeOf135 fun Ze H=>⟨H.pick (zR 4 6)<|zR 0 7,(ro 11 rfl<|xn H 2 [Sv (aa I2 0) qI qI] sizeOf24 fun JM H=>⟨H.pick (zR 4 6)<|zR 0 7,(xC qh<|?_)⟩)⟩)⟩)⟩
   exact meet ⟨_,sK,ue,I2,rC,uE3,N,H.pick (2::3::1::0::zR 4 6)<|zR 0 7⟩
  refine tF 0 rfl rfl H ?_
  refine tL 1 rfl rfl (fun _ h=>h.cell 0 rfl rfl) H ?_
  refine tN 2 rfl rfl H ?_
  refine tF 4 rfl rfl H ?_
  refine tL 5 rfl rfl (fun _ h=>h.cell 0 rfl rfl) H ?_
  refine tN 6 rfl rfl H ?_
  refine zY [3,7,8,9] qh qm<|vG rfl ?_<|vG rfl ?_<|vG rfl ?_<|vG rfl ?_ zZ
  ·refine zq H underlying135 ti3 qI rfl rfl qf qf qf fun mf amj H=>⟨H.pick (zR 1 6)<|zR 0 7,(zY [7,8,9] qh qm<|vG rfl ?_<|vG rfl ?_<|vG rfl ?_ zZ)⟩
   ·refine zq H underlying24 ti2 qI rfl rfl qf qf qf fun Tb aag H=>⟨H.pick (zR 2 6)<|zR 0 7,(jq H4 ⟨_,mf,Tb,uE3,N,H⟩)⟩
   ·refine xg H ti135 [yN] fun To acx H=>⟨H.pick (zR 2 6)<|zR 0 7,(jq JF ⟨_,mf,To,uE4,N,H⟩)⟩
   refine xg H ti24 [yN] fun RQ amQ H=>⟨H.pick (zR 2 6)<|zR 0 7,(jq HY ⟨_,mf,RQ,uE4,N,H⟩)⟩
  ·refine zq H underlying24 ti2 qI rfl rfl qf qf qf fun Cl Ue H=>⟨H.pick (zR 1 6)<|zR 0 7,(zY [3,8,9] qh qm<|vG rfl ?_<|vG rfl ?_<|vG rfl ?_ zZ)⟩
   ·refine zq H underlying135 ti3 qI rfl rfl qf qf qf fun TZ anb H=>⟨H.pick (zR 2 6)<|zR 0 7,(jq H4 ⟨_,TZ,Cl,uE3,N,H.pick (1::0::zR 2 6)<|zR 0 7⟩)⟩
   ·refine xg H ti135 [yN] fun RM ag3 H=>⟨H.pick (zR 2 6)<|zR 0 7,(jq IT ⟨_,Cl,RM,uE4,N,H⟩)⟩
   refine xg H ti24 [yN] fun RF ajt H=>⟨H.pick (zR 2 6)<|zR 0 7,(jq IM ⟨_,Cl,RF,uE4,N,H⟩)⟩
  ·refine xg H ti135 [yN] fun Cx anV H=>⟨H.pick (zR 1 6)<|zR 0 7,(zY [3,7,9] qh qm<|vG rfl ?_<|vG rfl ?_<|vG rfl ?_ zZ)⟩
   ·refine zq H underlying135 ti3 qI rfl rfl qf qf qf fun Ub abT H=>⟨H.pick (zR 2 6)<|zR 0 7,(jq JF ⟨_,Ub,Cx,uE4,N,H.pick (1::0::zR 2 6)<|zR 0 7⟩)⟩
   ·refine zq H underlying24 ti2 qI rfl rfl qf qf qf fun Sl aaW H=>⟨H.pick (zR 2 6)<|zR 0 7,(jq IT ⟨_,Sl,Cx,uE4,N,H.pick (1::0::zR 2 6)<|zR 0 7⟩)⟩
   refine xg H ti24 [yN] fun RN adu H=>⟨H.pick (zR 2 6)<|zR 0 7,(jq Jf ⟨_,Cx,RN,uE5,N,H⟩)⟩
  refine xg H ti24 [yN] fun Cw an9 H=>⟨H.pick (zR 1 6)<|zR 0 7,(zY [3,7,8] qh qm<|vG rfl ?_<|vG rfl ?_<|vG rfl ?_ zZ)⟩
  ·refine zq H underlying135 ti3 qI rfl rfl qf qf qf fun TW aka H=>⟨H.pick (zR 2 6)<|zR 0 7,(jq HY ⟨_,TW,Cw,uE4,N,H.pick (1::0::zR 2 6)<|zR 0 7⟩)⟩
  ·refine zq H underlying24 ti2 qI rfl rfl qf qf qf fun H8 acm H=>⟨H.pick (zR 2 6)<|zR 0 7,(jq IM ⟨_,H8,Cw,uE4,N,H.pick (1::0::zR 2 6)<|zR 0 7⟩)⟩
  refine xg H ti135 [yN] fun Rr ahi H=>⟨H.pick (zR 2 6)<|zR 0 7,(jq Jf ⟨_,Rr,Cw,uE5,N,H.pick (1::0::zR 2 6)<|zR 0 7⟩)⟩
 clear H N
 rintro ρ SS ⟨xN,gr,gS,ld,gt,rfl,N,H⟩
 refine t_n<|zcr<|sw<|xg H ti71 [.nilFunc] fun pC R9 H=>zjc<|sp (.func (.func 111) #[] #[pp gr 0,pp bj 0,pp pC 0,pp gS 0])<|sw<|xn H 0 [.func (.func 111) #[] #[pp gr 0,pp bj 0,pp pC 0,pp gS 0]] sizeOf71 fun Ti H=>zjc<|oL rfl (H.cell 0 rfl rfl) ?_
 have H0:=H
 obtain⟨jz,zj,acV,H⟩:=H.yC (α:=yLI) 7 rfl 0 rfl qj
 replace N:Fresh w.heap.size [jz]:=Fresh.ice N H0 7 zj.1 zj.2<|H0.vX []
 clear H0
 replace H:=H.unfreeI 0 rfl
 have JS:=H.isLen 0 rfl
 have rin:=ko.rowsIn qf qf
 have vi:=VisI.start aj
 rw[show aj.length=qI by omega] at vi
 have v00:(List.replicate qI (0:Int))[(0:Int).toNat]! =0:=repAt1<|show 0<qI by omega
 have H1:St w Ti [.box gr [Sv (aa gt 0) qI qI] 135,.box bj [Sv xM xH xI,Sv zh aj.length zg] 46,.box pC [.func (.func 111) #[] #[pp gr 0,pp bj 0,pp pC 0,pp gS 0]] 71,.box gS [Sv (aa ld 0) qI qI] 24,.row (Sv (aa gt 0) qI qI) 3 1 qI ((List.replicate qI (0:Int)).map<|Value.int .i64),.row (Sv (aa ld 0) qI qI) 2 1 qI ((List.replicate qI (0:Int)).map<|Value.int .i64),.box jt [Sv xM xH xI,Sv zh qI zg] 46,.row yN 0 1 0 [],.row (Sv xM xH xI) 31 3 xH zH,.box b3 (yT t qV qU xm xk qM qL) 31,.box b1 (yS s qF qE qO qN) 27] [isF false jz (Sv zh aj.length zg) aj,isF false jz (Sv zh qI zg) aj,isF true jz (Sv zh qI zg) aj,xG true zL vT aj,xG true vM zH ag,isF false xu (Sv qF s.qA.length qE) s.qA,isF false xW (Sv qO s.qB.length qN) s.qB,isF false zk (Sv qV t.qK.length qU) t.qK,isF false zF (Sv xm t.qQ.length xk) t.qQ,isF false xJ (Sv qM t.qJ.length qL) t.qJ]:=by(rw[←JS]);exact H.pick [2,5,0,1,4,3,6,7,8,9,10] (0::zR 0 9)
 have N1:Fresh _ [jz]:=N
 have K1:Kept [] [isF false jz (Sv zh qI zg) aj,isF true jz (Sv zh qI zg) aj,xG true zL vT aj,xG true vM zH ag,sF false xu qF qE s.qA,sF false xW qO qN s.qB,sF false zk qV qU t.qK,sF false zF xm xk t.qQ,sF false xJ qM qL t.qJ]:=Kept.nil _
 replace K1:=K1.cons (F:=jz) 0 rfl rfl
 refine sw<|ve #[yI 0,pp gr 0,pp bj 0,pp pC 0,pp gS 0] rfl rfl call111 (Qu (by rfl)<|visit_ok 300 (0:Int) (List.replicate qI (0:Int)) (List.replicate qI (0:Int)) aj xM xH xI zh zg jz gr bj pC gS (aa gt 0) qI qI (aa ld 0) qI qI H1 N1 K1 (by assumption) (by exact⟨by omega,by omega⟩) ql ql (by exact fun j hj=>(rep0 hj).elim)<|by exact rep_cnt qf) ?_
 clear H H1 N1 K1
 rintro _ ak2 ⟨ab3,wI,abU,aaI,acK,rfl,N,H⟩
 refine sp (Bv<|dec<|Halts aj (0:Int).toNat)<|zjc<|oL rfl (H.cell 3 rfl rfl)<|oI rfl rfl<|oL rfl (H.Xb 5 rfl (iv:=0) (i:=0) qf qf)<|sp (Bv<|dec<|Halts aj (0:Int).toNat)<|sq 1<|sp (Bv<|dec<|Halts aj (0:Int).toNat)<|zjr<|ret2 (yI<|wI[0]!) (Bv<|dec<|Halts aj (0:Int).toNat) rfl rfl rfl ⟨_,rfl,?_⟩
 replace H:=H.erases [7,5,4,3,2,1,0]
 dsimp only[zU,List.eraseIdx] at H
 refine sp (.tuple #[yI<|wI[0]!,Bv<|dec<|Halts aj (0:Int).toNat])<|sq 1<|sp (Bv<|dec<|Halts aj (0:Int).toNat)<|sq 1<|sp (Bv<|dec<|Halts aj (0:Int).toNat)<|zjc<|sp (Bv<|dec<|Halts aj (0:Int).toNat)<|sp (Bv<|dec<|Halts aj (0:Int).toNat)<|sp (yI 0)<|zjr<|ret2 (Bv<|dec<|Halts aj (0:Int).toNat) (yI 0) rfl rfl rfl ⟨_,rfl,?_,H.base⟩
 rw[ah_h k0<|kr.trans<|gr_end qf];rfl
end
section
theorem lr_1{t:qG}(h:¬(vz s/\xK s t)):QD s t=(0,1):=by rw[QD,if_neg h]
theorem lr_c{t:qG}(h:vz s/\xK s t){x:(List qG×yLL)×Int}(h1:Yf s t=x)(hc:x.2=c)(h2:c≠0):QD s t=(0,c):=by subst hc h1;rw[QD,if_pos h,if_neg h2]
theorem lr_y{t:qG}(h:vz s/\xK s t)(h1:Yf s t=((S,R),0)){d:Int}(h2:Fi R 0 d):QD s t=(d,0):=by
 rw[QD,if_pos h,if_pos<|by rw[h1],h1];rw[if_pos h2.halts,lonD_of h2]
theorem lr_n{t:qG}(h:vz s/\xK s t)(h1:Yf s t=((S,R),0))(h2:¬Halts R 0):QD s t=(0,4):=by
 rw[QD,if_pos h,if_pos<|by rw[h1],h1];rw[if_neg h2]
end
section
theorem implLR_ok(w:World)(s:qH)(t:qG)(xe:zP w xu qF qE s.qA)(xE:zP w xW qO qN s.qB)(xR:zP w zk qV qU t.qK)(zu:zP w zF xm xk t.qQ)(xB:zP w xJ qM qL t.qJ):Calls Tryz.prog 18 #[.agg #[yI s.zf,Sv qF s.qA.length qE,Sv qO s.qB.length qN],.agg #[Sv qV t.qK.length qU,Sv xm t.qQ.length xk,Sv qM t.qJ.length qL]] w (Ret (fun v w'=>v=.tuple #[yI ((QD s t).1),yI ((QD s t).2)]) w):=by
 refine en func18 ntmps18 ?_
 have H:=(((((St.start w).arg xB).arg zu).arg xR).arg xE).arg xe
 have jT:=qR xR
 have yR:=qR zu
 have jv:=qR xB
 clear xe xE xR zu xB
 have N:=Fresh.nil w.heap.size
 refine zcr<|sw<|zN H (yS s qF qE qO qN) fun b1 w2 H=>sw<|zN H (yT t qV qU xm xk qM qL) fun b3 w4 H=>sp (yI 0)<|sp (yI 0)<|zjc<|sw<|xy (yS s qF qE qO qN) isAgg27 sizeOf27 rfl (qC (H.cells 1 rfl) 0 3)<|sw<|xy (yT t qV qU xm xk qM qL) isAgg31 sizeOf31 rfl (qC (H.cells 0 rfl) 0 3)<|sw<|zW #[.agg #[yI s.zf,Sv qF s.qA.length qE,Sv qO s.qB.length qN],.agg #[Sv qV t.qK.length qU,Sv xm t.qQ.length xk,Sv qM t.qJ.length qL]] rfl rfl call21<|en func21 ntmps21 ?_
 refine zcr<|sw<|zN H (yS s qF qE qO qN) fun b5 w6 H=>sw<|zN H (yT t qV qU xm xk qM qL) fun b7 w8 H=>sw<|xg H ti46 [yN,yN] fun b9 ov H=>sp (yI 0)<|zjcc<|sw<|xy (yS s qF qE qO qN) isAgg27 sizeOf27 rfl (qC (H.cells 2 rfl) 0 3)<|sw<|xy (yT t qV qU xm xk qM qL) isAgg31 sizeOf31 rfl (qC (H.cells 1 rfl) 0 3)<|sw<|oq (QA _ s t (H.get 0 rfl).1 (H.get 1 rfl).1 (H.get 2 rfl).1 (H.get 3 rfl).1 (H.get 4 rfl).1) H fun we H=>sq 1<|zjn<|cQ rfl (fun eE=>?_)<|fun eE=>?_
 ·refine zcr (sw<|vg [yN,yN] []<|sw<|xx H 0 [yN,yN] sizeOf46 fun uK H=>sp (yI 1)<|zjr<|t_r<|XC H 0 rfl (yI 1) rfl isAgg46 sizeOf46 rfl rfl ⟨_,rfl,?_⟩)
  replace H:=H.erases [2,1,0]
  dsimp only[zU,List.eraseIdx] at H
  refine sq 2<|sp (yI 1)<|sw<|xg H ti46 [yN,yN] fun m1 GW H=>sw<|xx H 0 [yN,yN] sizeOf46 fun EY H=>sp (yI 1)<|zjcc<|sp (yI 1)<|sp (Bv true)<|zjn<|cTr rfl<|zcr<|sp (yI 1)<|sp (yI 0)<|sp (yI 1)<|zjr<|t_r<|ret2 (yI 0) (yI 1) rfl rfl rfl ⟨_,rfl,?_,H.base⟩
  rw[lr_1 ‹_›]
 have k0:=(‹vz s/\xK s t›:vz s/\xK s t)
 have k1:=k0.1
 have k2:=k0.2
 obtain⟨q7,q8,q9,Bz⟩:=k2.sizes k1.1
 have Uj:=fun k hk=>Nat.le_trans (Bz k hk) (by decide:8<=1000000)
 refine qZ<|t_n<|zcr<|sw<|xy (yS s qF qE qO qN) isAgg27 sizeOf27 rfl (qC (H.cells 2 rfl) 0 3)<|sw<|xy (yT t qV qU xm xk qM qL) isAgg31 sizeOf31 rfl (qC (H.cells 1 rfl) 0 3)<|sw<|zW #[.agg #[yI s.zf,Sv qF s.qA.length qE,Sv qO s.qB.length qN],.agg #[Sv qV t.qK.length qU,Sv xm t.qQ.length xk,Sv qM t.qJ.length qL]] rfl rfl call66<|en func66 ntmps66 ?_
 refine zcr<|sw<|zN H (yS s qF qE qO qN) fun gO tr H=>sw<|zN H (yT t qV qU xm xk qM qL) fun pg GP H=>sw<|xg H ti46 [yN,yN] fun zw Ks H=>sp (yI 0)<|zjc<|sw<|xy (yT t qV qU xm xk qM qL) isAgg31 sizeOf31 rfl (qC (H.cells 1 rfl) 0 3) ?_
 have TH:=H.base.size
 refine sw<|oc (Q9 _ t (H.get 2 rfl).1 (H.get 3 rfl).1 (H.get 4 rfl).1 qg qg qg qg) ?_
 rintro _ BP ⟨Vg,EX,Vd,cz,Hn,cv,tk,so,XE,BJ,XD,rfl,M,K⟩ _
 replace N:=N.merge TH qm M
 replace H:=H.merge K M
 obtain rfl:=H.Xg 0 rfl
 obtain rfl:=H.xQ (α:=yLI) 1 rfl 0 rfl qj
 obtain rfl:=H.jy 2 rfl
 refine sw<|zl H underlying38 ti31 (yT t Vg Vd cz cv XE XD) fun mX Gj H=>sw<|vg [Sv (aa mX 0) 1 1,yN] [(0,Sv (aa mX 0) 1 1)]<|sw<|xg H ti46 [yN,yN] fun CL Gy H=>sw<|xx H 0 [Sv (aa mX 0) 1 1,yN] sizeOf46 fun Jk H=>zjcc<|sp (yI 0)<|zjn<|xf ?_
 replace H:=H.boxRow 1 rfl 3 1 rfl qj
 replace H:=H.vP (α:=qG)
 obtain⟨kJ,N,Tx,H⟩:=H.freezeB 2 rfl N<|H.vX [1]
 have H0:=H
 obtain⟨Bk,GJ,SG,H⟩:=H.yC (α:=yLI) 3 rfl 2 rfl qj
 replace N:Fresh w.heap.size [Bk,kJ]:=Fresh.ice (N.pick [1,0]) H0 3 GJ.1 GJ.2<|H0.vX [0]
 clear H0
 obtain⟨oV,N,agv,H⟩:=H.zQ 4 rfl N<|H.vX [0,1]
 replace H:=H.Qo 3 rfl 2 rfl 1 rfl 0 rfl
 replace N:Fresh w.heap.size [([]++(kJ++Bk++oV))]:=(N.emp.pick [3,2,1,0]).join.join.swap.join
 replace H:St _ _ [.box CL [Sv (aa mX 0) 1 1,yN] 46,rr (aa mX 0) 1 1 31 3<|yT t Vg Vd cz cv XE XD,rr none 0 0 0 1 [],rr none 0 0 0 1 [],rr none 0 0 0 1 [],.box zw [yN,yN] 46,.box pg (yT t qV qU xm xk qM qL) 31,.box gO (yS s qF qE qO qN) 27,.box b9 [yN,yN] 46,.box b7 (yT t qV qU xm xk qM qL) 31,.box b5 (yS s qF qE qO qN) 27,.box b3 (yT t qV qU xm xk qM qL) 31,.box b1 (yS s qF qE qO qN) 27] [xG true ([]++(kJ++Bk++oV)) (yT t Vg Vd cz cv XE XD) [t],sF true oV XE XD t.qJ,sF true Bk cz cv t.qQ,sF true kJ Vg Vd t.qK,xG true [] [] ([]:List qG),xG true so tk t.qQ,sF false xu qF qE s.qA,sF false xW qO qN s.qB,sF false zk qV qU t.qK,sF false zF xm xk t.qQ,sF false xJ qM qL t.qJ]:=H
 replace H:=H.nilRow 24 1
 replace H:=H.vP (α:=yLI)
 refine zD ((fun Z0 Z1 Z2 Z3 Z4 Z5 Z6 Z7 Z8 Z9 bG bX eZ=>fun m' ρ LQ=>∃(xN:Env) (i:Nat) (xM:yOA) (xH:Nat) (xI:Nat) (ag:List qG) (zH:List Value) (vM:yLN) (zh:yOA) (qI:Nat) (zg:Nat) (aj:yLL) (vT:List Value) (zL:yLN),ρ=upd (upd (upd (upd xN 2<|pp gO 0) 4<|pp zw 0) 6<|pp CL 0) 7 (yI i)/\(Yf s t=grGo s (302-i) i ag aj)/\(∀u∈ag,xK s u)/\(0<ag.length/\ag.length<=300)/\(aj.length=i)/\(i<=ag.length)/\(GrOk ag aj)/\m'=(301-i)/\Fresh w.heap.size [zL]/\St w LQ [rr zh qI zg 24 1 vT,.box CL [Sv xM xH xI,Sv zh qI zg] 46,rr xM xH xI 31 3 zH,Z0,Z1,Z2,Z3,Z4,Z5,Z6,Z7] [xG true zL vT aj,xG true vM zH ag,Z8,Z9,bG,bX,eZ]) _ _ _ _ _ _ _ _ _ _ _ _ _) ((301-0)) ⟨_,0,(aa mX 0),1,1,[t],(yT t Vg Vd cz cv XE XD),([]++(kJ++Bk++oV)),none,0,0,([]:yLL),[],[],uE4,(by rfl),(by exact fun u hu=>by obtain rfl:=List.mem_singleton.1 hu;exact k2),qm,(by rfl),qm,(by exact GrOk.start t),rfl,(N.emp.pick [0]),H.pick (0::1::2::zR 6 8) (0::1::zR 7 5)⟩ ?_
 clear H N
 rintro m' ρ Dz ⟨xN,i,xM,xH,xI,ag,zH,vM,zh,qI,zg,aj,vT,zL,rfl,kr,ka,kl,kn,ki,ko,rfl,N,H⟩
 have V9:=H.xQ (α:=qG) 2 rfl 1 rfl qj
 have oU:=H.xQ (α:=yLI) 0 rfl 0 rfl qj
 refine zcc<|sp (yI i)<|oF rfl<|oL rfl (H.cell 1 rfl rfl)<|oN rfl<|sq 1<|zjn<|cD rfl (fun h47=>?_)<|fun h47=>?_
 ·have ks:=ka (ag[i]!) (mem_at (k:=i) qf rfl)
  have nl:=succ_len s<|ag[i]!
  refine qZ<|t_n<|xU<|xf<|xU<|ji rfl H fun H=>rt 0 _ (yF (cs:=(yS s qF qE qO qN)) isAgg27 sizeOf27 rfl<|fun _ h=>qC (h.cells 5 rfl) 0 3) H ?_
  refine tF 1 rfl rfl H ?_
  refine tL 2 rfl rfl (fun _ h=>h.cell 1 rfl rfl) H ?_
  refine rtp 3 (yI i) H ?_
  obtain⟨Lq,rfl⟩:=H.jR 2 rfl qf
  obtain⟨oK,oC,FT,rV,ux,H9,mT,mG,CF,Cj,H⟩:=H.Yd 2 rfl 1 rfl (iv:=i) i qf qf
  have S:=H.jF (zR 0 11)<|zR 3 7
  refine tI 4 rfl rfl rfl S ?_
  refine rt 5 _ (yF (cs:=[Sv oK (((ag[i]!).qK).length) oC,Sv rV (((ag[i]!).qQ).length) ux,Sv mT (((ag[i]!).qJ).length) mG]) isAgg31 sizeOf31 rfl<|fun _ h=>qC (fun j v hj=>h.VI 2 rfl<|Cj j v hj) 0 3) S ?_
  refine ro 6 rfl ?_
  have Km:=H.base.size
  have JO:=H.ltN (L:=[zL]) [3]
  refine oc (nextStates_ok _ s (ag[i]!) (H.get 5 rfl).1 (H.get 6 rfl).1 (H.get 0 rfl).1 (H.get 1 rfl).1 (H.get 2 rfl).1 qg qg) ?_
  rintro _ LJ ⟨zd,Q1,rX,Ou,OY,rfl,M,K⟩ _
  replace N:=N.merge Km JO M
  replace H:=H.merge K M
  obtain rfl:=H.xQ (α:=qG) 0 rfl 0 rfl qj
  refine⟨H.pick (zR 1 11)<|zR 4 7,?_⟩
  have S:=H.jF (zR 1 11)<|zR 4 7
  refine rtl 7 S ?_
  refine rtl 8 S ?_
  refine rtl 9 S ?_
  refine rtl 10 S ?_
  refine rtl 11 S ?_
  refine xC qh<|t_n<|zcc<|sq 1<|sp (Bv (((qW s<|ag[i]!).2:Int) != 0))<|zjn<|zX (((qW s<|ag[i]!).2:Int) != 0) rfl (fun mi=>?_)<|fun mi=>?_
  ·replace mi:=bne_iff_ne.1 mi
   refine zcr<|sw<|vg [yN,yN] []<|sq 1<|sw<|xx H 4 [yN,yN] sizeOf46 fun N9 H=>sq 1<|zjr<|t_r<|zr5<|XC H 4 rfl (yI ((qW s<|ag[i]!).2)) rfl isAgg46 sizeOf46 rfl rfl ⟨_,rfl,?_⟩
   replace H:=H.erases [6,5,4,3,2,1,0]
   dsimp only[zU,List.eraseIdx] at H
   refine sq 2<|sw<|xx H 0 [yN,yN] sizeOf46 fun Sj H=>sq 1<|zjr<|XC H 0 rfl (yI ((qW s<|ag[i]!).2)) rfl isAgg46 sizeOf46 rfl rfl ⟨_,rfl,?_⟩
   replace H:=H.erases [2,1,0]
   dsimp only[zU,List.eraseIdx] at H
   refine sq 3<|sw<|xg H ti46 [yN,yN] fun OA GT H=>sw<|xx H 0 [yN,yN] sizeOf46 fun Wo H=>sq 1<|zjcc<|sq 1<|sp (Bv (((qW s<|ag[i]!).2:Int) != 0))<|zjn<|zX (((qW s<|ag[i]!).2:Int) != 0) rfl (fun wh=>?_)<|fun h=>absurd (xA h) mi
   replace wh:=bne_iff_ne.1 wh
   refine zcr<|sq 1<|sp (yI 0)<|sq 1<|zjr<|t_r<|ret2 (yI 0) (yI ((qW s<|ag[i]!).2)) rfl rfl rfl ⟨_,rfl,?_,H.base⟩
   rw[lr_c k0 (kr.trans<|gr_code qf qf ql) rfl ql]
  replace mi:=xA mi
  refine qZ<|t_n<|zcr<|sw<|ja H underlying24 ti2 fun BE Hl H=>sq 1<|zjcc<|sq 1<|oN rfl<|sp (yI 0)<|zjn<|xf ?_
  have H0:=H
  obtain⟨P2,Id,K3,H⟩:=H.yC (α:=qG) 1 rfl 0 rfl qj
  replace N:Fresh w.heap.size [P2,zL]:=Fresh.ice N H0 1 Id.1 Id.2<|H0.vX [4]
  clear H0
  replace H:=H.boxRowI 0 [] 0
  refine zD ((fun Z0 Z1 Z2 Z3 Z4 Z5 Z6 Z7 Z8 Z9 bG bX eZ i8 mb oX=>fun m' ρ UU=>∃(xN:Env) (gB:yOA) (gH:Nat) (gE:Nat) (own:yLI) (k:Nat) (jM:yOA) (vk:Nat) (jL:Nat) (aU:List qG) (yD:List Value) (yQ:yLN),ρ=upd (upd (upd (upd (upd (upd (upd (upd xN 2<|pp gO 0) 4<|pp zw 0) 6<|pp CL 0) 7<|yI i) 10<|Sv gB gH gE) 40<|Sv zd (((qW s<|ag[i]!).1).length) rX) 41<|yI (((qW s<|ag[i]!).1).length)) 42 (yI k)/\own=(vC ag (qW s<|ag[i]!).1 k).2/\aU=(vC ag (qW s<|ag[i]!).1 k).1/\((k:Int)<=(((qW s<|ag[i]!).1).length))/\m'=((((qW s<|ag[i]!).1).length)-(k:Int)).toNat/\Fresh w.heap.size [P2,zL]/\St w UU [rr gB gH gE 2 1<|own.map<|Value.int .i64,Z0,.box CL [Sv jM vk jL,Sv zh qI zg] 46,rr jM vk jL 31 3 yD,Z1,Z2,Z3,Z4,Z5,Z6,Z7,Z8] [Z9,bG,xG true yQ yD aU,bX,eZ,i8,mb,oX]) _ _ _ _ _ _ _ _ _ _ _ _ _ _ _ _) (((((qW s<|ag[i]!).1).length)-(0:Int)).toNat) ⟨_,(aa BE 0),0,0,([]:yLI),0,(aa Lq 0),xH,xI,ag,zH,vM,uE8,(by rfl),(by rfl),qf,rfl,N,H.pick (0::zR 2 11) (0::zR 5 7)⟩ ?_
  clear H N
  rintro m' ρ LL ⟨xN,gB,gH,gE,own,k,jM,vk,jL,aU,yD,yQ,rfl,rfl,rfl,i0,rfl,N,H⟩
  have tB:=H.jy 0 rfl
  have V9:=H.xQ (α:=qG) 3 rfl 2 rfl qj
  obtain⟨al1,al2,al3⟩:=Xp (S:=ag) (nx:=(qW s<|ag[i]!).1) k
  refine zcr<|sq 1<|zjn<|xU<|cD rfl (fun K7=>?_)<|fun K7=>?_
  ·refine qZ (t_n<|xU<|xf<|zcr ?_)
   obtain⟨b73,o74,rfl⟩:=H.addr 0 rfl qf
   obtain⟨Vt,Vr,EO,cr,cy,Jg,XJ,XH,BH,H⟩:=H.XO 0 rfl k k qf qf qf
   refine oI rfl rfl<|sw<|xy [Sv Vt (((((qW s<|ag[i]!).1)[k]!).qK).length) Vr,Sv cr (((((qW s<|ag[i]!).1)[k]!).qQ).length) cy,Sv XJ (((((qW s<|ag[i]!).1)[k]!).qJ).length) XH] isAgg31 sizeOf31 rfl (qC (H.get 3 rfl) 0 3)<|sw<|xg H ti31 [yN,yN,yN] fun Bt RH H=>(sw<|xx H 0 [Sv Vt (((((qW s<|ag[i]!).1)[k]!).qK).length) Vr,Sv cr (((((qW s<|ag[i]!).1)[k]!).qQ).length) cy,Sv XJ (((((qW s<|ag[i]!).1)[k]!).qJ).length) XH] sizeOf31 fun NB H=>zjc<|oF rfl<|oL rfl (H.cell 3 rfl rfl)<|sw<|xy [Sv Vt (((((qW s<|ag[i]!).1)[k]!).qK).length) Vr,Sv cr (((((qW s<|ag[i]!).1)[k]!).qQ).length) cy,Sv XJ (((((qW s<|ag[i]!).1)[k]!).qJ).length) XH] isAgg31 sizeOf31 rfl (qC (H.cells 0 rfl) 0 3) ?_)
   obtain⟨SN,my,Dw⟩:=H.QL (α:=qG) 4 rfl 6 rfl qj
   refine sw<|oq (Qu (by rw[←my])<|find_ok _ ((vC ag (qW s<|ag[i]!).1 k).1) (((qW s<|ag[i]!).1)[k]!) (my▸Dw) (H.get 0 rfl).1 (H.get 1 rfl).1 (H.get 2 rfl).1) H fun KD H=>sq 1<|zjcc<|sq 1<|sp (Bv<|decide ((firstIdx (fun zz=>decide (((vC ag (qW s<|ag[i]!).1 k).1)[zz]! =(((qW s<|ag[i]!).1)[k]!))) ((vC ag (qW s<|ag[i]!).1 k).1).length:Int)<0))<|zjn<|cD rfl (fun mY=>?_)<|fun mY=>?_
   ·refine zcr (oF rfl<|oL rfl (H.cell 3 rfl rfl) ?_)
    obtain⟨G87,EQ,y2⟩:=H.QL (α:=qG) 4 rfl 6 rfl qj
    refine sw<|oq (Qu (by rw[←EQ])<|sizeS_ok _ ((vC ag (qW s<|ag[i]!).1 k).1)<|EQ▸y2) H fun MV H=>sq 1<|zjn<|xX<|oF rfl<|oL rfl (H.cell 3 rfl rfl)<|sw<|xy [Sv Vt (((((qW s<|ag[i]!).1)[k]!).qK).length) Vr,Sv cr (((((qW s<|ag[i]!).1)[k]!).qQ).length) cy,Sv XJ (((((qW s<|ag[i]!).1)[k]!).qJ).length) XH] isAgg31 sizeOf31 rfl (qC (H.cells 0 rfl) 0 3)<|sw<|zl H underlying38 ti31 [Sv Vt (((((qW s<|ag[i]!).1)[k]!).qK).length) Vr,Sv cr (((((qW s<|ag[i]!).1)[k]!).qQ).length) cy,Sv XJ (((((qW s<|ag[i]!).1)[k]!).qJ).length) XH] fun GM L8 H=>sw<|zt H 5 rfl 0 rfl underlying38 ti31 rfl qj rfl rfl rfl qw qp qf fun a95 c96 NP H=>?_
    replace H:=H.Qo 6 rfl 0 rfl 1 rfl 2 rfl
    refine oF rfl<|sw<|xn H 4 [Sv a95 (vk+1) c96,Sv zh qI zg] sizeOf38 fun S5 H=>zjn<|xX<|sq 2<|sw<|zl H underlying24 ti2 [yI (((vC ag (qW s<|ag[i]!).1 k).1).length)] fun b99 HK H=>sw<|zt H 3 rfl 0 rfl underlying24 ti2 rfl qj rfl rfl rfl qw qp qf fun IS JK Iz H=>?_
    rw[snocI] at H
    refine sq 1<|xZ<|b_n<|t_n<|xX<|sw<|zC k 1 rfl rfl qf<|sq 1<|xZ<|xh (m':=((((qW s<|ag[i]!).1).length)-((k+1):Int)).toNat) qf ⟨_,_,_,_,_,k+1,_,_,_,_,_,_,uE8,?_,?_,?_,rfl,N,H.pick (zR 3 12) (5::6::0::zR 8 5)⟩
    ·(refine Eq.trans ?_ (Qi (k:=k) ‹_›).2;congr 2 <;> omega)
    ·exact(Qi (k:=k) ‹_›).1
    ·omega
   refine qZ<|t_n<|xX<|sq 2<|sw<|zl H underlying24 ti2 [yI<|firstIdx (fun zz=>decide (((vC ag (qW s<|ag[i]!).1 k).1)[zz]! =(((qW s<|ag[i]!).1)[k]!))) ((vC ag (qW s<|ag[i]!).1 k).1).length] fun TS Gi H=>(sw<|zt H 2 rfl 0 rfl underlying24 ti2 rfl qj rfl rfl rfl qw qp qf fun apV aot LF H=>?_)
   rw[snocI] at H
   refine sq 1<|xZ<|b_n<|t_n<|xX<|sw<|zC k 1 rfl rfl qf<|sq 1<|xZ<|xh (m':=((((qW s<|ag[i]!).1).length)-((k+1):Int)).toNat) qf ⟨_,_,_,_,_,k+1,_,_,_,_,_,_,uE8,?_,?_,?_,rfl,N,H.pick (zR 2 12)<|zR 4 8⟩
   ·exact(Qh (k:=k) ‹_›).2
   ·exact(Qh (k:=k) ‹_›).1
   ·omega
  refine zx4<|zcc<|oF rfl<|oL rfl (H.cell 2 rfl rfl)<|oN rfl<|sp (Bv<|decide ((vk:Int)>300))<|zjn<|cD rfl (fun Hc=>?_)<|fun Hc=>?_
  ·refine zcr (sw<|vg [yN,yN] []<|sw<|xx H 4 [yN,yN] sizeOf46 fun Tp H=>sp (yI 3)<|zjr<|t_r<|zr5<|XC H 4 rfl (yI 3) rfl isAgg46 sizeOf46 rfl rfl ⟨_,rfl,?_⟩)
   replace H:=H.erases [6,5,4,3,2,1,0]
   dsimp only[zU,List.eraseIdx] at H
   refine sq 1<|sp (yI 3)<|sw<|xx H 0 [yN,yN] sizeOf46 fun M0 H=>sp (yI 3)<|zjr<|XC H 0 rfl (yI 3) rfl isAgg46 sizeOf46 rfl rfl ⟨_,rfl,?_⟩
   replace H:=H.erases [2,1,0]
   dsimp only[zU,List.eraseIdx] at H
   refine sq 2<|sp (yI 3)<|sw<|xg H ti46 [yN,yN] fun akQ Aw H=>sw<|xx H 0 [yN,yN] sizeOf46 fun Lz H=>sp (yI 3)<|zjcc<|sp (yI 3)<|sp (Bv true)<|zjn<|cTr rfl<|zcr<|sp (yI 3)<|sp (yI 0)<|sp (yI 3)<|zjr<|t_r<|ret2 (yI 0) (yI 3) rfl rfl rfl ⟨_,rfl,?_,H.base⟩
   rw[lr_c k0 (kr.trans<|gr_many qf qf qf (k:=k) qf qf) rfl qj]
  refine qZ<|t_n<|xX<|oF rfl<|oL rfl (H.cell 2 rfl rfl)<|sq 1<|sw<|zl H underlying29 ti24 [Sv gB gH gE] fun As oe H=>?_
  obtain⟨sB,N,OS,H⟩:=H.zQ 1 rfl N<|H.vX [0,1]
  refine sw<|zt H 2 rfl 0 rfl underlying29 ti24 rfl qj rfl rfl rfl qw qp qf fun Ca CR Jt H=>?_
  replace H:=H.yh 2 rfl 0 rfl
  replace N:Fresh w.heap.size [(zL++sB),P2]:=(N.pick [2,0,1]).join
  refine oF rfl<|sw<|xn H 3 [Sv jM vk jL,Sv Ca (qI+1) CR] sizeOf29 fun SL H=>xZ<|b_n<|t_n<|xX<|sp (yI i)<|sw<|zC i 1 rfl rfl qf<|sq 1<|xZ<|xh (m':=(301-(i+1))) qf ⟨_,i+1,_,_,_,_,_,_,_,_,_,_,_,_,uE4,?_,?_,?_,?_,?_,?_,rfl,(N.pick [0]),H.pick (zR 2 11) (0::zR 4 6)⟩
  ·exact kr.trans<|gr_go qf qf qf (k:=k) qf qf
  ·exact addSt_mem ka succ_ok k qf
  ·omega
  ·simp;omega
  ·omega
  ·exact ko.next qf qf
 refine zx4<|zcr<|sw<|xy [Sv xM xH xI,Sv zh qI zg] isAgg46 sizeOf46 rfl (qC (H.cells 1 rfl) 0 2)<|sw<|xx H 3 [Sv xM xH xI,Sv zh qI zg] sizeOf46 fun EM H=>sp (yI 0)<|zjr<|XC H 3 rfl (yI 0) rfl isAgg46 sizeOf46 rfl rfl ⟨_,rfl,?_⟩
 replace H:=H.erases [5,4,3,1]
 dsimp only[zU,List.eraseIdx] at H
 refine sq 1<|sp (yI 0)<|sw<|xx H 2 [Sv xM xH xI,Sv zh qI zg] sizeOf46 fun GB H=>sp (yI 0)<|zjr<|XC H 2 rfl (yI 0) rfl isAgg46 sizeOf46 rfl rfl ⟨_,rfl,?_⟩
 replace H:=H.erases [4,3,2]
 dsimp only[zU,List.eraseIdx] at H
 refine sq 2<|sp (yI 0)<|sw<|xg H ti46 [yN,yN] fun jt FM H=>sw<|xx H 0 [Sv xM xH xI,Sv zh qI zg] sizeOf46 fun Ko H=>sp (yI 0)<|zjcc<|sp (yI 0)<|sp (Bv false)<|zjn<|cFr rfl<|qZ<|t_n<|zcr<|sw<|xy [Sv xM xH xI,Sv zh qI zg] isAgg46 sizeOf46 rfl (qC (H.cells 0 rfl) 0 2)<|sw<|zW #[.agg #[Sv xM xH xI,Sv zh qI zg]] rfl rfl call64<|en func64 ntmps64 ?_
 refine zcr<|sw<|zN H [Sv xM xH xI,Sv zh qI zg] fun bj H7 H=>sp (yI 0)<|sp (Bv false)<|zjn<|xU<|VD (fun ρ FW=>∃(xN:Env) (gr:Nat) (gS:Nat) (ld:Nat) (gt:Nat),ρ=upd (upd (upd xN 1<|pp bj 0) 4<|pp gr 0) 5 (pp gS 0)/\Fresh w.heap.size [zL]/\St w FW [.box gS [Sv (aa ld 0) qI qI] 24,.box gr [Sv (aa gt 0) qI qI] 135,rr (aa ld 0) qI qI 2 1 ((List.replicate qI (0:Int)).map<|Value.int .i64),rr (aa gt 0) qI qI 3 1 ((List.replicate qI (0:Int)).map<|Value.int .i64),.box bj [Sv xM xH xI,Sv zh qI zg] 46,.box jt [Sv xM xH xI,Sv zh qI zg] 46,rr zh qI zg 24 1 vT,rr xM xH xI 31 3 zH,.box b3 (yT t qV qU xm xk qM qL) 31,.box b1 (yS s qF qE qO qN) 27] [xG true zL vT aj,xG true vM zH ag,sF false xu qF qE s.qA,sF false xW qO qN s.qB,sF false zk qV qU t.qK,sF false zF xm xk t.qQ,sF false xJ qM qL t.qJ]) ?_ ?_
 ·refine ji rfl H fun H=>?_
  refine yL (fun ρ CN=>∃(xN:Env) (lC:Nat) (pd:Nat) (mJ:Nat),ρ=upd (upd (upd (upd (upd xN 1<|pp bj 0) 4<|pp pd 0) 5<|pp mJ 0) 11<|Sv (aa lC 0) qI qI) 14 (yI qI)/\Fresh w.heap.size [zL]/\St w CN [.box mJ [yN] 24,.box pd [yN] 135,rr (aa lC 0) qI qI 3 1 ((List.replicate qI (0:Int)).map<|Value.int .i64),.box bj [Sv xM xH xI,Sv zh qI zg] 46,.box jt [Sv xM xH xI,Sv zh qI zg] 46,rr zh qI zg 24 1 vT,rr xM xH xI 31 3 zH,.box b3 (yT t qV qU xm xk qM qL) 31,.box b1 (yS s qF qE qO qN) 27] [xG true zL vT aj,xG true vM zH ag,sF false xu qF qE s.qA,sF false xW qO qN s.qB,sF false zk qV qU t.qK,sF false zF xm xk t.qQ,sF false xJ qM qL t.qJ]) 3 #[true,true,true,true,true,true,true,false,true,true,false,false] ?_ fun B1=>?_
  ·rintro ρ T9 ⟨xN,lC,pd,mJ,rfl,N,H⟩
   refine zY [7,10] qh qm<|vG rfl ?_<|vG rfl ?_ zZ
   ·refine zq H underlying24 ti2 qI rfl rfl qf qf qf fun gV Ih H=>⟨H.pick (zR 4 6)<|zR 0 7,(ro 10 rfl<|xn H 2 [Sv (aa lC 0) qI qI] sizeOf135 fun Ln H=>⟨H.pick (zR 4 6)<|zR 0 7,(ro 11 rfl<|xn H 1 [Sv (aa gV 0) qI qI] sizeOf24 fun FQ H=>⟨H.pick (zR 4 6)<|zR 0 7,(xC qh ((meet ⟨_,pd,mJ,gV,lC,uE3,N,H.pick (1::2::0::zR 3 7)<|zR 0 7⟩)))⟩)⟩)⟩
   refine xn H 1 [Sv (aa lC 0) qI qI] sizeOf135 fun GI H=>⟨H.pick (zR 3 6)<|zR 0 7,(ro 7 rfl<|zq H underlying24 ti2 qI rfl rfl qf qf qf fun mQ Kk H=>⟨H.pick (zR 4 6)<|zR 0 7,(ro 11 rfl<|xn H 1 [Sv (aa mQ 0) qI qI] sizeOf24 fun CP H=>⟨H.pick (zR 4 6)<|zR 0 7,(xC qh ((meet ⟨_,pd,mJ,mQ,lC,uE3,N,H.pick (1::2::0::zR 3 7)<|zR 0 7⟩)))⟩)⟩)⟩
  refine yL (fun ρ Fr=>∃(xN:Env) (kd:Nat) (jN:Nat),ρ=upd (upd (upd xN 1<|pp bj 0) 11<|Sv (aa kd 0) qI qI) 15 (Sv (aa jN 0) qI qI)/\Fresh w.heap.size [zL]/\St w Fr [rr (aa jN 0) qI qI 2 1 ((List.replicate qI (0:Int)).map<|Value.int .i64),rr (aa kd 0) qI qI 3 1 ((List.replicate qI (0:Int)).map<|Value.int .i64),.box bj [Sv xM xH xI,Sv zh qI zg] 46,.box jt [Sv xM xH xI,Sv zh qI zg] 46,rr zh qI zg 24 1 vT,rr xM xH xI 31 3 zH,.box b3 (yT t qV qU xm xk qM qL) 31,.box b1 (yS s qF qE qO qN) 27] [xG true zL vT aj,xG true vM zH ag,sF false xu qF qE s.qA,sF false xW qO qN s.qB,sF false zk qV qU t.qK,sF false zF xm xk t.qQ,sF false xJ qM qL t.qJ]) 4 #[true,true,true,true,true,true,true,true,false,false,false,false] ?_ fun H4=>?_
  ·rintro ρ SP ⟨xN,kd,jN,rfl,N,H⟩
   refine zY [8,9] qh qm<|vG rfl ?_<|vG rfl ?_ zZ
   ·refine xg H ti135 [yN] fun TD EN H=>⟨H.pick (zR 3 6)<|zR 0 7,(ro 9 rfl<|xg H ti24 [yN] fun Rp Nb H=>⟨H.pick (zR 4 6)<|zR 0 7,(ro 10 rfl<|xn H 1 [Sv (aa kd 0) qI qI] sizeOf135 fun KY H=>⟨H.pick (zR 4 6)<|zR 0 7,(ro 11 rfl<|xn H 0 [Sv (aa jN 0) qI qI] sizeOf24 fun BN H=>⟨H.pick (zR 4 6)<|zR 0 7,(xC qh ((meet ⟨_,TD,Rp,jN,kd,uE3,N,H⟩)))⟩)⟩)⟩)⟩
   refine xg H ti24 [yN] fun BS Ai H=>⟨H.pick (zR 3 6)<|zR 0 7,(ro 8 rfl<|xg H ti135 [yN] fun TY TA H=>⟨H.pick (zR 4 6)<|zR 0 7,(ro 10 rfl<|xn H 0 [Sv (aa kd 0) qI qI] sizeOf135 fun ao8 H=>⟨H.pick (zR 4 6)<|zR 0 7,(ro 11 rfl<|xn H 1 [Sv (aa jN 0) qI qI] sizeOf24 fun Tw H=>⟨H.pick (zR 4 6)<|zR 0 7,(xC qh ((meet ⟨_,TY,BS,jN,kd,uE3,N,H.pick (1::0::zR 2 8)<|zR 0 7⟩)))⟩)⟩)⟩)⟩
  refine yL (fun ρ LN=>∃(xN:Env) (ny:Nat) (sJ:Nat),ρ=upd (upd (upd (upd xN 1<|pp bj 0) 4<|pp sJ 0) 11<|Sv (aa ny 0) qI qI) 14 (yI qI)/\Fresh w.heap.size [zL]/\St w LN [.box sJ [yN] 135,rr (aa ny 0) qI qI 3 1 ((List.replicate qI (0:Int)).map<|Value.int .i64),.box bj [Sv xM xH xI,Sv zh qI zg] 46,.box jt [Sv xM xH xI,Sv zh qI zg] 46,rr zh qI zg 24 1 vT,rr xM xH xI 31 3 zH,.box b3 (yT t qV qU xm xk qM qL) 31,.box b1 (yS s qF qE qO qN) 27] [xG true zL vT aj,xG true vM zH ag,sF false xu qF qE s.qA,sF false xW qO qN s.qB,sF false zk qV qU t.qK,sF false zF xm xk t.qQ,sF false xJ qM qL t.qJ]) 4 #[true,true,true,true,true,true,true,false,true,false,false,false] ?_ fun JF=>?_
  ·rintro ρ LM ⟨xN,ny,sJ,rfl,N,H⟩
   refine zY [7,9] qh qm<|vG rfl ?_<|vG rfl ?_ zZ
   ·refine zq H underlying24 ti2 qI rfl rfl qf qf qf fun CE Ma H=>⟨H.pick (zR 3 6)<|zR 0 7,(ro 9 rfl<|xg H ti24 [yN] fun TP Rq H=>⟨H.pick (zR 4 6)<|zR 0 7,(ro 10 rfl<|xn H 2 [Sv (aa ny 0) qI qI] sizeOf135 fun Tq H=>⟨H.pick (zR 4 6)<|zR 0 7,(ro 11 rfl<|xn H 0 [Sv (aa CE 0) qI qI] sizeOf24 fun adR H=>⟨H.pick (zR 4 6)<|zR 0 7,(xC qh<|?_)⟩)⟩)⟩)⟩
    exact meet ⟨_,sJ,TP,CE,ny,uE3,N,H.pick (0::2::1::zR 3 7)<|zR 0 7⟩
   refine xg H ti24 [yN] fun uN STz H=>⟨H.pick (zR 3 6)<|zR 0 7,(jq B1 ⟨_,ny,sJ,uN,uE5,N,H⟩)⟩
  refine yL (fun ρ Fe=>∃(xN:Env) (lx:Nat) (sv:Nat),ρ=upd (upd (upd (upd xN 1<|pp bj 0) 5<|pp sv 0) 11<|Sv (aa lx 0) qI qI) 14 (yI qI)/\Fresh w.heap.size [zL]/\St w Fe [.box sv [yN] 24,rr (aa lx 0) qI qI 3 1 ((List.replicate qI (0:Int)).map<|Value.int .i64),.box bj [Sv xM xH xI,Sv zh qI zg] 46,.box jt [Sv xM xH xI,Sv zh qI zg] 46,rr zh qI zg 24 1 vT,rr xM xH xI 31 3 zH,.box b3 (yT t qV qU xm xk qM qL) 31,.box b1 (yS s qF qE qO qN) 27] [xG true zL vT aj,xG true vM zH ag,sF false xu qF qE s.qA,sF false xW qO qN s.qB,sF false zk qV qU t.qK,sF false zF xm xk t.qQ,sF false xJ qM qL t.qJ]) 4 #[true,true,true,true,true,true,true,false,false,true,false,false] ?_ fun HY=>?_
  ·rintro ρ ab9 ⟨xN,lx,sv,rfl,N,H⟩
   refine zY [7,8] qh qm<|vG rfl ?_<|vG rfl ?_ zZ
   ·refine zq H underlying24 ti2 qI rfl rfl qf qf qf fun I7 Lp H=>⟨H.pick (zR 3 6)<|zR 0 7,(ro 8 rfl<|xg H ti135 [yN] fun Si agL H=>⟨H.pick (zR 4 6)<|zR 0 7,(ro 10 rfl<|xn H 0 [Sv (aa lx 0) qI qI] sizeOf135 fun M1 H=>⟨H.pick (zR 4 6)<|zR 0 7,(ro 11 rfl<|xn H 2 [Sv (aa I7 0) qI qI] sizeOf24 fun acl H=>⟨H.pick (zR 4 6)<|zR 0 7,(xC qh<|?_)⟩)⟩)⟩)⟩
    exact meet ⟨_,Si,sv,I7,lx,uE3,N,H.pick (2::0::1::zR 3 7)<|zR 0 7⟩
   refine xg H ti135 [yN] fun S3 UB H=>⟨H.pick (zR 3 6)<|zR 0 7,(jq B1 ⟨_,lx,S3,sv,uE5,N,H.pick (1::0::zR 2 7)<|zR 0 7⟩)⟩
  refine yL (fun ρ M5=>∃(xN:Env) (mD:Nat) (o0:Nat),ρ=upd (upd (upd (upd xN 1<|pp bj 0) 4<|pp o0 0) 10<|yI qI) 15 (Sv (aa mD 0) qI qI)/\Fresh w.heap.size [zL]/\St w M5 [.box o0 [yN] 135,rr (aa mD 0) qI qI 2 1 ((List.replicate qI (0:Int)).map<|Value.int .i64),.box bj [Sv xM xH xI,Sv zh qI zg] 46,.box jt [Sv xM xH xI,Sv zh qI zg] 46,rr zh qI zg 24 1 vT,rr xM xH xI 31 3 zH,.box b3 (yT t qV qU xm xk qM qL) 31,.box b1 (yS s qF qE qO qN) 27] [xG true zL vT aj,xG true vM zH ag,sF false xu qF qE s.qA,sF false xW qO qN s.qB,sF false zk qV qU t.qK,sF false zF xm xk t.qQ,sF false xJ qM qL t.qJ]) 4 #[true,true,true,false,true,true,true,true,true,false,false,false] ?_ fun IT=>?_
  ·rintro ρ SY ⟨xN,mD,o0,rfl,N,H⟩
   refine zY [3,9] qh qm<|vG rfl ?_<|vG rfl ?_ zZ
   ·refine zq H underlying135 ti3 qI rfl rfl qf qf qf fun rG Sh H=>⟨H.pick (zR 3 6)<|zR 0 7,(ro 9 rfl<|xg H ti24 [yN] fun BF Lb H=>⟨H.pick (zR 4 6)<|zR 0 7,(ro 10 rfl<|xn H 2 [Sv (aa rG 0) qI qI] sizeOf135 fun ahb H=>⟨H.pick (zR 4 6)<|zR 0 7,(ro 11 rfl<|xn H 0 [Sv (aa mD 0) qI qI] sizeOf24 fun aeu H=>⟨H.pick (zR 4 6)<|zR 0 7,(xC qh<|?_)⟩)⟩)⟩)⟩
    exact meet ⟨_,o0,BF,mD,rG,uE3,N,H.pick (0::2::3::1::zR 4 6)<|zR 0 7⟩
   refine xg H ti24 [yN] fun E1 ahm H=>⟨H.pick (zR 3 6)<|zR 0 7,(ro 3 rfl<|zq H underlying135 ti3 qI rfl rfl qf qf qf fun xd afU H=>⟨H.pick (zR 4 6)<|zR 0 7,(ro 10 rfl<|xn H 2 [Sv (aa xd 0) qI qI] sizeOf135 fun apd H=>⟨H.pick (zR 4 6)<|zR 0 7,(ro 11 rfl<|xn H 1 [Sv (aa mD 0) qI qI] sizeOf24 fun RS H=>⟨H.pick (zR 4 6)<|zR 0 7,(xC qh<|?_)⟩)⟩)⟩)⟩
   exact meet ⟨_,o0,E1,mD,xd,uE3,N,H.pick (1::2::3::0::zR 4 6)<|zR 0 7⟩
  refine yL (fun ρ GD=>∃(xN:Env) (kK:Nat) (ut:Nat),ρ=upd (upd (upd (upd xN 1<|pp bj 0) 5<|pp ut 0) 10<|yI qI) 15 (Sv (aa kK 0) qI qI)/\Fresh w.heap.size [zL]/\St w GD [.box ut [yN] 24,rr (aa kK 0) qI qI 2 1 ((List.replicate qI (0:Int)).map<|Value.int .i64),.box bj [Sv xM xH xI,Sv zh qI zg] 46,.box jt [Sv xM xH xI,Sv zh qI zg] 46,rr zh qI zg 24 1 vT,rr xM xH xI 31 3 zH,.box b3 (yT t qV qU xm xk qM qL) 31,.box b1 (yS s qF qE qO qN) 27] [xG true zL vT aj,xG true vM zH ag,sF false xu qF qE s.qA,sF false xW qO qN s.qB,sF false zk qV qU t.qK,sF false zF xm xk t.qQ,sF false xJ qM qL t.qJ]) 4 #[true,true,true,false,true,true,true,true,false,true,false,false] ?_ fun IM=>?_
  ·rintro ρ ajp ⟨xN,kK,ut,rfl,N,H⟩
   refine zY [3,8] qh qm<|vG rfl ?_<|vG rfl ?_ zZ
   ·refine zq H underlying135 ti3 qI rfl rfl qf qf qf fun IZ Mu H=>⟨H.pick (zR 3 6)<|zR 0 7,(ro 8 rfl<|xg H ti135 [yN] fun T8 ac2 H=>⟨H.pick (zR 4 6)<|zR 0 7,(ro 10 rfl<|xn H 0 [Sv (aa IZ 0) qI qI] sizeOf135 fun amw H=>⟨H.pick (zR 4 6)<|zR 0 7,(ro 11 rfl<|xn H 2 [Sv (aa kK 0) qI qI] sizeOf24 fun Nj H=>⟨H.pick (zR 4 6)<|zR 0 7,(xC qh<|?_)⟩)⟩)⟩)⟩
    exact meet ⟨_,T8,ut,kK,IZ,uE3,N,H.pick (2::0::3::1::zR 4 6)<|zR 0 7⟩
   refine xg H ti135 [yN] fun Ud aau H=>⟨H.pick (zR 3 6)<|zR 0 7,(ro 3 rfl<|zq H underlying135 ti3 qI rfl rfl qf qf qf fun J4 akp H=>⟨H.pick (zR 4 6)<|zR 0 7,(ro 10 rfl<|xn H 1 [Sv (aa J4 0) qI qI] sizeOf135 fun aln H=>⟨H.pick (zR 4 6)<|zR 0 7,(ro 11 rfl<|xn H 2 [Sv (aa kK 0) qI qI] sizeOf24 fun ak1 H=>⟨H.pick (zR 4 6)<|zR 0 7,(xC qh<|?_)⟩)⟩)⟩)⟩
   exact meet ⟨_,Ud,ut,kK,J4,uE3,N,H.pick (2::1::3::0::zR 4 6)<|zR 0 7⟩
  refine yL (fun ρ IJ=>∃(xN:Env) (sK:Nat) (ue:Nat),ρ=upd (upd (upd (upd (upd xN 1<|pp bj 0) 4<|pp sK 0) 5<|pp ue 0) 10<|yI qI) 14 (yI qI)/\Fresh w.heap.size [zL]/\St w IJ [.box ue [yN] 24,.box sK [yN] 135,.box bj [Sv xM xH xI,Sv zh qI zg] 46,.box jt [Sv xM xH xI,Sv zh qI zg] 46,rr zh qI zg 24 1 vT,rr xM xH xI 31 3 zH,.box b3 (yT t qV qU xm xk qM qL) 31,.box b1 (yS s qF qE qO qN) 27] [xG true zL vT aj,xG true vM zH ag,sF false xu qF qE s.qA,sF false xW qO qN s.qB,sF false zk qV qU t.qK,sF false zF xm xk t.qQ,sF false xJ qM qL t.qJ]) 4 #[true,true,true,false,true,true,true,false,true,true,false,false] ?_ fun Jf=>?_
  ·rintro ρ Zv ⟨xN,sK,ue,rfl,N,H⟩
   refine zY [3,7] qh qm<|vG rfl ?_<|vG rfl ?_ zZ
   ·refine zq H underlying135 ti3 qI rfl rfl qf qf qf fun Kd adi H=>⟨H.pick (zR 3 6)<|zR 0 7,(jq B1 ⟨_,Kd,sK,ue,uE5,N,H.pick (1::2::0::zR 3 6)<|zR 0 7⟩)⟩
   refine zq H underlying24 ti2 qI rfl rfl qf qf qf fun I2 afK H=>⟨H.pick (zR 3 6)<|zR 0 7,(ro 3 rfl<|zq H underlying135 ti3 qI rfl rfl qf qf qf fun rC aan H=>⟨H.pick (zR 4 6)<|zR 0 7,(ro 10 rfl<|xn H 3 [Sv (aa rC 0) qI qI] sizeOf135 fun Ze H=>⟨H.pick (zR 4 6)<|zR 0 7,(ro 11 rfl<|xn H 2 [Sv (aa I2 0) qI qI] sizeOf24 fun JM H=>⟨H.pick (zR 4 6)<|zR 0 7,(xC qh<|?_)⟩)⟩)⟩)⟩
   exact meet ⟨_,sK,ue,I2,rC,uE3,N,H.pick (2::3::1::0::zR 4 6)<|zR 0 7⟩
  refine tF 0 rfl rfl H ?_
  refine tL 1 rfl rfl (fun _ h=>h.cell 0 rfl rfl) H ?_
  refine tN 2 rfl rfl H ?_
  refine tF 4 rfl rfl H ?_
  refine tL 5 rfl rfl (fun _ h=>h.cell 0 rfl rfl) H ?_
  refine tN 6 rfl rfl H ?_
  refine zY [3,7,8,9] qh qm<|vG rfl ?_<|vG rfl ?_<|vG rfl ?_<|vG rfl ?_ zZ
  ·refine zq H underlying135 ti3 qI rfl rfl qf qf qf fun mf amj H=>⟨H.pick (zR 1 6)<|zR 0 7,(zY [7,8,9] qh qm<|vG rfl ?_<|vG rfl ?_<|vG rfl ?_ zZ)⟩
   ·refine zq H underlying24 ti2 qI rfl rfl qf qf qf fun Tb aag H=>⟨H.pick (zR 2 6)<|zR 0 7,(jq H4 ⟨_,mf,Tb,uE3,N,H⟩)⟩
   ·refine xg H ti135 [yN] fun To acx H=>⟨H.pick (zR 2 6)<|zR 0 7,(jq JF ⟨_,mf,To,uE4,N,H⟩)⟩
   refine xg H ti24 [yN] fun RQ amQ H=>⟨H.pick (zR 2 6)<|zR 0 7,(jq HY ⟨_,mf,RQ,uE4,N,H⟩)⟩
  ·refine zq H underlying24 ti2 qI rfl rfl qf qf qf fun Cl Ue H=>⟨H.pick (zR 1 6)<|zR 0 7,(zY [3,8,9] qh qm<|vG rfl ?_<|vG rfl ?_<|vG rfl ?_ zZ)⟩
   ·refine zq H underlying135 ti3 qI rfl rfl qf qf qf fun TZ anb H=>⟨H.pick (zR 2 6)<|zR 0 7,(jq H4 ⟨_,TZ,Cl,uE3,N,H.pick (1::0::zR 2 6)<|zR 0 7⟩)⟩
   ·refine xg H ti135 [yN] fun RM ag3 H=>⟨H.pick (zR 2 6)<|zR 0 7,(jq IT ⟨_,Cl,RM,uE4,N,H⟩)⟩
   refine xg H ti24 [yN] fun RF ajt H=>⟨H.pick (zR 2 6)<|zR 0 7,(jq IM ⟨_,Cl,RF,uE4,N,H⟩)⟩
  ·refine xg H ti135 [yN] fun Cx anV H=>⟨H.pick (zR 1 6)<|zR 0 7,(zY [3,7,9] qh qm<|vG rfl ?_<|vG rfl ?_<|vG rfl ?_ zZ)⟩
   ·refine zq H underlying135 ti3 qI rfl rfl qf qf qf fun Ub abT H=>⟨H.pick (zR 2 6)<|zR 0 7,(jq JF ⟨_,Ub,Cx,uE4,N,H.pick (1::0::zR 2 6)<|zR 0 7⟩)⟩
   ·refine zq H underlying24 ti2 qI rfl rfl qf qf qf fun Sl aaW H=>⟨H.pick (zR 2 6)<|zR 0 7,(jq IT ⟨_,Sl,Cx,uE4,N,H.pick (1::0::zR 2 6)<|zR 0 7⟩)⟩
   refine xg H ti24 [yN] fun RN adu H=>⟨H.pick (zR 2 6)<|zR 0 7,(jq Jf ⟨_,Cx,RN,uE5,N,H⟩)⟩
  refine xg H ti24 [yN] fun Cw an9 H=>⟨H.pick (zR 1 6)<|zR 0 7,(zY [3,7,8] qh qm<|vG rfl ?_<|vG rfl ?_<|vG rfl ?_ zZ)⟩
  ·refine zq H underlying135 ti3 qI rfl rfl qf qf qf fun TW aka H=>⟨H.pick (zR 2 6)<|zR 0 7,(jq HY ⟨_,TW,Cw,uE4,N,H.pick (1::0::zR 2 6)<|zR 0 7⟩)⟩
  ·refine zq H underlying24 ti2 qI rfl rfl qf qf qf fun H8 acm H=>⟨H.pick (zR 2 6)<|zR 0 7,(jq IM ⟨_,H8,Cw,uE4,N,H.pick (1::0::zR 2 6)<|zR 0 7⟩)⟩
  refine xg H ti135 [yN] fun Rr ahi H=>⟨H.pick (zR 2 6)<|zR 0 7,(jq Jf ⟨_,Rr,Cw,uE5,N,H.pick (1::0::zR 2 6)<|zR 0 7⟩)⟩
 clear H N
 rintro ρ SS ⟨xN,gr,gS,ld,gt,rfl,N,H⟩
 refine t_n<|zcr<|sw<|xg H ti71 [.nilFunc] fun pC R9 H=>zjc<|sp (.func (.func 111) #[] #[pp gr 0,pp bj 0,pp pC 0,pp gS 0])<|sw<|xn H 0 [.func (.func 111) #[] #[pp gr 0,pp bj 0,pp pC 0,pp gS 0]] sizeOf71 fun Ti H=>zjc<|oL rfl (H.cell 0 rfl rfl) ?_
 have H0:=H
 obtain⟨jz,zj,acV,H⟩:=H.yC (α:=yLI) 7 rfl 0 rfl qj
 replace N:Fresh w.heap.size [jz]:=Fresh.ice N H0 7 zj.1 zj.2<|H0.vX []
 clear H0
 replace H:=H.unfreeI 0 rfl
 have JS:=H.isLen 0 rfl
 have rin:=ko.rowsIn qf qf
 have vi:=VisI.start aj
 rw[show aj.length=qI by omega] at vi
 have v00:(List.replicate qI (0:Int))[(0:Int).toNat]! =0:=repAt1<|show 0<qI by omega
 have H1:St w Ti [.box gr [Sv (aa gt 0) qI qI] 135,.box bj [Sv xM xH xI,Sv zh aj.length zg] 46,.box pC [.func (.func 111) #[] #[pp gr 0,pp bj 0,pp pC 0,pp gS 0]] 71,.box gS [Sv (aa ld 0) qI qI] 24,.row (Sv (aa gt 0) qI qI) 3 1 qI ((List.replicate qI (0:Int)).map<|Value.int .i64),.row (Sv (aa ld 0) qI qI) 2 1 qI ((List.replicate qI (0:Int)).map<|Value.int .i64),.box jt [Sv xM xH xI,Sv zh qI zg] 46,.row yN 0 1 0 [],.row (Sv xM xH xI) 31 3 xH zH,.box b3 (yT t qV qU xm xk qM qL) 31,.box b1 (yS s qF qE qO qN) 27] [isF false jz (Sv zh aj.length zg) aj,isF false jz (Sv zh qI zg) aj,isF true jz (Sv zh qI zg) aj,xG true zL vT aj,xG true vM zH ag,isF false xu (Sv qF s.qA.length qE) s.qA,isF false xW (Sv qO s.qB.length qN) s.qB,isF false zk (Sv qV t.qK.length qU) t.qK,isF false zF (Sv xm t.qQ.length xk) t.qQ,isF false xJ (Sv qM t.qJ.length qL) t.qJ]:=by(rw[←JS]);exact H.pick [2,5,0,1,4,3,6,7,8,9,10] (0::zR 0 9)
 have N1:Fresh _ [jz]:=N
 have K1:Kept [] [isF false jz (Sv zh qI zg) aj,isF true jz (Sv zh qI zg) aj,xG true zL vT aj,xG true vM zH ag,sF false xu qF qE s.qA,sF false xW qO qN s.qB,sF false zk qV qU t.qK,sF false zF xm xk t.qQ,sF false xJ qM qL t.qJ]:=Kept.nil _
 replace K1:=K1.cons (F:=jz) 0 rfl rfl
 refine sw<|ve #[yI 0,pp gr 0,pp bj 0,pp pC 0,pp gS 0] rfl rfl call111 (Qu (by rfl)<|visit_ok 300 (0:Int) (List.replicate qI (0:Int)) (List.replicate qI (0:Int)) aj xM xH xI zh zg jz gr bj pC gS (aa gt 0) qI qI (aa ld 0) qI qI H1 N1 K1 (by assumption) (by exact⟨by omega,by omega⟩) ql ql (by exact fun j hj=>(rep0 hj).elim)<|by exact rep_cnt qf) ?_
 clear H H1 N1 K1
 rintro _ ak2 ⟨ab3,wI,abU,aaI,acK,rfl,N,H⟩
 refine sp (Bv<|dec<|Halts aj (0:Int).toNat)<|zjc<|oL rfl (H.cell 3 rfl rfl)<|oI rfl rfl<|oL rfl (H.Xb 5 rfl (iv:=0) (i:=0) qf qf)<|sp (Bv<|dec<|Halts aj (0:Int).toNat)<|sq 1<|sp (Bv<|dec<|Halts aj (0:Int).toNat)<|zjr<|ret2 (yI<|wI[0]!) (Bv<|dec<|Halts aj (0:Int).toNat) rfl rfl rfl ⟨_,rfl,?_⟩
 replace H:=H.erases [7,5,4,3,2,1,0]
 dsimp only[zU,List.eraseIdx] at H
 refine sp (.tuple #[yI<|wI[0]!,Bv<|dec<|Halts aj (0:Int).toNat])<|sq 1<|sp (Bv<|dec<|Halts aj (0:Int).toNat)<|sq 1<|sp (Bv<|dec<|Halts aj (0:Int).toNat)<|zjcc<|sp (Bv<|dec<|Halts aj (0:Int).toNat)<|sp (Bv (!(dec<|Halts aj (0:Int).toNat)))<|zjn<|cQ rfl (fun anu=>?_)<|fun anu=>?_
 ·refine zcr (sp (yI 0)<|sp (yI 4)<|zjr<|t_r<|ret2 (yI 0) (yI 4) rfl rfl rfl ⟨_,rfl,?_,H.base⟩)
  rw[lr_n k0 (kr.trans<|gr_end qf) ‹_›]
 refine qZ<|t_n<|zcr<|sq 2<|sp (yI 0)<|zjr<|ret2 (yI<|wI[0]!) (yI 0) rfl rfl rfl ⟨_,rfl,?_,H.base⟩
 rw[lr_y k0 (kr.trans<|gr_end qf) ((‹Halts aj _->VisEnd aj _ _ _ _ _› ‹Halts aj _›).vi.fi 0 qf (‹Halts aj _->VisEnd aj _ _ _ _ _› ‹Halts aj _›).me)]
end
section
instance:qX UInt8 where
 size:=1
 rep:=fun _ F cs x=>F=[]/\cs=[.int .u8 (x.toNat:Int)]
 len:=by rintro w F cs x ⟨_,rfl⟩;rfl
 one:=by rintro w F cs x ⟨_,rfl⟩ u hu;simp only[List.mem_singleton] at hu;subst hu;rfl
 stay:=by rintro w w' F cs x h _;exact h
 lt:=by rintro w F cs x ⟨rfl,_⟩ b hb;simp at hb
section
variable{P : Program}{kE : Array Oper}{Q : Exit -> Act -> World -> Prop}{n : Nat}{ρ : Env}{W0 w : World}{ai : List Oper}{ps : List Prv}{Γ : List Fact}
 {d:Nat} {ty:TypeId} {pos:String} {af:Array Edge} {K:Env->World->Prop}
theorem St.elemByte(H:St W0 w ps Γ)(i:Nat){fr:Bool}{F:yLN}{o m c:Nat}{l:List UInt8}(hf:Γ[i]? =some (isF fr F (Sv (some ⟨b,o,none⟩) m c) l))(iv:Int)(k:Nat)(hk:iv.toNat=k)(h0:0<=iv)(h1:iv<l.length):
 w.cell? ⟨b,o+iv.toNat*1,none⟩=some (.int .u8 (((l[k]!).toNat:Nat):Int)):=by
 obtain⟨cs,Fk,hc,hr,_⟩:=H.elem i hf iv h0 h1
 rw[hk] at hr
 obtain⟨_,rfl⟩:=hr
 have:=hc 0 _ rfl
 simpa [qX.size] using this
theorem byte_lt(x:UInt8):((x.toNat:Nat):Int)<=255:=by have:=x.toNat_lt;omega
theorem o_mulU[Dfr](a b:Int)(hx:ev n ρ x=.int .u64 a)(hy:ev n ρ y=.int .u64 b)(k:∀r,K (upd ρ d<|.int .u64 r) w):OW P Q ⟨some d,.binOp .mul t x y u,ty,pos,af,none⟩ n ρ w K:=
 XW (.int .u64<|IntKind.u64.wrap<|a*b) (by simp[execOp,hx,hy,eqGuard,binOp,Op.intArith]) (k _)
theorem o_addU[Dfr](a b:Int)(hx:ev n ρ x=.int .u64 a)(hy:ev n ρ y=.int .u64 b)(k:∀r,K (upd ρ d<|.int .u64 r) w):OW P Q ⟨some d,.binOp .add t x y u,ty,pos,af,none⟩ n ρ w K:=
 XW (.int .u64<|IntKind.u64.wrap<|a+b) (by simp[execOp,hx,hy,eqGuard,binOp,Op.intArith]) (k _)
theorem o_shrU[Dfr](a b:Int)(h:0<=b)(hx:ev n ρ x=.int .u64 a)(hy:ev n ρ y=.int .u64 b)(k:∀r,K (upd ρ d<|.int .u64 r) w):OW P Q ⟨some d,.binOp .shr t x y u,ty,pos,af,none⟩ n ρ w K:=
 XW (.int .u64<|a.fdiv<|2 ^ (min b.toNat IntKind.u64.bits)) (by simp[execOp,hx,hy,eqGuard,binOp,Op.shift,show ¬b<0 by omega]) (k _)
theorem and_bd(a:Int):0<=IntKind.u64.wrap ((BitVec.ofInt IntKind.u64.bits a &&& BitVec.ofInt IntKind.u64.bits 255).toNat:Int)/\IntKind.u64.wrap ((BitVec.ofInt IntKind.u64.bits a &&& BitVec.ofInt IntKind.u64.bits 255).toNat:Int)<=255:=by
 have b6:IntKind.u64.bits=64:=rfl
 have s6:IntKind.u64.signed=false:=rfl
 have h:(BitVec.ofInt IntKind.u64.bits a &&& BitVec.ofInt IntKind.u64.bits 255).toNat<=255:=by
  rw[BitVec.toNat_and]
  exact Nat.le_trans Nat.and_le_right qj
 generalize (BitVec.ofInt IntKind.u64.bits a &&& BitVec.ofInt IntKind.u64.bits 255).toNat=m at h ⊢
 simp only[IntKind.wrap,b6,s6,Bool.false_and,Bool.false_eq_true,if_false]
 omega
theorem o_andU[Dfr](a:Int)(hx:ev n ρ x=.int .u64 a)(hy:ev n ρ y=.int .u64 255)(k:∀r,0<=r/\r<=255->K (upd ρ d<|.int .u64 r) w):OW P Q ⟨some d,.binOp .and t x y u,ty,pos,af,none⟩ n ρ w K:=
 XW (.int .u64<|IntKind.u64.wrap ((BitVec.ofInt IntKind.u64.bits a &&& BitVec.ofInt IntKind.u64.bits 255).toNat:Int)) (by simp[execOp,hx,hy,eqGuard,binOp,Op.intBits]) (k _<|and_bd a)
theorem o_conv[Dfr]{s:TypeId}{ds:TypeDesc}{k k':IntKind}(a:Int)(hs:P.underlying s=some ds)(ht:P.underlying t=some (.int k'))(hx:ev n ρ x=.int k a)(h:K (upd ρ d<|.int k'<|k'.wrap a) w):
 OW P Q ⟨some d,.convert s t x,ty,pos,af,none⟩ n ρ w K:=
 XW _ (by simp[execOp,hx,convert,run_underlying hs,run_underlying ht,Conv.intToInt]) h
theorem o_convI[Dfr]{s:TypeId}{ds:TypeDesc}{k:IntKind}(a:Int)(hs:P.underlying s=some ds)(ht:P.underlying t=some (.int .i64))(hx:ev n ρ x=.int k a)(h0:0<=a/\a<=255)(h:K (upd ρ d<|.int .i64 a) w):
 OW P Q ⟨some d,.convert s t x,ty,pos,af,none⟩ n ρ w K:=by
 refine o_conv a hs ht hx ?_
 rw[wrap_in qf]
 exact h
theorem o_convU[Dfr]{s:TypeId}{ds:TypeDesc}{k:IntKind}(a:Int)(hs:P.underlying s=some ds)(ht:P.underlying t=some (.int .u64))(hx:ev n ρ x=.int k a)(h:∀r,K (upd ρ d<|.int .u64 r) w):
 OW P Q ⟨some d,.convert s t x,ty,pos,af,none⟩ n ρ w K:=o_conv a hs ht hx<|h _
end
section
variable{P : Program}{n : Nat}{ρ : Env}{W0 w : World}{ps : List Prv}{Γ : List Fact}
theorem retCC{fn:Func}{R:Ending->World->Prop}{t u T U c:Nat}{cs ds:List Value}{tb tc:TypeId}(H:St W0 w ps Γ)(i:Nat)(hp:ps[i]? =some (.box b cs tb))(j:Nat)(hq:ps[j]? =some (.box c ds tc))(hr:fn.results=#[.cell t T,.cell u U])
 (ha:∀w,(isAgg T).run P w=.ok true w) (hs:∀w,(Go.sizeOf T).run P w=.ok cs.length w) (ha':∀w,(isAgg U).run P w=.ok true w) (hs':∀w,(Go.sizeOf U).run P w=.ok ds.length w)
 (hv:ev n ρ (.tmp t)=.pointer (some ⟨b,0,none⟩)) (hx:ev n ρ (.tmp u)=.pointer (some ⟨c,0,none⟩)) (h:R (.returned<|.tuple #[.agg cs.toArray,.agg ds.toArray]) w):bodyPost P fn R .ret (mk n ρ) w:=by
 have hl:=run_loadCells_list (P:=P) w ⟨b,0,none⟩ cs (fun j v hv=>by rw[Addr.add_mid];exact H.cells i hp j v hv)
 have KL :=run_loadCells_list (P:=P) w ⟨c,0,none⟩ ds (fun k v hv=>by rw[Addr.add_mid];exact H.cells j hq k v hv)
 have e:=congrFun (Xc n ρ)<|.tmp t
 have e':=congrFun (Xc n ρ)<|.tmp u
 simp only[Act.eval,Array.getD_eq_getD_getElem?] at e e'
 rw[hv] at e
 rw[hx] at e'
 exact bodyPost_ret (v:=.tuple #[.agg cs.toArray,.agg ds.toArray]) (by simp[results,hr,e,e',asAddr,loadVar,ha,hs,hl,ha',hs',KL]) rfl h
end
end
section
def vZ(kk M:Int)(l:yLI):Prop:=l.length=kk.toNat/\∀j,j<l.length->0<=l[j]! /\l[j]! <=M
theorem vZ.len(h:vZ kk M l)(h0:0<=kk):(l.length:Int)=kk:=by have:=h.1;omega
theorem vZ.zero(h0:0<=kk)(hM:0<=M):vZ kk M (List.replicate kk.toNat 0):=⟨by simp,fun j hj=>by
 rw[getElem!_pos (List.replicate kk.toNat (0:Int)) j hj,List.getElem_replicate]
 omega⟩
theorem vZ.mono{M':Int}(h:vZ kk M l)(hM:M<=M'):vZ kk M' l:=⟨h.1,fun j hj=>by have:=h.2 j hj;omega⟩
theorem vZ.put(h:vZ kk M l)(h0:0<=v/\v<=M):vZ kk M (l.set i v):=⟨by rw[List.length_set];exact h.1,fun j hj=>by
 rw[List.length_set] at hj
 rw[getElem!_pos (l.set i v) j<|by rw[List.length_set];exact hj,List.getElem_set]
 split
 ·exact h0
 ·have:=h.2 j hj
  rwa [getElem!_pos l j hj] at this⟩
theorem vZ.up{M':Int}(h:vZ kk M l)(hi:i<l.length)(hM:M+1<=M'):vZ kk M' (l.set i<|l[i]! +1):=
 (h.mono (by omega:M<=M')).put (by have:=h.2 i hi;omega)
theorem vZ.ok(h:vZ kk M l)(hk:1<=kk/\kk<=8)(hM:M<=1000):jm kk l:=
 ⟨⟨fun j hj=>by have:=h.2 j hj;omega,by have:=h.len qf;omega,by have:=h.len qf;omega⟩,h.len qf⟩
theorem vZ.small(h:vZ kk M l)(hk:1<=kk/\kk<=8)(hM:M<=1000):Small l:=jk<|h.ok hk hM
theorem sumTo_up{l:yLI}(h:∀j,j<l.length->0<=l[j]!):∀k,k<=l.length->0<=sumTo l k/\∀i,i<k->l[i]! <=sumTo l k
 |0,_=>⟨Int.le_refl _,fun i hi=>by omega⟩
 |k+1,hk=>by
  obtain⟨h1,h2⟩:=sumTo_up h k qf
  have h3:=h k qf
  refine⟨by simp only[sumTo];omega,fun i hi=>?_⟩
  simp only[sumTo]
  rcases Nat.lt_or_eq_of_le (Nat.le_of_lt_succ hi) with h4|h4
  ·have:=h2 i h4;omega
  ·subst h4;omega
theorem vZ.one(h:vZ kk M l)(hk:1<=kk/\kk<=8)(hM:1<=M)(hs:Xr l=0)(hi:i<l.length):Xr (l.set i 1)≠0:=by
 have h1:=h.put (i:=i) (v:=1) qf
 have h2:=(sumTo_up (l:=l.set i 1) (fun j hj=>(h1.2 j hj).1) _<|Nat.le_refl _).2 i<|by rw[List.length_set];exact hi
 rw[getElem!_pos (l.set i 1) i<|by rw[List.length_set];exact hi,List.getElem_set_self] at h2
 show sumTo _ _≠0
 omega
def IntoDr(kk:Int)(par:yLI)(cell:Int)(l:List Vw)(c:Int):Prop:=
 ∀j,j<l.length->(0<=(l[j]!).qY/\(l[j]!).qY<c)/\Lies par cell (l[j]!).qY/\vZ kk 1 (l[j]!).Xq/\Xr (l[j]!).Xq≠0/\(0<j->(l[j-1]!).qY<(l[j]!).qY)
theorem IntoDr.nil(kk:Int)(par:yLI)(cell c:Int):IntoDr kk par cell [] c:=fun j hj=>by simp at hj
theorem IntoDr.mono{par:yLI}{cell c':Int}{l:List Vw}(h:IntoDr kk par cell l c)(hc:c<=c'):IntoDr kk par cell l c':=fun j hj=>by
 obtain⟨h1,h2⟩:=h j hj
 exact⟨by omega,h2⟩
theorem get_snoc{α:Type}[Inhabited α]{l:List α}{x:α}:(l++[x])[j]! =if j<l.length then l[j]! else if j=l.length then x else default:=by
 by_cases h:j<l.length
 ·rw[if_pos h,getElem!_pos (l++[x]) j qy,getElem!_pos l j h,List.getElem_append_left h]
 ·rw[if_neg h]
  by_cases h2:j=l.length
  ·subst h2
   rw[if_pos rfl,getElem!_pos (l++[x]) l.length qm]
   simp
  ·rw[if_neg h2,getElem!_neg (l++[x]) j qy]
theorem IntoDr.snoc{par:yLI}{cell:Int}{l:List Vw}{b:yLI}(h:IntoDr kk par cell l c)(hc:0<=c)(hl:Lies par cell c)(hb:vZ kk 1 b)(hs:Xr b≠0):IntoDr kk par cell (l++[⟨c,b⟩]) (c+1):=fun j hj=>by
 have Gs :j<l.length\/j=l.length:=by simp at hj;omega
 rcases Gs with Gs|Gs
 ·obtain⟨h1,h2,h3,h4,h5⟩:=h j Gs
  rw[get_snoc,if_pos Gs,get_snoc,if_pos qf]
  exact⟨by omega,h2,h3,h4,h5⟩
 ·subst Gs
  rw[get_snoc,if_neg qf,if_pos rfl]
  refine⟨⟨hc,by show c<c+1;omega⟩,hl,hb,hs,fun h0=>?_⟩
  rw[get_snoc,if_pos qf]
  exact(h (l.length-1) qf).1.2
structure RuleDr(kk:Int)(par:yLI)(r:yH):Prop where
 cell:0<=r.qY/\r.qY<par.length
 rank:0<=r.yK/\r.yK<=2
 melts:¬(r.jY=true/\r.qY=0)
 need:vZ kk 2 r.zJ/\Xr r.zJ≠0
 hav:vZ kk 1 r.jB
 lack:vZ kk 1 r.jD
 here:vZ kk 2 r.jJ
 out:vZ kk 2 r.Qq
 many:r.xF.length<=3
 into:IntoDr kk par r.qY r.xF par.length
theorem RuleDr.ok{s:qH}{r:yH}(h:RuleDr s.zf s.qA r)(hk:1<=s.zf/\s.zf<=8):RuleOk s r:=
 ⟨⟨h.cell.1,by have:=h.cell.2;omega⟩,by have:=h.rank;omega,h.melts,h.many,h.need.1.ok hk qf,h.hav.ok hk qf,h.lack.ok hk qf,h.here.ok hk qf,h.out.ok hk qf,h.need.2,
  fun j hj=>by
   obtain⟨h1,h2,h3,h4,h5⟩:=h.into j hj
   exact⟨⟨h1.1,by omega⟩,h2,h3.ok hk qf,h4,h5⟩⟩
theorem ruleDr_of{par:yLI}{cell rank:Int}{need hav lack here out:yLI}{into:List Vw}{melts:Bool}(h1:0<=cell/\cell<(par.length:Int))(h2:0<=rank/\rank<=2)(h3:melts=true->cell≠0)
 (h4:vZ kk 2 need/\Xr need≠0) (h5:vZ kk 1 hav) (h6:vZ kk 1 lack) (h7:vZ kk 2 here) (h8:vZ kk 1 out) (h9:into.length<=3/\IntoDr kk par cell into par.length):RuleDr kk par ⟨cell,rank,need,hav,lack,here,out,into,melts⟩:=
 ⟨h1,h2,fun h=>h3 h.1 h.2,h4,h5,h6,h7,h8.mono qf,h9.1,h9.2⟩
def yz(kk:Int)(par:yLI)(l:List yH):Prop:=∀j,j<l.length->RuleDr kk par (l[j]!)
theorem yz.nil(kk:Int)(par:yLI):yz kk par []:=fun j hj=>by simp at hj
theorem yz.snoc{par:yLI}{l:List yH}{r:yH}(h:yz kk par l)(hr:RuleDr kk par r):yz kk par (l++[r]):=fun j hj=>by
 rw[get_snoc]
 by_cases h1:j<l.length
 ·rw[if_pos h1];exact h j h1
 ·rw[if_neg h1,if_pos (by simp at hj;omega)];exact hr
theorem yz.set{kk:Int}{par:yLI}{l:List yH}{r:yH}{i:Nat}(h:yz kk par l)(hr:RuleDr kk par r):yz kk par (l.set i r):=fun j hj=>by
 rw[List.length_set] at hj
 rw[getElem!_pos (l.set i r) j<|by rw[List.length_set];exact hj,List.getElem_set]
 split
 ·exact hr
 ·have:=h j hj;rwa [getElem!_pos l j hj] at this
def ParDr(par:yLI):Prop:=1<=par.length/\par[0]! = -1/\∀c,1<=c->c<par.length->0<=par[c]! /\par[c]! <=(c:Int)-1
theorem ParDr.one:ParDr [-1]:=⟨by simp,rfl,fun c h1 h2=>by simp at h2;omega⟩
theorem ParDr.snoc{par:yLI}(h:ParDr par)(hv:0<=v/\v<par.length):ParDr (par++[v]):=by
 obtain⟨h1,h2,h3⟩:=h
 refine⟨by simp,by rw[get_snoc,if_pos qf];exact h2,fun c hc hl=>?_⟩
 rw[get_snoc]
 by_cases h4:c<par.length
 ·rw[if_pos h4];exact h3 c hc h4
 ·have h5:c=par.length:=by simp at hl;omega
  rw[if_neg h4,if_pos h5];omega
theorem frame_of{par:yLI}(h:ParDr par)(hk:1<=kk/\kk<=3)(hl:par.length<=3):yP ⟨kk,par,rules⟩:=
 ⟨⟨hk.1,by show kk<=8;omega⟩,⟨h.1,by show par.length<=6;omega⟩,h.2.1,h.2.2⟩
structure SysDr(kk:Int)(par:yLI)(rules:List yH):Prop where
 kinds:1<=kk/\kk<=3
 cells:1<=par.length/\par.length<=3
 skin:par[0]! = -1
 up:∀c,1<=c->c<par.length->0<=par[c]! /\par[c]! <=(c:Int)-1
 few:rules.length<=5
 rules:yz kk par rules
theorem sysDr_of{par:yLI}(h:ParDr par)(hk:1<=kk/\kk<=3)(hl:par.length<=3)(hr:rules.length<=5)(hd:yz kk par rules):SysDr kk par rules:=⟨hk,⟨h.1,hl⟩,h.2.1,h.2.2,hr,hd⟩
theorem SysDr.frame{par:yLI}(h:SysDr kk par rules):yP ⟨kk,par,rules⟩:=by
 have h1:=h.kinds
 have h2:=h.cells
 exact⟨⟨h1.1,by show kk<=8;omega⟩,⟨h2.1,by show par.length<=6;omega⟩,h.skin,h.up⟩
theorem SysDr.ok{kk:Int}{par:yLI}{rules:List yH}(h:SysDr kk par rules):vz ⟨kk,par,rules⟩:=by
 have h1:=h.kinds
 have h3:=h.few
 refine⟨h.frame,by show rules.length<=16;omega,fun j hj=>⟨(h.rules j hj).ok (s:=⟨kk,par,rules⟩) ⟨h1.1,by show kk<=8;omega⟩,?_⟩⟩
 have h4:=(ofCell_bd rules (rules[j]!).qY<|j+1).2
 have h5:j<rules.length:=hj
 show VJ rules (rules[j]!).qY (j+1)<=8
 omega
structure StDr(kk:Int)(n:Nat)(M:Int)(alive:List Bool)(bags:yLL)(around:yLI):Prop where
 la:alive.length=n
 lb:bags.length=n
 skin:alive[0]! =true
 around:vZ kk 2 around
 bags:∀c,c<bags.length->vZ kk M (bags[c]!)/\(alive[c]! =false->Xr (bags[c]!)<=0)
theorem StDr.ok{kk M:Int}{par:yLI}{rules:List yH}{alive:List Bool}{bags:yLL}{around:yLI}(h:StDr kk par.length M alive bags around)(hs:SysDr kk par rules)(hM:M<=1000):xK ⟨kk,par,rules⟩ ⟨alive,bags,around⟩:=by
 have h1:=hs.kinds
 exact⟨h.la,h.lb,h.skin,h.around.ok ⟨h1.1,by omega⟩ qf,fun c hc=>⟨(h.bags c hc).1.ok ⟨h1.1,by show kk<=8;omega⟩ hM,(h.bags c hc).2⟩⟩
theorem sum_zeros(n:Nat):Xr (List.replicate n (0:Int))<=0:=by
 have:∀k,k<=n->sumTo (List.replicate n (0:Int)) k=0:=fun k=>by
  induction k with
  |zero=>intro _;rfl
  |succ k ih=>
   intro hk
   rw[sumTo,ih qf,getElem!_pos (List.replicate n (0:Int)) k qy,List.getElem_replicate]
   rfl
 have h:=this (List.replicate n (0:Int)).length qm
 show sumTo _ _<=0
 omega
structure StTo(kk M:Int)(c:Nat)(alive:List Bool)(bags:yLL):Prop where
 la:alive.length=c
 lb:bags.length=c
 skin:0<c->alive[0]! =true
 bags:∀j,j<bags.length->vZ kk M (bags[j]!)/\(alive[j]! =false->Xr (bags[j]!)<=0)
theorem StTo.nil(kk M:Int):StTo kk M 0 [] []:=⟨rfl,rfl,fun h=>by omega,fun j hj=>by simp at hj⟩
theorem StTo.snoc{c:Nat}{alive:List Bool}{bags:yLL}{a:Bool}{b:yLI}(h:StTo kk M c alive bags)(ha:c=0->a=true)(hb:vZ kk M b)(hz:a=false->Xr b<=0):StTo kk M (c+1) (alive++[a]) (bags++[b]):=by
 have la:=h.la
 have lb:=h.lb
 refine⟨by simp[la],by simp[lb],fun _=>?_,fun j hj=>?_⟩
 ·rw[get_snoc]
  by_cases h0:0<c
  ·rw[if_pos qf];exact h.skin h0
  ·rw[if_neg qf,if_pos qf];exact ha qf
 ·rw[get_snoc,get_snoc]
  by_cases h1:j<c
  ·rw[if_pos qf,if_pos qf];exact h.bags j qf
  ·rw[if_neg qf,if_pos (by simp at hj;omega),if_neg qf,if_pos (by simp at hj;omega)];exact⟨hb,hz⟩
end
section
theorem dNext_ok(code:List UInt8)(ip:Int)(sd:Int)(bs:Nat)(ac:yOA)(cc:Nat)(Fc:yLN)(H:St W0 w ((.box bs [Sv ac code.length cc,yI ip,.int .u64 sd] 115)::ps) ((sF false Fc ac cc code)::Γ))(N:Fresh W0.heap.size (Ns))(K0:Kept Ns Γ)(q0:0<=ip/\ip<=100000):Calls Tryz.prog 89 #[pp bs 0] w (fun e w'=>∃v,e=.returned v/\∃(kV:Int) (Aa:Int) (v_:Int),(ip<=kV/\kV<=ip+1)/\(0<=v_/\v_<=255)/\v=yI v_/\Fresh W0.heap.size (Ns)/\St W0 w' ((.box bs [Sv ac code.length cc,yI kV,.int .u64 Aa] 115)::ps) ((sF false Fc ac cc code)::Γ)):=by
 refine en func89 ntmps89 ?_
 have ato:=qR (H.get 0 rfl).1
 refine zcr<|sp (yI 0)<|zjc<|sp (yI 0)<|zjn<|xU<|xU<|XT rfl H [0] [0] fun H=>?_
 have S:=H.jF [0] [0]
 refine rtl 0 S ?_
 refine rtl 1 S ?_
 refine tF 2 rfl rfl S ?_
 refine tL 3 rfl rfl (fun _ h=>h.cell 0 rfl rfl) S ?_
 refine rtl 4 S ?_
 refine rtl 5 S ?_
 refine tF 6 rfl rfl S ?_
 refine tL 7 rfl rfl (fun _ h=>h.cell 0 rfl rfl) S ?_
 refine tN 8 rfl rfl S ?_
 refine rtl 9 S ?_
 refine xC qh<|t_n<|cD rfl (fun h2=>?_)<|fun h2=>?_
 ·refine XT rfl H [0] [0] fun H=>?_
  have S:=H.jF [0] [0]
  refine rtl 0 S ?_
  refine rtl 1 S ?_
  refine tF 2 rfl rfl S ?_
  refine tL 3 rfl rfl (fun _ h=>h.cell 0 rfl rfl) S ?_
  refine rtl 4 S ?_
  refine rtl 5 S ?_
  refine tF 6 rfl rfl S ?_
  refine tL 7 rfl rfl (fun _ h=>h.cell 0 rfl rfl) S ?_
  obtain⟨b4,o5,rfl⟩:=H.addr 0 rfl qf
  refine tI 8 rfl rfl rfl (H.pick [0] [0])<|ro 9 rfl ?_
  have hb7:=byte_lt<|code[ip.toNat]!
  refine zB (.int .u8 (((code[ip.toNat]!).toNat:Nat):Int)) isAgg5 rfl (H.elemByte 0 rfl ip ip.toNat qf qf qf)<|⟨H.pick [0] [0],(ro 10 rfl<|o_convI (((code[ip.toNat]!).toNat:Nat):Int) underlying5 underlying3 rfl qf<|⟨H.pick [0] [0],(rtl 11 (H.pick [0] [0]) ?_)⟩)⟩
  refine xC qh<|t_n<|zcr<|sq 2<|oF rfl<|oL rfl (H.cell 0 rfl rfl)<|sw<|zC ip 1 rfl rfl qf<|sq 1<|oF rfl<|sw<|xn H 0 [Sv (aa b4 o5) code.length cc,yI<|ip+1,.int .u64 sd] sizeOf3 fun w8 H=>?_
  dsimp only[List.set] at H
  refine zjc<|sq 3<|oF rfl<|oL rfl (H.cell 0 rfl rfl)<|sw<|o_mulU sd 6364136223846793005 rfl rfl fun r9=>sq 1<|sw<|o_convU (((code[ip.toNat]!).toNat:Nat):Int) underlying3 underlying113 rfl fun r10=>sw<|o_addU r9 r10 rfl rfl fun r11=>sw<|o_addU r11 1442695040888963407 rfl rfl fun r12=>sq 1<|oF rfl<|sw<|xn H 0 [Sv (aa b4 o5) code.length cc,yI<|ip+1,.int .u64 r12] sizeOf113 fun xp H=>?_
  dsimp only[List.set] at H
  refine zjn<|xU<|xU<|XT rfl H [0] [0] fun H=>?_
  have S:=H.jF [0] [0]
  refine rtl 0 S ?_
  refine rtl 1 S ?_
  refine tF 2 rfl rfl S ?_
  refine tL 3 rfl rfl (fun _ h=>h.cell 0 rfl rfl) S ?_
  refine rtl 4 S ?_
  refine rtl 5 S ?_
  refine tF 6 rfl rfl S ?_
  refine tL 7 rfl rfl (fun _ h=>h.cell 0 rfl rfl) S ?_
  refine tN 8 rfl rfl S ?_
  refine rtl 9 S ?_
  refine xC qh<|t_n<|cD rfl (fun mc=>?_)<|fun mc=>?_
  ·refine zcr<|sq 2<|zjr<|t_r<|ret1 (yI (((code[ip.toNat]!).toNat:Nat):Int)) rfl rfl ⟨_,rfl,(⟨ip+1,r12,(((code[ip.toNat]!).toNat:Nat):Int),qf,qf,rfl,N,H.vU 1 1 [0] [0] qo qo⟩)⟩
  refine qZ<|t_n<|zcr<|sq 2<|oF rfl<|oL rfl (H.cell 0 rfl rfl)<|sw<|o_shrU r12 40 qj rfl rfl fun r16=>sw<|o_andU r16 rfl rfl fun r17 au8=>sw<|o_convI r17 underlying113 underlying2 rfl qf<|sq 1<|zjr<|ret1 (yI r17) rfl rfl ⟨_,rfl,(⟨ip+1,r12,r17,qf,qf,rfl,N,H.vU 1 1 [0] [0] qo qo⟩)⟩
 refine qZ<|t_n<|zcr<|sq 2<|oF rfl<|oL rfl (H.cell 0 rfl rfl)<|sw<|zC ip 1 rfl rfl qf<|sq 1<|oF rfl<|sw<|xn H 0 [Sv ac code.length cc,yI<|ip+1,.int .u64 sd] sizeOf3 fun EY H=>?_
 dsimp only[List.set] at H
 refine zjc<|sq 3<|oF rfl<|oL rfl (H.cell 0 rfl rfl)<|sw<|o_mulU sd 6364136223846793005 rfl rfl fun r19=>sp (yI 0)<|sw<|o_convU 0 underlying3 underlying113 rfl fun r20=>sw<|o_addU r19 r20 rfl rfl fun r21=>sw<|o_addU r21 1442695040888963407 rfl rfl fun U0=>sq 1<|oF rfl<|sw<|xn H 0 [Sv ac code.length cc,yI<|ip+1,.int .u64 U0] sizeOf113 fun Cz H=>?_
 dsimp only[List.set] at H
 refine zjn<|xU<|xU<|XT rfl H [0] [0] fun H=>?_
 have S:=H.jF [0] [0]
 refine rtl 0 S ?_
 refine rtl 1 S ?_
 refine tF 2 rfl rfl S ?_
 refine tL 3 rfl rfl (fun _ h=>h.cell 0 rfl rfl) S ?_
 refine rtl 4 S ?_
 refine rtl 5 S ?_
 refine tF 6 rfl rfl S ?_
 refine tL 7 rfl rfl (fun _ h=>h.cell 0 rfl rfl) S ?_
 refine tN 8 rfl rfl S ?_
 refine rtl 9 S ?_
 refine xC qh<|t_n<|cD rfl (fun x6=>?_)<|fun x6=>?_
 ·refine zcr<|sp (yI 0)<|sp (yI 0)<|zjr<|t_r<|ret1 (yI 0) rfl rfl ⟨_,rfl,(⟨ip+1,U0,0,qf,qf,rfl,N,H.vU 1 1 [0] [0] qo qo⟩)⟩
 refine qZ<|t_n<|zcr<|sq 2<|oF rfl<|oL rfl (H.cell 0 rfl rfl)<|sw<|o_shrU U0 40 qj rfl rfl fun r26=>sw<|o_andU r26 rfl rfl fun r27 azM=>sw<|o_convI r27 underlying113 underlying2 rfl qf<|sq 1<|zjr<|ret1 (yI r27) rfl rfl ⟨_,rfl,(⟨ip+1,U0,r27,qf,qf,rfl,N,H.vU 1 1 [0] [0] qo qo⟩)⟩
theorem Qp(code:List UInt8)(ip:Int)(sd:Int)(bs:Nat)(ac:yOA)(cc:Nat)(Fc:yLN)(nn:Int)(H:St W0 w ((.box bs [Sv ac code.length cc,yI ip,.int .u64 sd] 115)::ps) ((sF false Fc ac cc code)::Γ))(N:Fresh W0.heap.size (Ns))(K0:Kept Ns Γ)(q0:0<=ip/\ip<=90000):Calls Tryz.prog 43 #[pp bs 0,yI nn] w (fun e w'=>∃v,e=.returned v/\∃(kV:Int) (Aa:Int) (v_:Int),(ip<=kV/\kV<=ip+2)/\(0<=v_/\(v_<nn\/v_=0))/\v=yI v_/\Fresh W0.heap.size (Ns)/\St W0 w' ((.box bs [Sv ac code.length cc,yI kV,.int .u64 Aa] 115)::ps) ((sF false Fc ac cc code)::Γ)):=by
 refine en func43 ntmps43 ?_
 refine zcr<|sp (yI 0)<|zjcc<|sp (yI nn)<|sp (Bv<|decide ((nn:Int)<=1))<|zjn<|cD rfl (fun h1=>?_)<|fun h1=>?_
 ·refine zcr<|sp (yI 0)<|zjr<|t_r<|ret1 (yI 0) rfl rfl ⟨_,rfl,(⟨ip,sd,0,qf,(by omega),rfl,N,H.vU 1 1 [0] [0] qo qo⟩)⟩
 refine qZ<|t_n<|zcr<|sq 1 ?_
 have H1:=H.y9 1 1 [0] [0] qo qo
 have N1:Fresh _ (Ns):=N
 have K1:Kept (Ns) (Γ):=K0.behind 0 rfl
 refine sw<|ve #[pp bs 0] rfl rfl call89 (dNext_ok code ip sd bs ac cc Fc H1 N1 K1 qg) ?_
 clear H H1 N1 K1
 rintro _ w2 ⟨RC,BW,GN,hx4,hx5,rfl,N,H⟩
 refine sq 1<|zjcc<|sp (yI nn)<|sp (Bv<|decide ((nn:Int)>200))<|zjn<|cD rfl (fun h9=>?_)<|fun h9=>?_
 ·refine xX (sq 1<|sw<|o_mul GN 256 rfl rfl qf<|sq 1 ?_)
  have H1:=H.y9 1 1 [0] [0] qo qo
  have N1:Fresh _ (Ns):=N
  have K1:Kept (Ns) (Γ):=K0.behind 0 rfl
  refine sw<|ve #[pp bs 0] rfl rfl call89 (dNext_ok code RC BW bs ac cc Fc H1 N1 K1 qg) ?_
  clear H H1 N1 K1
  rintro _ ov ⟨Mc,sR,iw,aA4,aAm,rfl,N,H⟩
  refine sw<|zC (GN*256) iw rfl rfl qf<|sq 1<|zjc<|sq 1<|sp (yI nn)<|sw<|o_rem ((GN*256)+iw) nn rfl rfl qf qf qf<|sq 1<|zjr<|ret1 (yI (((GN*256)+iw) % nn)) rfl rfl ⟨_,rfl,?_⟩
  have hm:=fun(x:Int)=>Int.emod_nonneg x<|show nn≠0 by omega
  have hm2:=fun(x:Int)=>Int.emod_lt_of_pos x<|show 0<nn by omega
  exact⟨Mc,sR,((GN*256)+iw) % nn,qf,(by exact⟨hm _,.inl<|hm2 _⟩),rfl,N,H.vU 1 1 [0] [0] qo qo⟩
 refine qZ<|t_n<|zcr<|sq 1<|sp (yI nn)<|sw<|o_rem GN nn rfl rfl qf qf qf<|sq 1<|zjr<|ret1 (yI<|GN % nn) rfl rfl ⟨_,rfl,?_⟩
 have hm:=fun(x:Int)=>Int.emod_nonneg x<|show nn≠0 by omega
 have hm2:=fun(x:Int)=>Int.emod_lt_of_pos x<|show 0<nn by omega
 exact⟨RC,BW,GN % nn,qf,(by exact⟨hm _,.inl<|hm2 _⟩),rfl,N,H.vU 1 1 [0] [0] qo qo⟩
theorem dOne_ok(code:List UInt8)(ip:Int)(sd:Int)(bs:Nat)(ac:yOA)(cc:Nat)(Fc:yLN)(nn:Int)(H:St W0 w ((.box bs [Sv ac code.length cc,yI ip,.int .u64 sd] 115)::ps) ((sF false Fc ac cc code)::Γ))(N:Fresh W0.heap.size (Ns))(K0:Kept Ns Γ)(q0:0<=ip/\ip<=90000):Calls Tryz.prog 41 #[pp bs 0,yI nn] w (fun e w'=>∃v,e=.returned v/\∃(kV:Int) (Aa:Int) (v_:Bool),(ip<=kV/\kV<=ip+2)/\v=Bv v_/\Fresh W0.heap.size (Ns)/\St W0 w' ((.box bs [Sv ac code.length cc,yI kV,.int .u64 Aa] 115)::ps) ((sF false Fc ac cc code)::Γ)):=by
 refine en func41 ntmps41 ?_
 refine zcr<|sp (Bv false)<|zjc<|sq 1<|sp (yI nn) ?_
 have H1:=H.y9 1 1 [0] [0] qo qo
 have N1:Fresh _ (Ns):=N
 have K1:Kept (Ns) (Γ):=K0.behind 0 rfl
 refine sw<|ve #[pp bs 0,yI nn] rfl rfl call43 (Qp code ip sd bs ac cc Fc nn H1 N1 K1 qg) ?_
 clear H H1 N1 K1
 rintro _ w1 ⟨KG,RC,BW,hx3,hx4,rfl,N,H⟩
 refine sp (Bv ((BW:Int) == 0))<|sp (Bv ((BW:Int) == 0))<|zjr<|ret1 (Bv ((BW:Int) == 0)) rfl rfl ⟨_,rfl,(⟨KG,RC,(BW:Int) == 0,qf,rfl,N,H.vU 1 1 [0] [0] qo qo⟩)⟩
theorem dFew_ok(code:List UInt8)(ip:Int)(sd:Int)(bs:Nat)(ac:yOA)(cc:Nat)(Fc:yLN)(kk:Int)(most:Int)(H:St W0 w ((.box bs [Sv ac code.length cc,yI ip,.int .u64 sd] 115)::ps) ((sF false Fc ac cc code)::Γ))(N:Fresh W0.heap.size (Ns))(K0:Kept Ns Γ)(q0:0<=ip/\ip<=80000)(q1:1<=kk/\kk<=8)(q2:1<=most/\most<=6):Calls Tryz.prog 141 #[pp bs 0,yI kk,yI most] w (fun e w'=>∃v,e=.returned v/\∃(kV:Int) (Aa:Int) (xv:yLI) (rao:yOA) (rno:Nat) (rco:Nat),(ip<=kV/\kV<=ip+20)/\(vZ kk most xv)/\v=Sv rao rno rco/\Fresh W0.heap.size (Ns)/\St W0 w' ((.box bs [Sv ac code.length cc,yI kV,.int .u64 Aa] 115)::(rr rao rno rco 2 1<|xv.map<|Value.int .i64)::ps) ((sF false Fc ac cc code)::Γ)):=by
 refine en func141 ntmps141 ?_
 refine zcr<|sq 1<|zjc<|sp (yI kk)<|sw<|zq H underlying24 ti2 kk.toNat rfl rfl qf qf qf fun b1 w2 H=>sq 1<|zjcc<|sq 2<|sw<|zC most 1 rfl rfl qf ?_
 have H1:=H.y9 2 1 [1,0] [0] qo qo
 have N1:Fresh _ (Ns):=N
 have K1:Kept (Ns) (Γ):=K0.behind 0 rfl
 refine sw<|ve #[pp bs 0,yI<|most+1] rfl rfl call43 (Qp code ip sd bs ac cc Fc (most+1) H1 N1 K1 qg) ?_
 clear H H1 N1 K1
 rintro _ w3 ⟨BW,GN,m5,hx5,hx6,rfl,N,H⟩
 refine sq 1<|zjn<|xf<|zD ((fun Z0=>fun m' ρ ov=>∃(xN:Env) (k:Int) (bT:Int) (bh:Int) (out:yLI),ρ=upd (upd (upd (upd xN 0<|pp bs 0) 1<|yI kk) 7<|Sv (aa b1 0) kk.toNat kk.toNat) 8 (yI k)/\(0<=k/\k<=most)/\(ip<=bT/\bT+2*k<=ip+20)/\(vZ kk (most-k) out)/\m'=k.toNat/\Fresh W0.heap.size (Ns)/\St W0 ov ((.box bs [Sv ac code.length cc,yI bT,.int .u64 bh] 115)::(rr (aa b1 0) kk.toNat kk.toNat 2 1<|out.map<|Value.int .i64)::ps) (Z0::Γ)) _) (m5.toNat) ⟨_,m5,BW,GN,(List.replicate kk.toNat (0:Int)),uE4,qf,qf,(by exact vZ.zero qf qf),rfl,N,H⟩ ?_
 clear H N
 rintro m' ρ rL ⟨xN,k,bT,bh,out,rfl,i1,i2,i3,rfl,N,H⟩
 have bQ:=H.jy 1 rfl
 have i4:=i3.len qf
 refine zcc<|sp (yI k)<|sp (Bv<|decide ((k:Int)>0))<|zjn<|cD rfl (fun cZ=>?_)<|fun cZ=>?_
 ·refine qZ (t_n<|xU<|xf<|xX<|sq 2<|sp (yI kk) ?_)
  have H1:=H.y9 2 1 [0,1] [0] qo qo
  have N1:Fresh _ (Ns):=N
  have K1:Kept (Ns) (Γ):=K0.behind 0 rfl
  refine sw<|ve #[pp bs 0,yI kk] rfl rfl call43 (Qp code bT bh bs ac cc Fc kk H1 N1 K1 qg) ?_
  clear H H1 N1 K1
  rintro _ xp ⟨CJ,azn,Bd,azY,avb,rfl,N,H⟩
  have i5:=i3.2 Bd.toNat qf
  refine oI rfl rfl<|oL rfl (H.Xb 1 rfl (iv:=Bd) (i:=Bd.toNat) qf qf)<|sw<|zC (out[Bd.toNat]!) 1 rfl rfl qf<|oI rfl rfl<|sw<|Qe H 1 rfl ((out[Bd.toNat]!)+1) sizeOf2 rfl rfl (i:=Bd.toNat) qf qf fun tr H=>?_
  dsimp only[List.set] at H
  refine xZ<|b_n<|t_n<|xX<|sp (yI k)<|sw<|o_sub k 1 rfl rfl qf<|sq 1<|xZ<|xh (m':=(k-1).toNat) qf ⟨_,_,_,_,_,uE4,?_,?_,?_,rfl,N,H⟩
  ·omega
  ·omega
  ·exact i3.up qf qf
 refine zx4<|zcr<|sq 2<|zjr<|ret1 (Sv (aa b1 0) kk.toNat kk.toNat) rfl rfl ⟨_,rfl,(⟨bT,bh,out,(aa b1 0),kk.toNat,kk.toNat,qf,(by rw[show most=most-k by omega];exact i3),rfl,N,H.vU 2 1 [0,1] [0] qo qo⟩)⟩
theorem Xk(code:List UInt8)(ip:Int)(sd:Int)(bs:Nat)(ac:yOA)(cc:Nat)(Fc:yLN)(kk:Int)(most:Int)(H:St W0 w ((.box bs [Sv ac code.length cc,yI ip,.int .u64 sd] 115)::ps) ((sF false Fc ac cc code)::Γ))(N:Fresh W0.heap.size (Ns))(K0:Kept Ns Γ)(q0:0<=ip/\ip<=70000)(q1:1<=kk/\kk<=8)(q2:1<=most/\most<=6):Calls Tryz.prog 183 #[pp bs 0,yI kk,yI most] w (fun e w'=>∃v,e=.returned v/\∃(kV:Int) (Aa:Int) (xv:yLI) (rao:yOA) (rno:Nat) (rco:Nat),(ip<=kV/\kV<=ip+24)/\(vZ kk most xv/\Xr xv≠0)/\v=Sv rao rno rco/\Fresh W0.heap.size (Ns)/\St W0 w' ((.box bs [Sv ac code.length cc,yI kV,.int .u64 Aa] 115)::(rr rao rno rco 2 1<|xv.map<|Value.int .i64)::ps) ((sF false Fc ac cc code)::Γ)):=by
 refine en func183 ntmps183 ?_
 refine zcr<|sq 1<|zjc<|sq 1<|sp (yI kk)<|sq 1 ?_
 have H1:=H.y9 1 1 [0] [0] qo qo
 have N1:Fresh _ (Ns):=N
 have K1:Kept (Ns) (Γ):=K0.behind 0 rfl
 refine sw<|ve #[pp bs 0,yI kk,yI most] rfl rfl call141 (dFew_ok code ip sd bs ac cc Fc kk most H1 N1 K1 qg qg qg) ?_
 clear H H1 N1 K1
 rintro _ w1 ⟨KG,RC,LI,mj,rn9,Md,hx3,hx4,rfl,N,H⟩
 obtain rfl:=H.jy 1 rfl
 have j1:=(‹vZ kk most _›:vZ kk most LI)
 have j2:=j1.small q1 qf
 have j3:=j1.len qf
 refine sq 1<|zjcc<|sq 1 ?_
 obtain⟨WU,auN,dS⟩:=H.XB 1 rfl
 refine sw<|oq (Vz _ LI dS<|by assumption) H fun O5 H=>sp (Bv ((Xr LI:Int) == 0))<|zjn<|cE rfl (fun FC=>?_)<|fun FC=>?_
 ·refine xX (sq 2<|sp (yI kk) ?_)
  have H1:=H.y9 2 1 [0,1] [0] qo qo
  have N1:Fresh _ (Ns):=N
  have K1:Kept (Ns) (Γ):=K0.behind 0 rfl
  refine sw<|ve #[pp bs 0,yI kk] rfl rfl call43 (Qp code KG RC bs ac cc Fc kk H1 N1 K1 qg) ?_
  clear H H1 N1 K1
  rintro _ GW ⟨MD,ale,B5,aw1,av2,rfl,N,H⟩
  obtain⟨C0,rfl⟩:=H.jR 1 rfl qf
  refine oI rfl rfl<|sw<|Qe H 1 rfl 1 sizeOf2 rfl rfl (i:=B5.toNat) qf qf fun Ce H=>?_
  dsimp only[List.set] at H
  refine zjc<|sq 2<|zjr<|ret1 (Sv (aa C0 0) LI.length Md) rfl rfl ⟨_,rfl,(⟨MD,ale,(LI.set B5.toNat 1),(aa C0 0),LI.length,Md,qf,(by exact⟨j1.put qf,j1.one q1 qf ‹_› qf⟩),rfl,N,H.vU 2 1 [0,1] [0] qo qo⟩)⟩
 refine qZ<|t_n<|zcr<|sq 2<|zjr<|ret1 (Sv mj LI.length Md) rfl rfl ⟨_,rfl,(⟨KG,RC,LI,mj,LI.length,Md,qf,(by exact⟨j1,by assumption⟩),rfl,N,H.vU 2 1 [0,1] [0] qo qo⟩)⟩
theorem dRule_ok(code:List UInt8)(ip:Int)(sd:Int)(bs:Nat)(ac:yOA)(cc:Nat)(Fc:yLN)(kk:Int)(par:yLI)(rules:List yH)(bY:Nat)(gu:yOA)(ME:Nat)(gk:Nat)(gq:yOA)(Mx:Nat)(gw:Nat)(bH:List Value)(aG:yLN)(H:St W0 w ((.box bs [Sv ac code.length cc,yI ip,.int .u64 sd] 115)::(.box bY [yI kk,Sv gu ME gk,Sv gq Mx gw] 27)::(rr gu ME gk 2 1<|par.map<|Value.int .i64)::(rr gq Mx gw 70 9 bH)::ps) ((sF false Fc ac cc code)::(xG true aG bH rules)::Γ))(N:Fresh W0.heap.size (aG::Ns))(K0:Kept Ns Γ)(q0:0<=ip/\ip<=60000)(f0:yP (⟨kk,par,rules⟩:qH)):Calls Tryz.prog 140 #[pp bs 0,pp bY 0] w (fun e w'=>∃v,e=.returned v/\∃(kV:Int) (Aa:Int) (Pg:Int) (OI:Int) (Po:yLI) (Pf:yLI) (Pe:yLI) (Pq:yLI) (xv:yLI) (NM:List Vw) (IK:Bool) (raN:yOA) (rnN:Nat) (rcN:Nat) (raH:yOA) (rnH:Nat) (rcH:Nat) (raL:yOA) (rnL:Nat) (rcL:Nat) (raE:yOA) (rnE:Nat) (rcE:Nat) (raO:yOA) (rnO:Nat) (rcO:Nat) (raI:yOA) (rnI:Nat) (rcI:Nat) (rxI:List Value) (rFI:yLN),(ip<=kV/\kV<=ip+300)/\(RuleDr kk par ⟨Pg,OI,Po,Pf,Pe,Pq,xv,NM,IK⟩)/\v=.agg #[yI Pg,yI OI,Sv raN rnN rcN,Sv raH rnH rcH,Sv raL rnL rcL,Sv raE rnE rcE,Sv raO rnO rcO,Sv raI rnI rcI,Bv IK]/\Fresh W0.heap.size (aG::rFI::Ns)/\St W0 w' ((.box bs [Sv ac code.length cc,yI kV,.int .u64 Aa] 115)::(.box bY [yI kk,Sv gu ME gk,Sv gq Mx gw] 27)::(rr gu ME gk 2 1<|par.map<|Value.int .i64)::(rr gq Mx gw 70 9 bH)::(rr raN rnN rcN 2 1<|Po.map<|Value.int .i64)::(rr raH rnH rcH 2 1<|Pf.map<|Value.int .i64)::(rr raL rnL rcL 2 1<|Pe.map<|Value.int .i64)::(rr raE rnE rcE 2 1<|Pq.map<|Value.int .i64)::(rr raO rnO rcO 2 1<|xv.map<|Value.int .i64)::(rr raI rnI rcI 128 2 rxI)::ps) ((sF false Fc ac cc code)::(xG true aG bH rules)::(xG true rFI rxI NM)::Γ)):=by
 refine en func140 ntmps140 ?_
 obtain rfl:=H.jy 2 rfl
 obtain rfl:=H.xQ (α:=yH) 3 rfl 1 rfl qj
 have f1:1<=kk/\kk<=8:=f0.1
 have f2:1<=par.length/\par.length<=6:=f0.2.1
 refine zcr<|sw<|xg H ti70 [yI 0,yI 0,yN,yN,yN,yN,yN,yN,Bv false] fun b1 w2 H=>zjc<|sq 2<|oF rfl<|oL rfl (H.cell 2 rfl rfl)<|oN rfl<|sq 1<|zjn<|xU<|VD (fun ρ xp=>∃(xN:Env) (Yo:Int) (lS:Int) (KG:Int) (kv:yLI) (b7:Nat) (mj:yOA) (mW:Nat) (g9:Nat) (oO:Nat) (MC:Int),ρ=upd (upd (upd (upd (upd xN 0<|pp bs 0) 1<|pp bY 0) 4<|pp b1 0) 5<|yI par.length) 6 (pp b7 0)/\(ip<=Yo/\Yo<=ip+2)/\(0<=lS/\(lS<par.length\/lS=0))/\(Yo<=KG/\KG<=Yo+24)/\(vZ kk (2:Int) kv/\Xr kv≠0)/\Fresh W0.heap.size (aG::Ns)/\St W0 xp ((.box b7 [yI lS,yI 0,Sv mj kv.length mW,Sv (aa g9 0) kk.toNat kk.toNat,Sv (aa oO 0) kk.toNat kk.toNat,yN,yN,yN,Bv false] 70)::(rr (aa oO 0) kk.toNat kk.toNat 2 1 ((List.replicate kk.toNat (0:Int)).map<|Value.int .i64))::(rr (aa g9 0) kk.toNat kk.toNat 2 1 ((List.replicate kk.toNat (0:Int)).map<|Value.int .i64))::(.box bs [Sv ac code.length cc,yI KG,.int .u64 MC] 115)::(rr mj kv.length mW 2 1<|kv.map<|Value.int .i64)::(.box b1 [yI 0,yI 0,yN,yN,yN,yN,yN,yN,Bv false] 70)::(.box bY [yI kk,Sv gu par.length gk,Sv gq rules.length gw] 27)::(rr gu par.length gk 2 1<|par.map<|Value.int .i64)::(rr gq rules.length gw 70 9 bH)::ps) ((sF false Fc ac cc code)::(xG true aG bH rules)::Γ)) ?_ ?_
 ·refine XT rfl H [0,2,3,4] [0,1] fun H=>?_
  refine yL (fun ρ Ce=>∃(xN:Env) (sR:Int) (iw:Int) (CJ:Int) (nK:yLI) (te:yOA) (mF:Nat) (pg:Nat) (fj:Nat) (B5:Int),ρ=upd (upd (upd (upd (upd (upd (upd (upd xN 0<|pp bs 0) 1<|pp bY 0) 4<|pp b1 0) 5<|yI par.length) 15<|yI iw) 21<|Sv te nK.length mF) 26<|Sv (aa pg 0) kk.toNat kk.toNat) 31 (Sv (aa fj 0) kk.toNat kk.toNat)/\(ip<=sR/\sR<=ip+2)/\(0<=iw/\(iw<par.length\/iw=0))/\(sR<=CJ/\CJ<=sR+24)/\(vZ kk (2:Int) nK/\Xr nK≠0)/\Fresh W0.heap.size (aG::Ns)/\St W0 Ce ((rr (aa fj 0) kk.toNat kk.toNat 2 1 ((List.replicate kk.toNat (0:Int)).map<|Value.int .i64))::(rr (aa pg 0) kk.toNat kk.toNat 2 1 ((List.replicate kk.toNat (0:Int)).map<|Value.int .i64))::(.box bs [Sv ac code.length cc,yI CJ,.int .u64 B5] 115)::(rr te nK.length mF 2 1<|nK.map<|Value.int .i64)::(.box b1 [yI 0,yI 0,yN,yN,yN,yN,yN,yN,Bv false] 70)::(.box bY [yI kk,Sv gu par.length gk,Sv gq rules.length gw] 27)::(rr gu par.length gk 2 1<|par.map<|Value.int .i64)::(rr gq rules.length gw 70 9 bH)::ps) ((sF false Fc ac cc code)::(xG true aG bH rules)::Γ)) 3 #[true,true,true,true,true,true,true,true,true,true,true,true,true,true,true,true,true,true,true,false,false,false] ?_ fun L24=>?_
  ·rintro ρ BP ⟨xN,sR,iw,CJ,nK,te,mF,pg,fj,B5,rfl,ZS,adO,adG,Im,N,H⟩
   refine zY [19,20] qh qm<|vG rfl ?_<|vG rfl ?_ zZ
   ·refine vg [yI iw,yI 0,Sv te nK.length mF,Sv (aa pg 0) kk.toNat kk.toNat,Sv (aa fj 0) kk.toNat kk.toNat,yN,yN,yN,Bv false] [(0,yI iw),(2,Sv te nK.length mF),(3,Sv (aa pg 0) kk.toNat kk.toNat),(4,Sv (aa fj 0) kk.toNat kk.toNat)] (⟨H.pick (zR 4 4) [0,1],(ro 20 rfl<|xg H ti70 [yI 0,yI 0,yN,yN,yN,yN,yN,yN,Bv false] fun BD G6 H=>⟨H.pick (zR 5 4) [0,1],(ro 21 rfl ?_)⟩)⟩)
    refine xx H 0 [yI iw,yI 0,Sv te nK.length mF,Sv (aa pg 0) kk.toNat kk.toNat,Sv (aa fj 0) kk.toNat kk.toNat,yN,yN,yN,Bv false] sizeOf70 fun Ml H=>?_
    dsimp only[List.set] at H
    refine⟨H.pick (zR 5 4) [0,1],(xC qh ((meet ⟨_,sR,iw,CJ,nK,BD,te,mF,pg,fj,B5,uE5,ZS,adO,adG,Im,N,H⟩)))⟩
   refine xg H ti70 [yI 0,yI 0,yN,yN,yN,yN,yN,yN,Bv false] fun mV Ao H=>⟨H.pick (zR 5 4) [0,1],(ro 19 rfl<|vg [yI iw,yI 0,Sv te nK.length mF,Sv (aa pg 0) kk.toNat kk.toNat,Sv (aa fj 0) kk.toNat kk.toNat,yN,yN,yN,Bv false] [(0,yI iw),(2,Sv te nK.length mF),(3,Sv (aa pg 0) kk.toNat kk.toNat),(4,Sv (aa fj 0) kk.toNat kk.toNat)]<|⟨H.pick (zR 5 4) [0,1],(ro 21 rfl ?_)⟩)⟩
   refine xx H 0 [yI iw,yI 0,Sv te nK.length mF,Sv (aa pg 0) kk.toNat kk.toNat,Sv (aa fj 0) kk.toNat kk.toNat,yN,yN,yN,Bv false] sizeOf70 fun Gy H=>?_
   dsimp only[List.set] at H
   refine⟨H.pick (zR 5 4) [0,1],(xC qh ((meet ⟨_,sR,iw,CJ,nK,mV,te,mF,pg,fj,B5,uE5,ZS,adO,adG,Im,N,H⟩)))⟩
  refine yL (fun ρ Dz=>∃(xN:Env) (wM:Int) (pF:Int) (E0:Int) (sr:yLI) (A2:yOA) (Ah:Nat) (GX:Nat) (Mv:Int),ρ=upd (upd (upd (upd (upd (upd (upd (upd xN 0<|pp bs 0) 1<|pp bY 0) 4<|pp b1 0) 5<|yI par.length) 15<|yI pF) 21<|Sv A2 sr.length Ah) 26<|Sv (aa GX 0) kk.toNat kk.toNat) 30 (yI kk)/\(ip<=wM/\wM<=ip+2)/\(0<=pF/\(pF<par.length\/pF=0))/\(wM<=E0/\E0<=wM+24)/\(vZ kk (2:Int) sr/\Xr sr≠0)/\Fresh W0.heap.size (aG::Ns)/\St W0 Dz ((rr (aa GX 0) kk.toNat kk.toNat 2 1 ((List.replicate kk.toNat (0:Int)).map<|Value.int .i64))::(.box bs [Sv ac code.length cc,yI E0,.int .u64 Mv] 115)::(rr A2 sr.length Ah 2 1<|sr.map<|Value.int .i64)::(.box b1 [yI 0,yI 0,yN,yN,yN,yN,yN,yN,Bv false] 70)::(.box bY [yI kk,Sv gu par.length gk,Sv gq rules.length gw] 27)::(rr gu par.length gk 2 1<|par.map<|Value.int .i64)::(rr gq rules.length gw 70 9 bH)::ps) ((sF false Fc ac cc code)::(xG true aG bH rules)::Γ)) 4 #[true,true,true,true,true,true,true,true,true,true,true,true,true,true,true,true,true,true,false,false,false,false] ?_ fun L45=>?_
  ·rintro ρ Wc ⟨xN,wM,pF,E0,sr,A2,Ah,GX,Mv,rfl,F8,aeE,aeh,Cj,N,H⟩
   refine zY [18,20] qh qm<|vG rfl ?_<|vG rfl ?_ zZ
   ·refine zq H underlying24 ti2 kk.toNat rfl rfl qf qf qf fun Tc LJ H=>⟨H.pick (zR 4 4) [0,1],(jq L24 ⟨_,wM,pF,E0,sr,A2,Ah,GX,Tc,Mv,uE8,F8,aeE,aeh,Cj,N,H⟩)⟩
   refine xg H ti70 [yI 0,yI 0,yN,yN,yN,yN,yN,yN,Bv false] fun Lm UR H=>⟨H.pick (zR 4 4) [0,1],(ro 18 rfl<|zq H underlying24 ti2 kk.toNat rfl rfl qf qf qf fun Wf Lf H=>⟨H.pick (zR 5 4) [0,1],(ro 19 rfl ?_)⟩)⟩
   refine vg [yI pF,yI 0,Sv A2 sr.length Ah,Sv (aa GX 0) kk.toNat kk.toNat,Sv (aa Wf 0) kk.toNat kk.toNat,yN,yN,yN,Bv false] [(0,yI pF),(2,Sv A2 sr.length Ah),(3,Sv (aa GX 0) kk.toNat kk.toNat),(4,Sv (aa Wf 0) kk.toNat kk.toNat)]<|⟨H.pick (zR 5 4) [0,1],(ro 21 rfl ?_)⟩
   refine xx H 1 [yI pF,yI 0,Sv A2 sr.length Ah,Sv (aa GX 0) kk.toNat kk.toNat,Sv (aa Wf 0) kk.toNat kk.toNat,yN,yN,yN,Bv false] sizeOf70 fun Ny H=>?_
   dsimp only[List.set] at H
   refine⟨H.pick (zR 5 4) [0,1],(xC qh ((meet ⟨_,wM,pF,E0,sr,Lm,A2,Ah,GX,Wf,Mv,uE5,F8,aeE,aeh,Cj,N,H.vU 9 2 (1::0::zR 2 7) [0,1] qo qo⟩)))⟩
  refine yL (fun ρ Sr=>∃(xN:Env) (CK:Int) (uT:Int) (EZ:Int) (tZ:yLI) (Bg:yOA) (Be:Nat) (BE:Nat) (Cg:Int),ρ=upd (upd (upd (upd (upd (upd (upd (upd xN 0<|pp bs 0) 1<|pp bY 0) 4<|pp b1 0) 5<|yI par.length) 15<|yI uT) 21<|Sv Bg tZ.length Be) 25<|yI kk) 31 (Sv (aa BE 0) kk.toNat kk.toNat)/\(ip<=CK/\CK<=ip+2)/\(0<=uT/\(uT<par.length\/uT=0))/\(CK<=EZ/\EZ<=CK+24)/\(vZ kk (2:Int) tZ/\Xr tZ≠0)/\Fresh W0.heap.size (aG::Ns)/\St W0 Sr ((rr (aa BE 0) kk.toNat kk.toNat 2 1 ((List.replicate kk.toNat (0:Int)).map<|Value.int .i64))::(.box bs [Sv ac code.length cc,yI EZ,.int .u64 Cg] 115)::(rr Bg tZ.length Be 2 1<|tZ.map<|Value.int .i64)::(.box b1 [yI 0,yI 0,yN,yN,yN,yN,yN,yN,Bv false] 70)::(.box bY [yI kk,Sv gu par.length gk,Sv gq rules.length gw] 27)::(rr gu par.length gk 2 1<|par.map<|Value.int .i64)::(rr gq rules.length gw 70 9 bH)::ps) ((sF false Fc ac cc code)::(xG true aG bH rules)::Γ)) 4 #[true,true,true,true,true,true,true,true,true,true,true,true,true,false,true,true,true,true,true,false,false,false] ?_ fun L67=>?_
  ·rintro ρ KF ⟨xN,CK,uT,EZ,tZ,Bg,Be,BE,Cg,rfl,YI,MQ,Mw,ads,N,H⟩
   refine zY [13,20] qh qm<|vG rfl ?_<|vG rfl ?_ zZ
   ·refine zq H underlying24 ti2 kk.toNat rfl rfl qf qf qf fun Wx V2 H=>⟨H.pick (zR 4 4) [0,1],(jq L24 ⟨_,CK,uT,EZ,tZ,Bg,Be,Wx,BE,Cg,uE8,YI,MQ,Mw,ads,N,H.vU 8 2 (1::0::zR 2 6) [0,1] qo qo⟩)⟩
   refine xg H ti70 [yI 0,yI 0,yN,yN,yN,yN,yN,yN,Bv false] fun ER w77 H=>⟨H.pick (zR 4 4) [0,1],(ro 13 rfl<|zq H underlying24 ti2 kk.toNat rfl rfl qf qf qf fun b78 NB H=>⟨H.pick (zR 5 4) [0,1],(ro 19 rfl ?_)⟩)⟩
   refine vg [yI uT,yI 0,Sv Bg tZ.length Be,Sv (aa b78 0) kk.toNat kk.toNat,Sv (aa BE 0) kk.toNat kk.toNat,yN,yN,yN,Bv false] [(0,yI uT),(2,Sv Bg tZ.length Be),(3,Sv (aa b78 0) kk.toNat kk.toNat),(4,Sv (aa BE 0) kk.toNat kk.toNat)]<|⟨H.pick (zR 5 4) [0,1],(ro 21 rfl ?_)⟩
   refine xx H 1 [yI uT,yI 0,Sv Bg tZ.length Be,Sv (aa b78 0) kk.toNat kk.toNat,Sv (aa BE 0) kk.toNat kk.toNat,yN,yN,yN,Bv false] sizeOf70 fun TX H=>?_
   dsimp only[List.set] at H
   refine⟨H.pick (zR 5 4) [0,1],(xC qh ((meet ⟨_,CK,uT,EZ,tZ,ER,Bg,Be,b78,BE,Cg,uE5,YI,MQ,Mw,ads,N,H.vU 9 2 (1::2::0::zR 3 6) [0,1] qo qo⟩)))⟩
  refine yL (fun ρ KV=>∃(xN:Env) (Cn:Int) (oT:Int) (wY:Int) (nv:yLI) (sO:yOA) (ug:Nat) (xr:Nat) (Cc:Int),ρ=upd (upd (upd (upd (upd (upd (upd (upd (upd xN 0<|pp bs 0) 1<|pp bY 0) 4<|pp b1 0) 5<|yI par.length) 6<|pp xr 0) 15<|yI oT) 21<|Sv sO nv.length ug) 25<|yI kk) 30 (yI kk)/\(ip<=Cn/\Cn<=ip+2)/\(0<=oT/\(oT<par.length\/oT=0))/\(Cn<=wY/\wY<=Cn+24)/\(vZ kk (2:Int) nv/\Xr nv≠0)/\Fresh W0.heap.size (aG::Ns)/\St W0 KV ((.box xr [yI 0,yI 0,yN,yN,yN,yN,yN,yN,Bv false] 70)::(.box bs [Sv ac code.length cc,yI wY,.int .u64 Cc] 115)::(rr sO nv.length ug 2 1<|nv.map<|Value.int .i64)::(.box b1 [yI 0,yI 0,yN,yN,yN,yN,yN,yN,Bv false] 70)::(.box bY [yI kk,Sv gu par.length gk,Sv gq rules.length gw] 27)::(rr gu par.length gk 2 1<|par.map<|Value.int .i64)::(rr gq rules.length gw 70 9 bH)::ps) ((sF false Fc ac cc code)::(xG true aG bH rules)::Γ)) 4 #[true,true,true,true,true,true,true,true,true,true,true,true,true,false,true,true,true,true,false,false,true,false] ?_ fun L89=>?_
  ·rintro ρ MV ⟨xN,Cn,oT,wY,nv,sO,ug,xr,Cc,rfl,T2,A0,UE,Un,N,H⟩
   refine zY [13,18] qh qm<|vG rfl ?_<|vG rfl ?_ zZ
   ·refine zq H underlying24 ti2 kk.toNat rfl rfl qf qf qf fun EJ NP H=>⟨H.pick (zR 4 4) [0,1],(ro 18 rfl<|zq H underlying24 ti2 kk.toNat rfl rfl qf qf qf fun PD Lu H=>⟨H.pick (zR 5 4) [0,1],(ro 19 rfl<|vg [yI oT,yI 0,Sv sO nv.length ug,Sv (aa EJ 0) kk.toNat kk.toNat,Sv (aa PD 0) kk.toNat kk.toNat,yN,yN,yN,Bv false] [(0,yI oT),(2,Sv sO nv.length ug),(3,Sv (aa EJ 0) kk.toNat kk.toNat),(4,Sv (aa PD 0) kk.toNat kk.toNat)] ?_)⟩)⟩
    refine⟨H.pick (zR 5 4) [0,1],(ro 21 rfl<|xx H 2 [yI oT,yI 0,Sv sO nv.length ug,Sv (aa EJ 0) kk.toNat kk.toNat,Sv (aa PD 0) kk.toNat kk.toNat,yN,yN,yN,Bv false] sizeOf70 fun HK H=>?_)⟩
    dsimp only[List.set] at H
    refine⟨H.pick (zR 5 4) [0,1],(xC qh ((meet ⟨_,Cn,oT,wY,nv,xr,sO,ug,EJ,PD,Cc,uE5,T2,A0,UE,Un,N,H.vU 9 2 (2::0::1::zR 3 6) [0,1] qo qo⟩)))⟩
   refine zq H underlying24 ti2 kk.toNat rfl rfl qf qf qf fun i9 xc H=>⟨H.pick (zR 4 4) [0,1],(ro 13 rfl<|zq H underlying24 ti2 kk.toNat rfl rfl qf qf qf fun FV zv H=>⟨H.pick (zR 5 4) [0,1],(ro 19 rfl<|vg [yI oT,yI 0,Sv sO nv.length ug,Sv (aa FV 0) kk.toNat kk.toNat,Sv (aa i9 0) kk.toNat kk.toNat,yN,yN,yN,Bv false] [(0,yI oT),(2,Sv sO nv.length ug),(3,Sv (aa FV 0) kk.toNat kk.toNat),(4,Sv (aa i9 0) kk.toNat kk.toNat)] ?_)⟩)⟩
   refine⟨H.pick (zR 5 4) [0,1],(ro 21 rfl<|xx H 2 [yI oT,yI 0,Sv sO nv.length ug,Sv (aa FV 0) kk.toNat kk.toNat,Sv (aa i9 0) kk.toNat kk.toNat,yN,yN,yN,Bv false] sizeOf70 fun Gi H=>?_)⟩
   dsimp only[List.set] at H
   refine⟨H.pick (zR 5 4) [0,1],(xC qh ((meet ⟨_,Cn,oT,wY,nv,xr,sO,ug,FV,i9,Cc,uE5,T2,A0,UE,Un,N,H.vU 9 2 (2::1::0::zR 3 6) [0,1] qo qo⟩)))⟩
  refine yL (fun ρ II=>∃(xN:Env) (qu:Int) (ms:Int) (Bh:Nat) (rz:Nat) (DA:Int),ρ=upd (upd (upd (upd (upd (upd (upd (upd (upd xN 0<|pp bs 0) 1<|pp bY 0) 4<|pp b1 0) 5<|yI par.length) 15<|yI ms) 16<|pp bs 0) 20<|yI kk) 26<|Sv (aa Bh 0) kk.toNat kk.toNat) 31 (Sv (aa rz 0) kk.toNat kk.toNat)/\(ip<=qu/\qu<=ip+2)/\(0<=ms/\(ms<par.length\/ms=0))/\Fresh W0.heap.size (aG::Ns)/\St W0 II ((rr (aa rz 0) kk.toNat kk.toNat 2 1 ((List.replicate kk.toNat (0:Int)).map<|Value.int .i64))::(rr (aa Bh 0) kk.toNat kk.toNat 2 1 ((List.replicate kk.toNat (0:Int)).map<|Value.int .i64))::(.box bs [Sv ac code.length cc,yI qu,.int .u64 DA] 115)::(.box b1 [yI 0,yI 0,yN,yN,yN,yN,yN,yN,Bv false] 70)::(.box bY [yI kk,Sv gu par.length gk,Sv gq rules.length gw] 27)::(rr gu par.length gk 2 1<|par.map<|Value.int .i64)::(rr gq rules.length gw 70 9 bH)::ps) ((sF false Fc ac cc code)::(xG true aG bH rules)::Γ)) 4 #[true,true,true,true,true,true,true,true,false,true,true,true,true,true,true,true,true,true,true,false,false,false] ?_ fun SX=>?_
  ·rintro ρ Aw ⟨xN,qu,ms,Bh,rz,DA,rfl,N6,Rg,N,H⟩
   refine zY [8,20] qh qm<|vG rfl ?_<|vG rfl ?_ zZ
   ·have H1:=H.y9 7 2 [2,0,1,3,4,5,6] [0,1] qo qo
    have N1:Fresh _ (aG::Ns):=N
    have K1:Kept (Ns) ((xG true aG bH rules)::Γ):=K0.behind 1 rfl
    replace K1:=K1.cons (F:=aG) 0 rfl rfl
    refine ve #[pp bs 0,yI kk,yI 2] rfl rfl call183 (Xk code qu DA bs ac cc Fc kk (2:Int) H1 N1 K1 qg qg qg) ?_
    clear H H1 N1 K1
    rintro _ oe ⟨Ys,ad5,abu,adx,arU,abY,aea,ahC,rfl,N,H⟩
    obtain rfl:=H.jy 1 rfl
    refine⟨H.pick (zR 4 4) [0,1],(jq L24 ⟨_,qu,ms,Ys,abu,adx,abY,Bh,rz,ad5,uE8,N6,Rg,aea,ahC,N,H.vU 8 2 [2,3,0,1,4,5,6,7] [0,1] qo qo⟩)⟩
   refine xg H ti70 [yI 0,yI 0,yN,yN,yN,yN,yN,yN,Bv false] fun Ju Ko H=>⟨H.pick (zR 4 4) [0,1],(ro 8 rfl ?_)⟩
   have H1:=H.y9 8 2 [3,0,1,2,4,5,6,7] [0,1] qo qo
   have N1:Fresh _ (aG::Ns):=N
   have K1:Kept (Ns) ((xG true aG bH rules)::Γ):=K0.behind 1 rfl
   replace K1:=K1.cons (F:=aG) 0 rfl rfl
   refine ve #[pp bs 0,yI kk,yI 2] rfl rfl call183 (Xk code qu DA bs ac cc Fc kk (2:Int) H1 N1 K1 qg qg qg) ?_
   clear H H1 N1 K1
   rintro _ Za ⟨abj,acF,ud,DG,aqK,Eb,ab2,Zd,rfl,N,H⟩
   obtain rfl:=H.jy 1 rfl
   refine⟨H.pick (zR 5 4) [0,1],(ro 19 rfl<|vg [yI ms,yI 0,Sv DG ud.length Eb,Sv (aa Bh 0) kk.toNat kk.toNat,Sv (aa rz 0) kk.toNat kk.toNat,yN,yN,yN,Bv false] [(0,yI ms),(2,Sv DG ud.length Eb),(3,Sv (aa Bh 0) kk.toNat kk.toNat),(4,Sv (aa rz 0) kk.toNat kk.toNat)]<|⟨H.pick (zR 5 4) [0,1],(ro 21 rfl ?_)⟩)⟩
   refine xx H 2 [yI ms,yI 0,Sv DG ud.length Eb,Sv (aa Bh 0) kk.toNat kk.toNat,Sv (aa rz 0) kk.toNat kk.toNat,yN,yN,yN,Bv false] sizeOf70 fun ZB H=>?_
   dsimp only[List.set] at H
   refine⟨H.pick (zR 5 4) [0,1],(xC qh ((meet ⟨_,qu,ms,abj,ud,Ju,DG,Eb,Bh,rz,acF,uE5,N6,Rg,ab2,Zd,N,H.vU 9 2 [2,3,4,0,1,5,6,7,8] [0,1] qo qo⟩)))⟩
  refine yL (fun ρ FQ=>∃(xN:Env) (qa:Int) (ij:Int) (oG:Nat) (gV:Nat) (Db:Int),ρ=upd (upd (upd (upd (upd (upd (upd (upd (upd (upd xN 0<|pp bs 0) 1<|pp bY 0) 4<|pp b1 0) 5<|yI par.length) 6<|pp gV 0) 15<|yI ij) 16<|pp bs 0) 20<|yI kk) 26<|Sv (aa oG 0) kk.toNat kk.toNat) 30 (yI kk)/\(ip<=qa/\qa<=ip+2)/\(0<=ij/\(ij<par.length\/ij=0))/\Fresh W0.heap.size (aG::Ns)/\St W0 FQ ((.box gV [yI 0,yI 0,yN,yN,yN,yN,yN,yN,Bv false] 70)::(rr (aa oG 0) kk.toNat kk.toNat 2 1 ((List.replicate kk.toNat (0:Int)).map<|Value.int .i64))::(.box bs [Sv ac code.length cc,yI qa,.int .u64 Db] 115)::(.box b1 [yI 0,yI 0,yN,yN,yN,yN,yN,yN,Bv false] 70)::(.box bY [yI kk,Sv gu par.length gk,Sv gq rules.length gw] 27)::(rr gu par.length gk 2 1<|par.map<|Value.int .i64)::(rr gq rules.length gw 70 9 bH)::ps) ((sF false Fc ac cc code)::(xG true aG bH rules)::Γ)) 4 #[true,true,true,true,true,true,true,true,false,true,true,true,true,true,true,true,true,true,false,false,true,false] ?_ fun GH=>?_
  ·rintro ρ GI ⟨xN,qa,ij,oG,gV,Db,rfl,Oe,OX,N,H⟩
   refine zY [8,18] qh qm<|vG rfl ?_<|vG rfl ?_ zZ
   ·have H1:=H.y9 7 2 [2,0,1,3,4,5,6] [0,1] qo qo
    have N1:Fresh _ (aG::Ns):=N
    have K1:Kept (Ns) ((xG true aG bH rules)::Γ):=K0.behind 1 rfl
    replace K1:=K1.cons (F:=aG) 0 rfl rfl
    refine ve #[pp bs 0,yI kk,yI 2] rfl rfl call183 (Xk code qa Db bs ac cc Fc kk (2:Int) H1 N1 K1 qg qg qg) ?_
    clear H H1 N1 K1
    rintro _ CP ⟨abw,aba,DI,EE,asp,Eh,ack,ahT,rfl,N,H⟩
    obtain rfl:=H.jy 1 rfl
    refine⟨H.pick (zR 4 4) [0,1],(ro 18 rfl<|zq H underlying24 ti2 kk.toNat rfl rfl qf qf qf fun rI BN H=>⟨H.pick (zR 5 4) [0,1],(ro 19 rfl<|vg [yI ij,yI 0,Sv EE DI.length Eh,Sv (aa oG 0) kk.toNat kk.toNat,Sv (aa rI 0) kk.toNat kk.toNat,yN,yN,yN,Bv false] [(0,yI ij),(2,Sv EE DI.length Eh),(3,Sv (aa oG 0) kk.toNat kk.toNat),(4,Sv (aa rI 0) kk.toNat kk.toNat)]<|⟨H.pick (zR 5 4) [0,1],(ro 21 rfl ?_)⟩)⟩)⟩
    refine xx H 3 [yI ij,yI 0,Sv EE DI.length Eh,Sv (aa oG 0) kk.toNat kk.toNat,Sv (aa rI 0) kk.toNat kk.toNat,yN,yN,yN,Bv false] sizeOf70 fun GE H=>?_
    dsimp only[List.set] at H
    refine⟨H.pick (zR 5 4) [0,1],(xC qh ((meet ⟨_,qa,ij,abw,DI,gV,EE,Eh,oG,rI,aba,uE5,Oe,OX,ack,ahT,N,H.vU 9 2 [3,0,4,1,2,5,6,7,8] [0,1] qo qo⟩)))⟩
   refine zq H underlying24 ti2 kk.toNat rfl rfl qf qf qf fun Mg HQ H=>⟨H.pick (zR 4 4) [0,1],(ro 8 rfl ?_)⟩
   have H1:=H.y9 8 2 [3,0,1,2,4,5,6,7] [0,1] qo qo
   have N1:Fresh _ (aG::Ns):=N
   have K1:Kept (Ns) ((xG true aG bH rules)::Γ):=K0.behind 1 rfl
   replace K1:=K1.cons (F:=aG) 0 rfl rfl
   refine ve #[pp bs 0,yI kk,yI 2] rfl rfl call183 (Xk code qa Db bs ac cc Fc kk (2:Int) H1 N1 K1 qg qg qg) ?_
   clear H H1 N1 K1
   rintro _ TA ⟨agw,ZN,EB,D9,asY,Dp,Oy,agG,rfl,N,H⟩
   obtain rfl:=H.jy 1 rfl
   refine⟨H.pick (zR 5 4) [0,1],(ro 19 rfl<|vg [yI ij,yI 0,Sv D9 EB.length Dp,Sv (aa oG 0) kk.toNat kk.toNat,Sv (aa Mg 0) kk.toNat kk.toNat,yN,yN,yN,Bv false] [(0,yI ij),(2,Sv D9 EB.length Dp),(3,Sv (aa oG 0) kk.toNat kk.toNat),(4,Sv (aa Mg 0) kk.toNat kk.toNat)]<|⟨H.pick (zR 5 4) [0,1],(ro 21 rfl ?_)⟩)⟩
   refine xx H 3 [yI ij,yI 0,Sv D9 EB.length Dp,Sv (aa oG 0) kk.toNat kk.toNat,Sv (aa Mg 0) kk.toNat kk.toNat,yN,yN,yN,Bv false] sizeOf70 fun Uz H=>?_
   dsimp only[List.set] at H
   refine⟨H.pick (zR 5 4) [0,1],(xC qh ((meet ⟨_,qa,ij,agw,EB,gV,D9,Dp,oG,Mg,ZN,uE5,Oe,OX,Oy,agG,N,H.vU 9 2 [3,2,4,0,1,5,6,7,8] [0,1] qo qo⟩)))⟩
  refine yL (fun ρ ML=>∃(xN:Env) (rp:Int) (hX:Int) (pD:Nat) (uN:Nat) (DP:Int),ρ=upd (upd (upd (upd (upd (upd (upd (upd (upd (upd xN 0<|pp bs 0) 1<|pp bY 0) 4<|pp b1 0) 5<|yI par.length) 6<|pp uN 0) 15<|yI hX) 16<|pp bs 0) 20<|yI kk) 25<|yI kk) 31 (Sv (aa pD 0) kk.toNat kk.toNat)/\(ip<=rp/\rp<=ip+2)/\(0<=hX/\(hX<par.length\/hX=0))/\Fresh W0.heap.size (aG::Ns)/\St W0 ML ((.box uN [yI 0,yI 0,yN,yN,yN,yN,yN,yN,Bv false] 70)::(rr (aa pD 0) kk.toNat kk.toNat 2 1 ((List.replicate kk.toNat (0:Int)).map<|Value.int .i64))::(.box bs [Sv ac code.length cc,yI rp,.int .u64 DP] 115)::(.box b1 [yI 0,yI 0,yN,yN,yN,yN,yN,yN,Bv false] 70)::(.box bY [yI kk,Sv gu par.length gk,Sv gq rules.length gw] 27)::(rr gu par.length gk 2 1<|par.map<|Value.int .i64)::(rr gq rules.length gw 70 9 bH)::ps) ((sF false Fc ac cc code)::(xG true aG bH rules)::Γ)) 4 #[true,true,true,true,true,true,true,true,false,true,true,true,true,false,true,true,true,true,true,false,true,false] ?_ fun T1=>?_
  ·rintro ρ acP ⟨xN,rp,hX,pD,uN,DP,rfl,OU,Qf,N,H⟩
   refine zY [8,13] qh qm<|vG rfl ?_<|vG rfl ?_ zZ
   ·have H1:=H.y9 7 2 [2,0,1,3,4,5,6] [0,1] qo qo
    have N1:Fresh _ (aG::Ns):=N
    have K1:Kept (Ns) ((xG true aG bH rules)::Γ):=K0.behind 1 rfl
    replace K1:=K1.cons (F:=aG) 0 rfl rfl
    refine ve #[pp bs 0,yI kk,yI 2] rfl rfl call183 (Xk code rp DP bs ac cc Fc kk (2:Int) H1 N1 K1 qg qg qg) ?_
    clear H H1 N1 K1
    rintro _ akG ⟨ab8,adz,Dm,nW,aen,nb,agx,afI,rfl,N,H⟩
    obtain rfl:=H.jy 1 rfl
    refine⟨H.pick (zR 4 4) [0,1],(ro 13 rfl<|zq H underlying24 ti2 kk.toNat rfl rfl qf qf qf fun Ms M5 H=>⟨H.pick (zR 5 4) [0,1],(ro 19 rfl<|vg [yI hX,yI 0,Sv nW Dm.length nb,Sv (aa Ms 0) kk.toNat kk.toNat,Sv (aa pD 0) kk.toNat kk.toNat,yN,yN,yN,Bv false] [(0,yI hX),(2,Sv nW Dm.length nb),(3,Sv (aa Ms 0) kk.toNat kk.toNat),(4,Sv (aa pD 0) kk.toNat kk.toNat)]<|⟨H.pick (zR 5 4) [0,1],(ro 21 rfl ?_)⟩)⟩)⟩
    refine xx H 3 [yI hX,yI 0,Sv nW Dm.length nb,Sv (aa Ms 0) kk.toNat kk.toNat,Sv (aa pD 0) kk.toNat kk.toNat,yN,yN,yN,Bv false] sizeOf70 fun SY H=>?_
    dsimp only[List.set] at H
    refine⟨H.pick (zR 5 4) [0,1],(xC qh ((meet ⟨_,rp,hX,ab8,Dm,uN,nW,nb,Ms,pD,adz,uE5,OU,Qf,agx,afI,N,H.vU 9 2 [3,4,0,1,2,5,6,7,8] [0,1] qo qo⟩)))⟩
   refine zq H underlying24 ti2 kk.toNat rfl rfl qf qf qf fun rG Sh H=>⟨H.pick (zR 4 4) [0,1],(ro 8 rfl ?_)⟩
   have H1:=H.y9 8 2 [3,0,1,2,4,5,6,7] [0,1] qo qo
   have N1:Fresh _ (aG::Ns):=N
   have K1:Kept (Ns) ((xG true aG bH rules)::Γ):=K0.behind 1 rfl
   replace K1:=K1.cons (F:=aG) 0 rfl rfl
   refine ve #[pp bs 0,yI kk,yI 2] rfl rfl call183 (Xk code rp DP bs ac cc Fc kk (2:Int) H1 N1 K1 qg qg qg) ?_
   clear H H1 N1 K1
   rintro _ aw6 ⟨adZ,aaj,D1,nq,Zr,oj,IL,ae5,rfl,N,H⟩
   obtain rfl:=H.jy 1 rfl
   refine⟨H.pick (zR 5 4) [0,1],(ro 19 rfl<|vg [yI hX,yI 0,Sv nq D1.length oj,Sv (aa rG 0) kk.toNat kk.toNat,Sv (aa pD 0) kk.toNat kk.toNat,yN,yN,yN,Bv false] [(0,yI hX),(2,Sv nq D1.length oj),(3,Sv (aa rG 0) kk.toNat kk.toNat),(4,Sv (aa pD 0) kk.toNat kk.toNat)]<|⟨H.pick (zR 5 4) [0,1],(ro 21 rfl ?_)⟩)⟩
   refine xx H 3 [yI hX,yI 0,Sv nq D1.length oj,Sv (aa rG 0) kk.toNat kk.toNat,Sv (aa pD 0) kk.toNat kk.toNat,yN,yN,yN,Bv false] sizeOf70 fun aps H=>?_
   dsimp only[List.set] at H
   refine⟨H.pick (zR 5 4) [0,1],(xC qh ((meet ⟨_,rp,hX,adZ,D1,uN,nq,oj,rG,pD,aaj,uE5,OU,Qf,IL,ae5,N,H.vU 9 2 [3,4,2,0,1,5,6,7,8] [0,1] qo qo⟩)))⟩
  refine yL (fun ρ Mu=>∃(xN:Env) (pK:Int) (rf:Int) (EP:Nat) (AT:Int),ρ=upd (upd (upd (upd (upd (upd (upd (upd (upd xN 0<|pp bs 0) 1<|pp bY 0) 4<|pp b1 0) 5<|yI par.length) 15<|yI rf) 16<|pp bs 0) 20<|yI kk) 26<|Sv (aa EP 0) kk.toNat kk.toNat) 30 (yI kk)/\(ip<=pK/\pK<=ip+2)/\(0<=rf/\(rf<par.length\/rf=0))/\Fresh W0.heap.size (aG::Ns)/\St W0 Mu ((rr (aa EP 0) kk.toNat kk.toNat 2 1 ((List.replicate kk.toNat (0:Int)).map<|Value.int .i64))::(.box bs [Sv ac code.length cc,yI pK,.int .u64 AT] 115)::(.box b1 [yI 0,yI 0,yN,yN,yN,yN,yN,yN,Bv false] 70)::(.box bY [yI kk,Sv gu par.length gk,Sv gq rules.length gw] 27)::(rr gu par.length gk 2 1<|par.map<|Value.int .i64)::(rr gq rules.length gw 70 9 bH)::ps) ((sF false Fc ac cc code)::(xG true aG bH rules)::Γ)) 5 #[true,true,true,true,true,true,true,true,false,true,true,true,true,true,true,true,true,true,false,false,false,false] ?_ fun ad9=>?_
  ·rintro ρ aog ⟨xN,pK,rf,EP,AT,rfl,H3,Jo,N,H⟩
   refine zY [8,18,20] qh qm<|vG rfl ?_<|vG rfl ?_<|vG rfl ?_ zZ
   ·have H1:=H.y9 6 2 [1,0,2,3,4,5] [0,1] qo qo
    have N1:Fresh _ (aG::Ns):=N
    have K1:Kept (Ns) ((xG true aG bH rules)::Γ):=K0.behind 1 rfl
    replace K1:=K1.cons (F:=aG) 0 rfl rfl
    refine ve #[pp bs 0,yI kk,yI 2] rfl rfl call183 (Xk code pK AT bs ac cc Fc kk (2:Int) H1 N1 K1 qg qg qg) ?_
    clear H H1 N1 K1
    rintro _ Nj ⟨Zg,adD,N7,wG,ab1,uZ,ZW,acT,rfl,N,H⟩
    obtain rfl:=H.jy 1 rfl
    refine⟨H.pick (zR 3 4) [0,1],(jq L45 ⟨_,pK,rf,Zg,N7,wG,uZ,EP,adD,uE8,H3,Jo,ZW,acT,N,H.vU 7 2 [2,0,1,3,4,5,6] [0,1] qo qo⟩)⟩
   ·refine zq H underlying24 ti2 kk.toNat rfl rfl qf qf qf fun akT Zv H=>⟨H.pick (zR 3 4) [0,1],(jq SX ⟨_,pK,rf,EP,akT,AT,uE9,H3,Jo,N,H⟩)⟩
   refine xg H ti70 [yI 0,yI 0,yN,yN,yN,yN,yN,yN,Bv false] fun Kd adi H=>⟨H.pick (zR 3 4) [0,1],(jq GH ⟨_,pK,rf,EP,Kd,AT,uE10,H3,Jo,N,H⟩)⟩
  refine yL (fun ρ JM=>∃(xN:Env) (rd:Int) (pS:Int) (rC:Nat) (Ae:Int),ρ=upd (upd (upd (upd (upd (upd (upd (upd (upd xN 0<|pp bs 0) 1<|pp bY 0) 4<|pp b1 0) 5<|yI par.length) 15<|yI pS) 16<|pp bs 0) 20<|yI kk) 25<|yI kk) 31 (Sv (aa rC 0) kk.toNat kk.toNat)/\(ip<=rd/\rd<=ip+2)/\(0<=pS/\(pS<par.length\/pS=0))/\Fresh W0.heap.size (aG::Ns)/\St W0 JM ((rr (aa rC 0) kk.toNat kk.toNat 2 1 ((List.replicate kk.toNat (0:Int)).map<|Value.int .i64))::(.box bs [Sv ac code.length cc,yI rd,.int .u64 Ae] 115)::(.box b1 [yI 0,yI 0,yN,yN,yN,yN,yN,yN,Bv false] 70)::(.box bY [yI kk,Sv gu par.length gk,Sv gq rules.length gw] 27)::(rr gu par.length gk 2 1<|par.map<|Value.int .i64)::(rr gq rules.length gw 70 9 bH)::ps) ((sF false Fc ac cc code)::(xG true aG bH rules)::Γ)) 5 #[true,true,true,true,true,true,true,true,false,true,true,true,true,false,true,true,true,true,true,false,false,false] ?_ fun afQ=>?_
  ·rintro ρ awK ⟨xN,rd,pS,rC,Ae,rfl,Hh,Kb,N,H⟩
   refine zY [8,13,20] qh qm<|vG rfl ?_<|vG rfl ?_<|vG rfl ?_ zZ
   ·have H1:=H.y9 6 2 [1,0,2,3,4,5] [0,1] qo qo
    have N1:Fresh _ (aG::Ns):=N
    have K1:Kept (Ns) ((xG true aG bH rules)::Γ):=K0.behind 1 rfl
    replace K1:=K1.cons (F:=aG) 0 rfl rfl
    refine ve #[pp bs 0,yI kk,yI 2] rfl rfl call183 (Xk code rd Ae bs ac cc Fc kk (2:Int) H1 N1 K1 qg qg qg) ?_
    clear H H1 N1 K1
    rintro _ aag ⟨aev,aff,aeB,Zq,arh,ab6,afa,acq,rfl,N,H⟩
    obtain rfl:=H.jy 1 rfl
    refine⟨H.pick (zR 3 4) [0,1],(jq L67 ⟨_,rd,pS,aev,aeB,Zq,ab6,rC,aff,uE8,Hh,Kb,afa,acq,N,H.vU 7 2 [2,0,1,3,4,5,6] [0,1] qo qo⟩)⟩
   ·refine zq H underlying24 ti2 kk.toNat rfl rfl qf qf qf fun akR aun H=>⟨H.pick (zR 3 4) [0,1],(jq SX ⟨_,rd,pS,akR,rC,Ae,uE9,Hh,Kb,N,H.vU 7 2 (1::0::zR 2 5) [0,1] qo qo⟩)⟩
   refine xg H ti70 [yI 0,yI 0,yN,yN,yN,yN,yN,yN,Bv false] fun Y2 apQ H=>⟨H.pick (zR 3 4) [0,1],(jq T1 ⟨_,rd,pS,rC,Y2,Ae,uE10,Hh,Kb,N,H⟩)⟩
  refine yL (fun ρ w262=>∃(xN:Env) (ru:Int) (pI:Int) (Ft:Nat) (ze:Int),ρ=upd (upd (upd (upd (upd (upd (upd (upd (upd (upd xN 0<|pp bs 0) 1<|pp bY 0) 4<|pp b1 0) 5<|yI par.length) 6<|pp Ft 0) 15<|yI pI) 16<|pp bs 0) 20<|yI kk) 25<|yI kk) 30 (yI kk)/\(ip<=ru/\ru<=ip+2)/\(0<=pI/\(pI<par.length\/pI=0))/\Fresh W0.heap.size (aG::Ns)/\St W0 w262 ((.box Ft [yI 0,yI 0,yN,yN,yN,yN,yN,yN,Bv false] 70)::(.box bs [Sv ac code.length cc,yI ru,.int .u64 ze] 115)::(.box b1 [yI 0,yI 0,yN,yN,yN,yN,yN,yN,Bv false] 70)::(.box bY [yI kk,Sv gu par.length gk,Sv gq rules.length gw] 27)::(rr gu par.length gk 2 1<|par.map<|Value.int .i64)::(rr gq rules.length gw 70 9 bH)::ps) ((sF false Fc ac cc code)::(xG true aG bH rules)::Γ)) 5 #[true,true,true,true,true,true,true,true,false,true,true,true,true,false,true,true,true,true,false,false,true,false] ?_ fun Yt=>?_
  ·rintro ρ adu ⟨xN,ru,pI,Ft,ze,rfl,Iv,Iq,N,H⟩
   refine zY [8,13,18] qh qm<|vG rfl ?_<|vG rfl ?_<|vG rfl ?_ zZ
   ·have H1:=H.y9 6 2 [1,0,2,3,4,5] [0,1] qo qo
    have N1:Fresh _ (aG::Ns):=N
    have K1:Kept (Ns) ((xG true aG bH rules)::Γ):=K0.behind 1 rfl
    replace K1:=K1.cons (F:=aG) 0 rfl rfl
    refine ve #[pp bs 0,yI kk,yI 2] rfl rfl call183 (Xk code ru ze bs ac cc Fc kk (2:Int) H1 N1 K1 qg qg qg) ?_
    clear H H1 N1 K1
    rintro _ azD ⟨adp,ahH,ahN,agN,atI,aak,abi,ahf,rfl,N,H⟩
    obtain rfl:=H.jy 1 rfl
    refine⟨H.pick (zR 3 4) [0,1],(jq L89 ⟨_,ru,pI,adp,ahN,agN,aak,Ft,ahH,uE9,Iv,Iq,abi,ahf,N,H.vU 7 2 [2,0,1,3,4,5,6] [0,1] qo qo⟩)⟩
   ·refine zq H underlying24 ti2 kk.toNat rfl rfl qf qf qf fun anH azE H=>⟨H.pick (zR 3 4) [0,1],(jq GH ⟨_,ru,pI,anH,Ft,ze,uE10,Iv,Iq,N,H.vU 7 2 (1::0::zR 2 5) [0,1] qo qo⟩)⟩
   refine zq H underlying24 ti2 kk.toNat rfl rfl qf qf qf fun amd avO H=>⟨H.pick (zR 3 4) [0,1],(jq T1 ⟨_,ru,pI,amd,Ft,ze,uE10,Iv,Iq,N,H.vU 7 2 (1::0::zR 2 5) [0,1] qo qo⟩)⟩
  refine yL (fun ρ ahw=>∃(xN:Env) (AV:Nat) (Ba:Nat),ρ=upd (upd (upd (upd (upd (upd (upd (upd (upd (upd xN 0<|pp bs 0) 1<|pp bY 0) 4<|pp b1 0) 5<|yI par.length) 13<|pp bs 0) 14<|yI par.length) 16<|pp bs 0) 20<|yI kk) 26<|Sv (aa AV 0) kk.toNat kk.toNat) 31 (Sv (aa Ba 0) kk.toNat kk.toNat)/\Fresh W0.heap.size (aG::Ns)/\St W0 ahw ((rr (aa Ba 0) kk.toNat kk.toNat 2 1 ((List.replicate kk.toNat (0:Int)).map<|Value.int .i64))::(rr (aa AV 0) kk.toNat kk.toNat 2 1 ((List.replicate kk.toNat (0:Int)).map<|Value.int .i64))::(.box b1 [yI 0,yI 0,yN,yN,yN,yN,yN,yN,Bv false] 70)::(.box bs [Sv ac code.length cc,yI ip,.int .u64 sd] 115)::(.box bY [yI kk,Sv gu par.length gk,Sv gq rules.length gw] 27)::(rr gu par.length gk 2 1<|par.map<|Value.int .i64)::(rr gq rules.length gw 70 9 bH)::ps) ((sF false Fc ac cc code)::(xG true aG bH rules)::Γ)) 5 #[true,true,false,true,true,true,true,true,false,true,true,true,true,true,true,true,true,true,true,false,false,false] ?_ fun ae3=>?_
  ·rintro ρ aww ⟨xN,AV,Ba,rfl,N,H⟩
   refine zY [2,20] qh qm<|vG rfl ?_<|vG rfl ?_ zZ
   ·have H1:=H.y9 7 2 [3,0,1,2,4,5,6] [0,1] qo qo
    have N1:Fresh _ (aG::Ns):=N
    have K1:Kept (Ns) ((xG true aG bH rules)::Γ):=K0.behind 1 rfl
    replace K1:=K1.cons (F:=aG) 0 rfl rfl
    refine ve #[pp bs 0,yI par.length] rfl rfl call43 (Qp code ip sd bs ac cc Fc par.length H1 N1 K1 qg) ?_
    clear H H1 N1 K1
    rintro _ anF ⟨adE,abo,YM,Yk,abA,rfl,N,H⟩
    refine⟨H.pick (zR 3 4) [0,1],(jq SX ⟨_,adE,YM,AV,Ba,abo,uE9,Yk,abA,N,H.vU 7 2 [1,2,0,3,4,5,6] [0,1] qo qo⟩)⟩
   refine xg H ti70 [yI 0,yI 0,yN,yN,yN,yN,yN,yN,Bv false] fun amS awN H=>⟨H.pick [3,5,6,7] [0,1],(ro 2 rfl ?_)⟩
   have H1:=H.y9 8 2 [4,0,1,2,3,5,6,7] [0,1] qo qo
   have N1:Fresh _ (aG::Ns):=N
   have K1:Kept (Ns) ((xG true aG bH rules)::Γ):=K0.behind 1 rfl
   replace K1:=K1.cons (F:=aG) 0 rfl rfl
   refine ve #[pp bs 0,yI par.length] rfl rfl call43 (Qp code ip sd bs ac cc Fc par.length H1 N1 K1 qg) ?_
   clear H H1 N1 K1
   rintro _ aze ⟨PK,YH,DN,afi,aaA,rfl,N,H⟩
   refine⟨H.pick (zR 4 4) [0,1],(ro 8 rfl ?_)⟩
   have H1:=H.y9 8 2 [0,1,2,3,4,5,6,7] [0,1] qo qo
   have N1:Fresh _ (aG::Ns):=N
   have K1:Kept (Ns) ((xG true aG bH rules)::Γ):=K0.behind 1 rfl
   replace K1:=K1.cons (F:=aG) 0 rfl rfl
   refine ve #[pp bs 0,yI kk,yI 2] rfl rfl call183 (Xk code PK YH bs ac cc Fc kk (2:Int) H1 N1 K1 qg qg qg) ?_
   clear H H1 N1 K1
   rintro _ axq ⟨ZZ,acN,Df,EI,aqz,Ea,ahJ,Yu,rfl,N,H⟩
   obtain rfl:=H.jy 1 rfl
   refine⟨H.pick (zR 5 4) [0,1],(ro 19 rfl<|vg [yI DN,yI 0,Sv EI Df.length Ea,Sv (aa AV 0) kk.toNat kk.toNat,Sv (aa Ba 0) kk.toNat kk.toNat,yN,yN,yN,Bv false] [(0,yI DN),(2,Sv EI Df.length Ea),(3,Sv (aa AV 0) kk.toNat kk.toNat),(4,Sv (aa Ba 0) kk.toNat kk.toNat)]<|⟨H.pick (zR 5 4) [0,1],(ro 21 rfl ?_)⟩)⟩
   refine xx H 2 [yI DN,yI 0,Sv EI Df.length Ea,Sv (aa AV 0) kk.toNat kk.toNat,Sv (aa Ba 0) kk.toNat kk.toNat,yN,yN,yN,Bv false] sizeOf70 fun avv H=>?_
   dsimp only[List.set] at H
   refine⟨H.pick (zR 5 4) [0,1],(xC qh ((meet ⟨_,PK,DN,ZZ,Df,amS,EI,Ea,AV,Ba,acN,uE5,afi,aaA,ahJ,Yu,N,H.vU 9 2 [2,3,4,0,1,5,6,7,8] [0,1] qo qo⟩)))⟩
  refine yL (fun ρ w315=>∃(xN:Env) (Ag:Nat) (Jm:Nat),ρ=upd (upd (upd (upd (upd (upd (upd (upd (upd (upd (upd xN 0<|pp bs 0) 1<|pp bY 0) 4<|pp b1 0) 5<|yI par.length) 6<|pp Jm 0) 13<|pp bs 0) 14<|yI par.length) 16<|pp bs 0) 20<|yI kk) 26<|Sv (aa Ag 0) kk.toNat kk.toNat) 30 (yI kk)/\Fresh W0.heap.size (aG::Ns)/\St W0 w315 ((.box Jm [yI 0,yI 0,yN,yN,yN,yN,yN,yN,Bv false] 70)::(rr (aa Ag 0) kk.toNat kk.toNat 2 1 ((List.replicate kk.toNat (0:Int)).map<|Value.int .i64))::(.box b1 [yI 0,yI 0,yN,yN,yN,yN,yN,yN,Bv false] 70)::(.box bs [Sv ac code.length cc,yI ip,.int .u64 sd] 115)::(.box bY [yI kk,Sv gu par.length gk,Sv gq rules.length gw] 27)::(rr gu par.length gk 2 1<|par.map<|Value.int .i64)::(rr gq rules.length gw 70 9 bH)::ps) ((sF false Fc ac cc code)::(xG true aG bH rules)::Γ)) 5 #[true,true,false,true,true,true,true,true,false,true,true,true,true,true,true,true,true,true,false,false,true,false] ?_ fun aaQ=>?_
  ·rintro ρ Zx ⟨xN,Ag,Jm,rfl,N,H⟩
   refine zY [2,18] qh qm<|vG rfl ?_<|vG rfl ?_ zZ
   ·have H1:=H.y9 7 2 [3,0,1,2,4,5,6] [0,1] qo qo
    have N1:Fresh _ (aG::Ns):=N
    have K1:Kept (Ns) ((xG true aG bH rules)::Γ):=K0.behind 1 rfl
    replace K1:=K1.cons (F:=aG) 0 rfl rfl
    refine ve #[pp bs 0,yI par.length] rfl rfl call43 (Qp code ip sd bs ac cc Fc par.length H1 N1 K1 qg) ?_
    clear H H1 N1 K1
    rintro _ aol ⟨adh,Yh,abl,abF,Yy,rfl,N,H⟩
    refine⟨H.pick (zR 3 4) [0,1],(jq GH ⟨_,adh,abl,Ag,Jm,Yh,uE10,abF,Yy,N,H.vU 7 2 [1,2,0,3,4,5,6] [0,1] qo qo⟩)⟩
   refine zq H underlying24 ti2 kk.toNat rfl rfl qf qf qf fun La ayt H=>⟨H.pick [3,5,6,7] [0,1],(ro 2 rfl ?_)⟩
   have H1:=H.y9 8 2 [4,0,1,2,3,5,6,7] [0,1] qo qo
   have N1:Fresh _ (aG::Ns):=N
   have K1:Kept (Ns) ((xG true aG bH rules)::Γ):=K0.behind 1 rfl
   replace K1:=K1.cons (F:=aG) 0 rfl rfl
   refine ve #[pp bs 0,yI par.length] rfl rfl call43 (Qp code ip sd bs ac cc Fc par.length H1 N1 K1 qg) ?_
   clear H H1 N1 K1
   rintro _ aA5 ⟨NW,Yq,DJ,acB,adb,rfl,N,H⟩
   refine⟨H.pick (zR 4 4) [0,1],(ro 8 rfl ?_)⟩
   have H1:=H.y9 8 2 [0,1,2,3,4,5,6,7] [0,1] qo qo
   have N1:Fresh _ (aG::Ns):=N
   have K1:Kept (Ns) ((xG true aG bH rules)::Γ):=K0.behind 1 rfl
   replace K1:=K1.cons (F:=aG) 0 rfl rfl
   refine ve #[pp bs 0,yI kk,yI 2] rfl rfl call183 (Xk code NW Yq bs ac cc Fc kk (2:Int) H1 N1 K1 qg qg qg) ?_
   clear H H1 N1 K1
   rintro _ aAY ⟨ag6,agl,Eu,EG,aqT,EK,ah1,ahG,rfl,N,H⟩
   obtain rfl:=H.jy 1 rfl
   refine⟨H.pick (zR 5 4) [0,1],(ro 19 rfl<|vg [yI DJ,yI 0,Sv EG Eu.length EK,Sv (aa Ag 0) kk.toNat kk.toNat,Sv (aa La 0) kk.toNat kk.toNat,yN,yN,yN,Bv false] [(0,yI DJ),(2,Sv EG Eu.length EK),(3,Sv (aa Ag 0) kk.toNat kk.toNat),(4,Sv (aa La 0) kk.toNat kk.toNat)]<|⟨H.pick (zR 5 4) [0,1],(ro 21 rfl ?_)⟩)⟩
   refine xx H 3 [yI DJ,yI 0,Sv EG Eu.length EK,Sv (aa Ag 0) kk.toNat kk.toNat,Sv (aa La 0) kk.toNat kk.toNat,yN,yN,yN,Bv false] sizeOf70 fun azV H=>?_
   dsimp only[List.set] at H
   refine⟨H.pick (zR 5 4) [0,1],(xC qh ((meet ⟨_,NW,DJ,ag6,Eu,Jm,EG,EK,Ag,La,agl,uE5,acB,adb,ah1,ahG,N,H.vU 9 2 [3,2,4,0,1,5,6,7,8] [0,1] qo qo⟩)))⟩
  refine yL (fun ρ w347=>∃(xN:Env) (AB:Nat) (Jj:Nat),ρ=upd (upd (upd (upd (upd (upd (upd (upd (upd (upd (upd xN 0<|pp bs 0) 1<|pp bY 0) 4<|pp b1 0) 5<|yI par.length) 6<|pp Jj 0) 13<|pp bs 0) 14<|yI par.length) 16<|pp bs 0) 20<|yI kk) 25<|yI kk) 31 (Sv (aa AB 0) kk.toNat kk.toNat)/\Fresh W0.heap.size (aG::Ns)/\St W0 w347 ((.box Jj [yI 0,yI 0,yN,yN,yN,yN,yN,yN,Bv false] 70)::(rr (aa AB 0) kk.toNat kk.toNat 2 1 ((List.replicate kk.toNat (0:Int)).map<|Value.int .i64))::(.box b1 [yI 0,yI 0,yN,yN,yN,yN,yN,yN,Bv false] 70)::(.box bs [Sv ac code.length cc,yI ip,.int .u64 sd] 115)::(.box bY [yI kk,Sv gu par.length gk,Sv gq rules.length gw] 27)::(rr gu par.length gk 2 1<|par.map<|Value.int .i64)::(rr gq rules.length gw 70 9 bH)::ps) ((sF false Fc ac cc code)::(xG true aG bH rules)::Γ)) 5 #[true,true,false,true,true,true,true,true,false,true,true,true,true,false,true,true,true,true,true,false,true,false] ?_ fun aaM=>?_
  ·rintro ρ auw ⟨xN,AB,Jj,rfl,N,H⟩
   refine zY [2,13] qh qm<|vG rfl ?_<|vG rfl ?_ zZ
   ·have H1:=H.y9 7 2 [3,0,1,2,4,5,6] [0,1] qo qo
    have N1:Fresh _ (aG::Ns):=N
    have K1:Kept (Ns) ((xG true aG bH rules)::Γ):=K0.behind 1 rfl
    replace K1:=K1.cons (F:=aG) 0 rfl rfl
    refine ve #[pp bs 0,yI par.length] rfl rfl call43 (Qp code ip sd bs ac cc Fc par.length H1 N1 K1 qg) ?_
    clear H H1 N1 K1
    rintro _ axu ⟨afl,agb,ag9,ahV,W7,rfl,N,H⟩
    refine⟨H.pick (zR 3 4) [0,1],(jq T1 ⟨_,afl,ag9,AB,Jj,agb,uE10,ahV,W7,N,H.vU 7 2 [1,2,0,3,4,5,6] [0,1] qo qo⟩)⟩
   refine zq H underlying24 ti2 kk.toNat rfl rfl qf qf qf fun Mm ayB H=>⟨H.pick [3,5,6,7] [0,1],(ro 2 rfl ?_)⟩
   have H1:=H.y9 8 2 [4,0,1,2,3,5,6,7] [0,1] qo qo
   have N1:Fresh _ (aG::Ns):=N
   have K1:Kept (Ns) ((xG true aG bH rules)::Γ):=K0.behind 1 rfl
   replace K1:=K1.cons (F:=aG) 0 rfl rfl
   refine ve #[pp bs 0,yI par.length] rfl rfl call43 (Qp code ip sd bs ac cc Fc par.length H1 N1 K1 qg) ?_
   clear H H1 N1 K1
   rintro _ aoA ⟨Q0,acS,EL,YQ,YA,rfl,N,H⟩
   refine⟨H.pick (zR 4 4) [0,1],(ro 8 rfl ?_)⟩
   have H1:=H.y9 8 2 [0,1,2,3,4,5,6,7] [0,1] qo qo
   have N1:Fresh _ (aG::Ns):=N
   have K1:Kept (Ns) ((xG true aG bH rules)::Γ):=K0.behind 1 rfl
   replace K1:=K1.cons (F:=aG) 0 rfl rfl
   refine ve #[pp bs 0,yI kk,yI 2] rfl rfl call183 (Xk code Q0 acS bs ac cc Fc kk (2:Int) H1 N1 K1 qg qg qg) ?_
   clear H H1 N1 K1
   rintro _ azo ⟨ace,afk,Dr,Et,ar3,Ex,YU,agJ,rfl,N,H⟩
   obtain rfl:=H.jy 1 rfl
   refine⟨H.pick (zR 5 4) [0,1],(ro 19 rfl<|vg [yI EL,yI 0,Sv Et Dr.length Ex,Sv (aa Mm 0) kk.toNat kk.toNat,Sv (aa AB 0) kk.toNat kk.toNat,yN,yN,yN,Bv false] [(0,yI EL),(2,Sv Et Dr.length Ex),(3,Sv (aa Mm 0) kk.toNat kk.toNat),(4,Sv (aa AB 0) kk.toNat kk.toNat)]<|⟨H.pick (zR 5 4) [0,1],(ro 21 rfl ?_)⟩)⟩
   refine xx H 3 [yI EL,yI 0,Sv Et Dr.length Ex,Sv (aa Mm 0) kk.toNat kk.toNat,Sv (aa AB 0) kk.toNat kk.toNat,yN,yN,yN,Bv false] sizeOf70 fun awF H=>?_
   dsimp only[List.set] at H
   refine⟨H.pick (zR 5 4) [0,1],(xC qh ((meet ⟨_,Q0,EL,ace,Dr,Jj,Et,Ex,Mm,AB,afk,uE5,YQ,YA,YU,agJ,N,H.vU 9 2 [3,4,2,0,1,5,6,7,8] [0,1] qo qo⟩)))⟩
  have S:=H.jF [0,2,3,4] [0,1]
  refine rtl 0 S ?_
  refine rtl 1 S ?_
  refine rtl 3 S ?_
  refine rtl 4 S ?_
  refine rtl 5 S ?_
  refine tF 6 rfl rfl S ?_
  refine tL 7 rfl rfl (fun _ h=>h.cell 1 rfl rfl) S ?_
  refine rtl 9 S ?_
  refine rtl 10 S ?_
  refine tF 11 rfl rfl S ?_
  refine tL 12 rfl rfl (fun _ h=>h.cell 1 rfl rfl) S ?_
  refine rtl 14 S ?_
  refine rtl 15 S ?_
  refine tF 16 rfl rfl S ?_
  refine tL 17 rfl rfl (fun _ h=>h.cell 1 rfl rfl) S ?_
  refine zY [2,13,18,20] qh qm<|vG rfl ?_<|vG rfl ?_<|vG rfl ?_<|vG rfl ?_ zZ
  ·have H1:=H.y9 5 2 [1,0,2,3,4] [0,1] qo qo
   have N1:Fresh _ (aG::Ns):=N
   have K1:Kept (Ns) ((xG true aG bH rules)::Γ):=K0.behind 1 rfl
   replace K1:=K1.cons (F:=aG) 0 rfl rfl
   refine ve #[pp bs 0,yI par.length] rfl rfl call43 (Qp code ip sd bs ac cc Fc par.length H1 N1 K1 qg) ?_
   clear H H1 N1 K1
   rintro _ ap6 ⟨sZ,El,wi,wy,uV,rfl,N,H⟩
   refine⟨H.pick (zR 1 4) [0,1],(zY [8,13,18,20] qh qm<|vG rfl ?_<|vG rfl ?_<|vG rfl ?_<|vG rfl ?_ zZ)⟩
   ·have H1:=H.y9 5 2 [0,1,2,3,4] [0,1] qo qo
    have N1:Fresh _ (aG::Ns):=N
    have K1:Kept (Ns) ((xG true aG bH rules)::Γ):=K0.behind 1 rfl
    replace K1:=K1.cons (F:=aG) 0 rfl rfl
    refine ve #[pp bs 0,yI kk,yI 2] rfl rfl call183 (Xk code sZ El bs ac cc Fc kk (2:Int) H1 N1 K1 qg qg qg) ?_
    clear H H1 N1 K1
    rintro _ al5 ⟨Ic,Iy,Kl,Kn,are,I9,HB,I6,rfl,N,H⟩
    obtain rfl:=H.jy 1 rfl
    refine⟨H.pick (zR 2 4) [0,1],(zY [13,18,20] qh qm<|vG rfl ?_<|vG rfl ?_<|vG rfl ?_ zZ)⟩
    ·refine zq H underlying24 ti2 kk.toNat rfl rfl qf qf qf fun aok auz H=>⟨H.pick (zR 3 4) [0,1],(jq L45 ⟨_,sZ,wi,Ic,Kl,Kn,I9,aok,Iy,uE8,wy,uV,HB,I6,N,H⟩)⟩
    ·refine zq H underlying24 ti2 kk.toNat rfl rfl qf qf qf fun ako az4 H=>⟨H.pick (zR 3 4) [0,1],(jq L67 ⟨_,sZ,wi,Ic,Kl,Kn,I9,ako,Iy,uE8,wy,uV,HB,I6,N,H⟩)⟩
    refine xg H ti70 [yI 0,yI 0,yN,yN,yN,yN,yN,yN,Bv false] fun ani azI H=>⟨H.pick (zR 3 4) [0,1],(jq L89 ⟨_,sZ,wi,Ic,Kl,Kn,I9,ani,Iy,uE9,wy,uV,HB,I6,N,H⟩)⟩
   ·refine zq H underlying24 ti2 kk.toNat rfl rfl qf qf qf fun akZ awU H=>⟨H.pick (zR 2 4) [0,1],(jq ad9 ⟨_,sZ,wi,akZ,El,uE9,wy,uV,N,H⟩)⟩
   ·refine zq H underlying24 ti2 kk.toNat rfl rfl qf qf qf fun aly azA H=>⟨H.pick (zR 2 4) [0,1],(jq afQ ⟨_,sZ,wi,aly,El,uE9,wy,uV,N,H⟩)⟩
   refine xg H ti70 [yI 0,yI 0,yN,yN,yN,yN,yN,yN,Bv false] fun aoy avj H=>⟨H.pick (zR 2 4) [0,1],(jq Yt ⟨_,sZ,wi,aoy,El,uE10,wy,uV,N,H⟩)⟩
  ·refine zq H underlying24 ti2 kk.toNat rfl rfl qf qf qf fun Rz axF H=>⟨H.pick [1,3,4,5] [0,1],(zY [2,18,20] qh qm<|vG rfl ?_<|vG rfl ?_<|vG rfl ?_ zZ)⟩
   ·have H1:=H.y9 6 2 [2,0,1,3,4,5] [0,1] qo qo
    have N1:Fresh _ (aG::Ns):=N
    have K1:Kept (Ns) ((xG true aG bH rules)::Γ):=K0.behind 1 rfl
    replace K1:=K1.cons (F:=aG) 0 rfl rfl
    refine ve #[pp bs 0,yI par.length] rfl rfl call43 (Qp code ip sd bs ac cc Fc par.length H1 N1 K1 qg) ?_
    clear H H1 N1 K1
    rintro _ at7 ⟨afc,YL,afo,Zz,aa4,rfl,N,H⟩
    refine⟨H.pick (zR 2 4) [0,1],(jq ad9 ⟨_,afc,afo,Rz,YL,uE9,Zz,aa4,N,H.vU 6 2 [1,0,2,3,4,5] [0,1] qo qo⟩)⟩
   ·refine zq H underlying24 ti2 kk.toNat rfl rfl qf qf qf fun amc aw5 H=>⟨H.pick [2,4,5,6] [0,1],(jq ae3 ⟨_,Rz,amc,uE10,N,H⟩)⟩
   refine xg H ti70 [yI 0,yI 0,yN,yN,yN,yN,yN,yN,Bv false] fun ap3 az3 H=>⟨H.pick [2,4,5,6] [0,1],(jq aaQ ⟨_,Rz,ap3,uE11,N,H⟩)⟩
  ·refine zq H underlying24 ti2 kk.toNat rfl rfl qf qf qf fun S1 awL H=>⟨H.pick [1,3,4,5] [0,1],(zY [2,13,20] qh qm<|vG rfl ?_<|vG rfl ?_<|vG rfl ?_ zZ)⟩
   ·have H1:=H.y9 6 2 [2,0,1,3,4,5] [0,1] qo qo
    have N1:Fresh _ (aG::Ns):=N
    have K1:Kept (Ns) ((xG true aG bH rules)::Γ):=K0.behind 1 rfl
    replace K1:=K1.cons (F:=aG) 0 rfl rfl
    refine ve #[pp bs 0,yI par.length] rfl rfl call43 (Qp code ip sd bs ac cc Fc par.length H1 N1 K1 qg) ?_
    clear H H1 N1 K1
    rintro _ ayY ⟨ahq,adk,abp,aef,ZJ,rfl,N,H⟩
    refine⟨H.pick (zR 2 4) [0,1],(jq afQ ⟨_,ahq,abp,S1,adk,uE9,aef,ZJ,N,H.vU 6 2 [1,0,2,3,4,5] [0,1] qo qo⟩)⟩
   ·refine zq H underlying24 ti2 kk.toNat rfl rfl qf qf qf fun aop awJ H=>⟨H.pick [2,4,5,6] [0,1],(jq ae3 ⟨_,aop,S1,uE10,N,H.vU 7 2 (1::0::zR 2 5) [0,1] qo qo⟩)⟩
   refine xg H ti70 [yI 0,yI 0,yN,yN,yN,yN,yN,yN,Bv false] fun an6 ayz H=>⟨H.pick [2,4,5,6] [0,1],(jq aaM ⟨_,S1,an6,uE11,N,H⟩)⟩
  refine xg H ti70 [yI 0,yI 0,yN,yN,yN,yN,yN,yN,Bv false] fun Sy azC H=>⟨H.pick [1,3,4,5] [0,1],(zY [2,13,18] qh qm<|vG rfl ?_<|vG rfl ?_<|vG rfl ?_ zZ)⟩
  ·have H1:=H.y9 6 2 [2,0,1,3,4,5] [0,1] qo qo
   have N1:Fresh _ (aG::Ns):=N
   have K1:Kept (Ns) ((xG true aG bH rules)::Γ):=K0.behind 1 rfl
   replace K1:=K1.cons (F:=aG) 0 rfl rfl
   refine ve #[pp bs 0,yI par.length] rfl rfl call43 (Qp code ip sd bs ac cc Fc par.length H1 N1 K1 qg) ?_
   clear H H1 N1 K1
   rintro _ aw4 ⟨aa1,ahs,ZP,aah,aey,rfl,N,H⟩
   refine⟨H.pick (zR 2 4) [0,1],(jq Yt ⟨_,aa1,ZP,Sy,ahs,uE10,aah,aey,N,H.vU 6 2 [1,0,2,3,4,5] [0,1] qo qo⟩)⟩
  ·refine zq H underlying24 ti2 kk.toNat rfl rfl qf qf qf fun akm auH H=>⟨H.pick [2,4,5,6] [0,1],(jq aaQ ⟨_,akm,Sy,uE11,N,H.vU 7 2 (1::0::zR 2 5) [0,1] qo qo⟩)⟩
  refine zq H underlying24 ti2 kk.toNat rfl rfl qf qf qf fun aob axi H=>⟨H.pick [2,4,5,6] [0,1],(jq aaM ⟨_,aob,Sy,uE11,N,H.vU 7 2 (1::0::zR 2 5) [0,1] qo qo⟩)⟩
 clear H N
 rintro ρ avJ ⟨xN,Yo,lS,KG,kv,b7,mj,mW,g9,oO,MC,rfl,atJ,asj,asN,atL,N,H⟩
 refine t_n<|zcr<|sq 3<|oF rfl<|oL rfl (H.cell 6 rfl rfl) ?_
 have H1:=H.y9 9 2 [3,0,1,2,4,5,6,7,8] [0,1] qo qo
 have N1:Fresh _ (aG::Ns):=N
 have K1:Kept (Ns) ((xG true aG bH rules)::Γ):=K0.behind 1 rfl
 replace K1:=K1.cons (F:=aG) 0 rfl rfl
 refine sw<|ve #[pp bs 0,yI kk,yI 2] rfl rfl call141 (dFew_ok code KG MC bs ac cc Fc kk (2:Int) H1 N1 K1 qg qg qg) ?_
 clear H H1 N1 K1
 rintro _ awy ⟨aaa,abg,bn,bN,ate,bM,atg,arn,rfl,N,H⟩
 obtain rfl:=H.jy 1 rfl
 refine oF rfl<|sw<|xn H 2 [yI lS,yI 0,Sv mj kv.length mW,Sv (aa g9 0) kk.toNat kk.toNat,Sv (aa oO 0) kk.toNat kk.toNat,Sv bN bn.length bM,yN,yN,Bv false] sizeOf24 fun aj6 H=>?_
 dsimp only[List.set] at H
 refine zjc<|sq 3<|oF rfl<|oL rfl (H.cell 7 rfl rfl) ?_
 have H1:=H.y9 10 2 [0,1,2,3,4,5,6,7,8,9] [0,1] qo qo
 have N1:Fresh _ (aG::Ns):=N
 have K1:Kept (Ns) ((xG true aG bH rules)::Γ):=K0.behind 1 rfl
 replace K1:=K1.cons (F:=aG) 0 rfl rfl
 refine sw<|ve #[pp bs 0,yI kk,yI 1] rfl rfl call141 (dFew_ok code aaa abg bs ac cc Fc kk (1:Int) H1 N1 K1 qg qg qg) ?_
 clear H H1 N1 K1
 rintro _ au4 ⟨aaX,af3,bA,bU,atZ,bV,asZ,aqG,rfl,N,H⟩
 obtain rfl:=H.jy 1 rfl
 refine oF rfl<|sw<|xn H 3 [yI lS,yI 0,Sv mj kv.length mW,Sv (aa g9 0) kk.toNat kk.toNat,Sv (aa oO 0) kk.toNat kk.toNat,Sv bN bn.length bM,Sv bU bA.length bV,yN,Bv false] sizeOf24 fun ac9 H=>?_
 dsimp only[List.set] at H
 refine zjcc<|sq 1 ?_
 have H1:=H.y9 11 2 [0,1,2,3,4,5,6,7,8,9,10] [0,1] qo qo
 have N1:Fresh _ (aG::Ns):=N
 have K1:Kept (Ns) ((xG true aG bH rules)::Γ):=K0.behind 1 rfl
 replace K1:=K1.cons (F:=aG) 0 rfl rfl
 refine sw<|ve #[pp bs 0,yI 5] rfl rfl call41 (dOne_ok code aaX af3 bs ac cc Fc (5:Int) H1 N1 K1 qg) ?_
 clear H H1 N1 K1
 rintro _ alp ⟨NT,Ox,aqf,ara,rfl,N,H⟩
 refine zjn<|VD (fun ρ w477=>∃(xN:Env) (bT:Int) (bh:Int) (Ql:yOA) (Qj:Nat) (Qk:Nat) (lG:yLI),ρ=upd (upd (upd (upd (upd xN 0<|pp bs 0) 1<|pp bY 0) 4<|pp b1 0) 5<|yI par.length) 6 (pp b7 0)/\(vZ kk 1 lG)/\(ip<=bT/\bT<=ip+92)/\Fresh W0.heap.size (aG::Ns)/\St W0 w477 ((.box bs [Sv ac code.length cc,yI bT,.int .u64 bh] 115)::(rr bU bA.length bV 2 1<|bA.map<|Value.int .i64)::(rr bN bn.length bM 2 1<|bn.map<|Value.int .i64)::(.box b7 [yI lS,yI 0,Sv mj kv.length mW,Sv Ql Qj Qk,Sv (aa oO 0) kk.toNat kk.toNat,Sv bN bn.length bM,Sv bU bA.length bV,yN,Bv false] 70)::(rr (aa oO 0) kk.toNat kk.toNat 2 1 ((List.replicate kk.toNat (0:Int)).map<|Value.int .i64))::(rr Ql Qj Qk 2 1<|lG.map<|Value.int .i64)::(rr mj kv.length mW 2 1<|kv.map<|Value.int .i64)::(.box b1 [yI 0,yI 0,yN,yN,yN,yN,yN,yN,Bv false] 70)::(.box bY [yI kk,Sv gu par.length gk,Sv gq rules.length gw] 27)::(rr gu par.length gk 2 1<|par.map<|Value.int .i64)::(rr gq rules.length gw 70 9 bH)::ps) ((sF false Fc ac cc code)::(xG true aG bH rules)::Γ)) ?_ ?_
 ·refine zX _ rfl (fun anz=>?_) (fun anz=>?_)
  ·refine xX (sq 3<|oF rfl<|oL rfl (H.cell 8 rfl rfl) ?_)
   have H1:=H.y9 11 2 [0,1,2,3,4,5,6,7,8,9,10] [0,1] qo qo
   have N1:Fresh _ (aG::Ns):=N
   have K1:Kept (Ns) ((xG true aG bH rules)::Γ):=K0.behind 1 rfl
   replace K1:=K1.cons (F:=aG) 0 rfl rfl
   refine sw<|ve #[pp bs 0,yI kk,yI 1] rfl rfl call183 (Xk code NT Ox bs ac cc Fc kk (1:Int) H1 N1 K1 qg qg qg) ?_
   clear H H1 N1 K1
   rintro _ aAx ⟨ah6,YF,Ib,PF,atf,Oq,ar6,asr,rfl,N,H⟩
   obtain rfl:=H.jy 1 rfl
   refine oF rfl<|sw<|xn H 4 [yI lS,yI 0,Sv mj kv.length mW,Sv PF Ib.length Oq,Sv (aa oO 0) kk.toNat kk.toNat,Sv bN bn.length bM,Sv bU bA.length bV,yN,Bv false] sizeOf24 fun aAz H=>?_
   dsimp only[List.set] at H
   refine xZ<|meet ⟨_,ah6,YF,PF,Ib.length,Oq,Ib,uE5,?_,?_,N,H.vU 12 2 [0,2,3,4,5,1,7,8,9,10,11] [0,1] qo qo⟩
   ·exact(‹vZ kk 1 _/\_›).1
   ·omega
  refine qZ<|meet ⟨_,NT,Ox,(aa g9 0),kk.toNat,kk.toNat,(List.replicate kk.toNat (0:Int)),uE5,?_,?_,N,H⟩
  ·exact vZ.zero qf qf
  ·omega
 clear H N
 rintro ρ ayH ⟨xN,bT,bh,Ql,Qj,Qk,lG,rfl,jh,jhp,N,H⟩
 refine t_n<|zcc<|sq 1 ?_
 have H1:=H.y9 11 2 [0,1,2,3,4,5,6,7,8,9,10] [0,1] qo qo
 have N1:Fresh _ (aG::Ns):=N
 have K1:Kept (Ns) ((xG true aG bH rules)::Γ):=K0.behind 1 rfl
 replace K1:=K1.cons (F:=aG) 0 rfl rfl
 refine sw<|ve #[pp bs 0,yI 5] rfl rfl call41 (dOne_ok code bT bh bs ac cc Fc (5:Int) H1 N1 K1 qg) ?_
 clear H H1 N1 K1
 rintro _ aua ⟨PQ,PM,aro,asi,rfl,N,H⟩
 refine zjn<|VD (fun ρ w497=>∃(xN:Env) (bC:Int) (bF:Int) (QF:yOA) (QC:Nat) (QE:Nat) (mI:yLI),ρ=upd (upd (upd (upd (upd xN 0<|pp bs 0) 1<|pp bY 0) 4<|pp b1 0) 5<|yI par.length) 6 (pp b7 0)/\(vZ kk 1 mI)/\(ip<=bC/\bC<=ip+118)/\Fresh W0.heap.size (aG::Ns)/\St W0 w497 ((.box bs [Sv ac code.length cc,yI bC,.int .u64 bF] 115)::(rr bU bA.length bV 2 1<|bA.map<|Value.int .i64)::(rr bN bn.length bM 2 1<|bn.map<|Value.int .i64)::(.box b7 [yI lS,yI 0,Sv mj kv.length mW,Sv Ql Qj Qk,Sv QF QC QE,Sv bN bn.length bM,Sv bU bA.length bV,yN,Bv false] 70)::(rr QF QC QE 2 1<|mI.map<|Value.int .i64)::(rr Ql Qj Qk 2 1<|lG.map<|Value.int .i64)::(rr mj kv.length mW 2 1<|kv.map<|Value.int .i64)::(.box b1 [yI 0,yI 0,yN,yN,yN,yN,yN,yN,Bv false] 70)::(.box bY [yI kk,Sv gu par.length gk,Sv gq rules.length gw] 27)::(rr gu par.length gk 2 1<|par.map<|Value.int .i64)::(rr gq rules.length gw 70 9 bH)::ps) ((sF false Fc ac cc code)::(xG true aG bH rules)::Γ)) ?_ ?_
 ·refine zX _ rfl (fun SA=>?_) (fun SA=>?_)
  ·refine xX (sq 3<|oF rfl<|oL rfl (H.cell 8 rfl rfl) ?_)
   have H1:=H.y9 11 2 [0,1,2,3,4,5,6,7,8,9,10] [0,1] qo qo
   have N1:Fresh _ (aG::Ns):=N
   have K1:Kept (Ns) ((xG true aG bH rules)::Γ):=K0.behind 1 rfl
   replace K1:=K1.cons (F:=aG) 0 rfl rfl
   refine sw<|ve #[pp bs 0,yI kk,yI 1] rfl rfl call183 (Xk code PQ PM bs ac cc Fc kk (1:Int) H1 N1 K1 qg qg qg) ?_
   clear H H1 N1 K1
   rintro _ auh ⟨agp,ah2,HM,NE,ark,O2,aql,aqq,rfl,N,H⟩
   obtain rfl:=H.jy 1 rfl
   refine oF rfl<|sw<|xn H 4 [yI lS,yI 0,Sv mj kv.length mW,Sv Ql Qj Qk,Sv NE HM.length O2,Sv bN bn.length bM,Sv bU bA.length bV,yN,Bv false] sizeOf24 fun avB H=>?_
   dsimp only[List.set] at H
   refine xZ<|meet ⟨_,agp,ah2,NE,HM.length,O2,HM,uE5,?_,?_,N,H.vU 12 2 (0::2::3::4::1::zR 6 6) [0,1] qo qo⟩
   ·exact(‹vZ kk 1 _/\_›).1
   ·omega
  refine qZ<|meet ⟨_,PQ,PM,(aa oO 0),kk.toNat,kk.toNat,(List.replicate kk.toNat (0:Int)),uE5,?_,?_,N,H⟩
  ·exact vZ.zero qf qf
  ·omega
 clear H N
 rintro ρ ayA ⟨xN,bC,bF,QF,QC,QE,mI,rfl,jl,jlp,N,H⟩
 refine t_n<|zcc<|sq 1 ?_
 have H1:=H.y9 11 2 [0,1,2,3,4,5,6,7,8,9,10] [0,1] qo qo
 have N1:Fresh _ (aG::Ns):=N
 have K1:Kept (Ns) ((xG true aG bH rules)::Γ):=K0.behind 1 rfl
 replace K1:=K1.cons (F:=aG) 0 rfl rfl
 refine sw<|ve #[pp bs 0,yI 4] rfl rfl call41 (dOne_ok code bC bF bs ac cc Fc (4:Int) H1 N1 K1 qg) ?_
 clear H H1 N1 K1
 rintro _ ava ⟨Oc,Ps,aqW,aq5,rfl,N,H⟩
 refine zjn<|VD (fun ρ w517=>∃(xN:Env) (od:Int) (oP:Int) (bW:Int),ρ=upd (upd (upd (upd (upd xN 0<|pp bs 0) 1<|pp bY 0) 4<|pp b1 0) 5<|yI par.length) 6 (pp b7 0)/\(0<=bW/\bW<=2)/\(ip<=od/\od<=ip+122)/\Fresh W0.heap.size (aG::Ns)/\St W0 w517 ((.box bs [Sv ac code.length cc,yI od,.int .u64 oP] 115)::(rr bU bA.length bV 2 1<|bA.map<|Value.int .i64)::(rr bN bn.length bM 2 1<|bn.map<|Value.int .i64)::(.box b7 [yI lS,yI bW,Sv mj kv.length mW,Sv Ql Qj Qk,Sv QF QC QE,Sv bN bn.length bM,Sv bU bA.length bV,yN,Bv false] 70)::(rr QF QC QE 2 1<|mI.map<|Value.int .i64)::(rr Ql Qj Qk 2 1<|lG.map<|Value.int .i64)::(rr mj kv.length mW 2 1<|kv.map<|Value.int .i64)::(.box b1 [yI 0,yI 0,yN,yN,yN,yN,yN,yN,Bv false] 70)::(.box bY [yI kk,Sv gu par.length gk,Sv gq rules.length gw] 27)::(rr gu par.length gk 2 1<|par.map<|Value.int .i64)::(rr gq rules.length gw 70 9 bH)::ps) ((sF false Fc ac cc code)::(xG true aG bH rules)::Γ)) ?_ ?_
 ·refine zX _ rfl (fun apl=>?_) (fun apl=>?_)
  ·refine xX (sq 1 ?_)
   have H1:=H.y9 11 2 [0,1,2,3,4,5,6,7,8,9,10] [0,1] qo qo
   have N1:Fresh _ (aG::Ns):=N
   have K1:Kept (Ns) ((xG true aG bH rules)::Γ):=K0.behind 1 rfl
   replace K1:=K1.cons (F:=aG) 0 rfl rfl
   refine sw<|ve #[pp bs 0,yI 3] rfl rfl call43 (Qp code Oc Ps bs ac cc Fc (3:Int) H1 N1 K1 qg) ?_
   clear H H1 N1 K1
   rintro _ axb ⟨ab4,abX,PY,aqA,ary,rfl,N,H⟩
   refine oF rfl<|sw<|xn H 3 [yI lS,yI PY,Sv mj kv.length mW,Sv Ql Qj Qk,Sv QF QC QE,Sv bN bn.length bM,Sv bU bA.length bV,yN,Bv false] sizeOf2 fun aAv H=>?_
   dsimp only[List.set] at H
   refine xZ<|meet ⟨_,ab4,abX,PY,uE5,?_,?_,N,H⟩
   ·omega
   ·omega
  refine qZ<|meet ⟨_,Oc,Ps,0,uE5,?_,?_,N,H⟩
  ·omega
  ·omega
 clear H N
 rintro ρ avV ⟨xN,od,oP,bW,rfl,jr,jrp,N,H⟩
 refine t_n<|zcc<|sp (yI 1)<|zjn<|xf ?_
 replace H:=H.nilRow 128 2
 replace H:=H.vP (α:=Vw)
 refine zD ((fun Z0 Z1 Z2 Z3 Z4 Z5 Z6 Z7 Z8 Z9 bG=>fun m' ρ aow=>∃(xN:Env) (c:Nat) (iZ:Int) (iy:Int) (Xz:yOA) (y7:Nat) (Xy:Nat) (fw:List Vw) (cC:List Value) (yJ:yLN),ρ=upd (upd (upd (upd (upd (upd xN 0<|pp bs 0) 1<|pp bY 0) 4<|pp b1 0) 5<|yI par.length) 6<|pp b7 0) 7 (yI c)/\((c:Int)<=par.length)/\(ip<=iZ/\iZ<=ip+126+26*c)/\(1<=(c:Int))/\(fw.length<=3/\IntoDr kk par lS fw c)/\m'=(par.length-(c:Int)).toNat/\Fresh W0.heap.size (aG::yJ::Ns)/\St W0 aow ((rr Xz y7 Xy 128 2 cC)::(.box bs [Sv ac code.length cc,yI iZ,.int .u64 iy] 115)::Z0::Z1::(.box b7 [yI lS,yI bW,Sv mj kv.length mW,Sv Ql Qj Qk,Sv QF QC QE,Sv bN bn.length bM,Sv bU bA.length bV,Sv Xz y7 Xy,Bv false] 70)::Z2::Z3::Z4::Z5::Z6::Z7::Z8::ps) ((xG true yJ cC fw)::Z9::bG::Γ)) _ _ _ _ _ _ _ _ _ _ _) ((par.length-(1:Int)).toNat) ⟨_,1,od,oP,none,0,0,([]:List Vw),[],[],uE6,qf,qf,qf,(by exact⟨by simp,IntoDr.nil _ _ _ _⟩),rfl,(N.emp.vU 2 [1,0] qo),H⟩ ?_
 clear H N
 rintro m' ρ ax8 ⟨xN,c,iZ,iy,Xz,y7,Xy,fw,cC,yJ,rfl,i0,i1,i2,i3,rfl,N,H⟩
 have Wt:=H.xQ (α:=Vw) 0 rfl 0 rfl qj
 refine zcc<|sp (yI c)<|sq 2<|zjn<|cD rfl (fun ao4=>?_)<|fun ao4=>?_
 ·refine qZ (t_n<|xU<|xf<|zcr<|sq 1<|sp (yI c)<|oF rfl<|oL rfl (H.cell 4 rfl rfl) ?_)
  obtain⟨azd,arr,an2⟩:=H.XB 10 rfl
  obtain⟨axU,asX,anq⟩:=H.QL (α:=yH) 11 rfl 2 rfl qj
  have c1:CellIn (⟨kk,par,rules⟩:qH) c:=⟨by show (0:Int)<=c;omega,by show (c:Int)<=(par.length:Int)-1;omega⟩
  refine sw<|oq (l02In_ok _ (⟨kk,par,rules⟩:qH) c lS (qC (H.cells 9 rfl) 0 3) an2 anq ql ql) H fun aAF H=>sp (Bv<|dec<|Lies (⟨kk,par,rules⟩:qH).qA lS c) ?_
  cases Lh:(dec (Lies (⟨kk,par,rules⟩:qH).qA lS c))
  ·replace Lh:=vF Lh
   refine xY (zR 81 4)<|sp (Bv false)<|sp (Bv false)<|xY [87,88]<|sp (Bv false)<|zjn<|cFr rfl<|qZ<|b_n<|t_n<|xX<|sp (yI c)<|sw<|zC c 1 rfl rfl qf<|sq 1<|xZ<|xh (m':=(par.length-((c+1):Int)).toNat) qf ⟨_,c+1,_,_,_,_,_,_,_,_,uE6,?_,?_,?_,?_,rfl,N,H⟩
   ·omega
   ·omega
   ·omega
   ·exact⟨by omega,i3.2.mono qf⟩
  replace Lh:=Qc Lh
  refine qP 80 rfl rfl<|oF rfl<|qP 80 rfl rfl<|oL rfl (H.cell 4 rfl rfl)<|qP 80 rfl rfl<|oN rfl<|qP 80 rfl rfl<|sp (Bv<|decide ((y7:Int)<3))<|sp (Bv<|decide ((y7:Int)<3))<|sp (Bv<|decide ((y7:Int)<3)) ?_
  cases K2:(decide ((y7:Int)<3))
  ·replace K2:=of_decide_eq_false K2
   refine xY [87,88]<|sp (Bv false)<|zjn<|cFr rfl<|qZ<|b_n<|t_n<|xX<|sp (yI c)<|sw<|zC c 1 rfl rfl qf<|sq 1<|xZ<|xh (m':=(par.length-((c+1):Int)).toNat) qf ⟨_,c+1,_,_,_,_,_,_,_,_,uE6,?_,?_,?_,?_,rfl,N,H⟩
   ·omega
   ·omega
   ·omega
   ·exact⟨by omega,i3.2.mono qf⟩
  replace K2:=of_decide_eq_true K2
  refine qP 86 rfl rfl<|sq 1<|qP 86 rfl rfl ?_
  have H1:=H.y9 12 3 [1,0,2,3,4,5,6,7,8,9,10,11] [1,0,2] qo qo
  have N1:Fresh _ (aG::yJ::Ns):=N
  have K1:Kept (Ns) ((xG true yJ cC fw)::(xG true aG bH rules)::Γ):=K0.behind 2 rfl
  replace K1:=K1.cons (F:=yJ) 0 rfl rfl
  replace K1:=K1.cons (F:=aG) 1 rfl rfl
  refine sw<|ve #[pp bs 0,yI 3] rfl rfl call41 (dOne_ok code iZ iy bs ac cc Fc (3:Int) H1 N1 K1 qg) ?_
  clear H H1 N1 K1
  rintro _ avq ⟨Ef,OT,PG,atr,rfl,N,H⟩
  refine sp (Bv PG)<|zjn<|zX _ rfl (fun ajm=>?_)<|fun ajm=>?_
  ·refine VD (fun ρ w556=>∃(xN:Env) (DW:Int) (tP:yLI) (Pn:Int) (S8:yOA) (Rm:Nat) (DS:yOA) (C5:Nat) (M7:yLN),ρ=upd (upd (upd (upd (upd (upd (upd (upd (upd (upd (upd (upd xN 0<|pp bs 0) 1<|pp bY 0) 4<|pp b1 0) 5<|yI par.length) 6<|pp b7 0) 7<|yI c) 81<|pp b7<|0+7) 82<|Sv Xz y7 Xy) 83<|yI y7) 84<|Bv true) 87<|pp bs 0) 88 (Bv PG)/\(Ef<=DW/\DW<=Ef+24)/\(vZ kk (1:Int) tP/\Xr tP≠0)/\Fresh W0.heap.size ((yJ++M7)::aG::Ns)/\St W0 w556 ((.box bs [Sv ac code.length cc,yI DW,.int .u64 Pn] 115)::(rr S8 (y7+1) Rm 128 2<|cC++[yI c,Sv DS tP.length C5])::(rr bU bA.length bV 2 1<|bA.map<|Value.int .i64)::(rr bN bn.length bM 2 1<|bn.map<|Value.int .i64)::(.box b7 [yI lS,yI bW,Sv mj kv.length mW,Sv Ql Qj Qk,Sv QF QC QE,Sv bN bn.length bM,Sv bU bA.length bV,Sv S8 (y7+1) Rm,Bv false] 70)::(rr QF QC QE 2 1<|mI.map<|Value.int .i64)::(rr Ql Qj Qk 2 1<|lG.map<|Value.int .i64)::(rr mj kv.length mW 2 1<|kv.map<|Value.int .i64)::(.box b1 [yI 0,yI 0,yN,yN,yN,yN,yN,yN,Bv false] 70)::(.box bY [yI kk,Sv gu par.length gk,Sv gq rules.length gw] 27)::(rr gu par.length gk 2 1<|par.map<|Value.int .i64)::(rr gq rules.length gw 70 9 bH)::ps) ((xG true (yJ++M7) (cC++[yI c,Sv DS tP.length C5])<|fw++[(⟨c,tP⟩:Vw)])::(sF true M7 DS C5 tP)::(sF false Fc ac cc code)::(xG true aG bH rules)::Γ)) ?_ ?_
   ·refine XT rfl H [2,3,5,6,7,8,9,10,11] [0,1,2] fun H=>?_
    have S:=H.jF (2::3::zR 5 7) [0,1,2]
    refine tF 0 rfl rfl S ?_
    refine rtp 2 (yI c) S ?_
    refine rtl 3 S ?_
    refine rtl 4 S ?_
    refine rtl 5 S ?_
    refine tF 6 rfl rfl S ?_
    refine tL 7 rfl rfl (fun _ h=>h.cell 6 rfl rfl) S ?_
    refine zY [1,8] qh qm<|vG rfl ?_<|vG rfl ?_ zZ
    ·refine zB (Sv Xz y7 Xy) isAgg68 rfl (H.cell 4 rfl rfl) (⟨H.pick (2::3::zR 5 7) [0,1,2],(ro 8 rfl ?_)⟩)
     have H1:=H.y9 12 3 [0,1,2,3,4,5,6,7,8,9,10,11] [0,1,2] qo qo
     have N1:Fresh _ (aG::yJ::Ns):=N
     have K1:Kept (Ns) ((xG true yJ cC fw)::(xG true aG bH rules)::Γ):=K0.behind 2 rfl
     replace K1:=K1.cons (F:=yJ) 0 rfl rfl
     replace K1:=K1.cons (F:=aG) 1 rfl rfl
     refine ve #[pp bs 0,yI kk,yI 1] rfl rfl call183 (Xk code Ef OT bs ac cc Fc kk (1:Int) H1 N1 K1 qg qg qg) ?_
     clear H H1 N1 K1
     rintro _ auK ⟨adc,acn,Ez,Dt,arq,D7,ahW,aap,rfl,N,H⟩
     obtain rfl:=H.jy 1 rfl
     refine⟨H.pick (3::4::zR 6 7) [0,1,2],(ro 9 rfl<|vg [yI c,Sv Dt Ez.length D7] [(0,yI c),(1,Sv Dt Ez.length D7)]<|⟨H.pick (3::4::zR 6 7) [0,1,2],(ro 10 rfl<|zl H underlying68 ti128 [yI c,Sv Dt Ez.length D7] fun aAi avm H=>⟨H.pick (4::5::zR 7 7) [0,1,2],(ro 11 rfl ?_)⟩)⟩)⟩
     obtain⟨acw,N,aqe,H⟩:=H.zQ 2 rfl N<|fun F hF b hb=>(List.mem_append.1<|show F∈[aG,yJ]++Ns from hF).elim (fun h=>(H.vX (L:=[aG,yJ]) [2,1]) F h b hb) fun h=>H.XI (K0.behind 3 rfl) F h b hb
     dsimp only[List.set] at H
     refine zt H 3 rfl 0 rfl underlying68 ti128 rfl qj rfl rfl rfl qw qp qf fun ZF ahj au0 H=>?_
     dsimp only[List.set] at H
     replace H:=H.snoc_IntoD 2 rfl c 0 rfl
     replace N:Fresh W0.heap.size ((yJ++acw)::aG::Ns):=(N.vU 3 [2,0,1] qo).join
     refine⟨H.pick (4::5::zR 7 7) [2,3,4],(tF 12 rfl rfl (H.pick (4::5::zR 7 7) [2,3,4]) ?_)⟩
     refine ro 13 rfl<|xn H 6 [yI lS,yI bW,Sv mj kv.length mW,Sv Ql Qj Qk,Sv QF QC QE,Sv bN bn.length bM,Sv bU bA.length bV,Sv ZF (y7+1) ahj,Bv false] sizeOf68 fun azg H=>?_
     dsimp only[List.set] at H
     refine⟨H.pick (4::5::zR 7 7) [2,3,4],(xC qh ((meet ⟨_,adc,Ez,acn,ZF,ahj,Dt,D7,acw,uE12,ahW,aap,N,H.vU 14 5 (1::zR 3 11) [0,1,2,4] qo qo⟩)))⟩
    have H1:=H.y9 12 3 [0,1,2,3,4,5,6,7,8,9,10,11] [0,1,2] qo qo
    have N1:Fresh _ (aG::yJ::Ns):=N
    have K1:Kept (Ns) ((xG true yJ cC fw)::(xG true aG bH rules)::Γ):=K0.behind 2 rfl
    replace K1:=K1.cons (F:=yJ) 0 rfl rfl
    replace K1:=K1.cons (F:=aG) 1 rfl rfl
    refine ve #[pp bs 0,yI kk,yI 1] rfl rfl call183 (Xk code Ef OT bs ac cc Fc kk (1:Int) H1 N1 K1 qg qg qg) ?_
    clear H H1 N1 K1
    rintro _ avt ⟨JA,Hi,mn,mo,aqn,mm,H2,HN,rfl,N,H⟩
    obtain rfl:=H.jy 1 rfl
    refine⟨H.pick (3::4::zR 6 7) [0,1,2],(zY [1,9] qh qm<|vG rfl ?_<|vG rfl ?_ zZ)⟩
    ·refine zB (Sv Xz y7 Xy) isAgg68 rfl (H.cell 5 rfl rfl) (⟨H.pick (3::4::zR 6 7) [0,1,2],(ro 9 rfl<|vg [yI c,Sv mo mn.length mm] [(0,yI c),(1,Sv mo mn.length mm)]<|⟨H.pick (3::4::zR 6 7) [0,1,2],(ro 10 rfl<|zl H underlying68 ti128 [yI c,Sv mo mn.length mm] fun awB azm H=>⟨H.pick (4::5::zR 7 7) [0,1,2],(ro 11 rfl ?_)⟩)⟩)⟩)
     obtain⟨aaN,N,ar4,H⟩:=H.zQ 2 rfl N<|fun F hF b hb=>(List.mem_append.1<|show F∈[aG,yJ]++Ns from hF).elim (fun h=>(H.vX (L:=[aG,yJ]) [2,1]) F h b hb) fun h=>H.XI (K0.behind 3 rfl) F h b hb
     dsimp only[List.set] at H
     refine zt H 3 rfl 0 rfl underlying68 ti128 rfl qj rfl rfl rfl qw qp qf fun aeR aem ayF H=>?_
     dsimp only[List.set] at H
     replace H:=H.snoc_IntoD 2 rfl c 0 rfl
     replace N:Fresh W0.heap.size ((yJ++aaN)::aG::Ns):=(N.vU 3 [2,0,1] qo).join
     refine⟨H.pick (4::5::zR 7 7) [2,3,4],(tF 12 rfl rfl (H.pick (4::5::zR 7 7) [2,3,4]) ?_)⟩
     refine ro 13 rfl<|xn H 6 [yI lS,yI bW,Sv mj kv.length mW,Sv Ql Qj Qk,Sv QF QC QE,Sv bN bn.length bM,Sv bU bA.length bV,Sv aeR (y7+1) aem,Bv false] sizeOf68 fun auj H=>?_
     dsimp only[List.set] at H
     refine⟨H.pick (4::5::zR 7 7) [2,3,4],(xC qh ((meet ⟨_,JA,mn,Hi,aeR,aem,mo,mm,aaN,uE12,H2,HN,N,H.vU 14 5 (1::zR 3 11) [0,1,2,4] qo qo⟩)))⟩
    refine vg [yI c,Sv mo mn.length mm] [(0,yI c),(1,Sv mo mn.length mm)]<|⟨H.pick (3::4::zR 6 7) [0,1,2],(zY [1,10] qh qm<|vG rfl ?_<|vG rfl ?_ zZ)⟩
    ·refine zB (Sv Xz y7 Xy) isAgg68 rfl (H.cell 5 rfl rfl) (⟨H.pick (3::4::zR 6 7) [0,1,2],(ro 10 rfl<|zl H underlying68 ti128 [yI c,Sv mo mn.length mm] fun azp ax9 H=>⟨H.pick (4::5::zR 7 7) [0,1,2],(ro 11 rfl ?_)⟩)⟩)
     obtain⟨aeJ,N,aqD,H⟩:=H.zQ 2 rfl N<|fun F hF b hb=>(List.mem_append.1<|show F∈[aG,yJ]++Ns from hF).elim (fun h=>(H.vX (L:=[aG,yJ]) [2,1]) F h b hb) fun h=>H.XI (K0.behind 3 rfl) F h b hb
     dsimp only[List.set] at H
     refine zt H 3 rfl 0 rfl underlying68 ti128 rfl qj rfl rfl rfl qw qp qf fun afB agj avD H=>?_
     dsimp only[List.set] at H
     replace H:=H.snoc_IntoD 2 rfl c 0 rfl
     replace N:Fresh W0.heap.size ((yJ++aeJ)::aG::Ns):=(N.vU 3 [2,0,1] qo).join
     refine⟨H.pick (4::5::zR 7 7) [2,3,4],(tF 12 rfl rfl (H.pick (4::5::zR 7 7) [2,3,4]) ?_)⟩
     refine ro 13 rfl<|xn H 6 [yI lS,yI bW,Sv mj kv.length mW,Sv Ql Qj Qk,Sv QF QC QE,Sv bN bn.length bM,Sv bU bA.length bV,Sv afB (y7+1) agj,Bv false] sizeOf68 fun avh H=>?_
     dsimp only[List.set] at H
     refine⟨H.pick (4::5::zR 7 7) [2,3,4],(xC qh ((meet ⟨_,JA,mn,Hi,afB,agj,mo,mm,aeJ,uE12,H2,HN,N,H.vU 14 5 (1::zR 3 11) [0,1,2,4] qo qo⟩)))⟩
    refine zl H underlying68 ti128 [yI c,Sv mo mn.length mm] fun aAu axg H=>⟨H.pick (4::5::zR 7 7) [0,1,2],(ro 1 rfl<|zB (Sv Xz y7 Xy) isAgg68 rfl (H.cell 6 rfl rfl)<|⟨H.pick (4::5::zR 7 7) [0,1,2],(ro 11 rfl ?_)⟩)⟩
    obtain⟨acg,N,atH,H⟩:=H.zQ 2 rfl N<|fun F hF b hb=>(List.mem_append.1<|show F∈[aG,yJ]++Ns from hF).elim (fun h=>(H.vX (L:=[aG,yJ]) [2,1]) F h b hb) fun h=>H.XI (K0.behind 3 rfl) F h b hb
    dsimp only[List.set] at H
    refine zt H 3 rfl 0 rfl underlying68 ti128 rfl qj rfl rfl rfl qw qp qf fun afN aec azR H=>?_
    dsimp only[List.set] at H
    replace H:=H.snoc_IntoD 2 rfl c 0 rfl
    replace N:Fresh W0.heap.size ((yJ++acg)::aG::Ns):=(N.vU 3 [2,0,1] qo).join
    refine⟨H.pick (4::5::zR 7 7) [2,3,4],(tF 12 rfl rfl (H.pick (4::5::zR 7 7) [2,3,4]) ?_)⟩
    refine ro 13 rfl<|xn H 6 [yI lS,yI bW,Sv mj kv.length mW,Sv Ql Qj Qk,Sv QF QC QE,Sv bN bn.length bM,Sv bU bA.length bV,Sv afN (y7+1) aec,Bv false] sizeOf68 fun aAT H=>?_
    dsimp only[List.set] at H
    refine⟨H.pick (4::5::zR 7 7) [2,3,4],(xC qh ((meet ⟨_,JA,mn,Hi,afN,aec,mo,mm,acg,uE12,H2,HN,N,H.vU 14 5 (1::zR 3 11) [0,1,2,4] qo qo⟩)))⟩
   clear H N
   rintro ρ avN ⟨xN,DW,tP,Pn,S8,Rm,DS,C5,M7,rfl,arY,asG,N,H⟩
   refine b_n<|t_n<|xX<|sp (yI c)<|sw<|zC c 1 rfl rfl qf<|sq 1<|xZ<|xh (m':=(par.length-((c+1):Int)).toNat) qf ⟨_,c+1,_,_,_,_,_,_,_,_,uE6,?_,?_,?_,?_,rfl,(N.vU 2 [1,0] qo),H.vU 12 4 (1::0::zR 2 10) [0,2,3] qo qo⟩
   ·omega
   ·omega
   ·omega
   ·exact⟨by simp;omega,i3.2.snoc qf ‹Lies par _ _› (‹vZ kk 1 _/\_›).1 (‹vZ kk 1 _/\_›).2⟩
  refine qZ<|b_n<|t_n<|xX<|sp (yI c)<|sw<|zC c 1 rfl rfl qf<|sq 1<|xZ<|xh (m':=(par.length-((c+1):Int)).toNat) qf ⟨_,c+1,_,_,_,_,_,_,_,_,uE6,?_,?_,?_,?_,rfl,N,H.vU 12 3 (1::0::zR 2 10) [1,0,2] qo qo⟩
  ·omega
  ·omega
  ·omega
  ·exact⟨by omega,i3.2.mono qf⟩
 refine zx4<|zcr<|oF rfl<|oL rfl (H.cell 4 rfl rfl)<|sp (Bv<|decide ((lS:Int)>0))<|sp (Bv<|decide ((lS:Int)>0)) ?_
 cases MM:(decide ((lS:Int)>0))
 ·replace MM:=of_decide_eq_false MM
  refine xY [107,108]<|sp (Bv false)<|oF rfl<|sw<|xn H 4 [yI lS,yI bW,Sv mj kv.length mW,Sv Ql Qj Qk,Sv QF QC QE,Sv bN bn.length bM,Sv bU bA.length bV,Sv Xz y7 Xy,Bv false] sizeOf4 fun azu H=>?_
  dsimp only[List.set] at H
  refine zjc<|sw<|xy [yI lS,yI bW,Sv mj kv.length mW,Sv Ql Qj Qk,Sv QF QC QE,Sv bN bn.length bM,Sv bU bA.length bV,Sv Xz y7 Xy,Bv false] isAgg70 sizeOf70 rfl (qC (H.cells 4 rfl) 0 9)<|sw<|xx H 8 [yI lS,yI bW,Sv mj kv.length mW,Sv Ql Qj Qk,Sv QF QC QE,Sv bN bn.length bM,Sv bU bA.length bV,Sv Xz y7 Xy,Bv false] sizeOf70 fun awY H=>?_
  dsimp only[List.set] at H
  refine zjr<|retC H 8 rfl rfl isAgg70 sizeOf70 rfl ⟨_,rfl,?_⟩
  have he:(c:Int)=par.length:=by omega
  exact⟨iZ,iy,lS,bW,kv,lG,mI,bn,bA,fw,false,mj,kv.length,mW,Ql,Qj,Qk,QF,QC,QE,bN,bn.length,bM,bU,bA.length,bV,Xz,y7,Xy,cC,yJ,qf,(by exact ruleDr_of qf qg (by exact(fun h=>by cases h)) ql jh jl ql ql ⟨i3.1,he▸i3.2⟩),rfl,N,H.vU 12 3 [1,9,10,11,7,6,5,3,2,0] [1,2,0] qo qo⟩
 replace MM:=of_decide_eq_true MM
 refine qP 106 rfl rfl<|sq 1<|qP 106 rfl rfl ?_
 have H1:=H.y9 12 3 [1,0,2,3,4,5,6,7,8,9,10,11] [1,0,2] qo qo
 have N1:Fresh _ (aG::yJ::Ns):=N
 have K1:Kept (Ns) ((xG true yJ cC fw)::(xG true aG bH rules)::Γ):=K0.behind 2 rfl
 replace K1:=K1.cons (F:=yJ) 0 rfl rfl
 replace K1:=K1.cons (F:=aG) 1 rfl rfl
 refine sw<|ve #[pp bs 0,yI 6] rfl rfl call41 (dOne_ok code iZ iy bs ac cc Fc (6:Int) H1 N1 K1 qg) ?_
 clear H H1 N1 K1
 rintro _ ay7 ⟨act,Zt,Au,asM,rfl,N,H⟩
 refine sp (Bv Au)<|oF rfl<|sw<|xn H 4 [yI lS,yI bW,Sv mj kv.length mW,Sv Ql Qj Qk,Sv QF QC QE,Sv bN bn.length bM,Sv bU bA.length bV,Sv Xz y7 Xy,Bv Au] sizeOf4 fun ayl H=>?_
 dsimp only[List.set] at H
 refine zjc<|sw<|xy [yI lS,yI bW,Sv mj kv.length mW,Sv Ql Qj Qk,Sv QF QC QE,Sv bN bn.length bM,Sv bU bA.length bV,Sv Xz y7 Xy,Bv Au] isAgg70 sizeOf70 rfl (qC (H.cells 4 rfl) 0 9)<|sw<|xx H 8 [yI lS,yI bW,Sv mj kv.length mW,Sv Ql Qj Qk,Sv QF QC QE,Sv bN bn.length bM,Sv bU bA.length bV,Sv Xz y7 Xy,Bv Au] sizeOf70 fun aAA H=>?_
 dsimp only[List.set] at H
 refine zjr<|retC H 8 rfl rfl isAgg70 sizeOf70 rfl ⟨_,rfl,?_⟩
 have he:(c:Int)=par.length:=by omega
 exact⟨act,Zt,lS,bW,kv,lG,mI,bn,bA,fw,Au,mj,kv.length,mW,Ql,Qj,Qk,QF,QC,QE,bN,bn.length,bM,bU,bA.length,bV,Xz,y7,Xy,cC,yJ,qf,(by exact ruleDr_of qf qg (by exact(fun _=>by omega)) ql jh jl ql ql ⟨i3.1,he▸i3.2⟩),rfl,N,H.vU 12 3 [0,9,10,11,7,6,5,3,2,1] [0,2,1] qo qo⟩
end
end Go.Proofs.YtdhklgjmiamiaaaGreat
