/- Walks and laws, printed by program and by hand: what each function comes to, for all arguments, part 8. -/
import Derived.Test.YtghikkinnchndaaGreatA7
import Derived.Test.YtghikkinnchndaaGreatRows
import Derived.ProofKit
import Derived.OpenShut
import Derived.Carry
import Derived.BigQuiet
import Derived.Lib.SmallJoins
namespace Go.Proofs.YtghikkinnchndaaGreat
open Go.Proofs.Tryz
set_option linter.unusedVariables false
set_option linter.unusedSimpArgs false
set_option maxRecDepth 100000
set_option maxHeartbeats 4000000
open Go.RowKit
open Go.Proofs.Tryz
open Go.Proofs.YtghikkinnchndaaGreat.Tot (tot)
open Go.Proofs.YtghikkinnchndaaGreat.Mark (dc mrk mkd mkd_mark cnt_mark)
variable{K c i j k n p q qL xI xh xy zq:Nat}{P:Program}{d:zG}{e t:TypeId}{jM vV xN zN zZ:yLN}{qM xC xK xm zB:yOA}{r:Int}{v:zO}{w:World}{x y:zI}
section
theorem roundsAfter_ok(w:World)(s:qJ)(own:yLI)(t:qV)(ds:List Qu){fu:yOA}{fa:Nat}{lY:yLN}{uh:yOA}{tO:Nat}{Gx:yLN}(qZ:zP w xN qM qL s.qA)(xM:zP w zN xm xh s.qB)(ee:zP w lY fu fa own)(zS:zP w vV xK xI t.qO)(vK:zP w jM zB zq t.qG)(zi:zP w zZ xC xy t.qF)(IP:zP w Gx uh tO ds)(p0:Giv s own (nSrv own))(p1:XH own (nSrv own))(p2:zA s t)(p3:ds.length<=400)(p4:∀k,k<ds.length->VT ds[k]!)(p5:Still s)(p6:Whole t):Calls Tryz.prog 15 #[.agg #[.int .i64 s.qQ,Sv qM s.qA.length qL,Sv xm s.qB.length xh],Sv fu own.length fa,.agg #[Sv xK t.qO.length xI,Sv zB t.qG.length zq,Sv xC t.qF.length xy],Sv uh ds.length tO] w (Ret (fun v w'=>∃(ra0:yOA) (rn0:Nat) (rc0:Nat),v=.tuple #[Sv ra0 rn0 rc0,.int .i64 0]/\Fresh w.heap.size []/\St w w' [rr ra0 rn0 rc0 2 1 ((jY (x9 s own (xk s own t<|nSrv own) ds ds.length).1.qE (x9 s own (xk s own t<|nSrv own) ds ds.length).1.qE.length).map<|Value.int .i64)] []) w):=by
 refine en Tryz.func15 Tryz.ntmps15 ?_
 have H:=(((((((St.start w).arg IP).arg zi).arg vK).arg zS).arg ee).arg xM).arg qZ
 have jP:=qN xM
 have QM:=qN zS
 have Xt:=qN vK
 have Qe:=qN zi
 clear qZ xM ee zS vK zi IP
 have N:=Fresh.nil w.heap.size
 have A:=H.ltN (L:=[xN,zN,lY,vV,jM,zZ,Gx])<|zR 0 7
 obtain⟨n,hn⟩:∃z,nSrv own=z:=⟨_,rfl⟩
 rw[hn] at p0 p1 ⊢
 have q1:=p0.sys
 have q2:own.length=s.qA.length:=p0.len
 have q3:∃n,XH own n:=⟨n,p1⟩
 have tk:Vo s own n (x9 s own (xk s own t n) ds ds.length).1:=run_ok p0 (begin_ok p0 p2) p4 ds.length<|Nat.le_refl _
 have tl:=tk.len
 have q4:=p0.few
 refine zcr<|sw<|jb H [.int .i64 s.qQ,Sv qM s.qA.length qL,Sv xm s.qB.length xh] fun b1 w2 H=>sw<|jb H [Sv xK t.qO.length xI,Sv zB t.qG.length zq,Sv xC t.qF.length xy] fun b3 w4 H=>sq 1<|sp (.int .i64 0)<|zjcc<|sw<|xW [.int .i64 s.qQ,Sv qM s.qA.length qL,Sv xm s.qB.length xh] isAgg27 sizeOf27 J (qH (H.cells 1 J) 0 3)<|sq 1<|sw<|xW [Sv xK t.qO.length xI,Sv zB t.qG.length zq,Sv xC t.qF.length xy] isAgg31 sizeOf31 J (qH (H.cells 0 J) 0 3)<|sq 1<|sw<|oq (deedsCode_ok _ s own t ds (H.get 0 J).1 (H.get 1 J).1 (H.get 2 J).1 (H.get 3 J).1 (H.get 4 J).1 (H.get 5 J).1 (H.get 6 J).1 qg qg qg qg qg qg qg qg) H fun w6 H=>sp (.int .i64 0)<|zjc<|sp (.int .i64 0)<|sp (Bv false)<|zjn<|cFr J<|xe<|t_n<|zcr<|sw<|xW [.int .i64 s.qQ,Sv qM s.qA.length qL,Sv xm s.qB.length xh] isAgg27 sizeOf27 J (qH (H.cells 1 J) 0 3)<|sq 1<|sw<|xW [Sv xK t.qO.length xI,Sv zB t.qG.length zq,Sv xC t.qF.length xy] isAgg31 sizeOf31 J (qH (H.cells 0 J) 0 3)<|sq 1 ?_
 have H1:St w w6 [.box b3 [Sv xK t.qO.length xI,Sv zB t.qG.length zq,Sv xC t.qF.length xy] 31,.box b1 [.int .i64 s.qQ,Sv qM s.qA.length qL,Sv xm s.qB.length xh] 27] [sF false xN qM qL s.qA,sF false zN xm xh s.qB,sF false lY fu fa own,sF false vV xK xI t.qO,sF false jM zB zq t.qG,sF false zZ xC xy t.qF,sF false Gx uh tO ds]:=H.pick [0,1]<|zR 0 7
 have N1:Fresh _ []:=N
 have K1:Kept [] []:=Kept.nil _
 refine sw<|zT #[.agg #[.int .i64 s.qQ,Sv qM s.qA.length qL,Sv xm s.qB.length xh],Sv fu own.length fa,.agg #[Sv xK t.qO.length xI,Sv zB t.qG.length zq,Sv xC t.qF.length xy],Sv uh ds.length tO] J J call27 (after_ok s own qM qL xN xm xh zN fu fa lY t xK xI vV zB zq jM xC xy zZ n ds uh tO Gx H1 N1 K1 qg qg qg qg qg<|xU (A _<|List.mem_of_getElem? (i:=0) J)<|xU (A _<|List.mem_of_getElem? (i:=1) J)<|xU (A _<|List.mem_of_getElem? (i:=2) J)<|xU (A _<|List.mem_of_getElem? (i:=3) J)<|xU (A _<|List.mem_of_getElem? (i:=4) J)<|xU (A _<|List.mem_of_getElem? (i:=5) J)<|xU (A _<|List.mem_of_getElem? (i:=6) J) olds_none) ?_
 clear H H1 N1 K1
 rintro _ w8 ⟨az7,sj,agK,J0,FM,GO,GG,aOK,aLF,aOV,Du,rfl,N,H⟩
 obtain rfl:=H.xf (α:=zI) 1 rfl 7 rfl qj
 obtain rfl:=H.xf (α:=zC) 2 rfl 8 rfl qj
 refine sq 5<|zjc<|sq 1<|sw<|vF #[.pointer<|some ⟨az7,0,none⟩] J J call35<|en Tryz.func35 Tryz.ntmps35 ?_
 refine zcr<|sq 1<|zjc<|sw<|jS H underlying24 ti2 fun t7 MJ H=>sq 1<|zjcc<|sq 2<|oF J<|oF J<|oL J (H.cell 1 J J)<|oN J<|sp (.int .i64 0)<|zjn<|xg ?_
 replace H:=H.boxRowI 0 [] 0
 refine vk ((fun Z0 Z1 Z2 Z3 Z4 Z5 Z6 Z7 Z8 Z9 dU eC fe fR=>fun m' ρ E8=>∃(xR:Env) (yK:yOA) (yA:Nat) (yJ:Nat) (out:yLI) (ba:Nat),ρ=upd (upd (upd (upd xR 3<|Sv yK yA yJ) 11<|Sv sj (((x9 s own (xk s own t n) ds ds.length).1.qE).length) J0) 12<|.int .i64 (((x9 s own (xk s own t n) ds ds.length).1.qE).length)) 13 (.int .i64 ba)/\out=jY (x9 s own (xk s own t n) ds ds.length).1.qE ba/\((ba:Int)<=(((x9 s own (xk s own t n) ds ds.length).1.qE).length))/\m'=((((x9 s own (xk s own t n) ds ds.length).1.qE).length)-(ba:Int)).toNat/\Fresh w.heap.size [GO,Du]/\St w E8 [rr yK yA yJ 2 1<|out.map<|Value.int .i64,Z0,Z1,Z2,Z3,Z4] [Z5,Z6,Z7,Z8,Z9,dU,eC,fe,fR]) _ _ _ _ _ _ _ _ _ _ _ _ _ _) (((((x9 s own (xk s own t n) ds ds.length).1.qE).length)-(0:Int)).toNat) ⟨_,(some ⟨t7,0,none⟩),0,0,([]:yLI),0,uE4,(by rfl),qf,J,N,H⟩ ?_
 clear H N
 rintro m' ρ Gw ⟨xR,yK,yA,yJ,out,ba,rfl,rfl,i0,rfl,N,H⟩
 have VS:=H.yt 0 J
 have rl:(jY (x9 s own (xk s own t n) ds ds.length).1.qE ba).length=ba:=rounds_len
 refine zcr<|sq 1<|zjn<|xO<|cD J (fun R4=>?_)<|fun R4=>?_
 ·refine xe (t_n<|xO<|xg<|zcr ?_)
  obtain⟨IC,rfl⟩:=H.jm 2 rfl qf
  refine oI J J ?_
  obtain⟨pU,pH,TX,m3,nC,Oe,tr,sE,Yn,mH,md,OM,sN,tn,ZE,qu,pI,Uz,nZ,og,Rv,lQ,lX,LF,pG,qd,Up,lG,lR,LY,qT,pP,SV,oi,oh,Rt,On,H⟩:=H.part_ServerD QI.refl 2 rfl 7 rfl rfl ba qf
  refine sw<|xW [.int .i64 (((((x9 s own (xk s own t n) ds ds.length).1.qE)[ba]!).qC).qK),Sv pU ((((((x9 s own (xk s own t n) ds ds.length).1.qE)[ba]!).qC).qG).length) pH,Sv m3 ((((((x9 s own (xk s own t n) ds ds.length).1.qE)[ba]!).qC).qF).length) nC,Bv (((((x9 s own (xk s own t n) ds ds.length).1.qE)[ba]!).qC).qY),Sv tr ((((((x9 s own (xk s own t n) ds ds.length).1.qE)[ba]!).qC).jA).length) sE,Sv mH ((((((x9 s own (xk s own t n) ds ds.length).1.qE)[ba]!).qC).qU).length) md,Sv sN ((((((x9 s own (xk s own t n) ds ds.length).1.qE)[ba]!).qC).jH).length) tn,Sv qu ((((((x9 s own (xk s own t n) ds ds.length).1.qE)[ba]!).qC).zM).length) pI,.int .i64 (((((x9 s own (xk s own t n) ds ds.length).1.qE)[ba]!).qR).qK),Sv nZ ((((((x9 s own (xk s own t n) ds ds.length).1.qE)[ba]!).qR).qG).length) og,Sv lQ ((((((x9 s own (xk s own t n) ds ds.length).1.qE)[ba]!).qR).qF).length) lX,Bv (((((x9 s own (xk s own t n) ds ds.length).1.qE)[ba]!).qR).qY),Sv pG ((((((x9 s own (xk s own t n) ds ds.length).1.qE)[ba]!).qR).jA).length) qd,Sv lG ((((((x9 s own (xk s own t n) ds ds.length).1.qE)[ba]!).qR).qU).length) lR,Sv qT ((((((x9 s own (xk s own t n) ds ds.length).1.qE)[ba]!).qR).jH).length) pP,Sv oi ((((((x9 s own (xk s own t n) ds ds.length).1.qE)[ba]!).qR).zM).length) oh] isAgg49 sizeOf49 J (fun r v hv=>H.zD 2 J (On r v hv) qf)<|sw<|x8 H ti49 [.int .i64 0,Sv none 0 0,Sv none 0 0,Bv false,Sv none 0 0,Sv none 0 0,Sv none 0 0,Sv none 0 0,.int .i64 0,Sv none 0 0,Sv none 0 0,Bv false,Sv none 0 0,Sv none 0 0,Sv none 0 0,Sv none 0 0] fun Ey Ui H=>?_
  refine sw<|xZ H 0 [.int .i64 (((((x9 s own (xk s own t n) ds ds.length).1.qE)[ba]!).qC).qK),Sv pU ((((((x9 s own (xk s own t n) ds ds.length).1.qE)[ba]!).qC).qG).length) pH,Sv m3 ((((((x9 s own (xk s own t n) ds ds.length).1.qE)[ba]!).qC).qF).length) nC,Bv (((((x9 s own (xk s own t n) ds ds.length).1.qE)[ba]!).qC).qY),Sv tr ((((((x9 s own (xk s own t n) ds ds.length).1.qE)[ba]!).qC).jA).length) sE,Sv mH ((((((x9 s own (xk s own t n) ds ds.length).1.qE)[ba]!).qC).qU).length) md,Sv sN ((((((x9 s own (xk s own t n) ds ds.length).1.qE)[ba]!).qC).jH).length) tn,Sv qu ((((((x9 s own (xk s own t n) ds ds.length).1.qE)[ba]!).qC).zM).length) pI,.int .i64 (((((x9 s own (xk s own t n) ds ds.length).1.qE)[ba]!).qR).qK),Sv nZ ((((((x9 s own (xk s own t n) ds ds.length).1.qE)[ba]!).qR).qG).length) og,Sv lQ ((((((x9 s own (xk s own t n) ds ds.length).1.qE)[ba]!).qR).qF).length) lX,Bv (((((x9 s own (xk s own t n) ds ds.length).1.qE)[ba]!).qR).qY),Sv pG ((((((x9 s own (xk s own t n) ds ds.length).1.qE)[ba]!).qR).jA).length) qd,Sv lG ((((((x9 s own (xk s own t n) ds ds.length).1.qE)[ba]!).qR).qU).length) lR,Sv qT ((((((x9 s own (xk s own t n) ds ds.length).1.qE)[ba]!).qR).jH).length) pP,Sv oi ((((((x9 s own (xk s own t n) ds ds.length).1.qE)[ba]!).qR).zM).length) oh] sizeOf49 fun w31 H=>(zjn<|zf<|sq 1<|oF J<|oF J<|oL J (H.cell 0 J J)<|sw<|zH H underlying24 ti2 [.int .i64 (((((x9 s own (xk s own t n) ds ds.length).1.qE)[ba]!).qC).qK)] fun Me w33 H=>sw<|zQ H 2 J 0 J underlying24 ti2 J qj J J J qw qp qf fun a34 c35 JP H=>?_)
  rw[snocI] at H
  refine sq 1<|xX<|b_n<|t_n<|zf<|sw<|zY ba 1 J J qf<|sq 1<|xX<|xu (m':=((((x9 s own (xk s own t n) ds ds.length).1.qE).length)-((ba+1):Int)).toNat) qf ⟨_,_,_,_,_,ba+1,uE4,?_,?_,J,N,H.pick (zR 2 6)<|zR 12 9⟩
  ·exact rounds_snoc
  ·omega
 ·refine zx4 (zcr<|sq 2<|zjr<|ret1 (Sv yK yA yJ) J J ⟨_,J,(sq 1<|sp (.int .i64 0)<|zjr<|ret2 (Sv yK yA yJ) (.int .i64 0) J J J ⟨_,J,?_,H.base⟩)⟩)
  obtain rfl:ba=(x9 s own (xk s own t n) ds ds.length).1.qE.length:=by omega
  exact⟨yK,yA,yJ,J,(N.pick []),H.pick [0] []⟩
end
section
theorem implRun_ok(w:World)(s:qJ)(t:qV)(cX:Int)(qZ:zP w xN qM qL s.qA)(xM:zP w zN xm xh s.qB)(zS:zP w vV xK xI t.qO)(vK:zP w jM zB zq t.qG)(zi:zP w zZ xC xy t.qF):Calls Tryz.prog 16 #[.agg #[yI s.qQ,Sv qM s.qA.length qL,Sv xm s.qB.length xh],.agg #[Sv xK t.qO.length xI,Sv zB t.qG.length zq,Sv xC t.qF.length xy],yI cX] w (Ret (fun v w'=>∃(mQ:yOA) (mg:Nat) (nq:Nat) (pA:yOA) (qq:Nat) (pg:Nat) (pn:List Value) (ry:yLN) (kH:yOA) (kt:Nat) (kG:Nat),v=.tuple #[.agg #[Sv mQ mg nq,Sv pA qq pg,Sv kH kt kG],yI ((QS s t cX).2.1),yI ((QS s t cX).2.2)]/\Fresh w.heap.size [ry]/\St w w' [rr mQ mg nq 4 1 ((((QS s t cX).1).qO).map<|Value.bool),rr pA qq pg 24 1 pn,rr kH kt kG 2 1 ((((QS s t cX).1).qF).map<|Value.int .i64)] [qX true ry pn (((QS s t cX).1).qG)]) w):=by
 refine en func16 ntmps16 ?_
 have H:=(((((St.start w).arg zi).arg vK).arg zS).arg xM).arg qZ
 have jP:=qN xM
 have QM:=qN zS
 have Xt:=qN vK
 have Qe:=qN zi
 clear qZ xM zS vK zi
 have N:=Fresh.nil w.heap.size
 refine zcr<|sw<|jb H (yS s qM qL xm xh) fun b1 w2 H=>sw<|jb H (yT t xK xI zB zq xC xy) fun b3 w4 H=>sw<|x8 H ti31 [yN,yN,yN] fun b5 w6 H=>sp (yI 0)<|sp (yI 0)<|zjcc<|sw<|xW (yS s qM qL xm xh) isAgg27 sizeOf27 J (qH (H.cells 2 J) 0 3)<|sw<|xW (yT t xK xI zB zq xC xy) isAgg31 sizeOf31 J (qH (H.cells 1 J) 0 3)<|sw<|oq (validState_ok _ s t (H.get 0 J).1 (H.get 1 J).1 (H.get 2 J).1 (H.get 3 J).1 (H.get 4 J).1) H fun w8 H=>sq 1<|zjn<|cQ J (fun cK=>?_)<|fun cK=>?_
 ·refine zcr (sw<|vZ [yN,yN,yN] []<|sw<|xZ H 0 [yN,yN,yN] sizeOf31 fun z7 H=>sp (yI 0)<|sp (yI 1)<|zjr<|t_r ?_)
  replace H:=H.nilRowB 4
  replace H:=H.nilRow 24 1
  replace H:=H.yF (α:=yLI)
  replace H:=H.nilRowI 2
  refine retC3 H 3 J (yI 0) (yI 1) J isAgg31 sizeOf31 J J J ⟨_,J,?_,H.base⟩
  rw[run_1 ‹_›]
  exact⟨none,0,0,none,0,0,[],[],none,0,0,J,N.emp,H.pick [2,1,0] [0]⟩
 have k0:=(‹jW s/\zA s t›:jW s/\zA s t)
 have k1:=k0.1
 have k2:=k0.2
 obtain⟨q7,q8,q9,q10⟩:=k2.sizes k1.1
 have q13:=fun k hk=>Nat.le_trans (q10 k hk) (by decide:8<=1000000)
 refine xe<|t_n<|zcc<|sq 1<|sw<|oq (XX w8 cX 0 200) H fun Lz H=>sq 1<|zjn<|vP _ J (fun gz=>?_)<|fun gz=>?_
 ·replace gz:=xF gz
  replace gz:=Xl gz
  refine zcr<|sw<|vZ [yN,yN,yN] []<|sw<|xZ H 0 [yN,yN,yN] sizeOf31 fun IR H=>sp (yI 0)<|sp (yI 2)<|zjr<|t_r ?_
  replace H:=H.nilRowB 4
  replace H:=H.nilRow 24 1
  replace H:=H.yF (α:=yLI)
  replace H:=H.nilRowI 2
  refine retC3 H 3 J (yI 0) (yI 2) J isAgg31 sizeOf31 J J J ⟨_,J,?_,H.base⟩
  rw[run_2 ‹_› ‹_›]
  exact⟨none,0,0,none,0,0,[],[],none,0,0,J,N.emp,H.pick [2,1,0] [0]⟩
 replace gz:=xw gz
 replace gz:=QW.1 gz
 refine xe<|t_n<|zcr<|sw<|xW (yT t xK xI zB zq xC xy) isAgg31 sizeOf31 J (qH (H.cells 1 J) 0 3) ?_
 have aC8:=H.base.size
 refine sw<|oc (V4 _ t (H.get 2 J).1 (H.get 3 J).1 (H.get 4 J).1 qg qg qg qg) ?_
 rintro _ Us ⟨AV,afj,Ag,EA,arF,DJ,M6,Px,uG,ac8,uM,rfl,M,K⟩ _
 replace N:=N.merge aC8 qm M
 replace H:=H.merge K M
 obtain rfl:=H.Vt 0 rfl
 obtain rfl:=H.xf (α:=yLI) 1 rfl 0 rfl qj
 obtain rfl:=H.yt 2 rfl
 refine sw<|x8 H ti31 [yN,yN,yN] fun Gd E4 H=>sw<|xZ H 0 (yT t AV Ag EA DJ uG uM) sizeOf31 fun E3 H=>zjc<|sp (yI 0)<|zjn<|xg<|vk ((fun Z0 Z1 Z2 Z3 Z4 Z5 Z6 Z7=>fun m' ρ Rn=>∃(xR:Env) (n:Nat) (Qx:yOA) (Qv:Nat) (Qw:Nat) (r3:List Bool) (QZ:yOA) (QU:Nat) (QX:Nat) (wt:yLL) (eV:List Value) (Vj:yLN) (Qj:yOA) (Qg:Nat) (Qh:Nat) (ou:yLI) (u:qV),ρ=upd (upd (upd (upd (upd xR 2<|yI cX) 3<|pp b1 0) 6<|pp b5 0) 9<|pp Gd 0) 10 (yI n)/\r3=u.qO/\wt=u.qG/\ou=u.qF/\(zA s u)/\(0<=(n:Int)/\(n:Int)<=cX)/\(QS s t cX=runGo s (cX-n).toNat n u)/\m'=(cX-n).toNat/\Fresh w.heap.size [Vj]/\St w Rn [.box Gd [Sv Qx Qv Qw,Sv QZ QU QX,Sv Qj Qg Qh] 31,rr Qx Qv Qw 4 1<|r3.map<|Value.bool,rr QZ QU QX 24 1 eV,rr Qj Qg Qh 2 1<|ou.map<|Value.int .i64,Z0,Z1,Z2] [qX true Vj eV wt,Z3,Z4,Z5,Z6,Z7]) _ _ _ _ _ _ _ _) ((cX-0).toNat) ⟨_,0,AV,t.qO.length,Ag,t.qO,EA,t.qG.length,DJ,t.qG,M6,Px,uG,t.qF.length,uM,t.qF,t,uE5,(by rfl),(by rfl),(by rfl),(by exact k2),qf,(by rw[run_0 ‹jW s/\zA s t› qf,show (cX-(0:Nat)).toNat=cX.toNat by omega];rfl),J,N,H⟩ ?_
 clear H N
 rintro m' ρ LE ⟨xR,n,Qx,Qv,Qw,r3,QZ,QU,QX,wt,eV,Vj,Qj,Qg,Qh,ou,u,rfl,rfl,rfl,rfl,ku,km,kr,rfl,N,H⟩
 refine xO<|xg<|zcc<|sp (yI n)<|sq 1<|sp (Bv ((n:Int) == cX))<|sp (Bv ((n:Int) == cX)) ?_
 cases h29:((n:Int) == cX)
 ·replace h29:=ne_of_beq_false h29
  refine qP 29 J J<|sw<|xW (yS s qM qL xm xh) isAgg27 sizeOf27 J (qH (H.cells 6 J) 0 3)<|qP 29 J J<|sw<|xW [Sv Qx Qv Qw,Sv QZ QU QX,Sv Qj Qg Qh] isAgg31 sizeOf31 J (qH (H.cells 0 J) 0 3)<|qP 29 J J ?_
  obtain⟨G30,atd,h32⟩:=H.rowIsB 1 rfl
  obtain⟨G33,aoF,Po⟩:=H.Vd (α:=yLI) 2 rfl 0 rfl qj
  obtain⟨G36,apt,h38⟩:=H.Xv 3 rfl
  refine sw<|oc (VF (by rw[←atd,←aoF,←apt])<|applicable_ok _ s u (H.get 1 J).1 (H.get 2 J).1 (atd▸h32) (aoF▸Po) (apt▸h38) qg qg) ?_
  rintro _ w40 ⟨C0,axG,DK,rfl,M,K⟩ _
  replace H:=H.merge K M
  obtain rfl:=H.yt 0 rfl
  refine qP 29 J J<|oN J<|qP 29 J J<|sp (Bv (((appls s u).length:Int) == 0))<|sp (Bv (((appls s u).length:Int) == 0))<|zjn<|cE J (fun BC=>?_)<|fun BC=>?_
  ·refine zcr (sw<|xW [Sv Qx Qv Qw,Sv QZ QU QX,Sv Qj Qg Qh] isAgg31 sizeOf31 J (qH (H.cells 1 J) 0 3)<|sp (yI n)<|sw<|xZ H 5 [Sv Qx Qv Qw,Sv QZ QU QX,Sv Qj Qg Qh] sizeOf31 fun O7 H=>sp (yI n)<|sp (yI 0)<|zjr<|t_r<|b_r<|t_r<|t_r<|b_r<|retC3 H 5 J (yI n) (yI 0) J isAgg31 sizeOf31 J J J ⟨_,J,?_,H.base⟩)
   rw[kr,runGo_halt<|appls_halt.1 qf]
   exact⟨Qx,Qv,Qw,QZ,QU,QX,eV,Vj,Qj,Qg,Qh,J,N,H.pick [2,3,4] [0]⟩
  refine xe<|t_n<|xO<|c_cut (fun ρ R7=>∃(xR:Env) (b47:Nat) (M4:yOA) (tX:Nat) (Jy:yOA) (MS:Nat) (BU:yOA) (Ad:Nat) (adU:List Value) (Ff:yLN),ρ=upd (upd (upd (upd (upd (upd (upd (upd (upd (upd (upd (upd xR 2<|yI cX) 3<|pp b1 0) 6<|pp b5 0) 9<|pp Gd 0) 10<|yI n) 11<|pp b47 0) 12<|yI ((yR s u<|xq s u).2)) 30<|.agg #[yI s.qQ,Sv qM s.qA.length qL,Sv xm s.qB.length xh]) 31<|.agg #[Sv Qx Qv Qw,Sv QZ QU QX,Sv Qj Qg Qh]) 32<|Sv C0 ((appls s u).length) DK) 33<|yI ((appls s u).length)) 34 (Bv (((appls s u).length:Int) == 0))/\Fresh w.heap.size [Ff,Vj]/\St w R7 [.box b47 [Sv M4 ((((yR s u<|xq s u).1).qO).length) tX,Sv Jy ((((yR s u<|xq s u).1).qG).length) MS,Sv BU ((((yR s u<|xq s u).1).qF).length) Ad] 31,rr M4 ((((yR s u<|xq s u).1).qO).length) tX 4 1 ((((yR s u<|xq s u).1).qO).map<|Value.bool),rr Jy ((((yR s u<|xq s u).1).qG).length) MS 24 1 adU,rr BU ((((yR s u<|xq s u).1).qF).length) Ad 2 1 ((((yR s u<|xq s u).1).qF).map<|Value.int .i64),rr C0 ((appls s u).length) DK 2 1 ((appls s u).map<|Value.int .i64),.box Gd [Sv Qx Qv Qw,Sv QZ QU QX,Sv Qj Qg Qh] 31,rr Qx Qv Qw 4 1<|u.qO.map<|Value.bool,rr QZ QU QX 24 1 eV,rr Qj Qg Qh 2 1<|u.qF.map<|Value.int .i64,.box b5 [yN,yN,yN] 31,.box b3 (yT t xK xI zB zq xC xy) 31,.box b1 (yS s qM qL xm xh) 27] [qX true Ff adU (((yR s u<|xq s u).1).qG),qX true Vj eV u.qG,sF false xN qM qL s.qA,sF false zN xm xh s.qB,sF false vV xK xI t.qO,sF false jM zB zq t.qG,sF false zZ xC xy t.qF]) ?_ ?_
  ·refine QY J H fun H=>rt 0 _ (yP (cs:=(yS s qM qL xm xh)) isAgg27 sizeOf27 J<|fun _ h=>qH (h.cells 7 J) 0 3) H ?_
   refine rt 1 _ (yP (cs:=[Sv Qx Qv Qw,Sv QZ QU QX,Sv Qj Qg Qh]) isAgg31 sizeOf31 J<|fun _ h=>qH (h.cells 1 J) 0 3) H ?_
   refine rt 2 _ (yP (cs:=(yS s qM qL xm xh)) isAgg27 sizeOf27 J<|fun _ h=>qH (h.cells 7 J) 0 3) H ?_
   refine rt 3 _ (yP (cs:=[Sv Qx Qv Qw,Sv QZ QU QX,Sv Qj Qg Qh]) isAgg31 sizeOf31 J<|fun _ h=>qH (h.cells 1 J) 0 3) H ?_
   refine jw [4,9] qh qm<|yl J ?_<|yl J ?_ jy
   ·obtain⟨G58,arn,h60⟩:=H.rowIsB 2 rfl
    obtain⟨G61,acs,h63⟩:=H.Vd (α:=yLI) 3 rfl 0 rfl qj
    obtain⟨G64,adG,h66⟩:=H.Xv 4 rfl
    refine oc (VF (by rw[←arn,←acs,←adG])<|firstChoice_ok _ s u (H.get 1 J).1 (H.get 2 J).1 (arn▸h60) (acs▸h63) (adG▸h66) qg qg) ?_
    rintro _ w68 ⟨aNr,aNB,J1,rfl,M,K⟩ _
    replace H:=H.merge K M
    obtain rfl:=H.yt 0 rfl
    refine⟨H.pick (zR 1 8)<|zR 0 6,(jw [5,9] qh qm<|yl J ?_<|yl J ?_ jy)⟩
    ·obtain⟨G73,abx,h75⟩:=H.rowIsB 3 rfl
     obtain⟨G76,ahb,h78⟩:=H.Vd (α:=yLI) 4 rfl 0 rfl qj
     obtain⟨G79,amb,h81⟩:=H.Xv 5 rfl
     obtain⟨G82,aOg,h84⟩:=H.Xv 0 rfl
     have k3:=XY k1 ku
     have k4:=first_isCh k1 ku
     have acu:=H.base.size
     have acV:=H.ltN (L:=[Vj]) [0]
     refine oc (VF (by rw[←abx,←ahb,←amb])<|step_ok _ s u (xq s u) (H.get 1 J).1 (H.get 2 J).1 (abx▸h75) (ahb▸h78) (amb▸h81) h84 qg qg qg qg) ?_
     rintro _ w86 ⟨vn,abf,uD,As,afS,Ba,K5,Lj,s7,ZX,th,rfl,M,K⟩ _
     replace N:=N.merge acu acV M
     replace H:=H.merge K M
     obtain rfl:=H.Vt 0 rfl
     obtain rfl:=H.xf (α:=yLI) 1 rfl 0 rfl qj
     obtain rfl:=H.yt 2 rfl
     refine⟨H.pick (zR 4 8)<|zR 1 6,?_⟩
     have S:=H.ve (zR 4 8)<|zR 1 6
     refine rtl 6 S ?_
     refine rtl 7 S ?_
     refine rtl 8 S ?_
     refine ro 9 J<|x8 H ti31 [yN,yN,yN] fun b93 w94 H=>⟨H.pick (zR 5 8)<|zR 1 6,(ro 10 J<|xZ H 0 [Sv vn ((((yR s u<|xq s u).1).qO).length) uD,Sv As ((((yR s u<|xq s u).1).qG).length) Ba,Sv s7 ((((yR s u<|xq s u).1).qF).length) th] sizeOf31 fun w95 H=>⟨H.pick (zR 5 8)<|zR 1 6,(rtl 11 (H.pick (zR 5 8)<|zR 1 6) ?_)⟩)⟩
     refine xx qh ((meet ⟨_,b93,vn,uD,As,Ba,s7,th,K5,Lj,uE12,N,H.pick (0::1::2::3::zR 5 8)<|zR 0 7⟩))
    refine x8 H ti31 [yN,yN,yN] fun b96 w97 H=>⟨H.pick (zR 2 8)<|zR 0 6,(ro 5 J ?_)⟩
    obtain⟨G98,abA,FX⟩:=H.rowIsB 4 rfl
    obtain⟨aop,NT,KD⟩:=H.Vd (α:=yLI) 5 rfl 0 rfl qj
    obtain⟨GJ,aaA,azE⟩:=H.Xv 6 rfl
    obtain⟨aL4,aIv,Ft⟩:=H.Xv 1 rfl
    have k3:=XY k1 ku
    have k4:=first_isCh k1 ku
    have aiB:=H.base.size
    have ans:=H.ltN (L:=[Vj]) [0]
    refine oc (VF (by rw[←abA,←NT,←aaA])<|step_ok _ s u (xq s u) (H.get 1 J).1 (H.get 2 J).1 (abA▸FX) (NT▸KD) (aaA▸azE) Ft qg qg qg qg) ?_
    rintro _ anQ ⟨tj,YX,tx,vl,adh,wN,Gl,Gn,pk,Sd,px,rfl,M,K⟩ _
    replace N:=N.merge aiB ans M
    replace H:=H.merge K M
    obtain rfl:=H.Vt 0 rfl
    obtain rfl:=H.xf (α:=yLI) 1 rfl 0 rfl qj
    obtain rfl:=H.yt 2 rfl
    refine⟨H.pick (zR 5 8)<|zR 1 6,?_⟩
    have S:=H.ve (zR 5 8)<|zR 1 6
    refine rtl 6 S ?_
    refine rtl 7 S ?_
    refine rtl 8 S ?_
    refine ro 10 J<|xZ H 3 [Sv tj ((((yR s u<|xq s u).1).qO).length) tx,Sv vl ((((yR s u<|xq s u).1).qG).length) wN,Sv pk ((((yR s u<|xq s u).1).qF).length) px] sizeOf31 fun ao1 H=>⟨H.pick (zR 5 8)<|zR 1 6,(rtl 11 (H.pick (zR 5 8)<|zR 1 6) ?_)⟩
    refine xx qh ((meet ⟨_,b96,tj,tx,vl,wN,pk,px,Gl,Gn,uE12,N,H.pick (3::0::1::2::zR 5 8)<|zR 0 7⟩))
   refine x8 H ti31 [yN,yN,yN] fun ad4 FQ H=>⟨H.pick (zR 1 8)<|zR 0 6,(ro 4 J ?_)⟩
   obtain⟨aQJ,Y6,aAG⟩:=H.rowIsB 3 rfl
   obtain⟨aBz,WN,K6⟩:=H.Vd (α:=yLI) 4 rfl 0 rfl qj
   obtain⟨aoy,Q0,aa2⟩:=H.Xv 5 rfl
   refine oc (VF (by rw[←Y6,←WN,←Q0])<|firstChoice_ok _ s u (H.get 1 J).1 (H.get 2 J).1 (Y6▸aAG) (WN▸K6) (Q0▸aa2) qg qg) ?_
   rintro _ az4 ⟨aIe,aoe,aFT,rfl,M,K⟩ _
   replace H:=H.merge K M
   obtain rfl:=H.yt 0 rfl
   refine⟨H.pick (zR 2 8)<|zR 0 6,(ro 5 J ?_)⟩
   obtain⟨aQw,Vv,abl⟩:=H.rowIsB 4 rfl
   obtain⟨adp,PH,Gz⟩:=H.Vd (α:=yLI) 5 rfl 0 rfl qj
   obtain⟨aPk,Y3,aCH⟩:=H.Xv 6 rfl
   obtain⟨aM7,aEa,av4⟩:=H.Xv 0 rfl
   have k3:=XY k1 ku
   have k4:=first_isCh k1 ku
   have arh:=H.base.size
   have ahj:=H.ltN (L:=[Vj]) [0]
   refine oc (VF (by rw[←Vv,←PH,←Y3])<|step_ok _ s u (xq s u) (H.get 1 J).1 (H.get 2 J).1 (Vv▸abl) (PH▸Gz) (Y3▸aCH) av4 qg qg qg qg) ?_
   rintro _ aDd ⟨sU,aao,sL,vt,ack,xa,Gj,GK,rh,Ti,pi,rfl,M,K⟩ _
   replace N:=N.merge arh ahj M
   replace H:=H.merge K M
   obtain rfl:=H.Vt 0 rfl
   obtain rfl:=H.xf (α:=yLI) 1 rfl 0 rfl qj
   obtain rfl:=H.yt 2 rfl
   refine⟨H.pick (zR 5 8)<|zR 1 6,?_⟩
   have S:=H.ve (zR 5 8)<|zR 1 6
   refine rtl 6 S ?_
   refine rtl 7 S ?_
   refine rtl 8 S ?_
   refine ro 10 J<|xZ H 4 [Sv sU ((((yR s u<|xq s u).1).qO).length) sL,Sv vt ((((yR s u<|xq s u).1).qG).length) xa,Sv rh ((((yR s u<|xq s u).1).qF).length) pi] sizeOf31 fun aCP H=>⟨H.pick (zR 5 8)<|zR 1 6,(rtl 11 (H.pick (zR 5 8)<|zR 1 6) ?_)⟩
   refine xx qh ((meet ⟨_,ad4,sU,sL,vt,xa,rh,pi,Gj,GK,uE12,N,H.pick (4::0::1::2::zR 5 8)<|zR 0 7⟩))
  clear H N
  rintro ρ RT ⟨xR,b47,M4,tX,Jy,MS,BU,Ad,adU,Ff,rfl,N,H⟩
  refine t_n<|zcc<|sq 1<|sp (Bv (((yR s u<|xq s u).2:Int) != 0))<|zjn<|vP (((yR s u<|xq s u).2:Int) != 0) J (fun Pl=>?_)<|fun Pl=>?_
  ·replace Pl:=bne_iff_ne.1 Pl
   refine zcr<|sw<|vZ [yN,yN,yN] []<|sq 1<|sw<|xZ H 9 [yN,yN,yN] sizeOf31 fun abp H=>sp (yI 0)<|sq 1<|zjr<|t_r<|b_r<|t_r<|t_r<|b_r ?_
   replace H:=H.nilRowB 4
   replace H:=H.nilRow 24 1
   replace H:=H.yF (α:=yLI)
   replace H:=H.nilRowI 2
   refine retC3 H 12 J (yI 0) (yI ((yR s u<|xq s u).2)) J isAgg31 sizeOf31 J J J ⟨_,J,?_,H.base⟩
   rw[kr,runGo_bad qf (fun h=>by have:=appls_halt.2 h;omega) ‹_›]
   exact⟨none,0,0,none,0,0,[],[],none,0,0,J,(N.emp.pick [0]),H.pick [2,1,0] [0]⟩
  replace Pl:=zo Pl
  refine xe<|t_n<|zf<|sw<|xW [Sv M4 ((((yR s u<|xq s u).1).qO).length) tX,Sv Jy ((((yR s u<|xq s u).1).qG).length) MS,Sv BU ((((yR s u<|xq s u).1).qF).length) Ad] isAgg31 sizeOf31 J (qH (H.cells 0 J) 0 3)<|sw<|xZ H 5 [Sv M4 ((((yR s u<|xq s u).1).qO).length) tX,Sv Jy ((((yR s u<|xq s u).1).qG).length) MS,Sv BU ((((yR s u<|xq s u).1).qF).length) Ad] sizeOf31 fun RR H=>xX<|b_n<|t_n<|zf<|sp (yI n)<|sw<|zY n 1 J J qf<|sq 1<|xX<|xu (m':=(cX-(n+1)).toNat) qf ⟨_,n+1,_,_,_,_,_,_,_,_,_,_,_,_,_,_,(yR s u<|xq s u).1,uE5,?_,?_,?_,?_,?_,?_,J,(N.pick [0]),H.pick [5,1,2,3,9,10,11] (0::zR 2 5)⟩
  ·rfl
  ·rfl
  ·rfl
  ·exact stepBy_ok ‹_›
  ·omega
  ·exact kr.trans<|runGo_go qf (fun h=>by have:=appls_halt.2 h;omega) ‹_›
 replace h29:=eq_of_beq h29
 refine zk (zR 30 5)<|sp (Bv true)<|zjn<|cTr J<|zcr<|sw<|xW [Sv Qx Qv Qw,Sv QZ QU QX,Sv Qj Qg Qh] isAgg31 sizeOf31 J (qH (H.cells 0 J) 0 3)<|sp (yI n)<|sw<|xZ H 4 [Sv Qx Qv Qw,Sv QZ QU QX,Sv Qj Qg Qh] sizeOf31 fun abQ H=>sp (yI n)<|sp (yI 0)<|zjr<|t_r<|b_r<|t_r<|t_r<|b_r<|retC3 H 4 J (yI n) (yI 0) J isAgg31 sizeOf31 J J J ⟨_,J,?_,H.base⟩
 rw[kr,runGo_end qf]
 exact⟨Qx,Qv,Qw,QZ,QU,QX,eV,Vj,Qj,Qg,Qh,J,N,H.pick [1,2,3] [0]⟩
end
section
section
variable{s : qJ}{t u : qV}
theorem par_same(ha:t.qO=u.qO)(c:Int):xY s t c=xY s u c:=by unfold xY;rw[ha]
theorem intoUp_same(ha:t.qO=u.qO)(r:yz)(k:Nat):IntoUp s t r k<->IntoUp s u r k:=by
 unfold IntoUp
 simp only[ha,par_same ha]
theorem en_same(ha:t.qO=u.qO){r:yz}(hb:t.qG[r.qW.toNat]! =u.qG[r.qW.toNat]!):EnOk s t r<->EnOk s u r:=by
 unfold EnOk
 rw[ha,hb,intoUp_same ha]
theorem appl_same(ha:t.qO=u.qO)(hb:t.qG[s.qB[i]!.qW.toNat]! =u.qG[s.qB[i]!.qW.toNat]!):Appl s t i<->Appl s u i:=by
 unfold Appl
 rw[en_same ha hb]
 constructor
 ·rintro⟨h1,h2⟩
  exact⟨h1,fun j hj h3 h4=>h2 j hj ((en_same ha<|by rw[h4];exact hb).2 h3) h4⟩
 ·rintro⟨h1,h2⟩
  exact⟨h1,fun j hj h3 h4=>h2 j hj ((en_same ha<|by rw[h4];exact hb).1 h3) h4⟩
theorem firstR_len(s:qJ)(t:qV):∀k,(jL s t k).length=t.qG.length
 |0=>rfl
 |k+1=>by
  by_cases h:Appl s t k
  ·rw[VO h,List.length_set];exact firstR_len s t k
  ·rw[firstR_no h];exact firstR_len s t k
theorem firstR_same2(hs:jW s)(ha:t.qO=u.qO)(ht:t.qG.length=xJ s)(hu:u.qG.length=xJ s){c:Nat}(hb:t.qG[c]! =u.qG[c]!):
 ∀k,k<=s.qB.length->(jL s t k)[c]! =(jL s u k)[c]!
 |0,_=>hb
 |k+1,hk=>by
  have ih:=firstR_same2 hs ha ht hu hb k qf
  have hc:=(hs.rule (i:=k) qf).cell
  by_cases e:s.qB[k]!.qW.toNat=c
  ·have hap:Appl s t k<->Appl s u k:=appl_same ha (by rw[e];exact hb)
   by_cases h:Appl s t k
   ·rw[VO h,VO<|hap.1 h,e,ih]
    rw[getset<|by rw[firstR_len,ht,←e];exact hc,getset<|by rw[firstR_len,hu,←e];exact hc,if_pos J,if_pos J]
   ·rw[firstR_no h,firstR_no<|fun x=>h<|hap.2 x];exact ih
  ·have sO:∀v:qV,v.qG.length=xJ s->(jL s v<|k+1)[c]! =(jL s v k)[c]! :=fun v hv=>by
    by_cases h:Appl s v k
    ·rw[VO h,getset<|by rw[firstR_len,hv];exact hc,if_neg<|fun x=>e x.symm]
    ·rw[firstR_no h]
   rw[sO t ht,sO u hu];exact ih
theorem firstC_same(hs:jW s)(ha:t.qO=u.qO)(ht:t.qG.length=xJ s)(hu:u.qG.length=xJ s)(hi:i<s.qB.length)
 (hb:t.qG[s.qB[i]!.qW.toNat]! =u.qG[s.qB[i]!.qW.toNat]!):firstC s t i=firstC s u i:=by
 have hap:Appl s t i<->Appl s u i:=appl_same ha hb
 by_cases h:Appl s t i
 ·rw[Xy h,Xy<|hap.1 h,firstR_same2 hs ha ht hu hb i qf]
 ·rw[VW h,VW<|fun x=>h<|hap.2 x]
theorem firstL_get(hi:i<s.qB.length):(xq s t)[i]! =firstC s t i:=by
 unfold xq
 rw[Xu hi,if_pos hi]
theorem outPl_same(ha:t.qO=u.qO)(r:yz):outPl s t r=outPl s u r:=by unfold outPl;rw[par_same ha]
theorem putF_same(ha:t.qO=u.qO)(r:yz)(c:Int)(p q:Nat):putF s t r c p q=putF s u r c p q:=by unfold putF;rw[outPl_same ha]
theorem putsOf_same(hs:jW s)(ha:t.qO=u.qO)(ht:t.qG.length=xJ s)(hu:u.qG.length=xJ s){c:Nat}(hb:t.qG[c]! =u.qG[c]!)(p q:Nat):
 ∀i,i<=s.qB.length->Xa s t (xq s t) (c:Int) i p q=Xa s u (xq s u) (c:Int) i p q
 |0,_=>rfl
 |i+1,hi=>by
  have ih:=putsOf_same hs ha ht hu hb p q i qf
  rw[Xa,Xa,ih]
  by_cases e:s.qB[i]!.qW=(c:Int)
  ·rw[if_pos e,if_pos e,firstL_get qf,firstL_get qf,firstC_same hs ha ht hu qf<|by rw[e];exact hb,putF_same ha]
  ·rw[if_neg e,if_neg e]
theorem puts_same(hs:jW s)(ha:t.qO=u.qO)(ht:t.qG.length=xJ s)(hu:u.qG.length=xJ s)(hb:t.qG[c]! =u.qG[c]!):
 jX s t (xq s t) (c:Int)=jX s u (xq s u) (c:Int):=by
 unfold jX
 congr 1
 funext p q
 exact putsOf_same hs ha ht hu hb p q _<|Nat.le_refl _
theorem need_same(hs:jW s)(ha:t.qO=u.qO)(ht:t.qG.length=xJ s)(hu:u.qG.length=xJ s){c:Nat}(hb:t.qG[c]! =u.qG[c]!)(q:Nat):
 ∀i,i<=s.qB.length->needS s (xq s t) i c q=needS s (xq s u) i c q
 |0,_=>rfl
 |i+1,hi=>by
  have ih:=need_same hs ha ht hu hb q i qf
  simp only[needS,needF,ih]
  by_cases e:c=s.qB[i]!.qW.toNat
  ·rw[firstL_get qf,firstL_get qf,firstC_same hs ha ht hu qf<|by rw[←e];exact hb]
  ·simp only[at',if_neg e]
end
end
section
theorem tab2_line{f:Nat->Nat->Int}(h:p<n):(tab2 n K f)[p]! =(List.range K).map (f p):=by
 rw[getElem!_pos _ _<|by rw[tab2_len];exact h];simp[tab2]
theorem tab2_at{f:Nat->Nat->Int}(h:p<n)(hq:q<K):((tab2 n K f)[p]!)[q]! =f p q:=by
 rw[tab2_line h,getElem!_pos _ _<|by simpa using hq];simp
end
section
section
variable{s : qJ}{t u : qV}{own : yLI}{n : Nat}
noncomputable def stG(s:qJ)(t:qV):Nat->qV
 |0=>t
 |r+1=>zX s (stG s t r)<|xq s<|stG s t r
theorem stG_alive:∀r,(stG s t r).qO=t.qO
 |0=>rfl
 |r+1=>stG_alive r
theorem stG_bags(ht:t.qG.length=xJ s):∀r,(stG s t r).qG.length=xJ s
 |0=>ht
 |r+1=>by
  show ((tab2 (xJ s+1) (vG s) _).take<|xJ s).length=xJ s
  rw[List.length_take,tab2_len];omega
theorem take_get{α:Type}[Inhabited α]{l:List α}(h:j<k):(l.take k)[j]! =l[j]! :=by
 by_cases e:j<l.length
 ·rw[getElem!_pos (l.take k) j<|by rw[List.length_take];omega,getElem!_pos l j e,List.getElem_take]
 ·rw[getElem!_neg (l.take k) j<|by rw[List.length_take];omega,getElem!_neg l j e]
theorem stG_get{r:Nat}(hp:p<xJ s+1)(hq:q<vG s):base0 s (stG s t<|r+1) p q=stepF s (stG s t r) (xq s<|stG s t r) p q:=by
 unfold base0
 by_cases e:p<xJ s
 ·rw[if_pos e]
  show (((tab2 (xJ s+1) (vG s)<|stepF s (stG s t r)<|xq s<|stG s t r).take<|xJ s)[p]!)[q]! =_
  rw[take_get e,tab2_at hp hq]
 ·rw[if_neg e]
  show ((tab2 (xJ s+1) (vG s)<|stepF s (stG s t r)<|xq s<|stG s t r)[xJ s]!)[q]! =_
  rw[show p=xJ s by omega,tab2_at qf hq]
theorem now_same(hs:jW s)(ha:t.qO=u.qO)(ht:t.qG.length=xJ s)(hu:u.qG.length=xJ s){i:Int}:
 ∀c,(∀p,p<c->own[p]! =i->t.qG[p]! =u.qG[p]!)->Vl s t own i n c=Vl s u own i n c
 |0,_=>rfl
 |c+1,h=>by
  have ih:=now_same hs ha ht hu c fun p hp=>h p qf
  by_cases e:own[c]! =i
  ·rw[nowTo_yes e,nowTo_yes e,ih,puts_same hs ha ht hu<|h c qf e]
  ·rw[nowTo_no e,nowTo_no e,ih]
theorem addTo_get{puts:yLL}{now:List yLL}{N:Nat}(hn:now.length=n)(hN:∀j,j<n->now[j]!.length=N)(ho:OwnIn own n)(hl:N=own.length+1){b p:Nat}(hb:b<n)(hp:p<N):
 ∀x,x<=N->(((addTo own puts now x)[b]!)[p]! =if vY own p=(b:Int)/\p<x then vX ((now[b]!)[p]!) puts[p]! 1 else (now[b]!)[p]!)/\(addTo own puts now x).length=n/\∀j,j<n->((addTo own puts now x)[j]!).length=N
 |0,_=>⟨by rw[if_neg qf];rfl,hn,hN⟩
 |x+1,hx=>by
  obtain⟨h1,h2,h3⟩:=addTo_get hn hN ho hl hb hp x qf
  have oa:=ho.at (p:=x) qf
  have hx0:=addTo_get (puts:=puts) hn hN ho hl (b:=(vY own x).toNat) (p:=x) qf qf x qf
  rw[addTo]
  refine⟨?_,by rw[List.length_set];exact h2,fun j hj=>?_⟩
  ·rw[getset<|by rw[h2];omega]
   by_cases e:b=(vY own x).toNat
   ·rw[if_pos e,getset<|by rw[h3 _ qf];omega]
    by_cases e2:p=x
    ·subst e2
     rw[if_pos J,if_pos ⟨by omega,by omega⟩,hx0.1,if_neg qf,e]
    ·rw[if_neg e2,←e,h1]
     by_cases e3:vY own p=(b:Int)/\p<x
     ·rw[if_pos e3,if_pos ⟨e3.1,by omega⟩]
     ·rw[if_neg e3,if_neg<|fun z=>e3 ⟨z.1,by omega⟩]
   ·rw[if_neg e,h1]
    by_cases e3:vY own p=(b:Int)/\p<x
    ·rw[if_pos e3,if_pos ⟨e3.1,by omega⟩]
    ·rw[if_neg e3,if_neg (fun z=>e3 ⟨z.1,by
      have iw:p≠x:=fun e4=>e (by rw[←e4,z.1];omega)
      omega⟩)]
  ·rw[getset<|by rw[h2];omega]
   split
   ·rw[List.length_set];exact h3 _ qf
   ·exact h3 j hj
noncomputable def cellPuts(s:qJ)(u:qV)(own:yLI)(i:Int)(p q:Nat):Nat->Int
 |0=>0
 |c+1=>cellPuts s u own i p q c+if own[c]! =i then Xa s u (xq s u) (c:Int) s.qB.length p q else 0
theorem puts_at{c:Int}(hp:p<xJ s+1)(hq:q<vG s):((jX s u (xq s u) c)[p]!)[q]! =Xa s u (xq s u) c s.qB.length p q:=by
 unfold jX
 exact tab2_at hp hq
theorem now_get(ho:OwnIn own n)(hl:own.length=xJ s){i:Int}{b p q:Nat}(hb:b<n)(hp:p<xJ s+1)(hq:q<vG s):
 ∀c,c<=xJ s->(((Vl s u own i n c)[b]!)[p]!)[q]! =(if vY own p=(b:Int) then cellPuts s u own i p q c else 0)/\(Vl s u own i n c).length=n∧
  ∀j,j<n->((Vl s u own i n c)[j]!).length=xJ s+1/\∀x,x<xJ s+1->(((Vl s u own i n c)[j]!)[x]!).length=vG s
 |0,_=>by
  have e:∀j,j<n->(List.replicate n<|jG s<|xJ s+1)[j]! =jG s (xJ s+1):=fun j hj=>by
   rw[getElem!_pos (List.replicate n<|jG s<|xJ s+1) j<|by simpa using hj,List.getElem_replicate]
  have z:=zeros_ent (s:=s) (n:=xJ s+1) (B:=0)<|Int.le_refl _
  refine⟨?_,by simp[Vl],fun j hj=>?_⟩
  ·rw[Vl,e b hb,z.eq p q hp hq];simp[cellPuts]
  ·rw[Vl,e j hj]
   exact⟨z.sh.1,fun x hx=>(z.sh.2 x hx).1⟩
 |c+1,hc=>by
  obtain⟨h1,h2,h3⟩:=now_get ho hl (i:=i) hb hp hq c qf
  by_cases e:own[c]! =i
  ·rw[nowTo_yes e,cellPuts,if_pos e]
   have a:=fun(b p:Nat) (hb:b<n) (hp:p<xJ s+1)=>addTo_get (puts:=jX s u (xq s u) (c:Int)) h2 (fun j hj=>(h3 j hj).1) ho (by rw[hl]) hb hp (xJ s+1)<|Nat.le_refl _
   refine⟨?_,(a b p hb hp).2.1,fun j hj=>⟨(a b p hb hp).2.2 j hj,fun x hx=>?_⟩⟩
   ·rw[(a b p hb hp).1]
    by_cases e2:vY own p=(b:Int)
    ·rw[if_pos ⟨e2,hp⟩,if_pos e2,plus_get<|by rw[(h3 b hb).2 p hp];exact hq,h1,if_pos e2,puts_at hp hq];omega
    ·rw[if_neg<|fun z=>e2 z.1,if_neg e2,h1,if_neg e2]
   ·rw[(a j x hj hx).1]
    split
    ·rw[QL];exact(h3 j hj).2 x hx
    ·exact(h3 j hj).2 x hx
  ·rw[nowTo_no e,cellPuts,if_neg e,Int.add_zero]
   exact⟨h1,h2,h3⟩
end
section
variable{s : qJ}{t : qV}{own : yLI}{n : Nat}
theorem sumN_ext{f g:Nat->Int}:∀m,(∀j,j<m->f j=g j)->sumN f m=sumN g m
 |0,_=>rfl
 |m+1,h=>by rw[sumN,sumN,sumN_ext m fun j hj=>h j qf,h m qf]
theorem sumN_set{f:Nat->Int}{j:Nat}{v:Int}:∀m,j<m->sumN (fun b=>if b=j then v else f b) m=sumN f m-f j+v
 |m+1,h=>by
  rw[sumN,sumN]
  by_cases e:j=m
  ·subst e
   rw[if_pos J,sumN_ext (g:=f) j fun b hb=>if_neg qf];omega
  ·rw[sumN_set m qf,if_neg<|fun x=>e x.symm];omega
theorem srv_sum{u:qV}{p q:Nat}(ho:OwnIn own n):∀c,c<=own.length->sumN (fun k=>cellPuts s u own (k:Int) p q c) n=sumN (fun j=>Xa s u (xq s u) (j:Int) s.qB.length p q) c
 |0,_=>sumN_zero n
 |c+1,hc=>by
  have h:=ho.2 c qf
  have e:sumN (fun k=>cellPuts s u own (k:Int) p q<|c+1) n=sumN (fun k=>cellPuts s u own (k:Int) p q c+if own[c]! =(k:Int) then Xa s u (xq s u) (c:Int) s.qB.length p q else 0) n:=rfl
  rw[e,sumN_add,srv_sum ho c qf,sumN_one,if_pos h];rfl
theorem cell_sum{u:qV}{p q:Nat}(hs:jW s)(counts:yLI):∀i,i<=s.qB.length->sumN (fun j=>Xa s u counts (j:Int) i p q) (xJ s)=putS s u counts i p q
 |0,_=>sumN_zero _
 |i+1,hi=>by
  have hc:=(hs.rule (i:=i) qf).1
  have e:sumN (fun j=>Xa s u counts (j:Int) (i+1) p q) (xJ s)=sumN (fun j=>Xa s u counts (j:Int) i p q+if s.qB[i]!.qW=(j:Int) then putF s u s.qB[i]! counts[i]! p q else 0) (xJ s):=rfl
  rw[e,sumN_add,cell_sum hs counts i qf,sumN_one,if_pos ⟨hc.1,by have:=hc.2;show s.qB[i]!.qW<(s.qA.length:Int);omega⟩];rfl
theorem need_around{counts:yLI}(hs:jW s)(q:Nat):∀i,i<=s.qB.length->needS s counts i (xJ s) q=0
 |0,_=>rfl
 |i+1,hi=>by
  have hc:=(hs.rule (i:=i) qf).cell
  rw[needS,need_around hs q i qf,needF,at',if_neg qf];rfl
noncomputable def putR(s:qJ)(t:qV)(own:yLI)(n r k:Nat):List yLL:=Vl s (stG s t r) own (k:Int) n<|xJ s
def deskP(d:zG)(p q:Nat):Int:=((d.qG++[d.qF])[p]!)[q]!
structure Vg(s:qJ)(t:qV)(own:yLI)(n k:Nat)(d:zG):Prop where
 rest:d.qY=false->∀p,p<xJ s+1->vY own p=(k:Int)->∀q,q<vG s->deskP d p q=base0 s (stG s t d.qK.toNat) p q
 work:d.qY=true->∀p,p<xJ s+1->vY own p=(k:Int)->∀q,q<vG s->deskP d p q=base0 s (stG s t d.qK.toNat) p q+needS s (xq s<|stG s t d.qK.toNat) s.qB.length p q
 now:d.qY=true->d.jH=putR s t own n d.qK.toNat k
 coming:d.qY=true->∀p,p<xJ s+1->∀q,q<vG s->((d.qU)[p]!)[q]! =sumN (fun b=>if d.jA[b]! =true then (((putR s t own n d.qK.toNat b)[k]!)[p]!)[q]! else 0) n
 last:0<d.qK->d.zM=putR s t own n (d.qK.toNat-1) k
theorem deskP_cell(hl:d.qG.length=xJ s)(hp:p<xJ s):deskP d p q=(d.qG[p]!)[q]! :=by
 unfold deskP
 rw[getElem!_pos (d.qG++[d.qF]) p<|by rw[List.length_append];omega,getElem!_pos d.qG p qf,List.getElem_append_left qf]
theorem deskP_around(hl:d.qG.length=xJ s):deskP d (xJ s) q=(d.qF)[q]! :=by
 unfold deskP
 rw[←hl,getElem!_pos (d.qG++[d.qF]) d.qG.length qm];simp
theorem jk.bagsLen(h:jk s own n i d):d.qG.length=xJ s:=by
 have:=h.all.len
 rw[List.length_append,List.length_singleton] at this;omega
theorem whole_rep(hw:Whole t)(hl:t.qO.length=xJ s):t.qO=List.replicate (xJ s) true:=by
 refine List.ext_getElem (by simp[hl]) fun j h1 h2=>?_
 have:=hw j h1
 rw[getElem!_pos t.qO j h1] at this
 rw[this];simp
theorem Vg.sees(hg:Giv s own n)(ht:zA s t)(hw:Whole t)(hd:jk s own n k d)(h:Vg s t own n k d)(hf:d.qY=false)(hc:c<xJ s)(ho:own[c]! =(k:Int)):
 (viewD s d).qG[c]! =(stG s t d.qK.toNat).qG[c]! :=by
 have hoc:vY own c=(k:Int):=by rw[ownAt_n<|by rw[hg.len];omega];exact ho
 have hl:=hd.bagsLen
 have hb:jd s.qQ (d.qG[c]!):=by
  have:=hd.all.bag c qf
  rwa [getElem!_pos (d.qG++[d.qF]) c<|by rw[List.length_append];omega,List.getElem_append_left qf,←getElem!_pos d.qG c qf] at this
 have hL:∀r,((stG s t r).qG[c]!).length=vG s:=fun r=>by
  cases r with
  |zero=>exact(ht.shape.2 c hc).1
  |succ r=>
   show (((tab2 (xJ s+1) (vG s)<|stepF s (stG s t r)<|xq s<|stG s t r).take<|xJ s)[c]!).length=vG s
   rw[take_get hc,tab2_row qf];simp
 refine ext_get (by show d.qG[c]!.length=_;rw[hL];exact hb.len) fun q hq=>?_
 have hq:q<vG s:=by have:q<d.qG[c]!.length:=hq;rw[hb.len] at this;exact this
 have:=h.rest hf c qf hoc q hq
 rw[deskP_cell hl hc] at this
 show (d.qG[c]!)[q]! =_
 rw[this,base0,if_pos hc]
theorem view_alive(ht:zA s t)(hw:Whole t)(d:zG)(r:Nat):(viewD s d).qO=(stG s t r).qO:=by
 rw[stG_alive,whole_rep hw ht.1];rfl
theorem Vg.puts(hg:Giv s own n)(ht:zA s t)(hw:Whole t)(hd:jk s own n k d)(h:Vg s t own n k d)(hf:d.qY=false):nowD s own n k d=putR s t own n d.qK.toNat k:=
 now_same hg.sys (view_alive ht hw d _) hd.bagsLen (stG_bags ht.2.1 _) _ fun p hp e=>h.sees hg ht hw hd hf hp e
end
section
variable{s : qJ}{t : qV}{own : yLI}{n : Nat}
theorem Vg.begin(hg:Giv s own n)(k:Nat):Vg s t own n k (Vs s own t k):=by
 have hl:(Vs s own t k).qG.length=xJ s:=by simp[Vs]
 refine⟨fun _ p hp ho q hq=>?_,(fun h=>by cases h),(fun h=>by cases h),(fun h=>by cases h),fun h=>absurd h<|by show ¬(0:Int)<0;omega⟩
 show _=base0 s t p q
 unfold base0
 by_cases e:p<xJ s
 ·rw[if_pos e,deskP_cell hl e]
  have e2:own[p]! =(k:Int):=by rw[ownAt_n<|by rw[hg.len];omega] at ho;exact ho
  have:(Vs s own t k).qG[p]! =t.qG[p]! :=by
   show ((List.range<|xJ s).map fun c=>if own[c]! =(k:Int) then t.qG[c]! else List.replicate (vG s) 0)[p]! =_
   rw[getElem!_pos _ p<|by simpa using e];simp only[List.getElem_map,List.getElem_range];rw[if_pos e2]
  rw[this]
 ·rw[if_neg e,show p=xJ s by omega,deskP_around hl]
  have e2:own[0]! =(k:Int):=by rw[show p=xJ s by omega,ownAt_e<|by rw[hg.len]] at ho;exact ho
  show (if own[0]! =(k:Int) then t.qF else List.replicate (vG s) 0)[q]! =_
  rw[if_pos e2]
theorem Vg.worked(hg:Giv s own n)(ht:zA s t)(hw:Whole t)(hd:jk s own n k d)(h:Vg s t own n k d)(hf:d.qY=false)(hk:k<n):Vg s t own n k (workD s own n k d):=by
 have hl:=hd.bagsLen
 obtain⟨b1,b2⟩:=bagsD_rows hg hd
 have hn:=h.puts hg ht hw hd hf
 refine⟨(fun h=>by cases h),fun _ p hp ho q hq=>?_,fun _=>hn,fun _ p hp q hq=>?_,h.last⟩
 ·have h0:=h.rest hf p hp ho q hq
  by_cases e:p<xJ s
  ·rw[deskP_cell b1 e]
   rw[deskP_cell hl e] at h0
   show ((bagsD s d)[p]!)[q]! =_
   rw[(b2 p e).2 q hq,h0]
   have e2:own[p]! =(k:Int):=by rw[ownAt_n<|by rw[hg.len];omega] at ho;exact ho
   rw[need_same hg.sys (view_alive ht hw d d.qK.toNat) hl (stG_bags ht.2.1 _) (h.sees hg ht hw hd hf e e2) q _<|Nat.le_refl _]
   rfl
  ·have ep:p=xJ s:=by omega
   subst ep
   rw[deskP_around b1]
   rw[deskP_around hl] at h0
   show (d.qF)[q]! =_
   rw[h0,need_around hg.sys q _<|Nat.le_refl _,Int.add_zero];rfl
 ·show (((nowD s own n k d)[k]!)[p]!)[q]! =_
  have e:(fun b=>if ((List.replicate n false).set k true)[b]! =true then (((putR s t own n d.qK.toNat b)[k]!)[p]!)[q]! else 0)=fun b=>if ((List.replicate n false).set k true)[b]! =true then (((putR s t own n d.qK.toNat b)[k]!)[p]!)[q]! else 0:=rfl
  show _=sumN (fun b=>if ((List.replicate n false).set k true)[b]! =true then (((putR s t own n d.qK.toNat b)[k]!)[p]!)[q]! else 0) n
  rw[sumN_ext (g:=fun b=>if (k:Int)=(b:Int) then (((putR s t own n d.qK.toNat k)[k]!)[p]!)[q]! else 0) n fun b hb=>?_,sumN_one,if_pos ⟨by omega,by omega⟩,hn]
  rw[getset<|by simpa using hk]
  by_cases e:b=k
  ·subst e;rw[if_pos J,if_pos J,if_pos J]
  ·have e3:(List.replicate n false)[b]! =false:=by rw[getElem!_pos _ b<|by simpa using hb];simp
   rw[if_neg e,e3,if_neg qm,if_neg qf]
theorem Vg.got(hg:Giv s own n){p:zC}{d:zG}(hp:ParcelOk s own n p)(hd:jk s own n p.fTo.toNat d)(h:Vg s t own n p.fTo.toNat d)(hw:d.qY=true)(hr:d.qK=p.qK)(hng:(d.jA)[p.Q9.toNat]! =false)
 (hb:p.qG=(putR s t own n p.qK.toNat p.Q9.toNat)[p.fTo.toNat]!):Vg s t own n p.fTo.toNat (gotD d p):=by
 obtain⟨g1,g2,g3,g4⟩:=hd.got hw
 have hf:p.Q9.toNat<n:=by have:=hp.1;omega
 have JO:=addTab_rows g3 hp.2.2.1
 refine⟨(fun e=>by have e:d.qY=false:=e;rw[hw] at e;cases e),fun _=>h.work hw,fun _=>h.now hw,fun _ x hx q hq=>?_,h.last⟩
 show ((QO d.qU p.qG)[x]!)[q]! =sumN (fun b=>if (d.jA.set p.Q9.toNat true)[b]! =true then (((putR s t own n d.qK.toNat b)[p.fTo.toNat]!)[x]!)[q]! else 0) n
 rw[(JO.2 x hx).2 q hq,h.coming hw x hx q hq,hb,←hr]
 rw[sumN_ext (f:=fun b=>if (d.jA.set p.Q9.toNat true)[b]! =true then (((putR s t own n d.qK.toNat b)[p.fTo.toNat]!)[x]!)[q]! else 0)
  (g:=fun b=>if b=p.Q9.toNat then (((putR s t own n d.qK.toNat p.Q9.toNat)[p.fTo.toNat]!)[x]!)[q]! else if d.jA[b]! =true then (((putR s t own n d.qK.toNat b)[p.fTo.toNat]!)[x]!)[q]! else 0) n fun b hb=>?_]
 ·rw[sumN_set n hf,hng,if_neg qm];omega
 ·rw[getset<|by rw[g2];exact hf]
  by_cases e:b=p.Q9.toNat
  ·subst e;rw[if_pos J,if_pos J,if_pos J]
  ·rw[if_neg e,if_neg e]
theorem Vg.next(hg:Giv s own n)(hd:jk s own n k d)(h:Vg s t own n k d)(hw:d.qY=true)(ha:AllGot d.jA d.jA.length)(hk:k<n):Vg s t own n k (nextD s d):=by
 obtain⟨g1,g2,g3,g4⟩:=hd.got hw
 have hr:=hd.rnd
 have JO:=addTab_rows hd.all g3
 have er:(d.qK+1).toNat=d.qK.toNat+1:=by omega
 refine⟨fun _ p hp ho q hq=>?_,(fun e=>by cases e),(fun e=>by cases e),(fun e=>by cases e),fun _=>?_⟩
 ·show ((((sumD d).take<|xJ s)++[(sumD d)[xJ s]!])[p]!)[q]! =base0 s (stG s t (d.qK+1).toNat) p q
  have tJ:(sumD d).length=xJ s+1:=JO.1
  rw[take_cat tJ,er,stG_get hp hq]
  show ((QO (d.qG++[d.qF]) d.qU)[p]!)[q]! =_
  rw[(JO.2 p hp).2 q hq,h.coming hw p hp q hq]
  have h1:=h.work hw p hp ho q hq
  unfold deskP at h1
  rw[h1,stepF,allS_eq]
  have e2:sumN (fun b=>if d.jA[b]! =true then (((putR s t own n d.qK.toNat b)[k]!)[p]!)[q]! else 0) n=sumN (fun b=>cellPuts s (stG s t d.qK.toNat) own (b:Int) p q<|xJ s) n:=sumN_ext n fun b hb=>by
   rw[if_pos<|ha b<|by rw[g2];exact hb]
   have:=(now_get (s:=s) (u:=stG s t d.qK.toNat) (i:=(b:Int)) hg.own hg.len hk hp hq (xJ s)<|Nat.le_refl _).1
   unfold putR
   rw[this,if_pos ho]
  rw[e2,srv_sum hg.own (xJ s)<|by rw[hg.len];exact Nat.le_refl _,cell_sum hg.sys _ _<|Nat.le_refl _]
  omega
 ·show d.jH=putR s t own n ((d.qK+1).toNat-1) k
  rw[h.now hw,er,Nat.add_sub_cancel]
end
section
variable{s : qJ}{t : qV}{own : yLI}{n : Nat}
theorem come_elim(P:zO->Prop){p:zC}(h0:P v)
 (abY:v.qE[p.fTo.toNat]!.qC.qY=true->v.qE[p.fTo.toNat]!.qC.qK=p.qK->(v.qE[p.fTo.toNat]!.qC.jA)[p.Q9.toNat]! =false->P (Qd v p.fTo.toNat<|gotD v.qE[p.fTo.toNat]!.qC p)):P (comeM v p).1:=by
 unfold comeM
 split
 ·exact h0
 ·rename_i h1
  split
  ·refine abY ?_ ?_ ?_
   ·cases e:v.qE[p.fTo.toNat]!.qC.qY with
    |true=>rfl
    |false=>exact absurd (.inl e) h1
   ·exact Classical.byContradiction fun e=>h1<|.inr<|.inl e
   ·cases e:(v.qE[p.fTo.toNat]!.qC.jA)[p.Q9.toNat]! with
    |false=>rfl
    |true=>exact absurd (.inr<|.inr e) h1
  ·exact h0
theorem do_elim(P:zO->Prop){d:Qu}(h:Vo s own n v)(hd:VT d)(h0:P v)
 (anM:∀a b:Nat,a<n->b<n->(a:Int)=d.fA->(b:Int)=d.fB->Xg (v.qE[a]!)->P { v with vz:=v.vz++[⟨v.qE[a]!.qC.qK,a,b,(v.qE[a]!.qR.jH)[b]!⟩]})
 (alt:∀a b:Nat,a<n->b<n->v.qE[a]!.qC.qK≠0->P { v with vz:=v.vz++[⟨v.qE[a]!.qC.qK-1,a,b,(v.qE[a]!.qC.zM)[b]!⟩]})
 (O2:∀(v':zO) (i:Nat),P v' ->P { v' with vz:=v'.vz.eraseIdx i })
 (abY:∀j,j<v.vz.length->(v.qE[v.vz[j]!.fTo.toNat]!).qC.qY=true->(v.qE[v.vz[j]!.fTo.toNat]!).qC.qK=v.vz[j]!.qK->((v.qE[v.vz[j]!.fTo.toNat]!).qC.jA)[v.vz[j]!.Q9.toNat]! =false→
  P (Qd v v.vz[j]!.fTo.toNat<|gotD (v.qE[v.vz[j]!.fTo.toNat]!).qC<|v.vz[j]!))
 (ame:∀i,i<n->v.qE[i]!.qC.qY=false->P (Qd v i<|workD s own n i v.qE[i]!.qC))
 (arC:∀i,i<n->v.qE[i]!.qC.qY=true->AllGot v.qE[i]!.qC.jA v.qE[i]!.qC.jA.length->Xg (v.qE[i]!)->P (Qd v i<|nextD s v.qE[i]!.qC))
 (aqC:∀i,i<n->P (putSaved v i v.qE[i]!.qC)) (acv:∀i,i<n->P (Qd v i v.qE[i]!.qR)):P (doM s own v d).1:=by
 unfold doM
 split
 ·unfold sendM
  split
  ·exact h0
  ·rename_i h1
   have ha:Yl v d.fA:=Classical.byContradiction fun x=>h1<|.inl x
   have hb:Yl v d.fB:=Classical.byContradiction fun x=>h1<|.inr<|.inl x
   rw[srvIn_iff h] at ha hb
   have ea:((d.fA.toNat:Nat):Int)=d.fA:=by omega
   have eb:((d.fB.toNat:Nat):Int)=d.fB:=by omega
   split
   ·split
    ·exact h0
    ·split
     ·exact h0
     ·rename_i h2 h3
      have:=anM d.fA.toNat d.fB.toNat qf qf ea eb<|Classical.byContradiction h2
      rw[ea,eb] at this
      exact this
   ·split
    ·exact h0
    ·split
     ·exact h0
     ·rename_i h2 h3
      have:=alt d.fA.toNat d.fB.toNat qf qf h2
      rw[ea,eb] at this
      exact this
 ·split
  ·unfold wireM
   split
   ·exact h0
   ·rename_i h1
    have hc:P (comeM v<|v.vz[d.fA.toNat]!).1:=come_elim P h0<|abY d.fA.toNat (by have:=hd.2.1;omega)
    by_cases e8:d.xQ=8
    ·simp only[e8,if_pos]
     exact O2 _ _ h0
    ·simp only[if_neg e8]
     split
     ·exact hc
     ·split
      ·exact hc
      ·exact O2 _ _ hc
  ·split
   ·exact h0
   ·rename_i h1
    have ha:Yl v d.fA:=Classical.byContradiction h1
    rw[srvIn_iff h] at ha
    split
    ·unfold workM
     split
     ·exact h0
     ·rename_i h2
      split
      ·exact h0
      ·split
       ·have:=ame d.fA.toNat qf (by
         cases e:v.qE[d.fA.toNat]!.qC.qY with
         |false=>rfl
         |true=>exact absurd e h2)
        rw[h.len]
        exact this
       ·exact h0
    ·split
     ·unfold QR
      split
      ·exact h0
      ·rename_i h2
       have hw:=Classical.byContradiction h2
       split
       ·exact arC d.fA.toNat qf hw.1 hw.2.1 hw.2.2
       ·exact h0
     ·split
      ·exact aqC d.fA.toNat qf
      ·exact acv d.fA.toNat qf
theorem put_desk(h:v.qE.length=n)(hi:i<n)(d:zG):((Qd v i d).qE[j]!).qC=(if j=i then d else v.qE[j]!.qC)/\((Qd v i d).qE[j]!).qR=v.qE[j]!.qR:=by
 show ((v.qE.set i { v.qE[i]! with qC:=d })[j]!).qC=_/\((v.qE.set i { v.qE[i]! with qC:=d })[j]!).qR=_
 rw[set_srv<|by rw[h];exact hi]
 by_cases e:j=i
 ·subst e;rw[if_pos J,if_pos J];exact⟨rfl,rfl⟩
 ·rw[if_neg e,if_neg e];exact⟨rfl,rfl⟩
theorem put_saved(h:v.qE.length=n)(hi:i<n)(d:zG):((putSaved v i d).qE[j]!).qR=(if j=i then d else v.qE[j]!.qR)/\((putSaved v i d).qE[j]!).qC=v.qE[j]!.qC:=by
 show ((v.qE.set i { v.qE[i]! with qR:=d })[j]!).qR=_/\((v.qE.set i { v.qE[i]! with qR:=d })[j]!).qC=_
 rw[set_srv<|by rw[h];exact hi]
 by_cases e:j=i
 ·subst e;rw[if_pos J,if_pos J];exact⟨rfl,rfl⟩
 ·rw[if_neg e,if_neg e];exact⟨rfl,rfl⟩
def ParcelIs(s:qJ)(t:qV)(own:yLI)(n:Nat)(p:zC):Prop:=p.qG=(putR s t own n p.qK.toNat p.Q9.toNat)[p.fTo.toNat]!
structure TisIs(s:qJ)(t:qV)(own:yLI)(n:Nat)(v:zO):Prop where
 len:v.qE.length=n
 desk:∀k,k<n->Vg s t own n k v.qE[k]!.qC/\Vg s t own n k v.qE[k]!.qR
 wire:∀j,j<v.vz.length->ParcelIs s t own n v.vz[j]!
theorem TisIs.Qd{v:zO}(h:TisIs s t own n v){i:Nat}(hi:i<n){d:zG}(hd:Vg s t own n i d):TisIs s t own n (Qd v i d):=by
 refine⟨by simp[Go.Proofs.YtghikkinnchndaaGreat.Qd,h.len],fun k hk=>?_,h.wire⟩
 obtain⟨e1,e2⟩:=put_desk (j:=k) h.len hi d
 rw[e1,e2]
 refine⟨?_,(h.desk k hk).2⟩
 split
 ·rename_i e;rw[e];exact hd
 ·exact(h.desk k hk).1
theorem TisIs.doM(hg:Giv s own n)(ht:zA s t)(hw:Whole t)(ho:Vo s own n v)(h:TisIs s t own n v){d:Qu}(hd:VT d):TisIs s t own n (doM s own v d).1:=by
 refine do_elim (TisIs s t own n) ho hd h (fun a b ha hb ea eb sv=>?_) (fun a b ha hb hr=>?_) (fun v' i h'=>?_) (fun j hj UB hrd hng=>?_) (fun i hi hf=>?_) (fun i hi UB hgt sv=>?_) (fun i hi=>?_)<|fun i hi=>?_
 ·refine⟨h.len,h.desk,fun j hj=>?_⟩
  show ParcelIs s t own n ((v.vz++[_])[j]!)
  rw[get_cat hj]
  split
  ·exact h.wire j ql
  ·show (v.qE[a]!.qR.jH)[b]! =_
   rw[(h.desk a ha).2.now sv.2,sv.1];rfl
 ·refine⟨h.len,h.desk,fun j hj=>?_⟩
  show ParcelIs s t own n ((v.vz++[_])[j]!)
  rw[get_cat hj]
  split
  ·exact h.wire j ql
  ·have r:=(ho.srv a ha).1.rnd
   show (v.qE[a]!.qC.zM)[b]! =(putR s t own n (v.qE[a]!.qC.qK-1).toNat a)[b]!
   rw[(h.desk a ha).1.last qf,show (v.qE[a]!.qC.qK-1).toNat=v.qE[a]!.qC.qK.toNat-1 by omega]
 ·refine⟨h'.len,h'.desk,fun j hj=>?_⟩
  obtain⟨k,hk,e⟩:=erase_get hj
  show ParcelIs s t own n ((v'.vz.eraseIdx i)[j]!)
  rw[e];exact h'.wire k hk
 ·have hp:=ho.wire j hj
  have RP:v.vz[j]!.fTo.toNat<n:=by have:=hp.2.1;omega
  exact h.Qd RP<|Vg.got hg hp (ho.srv _ RP).1 (h.desk _ RP).1 UB hrd hng<|h.wire j hj
 ·exact h.Qd hi<|Vg.worked hg ht hw (ho.srv i hi).1 (h.desk i hi).1 hf hi
 ·exact h.Qd hi<|Vg.next hg (ho.srv i hi).1 (h.desk i hi).1 UB hgt hi
 ·refine⟨by simp[putSaved,h.len],fun k hk=>?_,h.wire⟩
  obtain⟨e1,e2⟩:=put_saved (j:=k) h.len hi v.qE[i]!.qC
  rw[e1,e2]
  refine⟨(h.desk k hk).1,?_⟩
  split
  ·rename_i e;rw[e];exact(h.desk i hi).1
  ·exact(h.desk k hk).2
 ·exact h.Qd hi (h.desk i hi).2
end
section
variable{s : qJ}{t : qV}{own : yLI}{n : Nat}
def Done(x:zI)(r:Int):Prop:=r<x.qR.qK\/(r=x.qR.qK/\x.qR.qY=true)
def LeS(x:zI):Prop:=x.qR.qK<x.qC.qK\/(x.qR.qK=x.qC.qK/\(x.qR.qY=true->x.qC.qY=true))
theorem Done.down{q:Int}(h:Done x r)(hq:q<=r):Done x q:=by
 rcases h with h|⟨h,h1⟩
 ·exact .inl qf
 ·by_cases e:q=r
  ·exact .inr ⟨by omega,h1⟩
  ·exact .inl qf
theorem Done.eq(h:Done x r)(e:y.qR=x.qR):Done y r:=by unfold Done;rw[e];exact h
theorem Done.save(h:Done x r)(hl:LeS x)(e:y.qR=x.qC):Done y r:=by
 unfold Done;rw[e]
 rcases h with h|⟨h,h1⟩ <;> rcases hl with g|⟨g,g1⟩
 ·exact .inl qf
 ·exact .inl qf
 ·exact .inl qf
 ·exact .inr ⟨by omega,g1 h1⟩
structure RndIs(n:Nat)(v:zO):Prop where
 len:v.qE.length=n
 le:∀k,k<n->LeS v.qE[k]!
 adv:∀k,k<n->0<v.qE[k]!.qC.qK->∀b,b<n->Done v.qE[b]! (v.qE[k]!.qC.qK-1)
 got:∀k,k<n->v.qE[k]!.qC.qY=true->∀b,b<n->b≠k->(v.qE[k]!.qC.jA)[b]! =true->Done v.qE[b]! v.qE[k]!.qC.qK
 gotS:∀k,k<n->v.qE[k]!.qR.qY=true->∀b,b<n->b≠k->(v.qE[k]!.qR.jA)[b]! =true->Done v.qE[b]! v.qE[k]!.qR.qK
 wire:∀j,j<v.vz.length->Done (v.qE[v.vz[j]!.Q9.toNat]!) v.vz[j]!.qK
theorem RndIs.post(h:RndIs n v){p:zC}(hp:Done v.qE[p.Q9.toNat]! p.qK):RndIs n { v with vz:=v.vz++[p]}:=by
 refine⟨h.len,h.le,h.adv,h.got,h.gotS,fun j hj=>?_⟩
 show Done (v.qE[((v.vz++[p])[j]!).Q9.toNat]!) ((v.vz++[p])[j]!).qK
 rw[get_cat hj]
 split
 ·exact h.wire j ql
 ·exact hp
theorem RndIs.desk(h:RndIs n v)(hi:i<n)(hl:v.qE[i]!.qR.qK<d.qK\/(v.qE[i]!.qR.qK=d.qK/\(v.qE[i]!.qR.qY=true->d.qY=true)))
 (ha:0<d.qK->∀b,b<n->Done v.qE[b]! (d.qK-1)) (hg:d.qY=true->∀b,b<n->b≠i->(d.jA)[b]! =true->Done v.qE[b]! d.qK):RndIs n (Qd v i d):=by
 have pd:=fun j=>put_desk (j:=j) h.len hi d
 have dn:∀b r,Done v.qE[b]! r->Done ((Qd v i d).qE[b]!) r:=fun b r hd=>hd.eq (pd b).2
 refine⟨by simp[Qd,h.len],fun k hk=>?_,fun k hk=>?_,fun k hk=>?_,fun k hk=>?_,fun j hj=>dn _ _<|h.wire j hj⟩
 ·unfold LeS
  rw[(pd k).1,(pd k).2]
  split
  ·rename_i e;subst e;exact hl
  ·exact h.le k hk
 ·rw[(pd k).1]
  split
  ·exact fun h0 b hb=>dn _ _<|ha h0 b hb
  ·exact fun h0 b hb=>dn _ _<|h.adv k hk h0 b hb
 ·rw[(pd k).1]
  split
  ·rename_i e;subst e;exact fun h0 b hb iw tD=>dn _ _<|hg h0 b hb iw tD
  ·exact fun h0 b hb iw tD=>dn _ _<|h.got k hk h0 b hb iw tD
 ·rw[(pd k).2]
  exact fun h0 b hb iw tD=>dn _ _<|h.gotS k hk h0 b hb iw tD
theorem RndIs.doM(ho:Vo s own n v)(h:RndIs n v){d:Qu}(hd:VT d):RndIs n (doM s own v d).1:=by
 refine do_elim (RndIs n) ho hd h (fun a b ha hb ea eb sv=>?_) (fun a b ha hb hr=>?_) (fun v' i h'=>?_) (fun j hj UB hrd hng=>?_) (fun i hi hf=>?_) (fun i hi UB hgt sv=>?_) (fun i hi=>?_)<|fun i hi=>?_
 ·exact h.post<|.inr ⟨sv.1.symm,sv.2⟩
 ·have r:=(ho.srv a ha).1.rnd
  exact h.post<|h.adv a ha qf a ha
 ·refine⟨h'.len,h'.le,h'.adv,h'.got,h'.gotS,fun j hj=>?_⟩
  obtain⟨k,hk,e⟩:=erase_get hj
  show Done (v'.qE[((v'.vz.eraseIdx i)[j]!).Q9.toNat]!) ((v'.vz.eraseIdx i)[j]!).qK
  rw[e];exact h'.wire k hk
 ·have hp:=ho.wire j hj
  have RP:v.vz[j]!.fTo.toNat<n:=by have:=hp.2.1;omega
  have hf2:v.vz[j]!.Q9.toNat<n:=by have:=hp.1;omega
  have gl:=((ho.srv _ RP).1.got UB).2.1
  refine h.desk RP (h.le _ RP) (h.adv _ RP) fun hw b hb iw tD=>?_
  have tD:((v.qE[v.vz[j]!.fTo.toNat]!).qC.jA.set v.vz[j]!.Q9.toNat true)[b]! =true:=tD
  rw[getset<|by rw[gl];exact hf2] at tD
  show Done v.qE[b]! (v.qE[v.vz[j]!.fTo.toNat]!).qC.qK
  by_cases e:b=v.vz[j]!.Q9.toNat
  ·rw[e,hrd];exact h.wire j hj
  ·rw[if_neg e] at tD
   exact h.got _ RP UB b hb iw tD
 ·refine h.desk hi ?_ (h.adv i hi) fun hw b hb iw tD=>?_
  ·rcases h.le i hi with g|⟨g,_⟩
   ·exact .inl g
   ·exact .inr ⟨g,fun _=>rfl⟩
  ·have tD:((List.replicate n false).set i true)[b]! =true:=tD
   rw[getset<|by simpa using hi,if_neg iw] at tD
   have:(List.replicate n false)[b]! =false:=by rw[getElem!_pos _ b<|by simpa using hb];simp
   rw[this] at tD;cases tD
 ·have gl:=((ho.srv i hi).1.got UB).2.1
  have r:=(ho.srv i hi).1.rnd
  refine h.desk hi (.inl<|by rw[sv.1];show v.qE[i]!.qC.qK<v.qE[i]!.qC.qK+1;omega) (fun _ b hb=>?_)<|fun hw=>by cases hw
  show Done v.qE[b]! (v.qE[i]!.qC.qK+1-1)
  rw[show v.qE[i]!.qC.qK+1-1=v.qE[i]!.qC.qK by omega]
  by_cases e:b=i
  ·subst e;exact .inr ⟨sv.1.symm,sv.2⟩
  ·exact h.got i hi UB b hb e<|hgt b<|by rw[gl];exact hb
 ·have ps:=fun j=>put_saved (j:=j) h.len hi v.qE[i]!.qC
  have dn:∀b r,Done v.qE[b]! r->Done ((putSaved v i v.qE[i]!.qC).qE[b]!) r:=fun b r hd=>by
   by_cases e:b=i
   ·subst e;exact hd.save (h.le b hi)<|by rw[(ps b).1,if_pos J]
   ·exact hd.eq<|by rw[(ps b).1,if_neg e]
  refine⟨by simp[putSaved,h.len],fun k hk=>?_,fun k hk=>?_,fun k hk=>?_,fun k hk=>?_,fun j hj=>dn _ _<|h.wire j hj⟩
  ·unfold LeS
   rw[(ps k).1,(ps k).2]
   split
   ·rename_i e;subst e;exact .inr ⟨rfl,fun x=>x⟩
   ·exact h.le k hk
  ·rw[(ps k).2];exact fun h0 b hb=>dn _ _<|h.adv k hk h0 b hb
  ·rw[(ps k).2];exact fun h0 b hb iw tD=>dn _ _<|h.got k hk h0 b hb iw tD
  ·rw[(ps k).1]
   split
   ·rename_i e;subst e;exact fun h0 b hb iw tD=>dn _ _<|h.got k hk h0 b hb iw tD
   ·exact fun h0 b hb iw tD=>dn _ _<|h.gotS k hk h0 b hb iw tD
 ·refine h.desk hi (.inr ⟨J,fun x=>x⟩) (fun h0 b hb=>?_) (h.gotS i hi)
  have hl:=h.le i hi
  have:v.qE[i]!.qR.qK<=v.qE[i]!.qC.qK:=by rcases hl with g|⟨g,_⟩ <;> omega
  exact(h.adv i hi qf b hb).down qf
theorem RndIs.near(ho:Vo s own n v)(h:RndIs n v){b:Nat}(hk:k<n)(hb:b<n):v.qE[k]!.qC.qK-v.qE[b]!.qC.qK<=1/\v.qE[k]!.qR.qK<=v.qE[k]!.qC.qK:=by
 have lk:=h.le k hk
 have lb:=h.le b hb
 have r:=(ho.srv b hb).1.rnd
 have l1:v.qE[k]!.qR.qK<=v.qE[k]!.qC.qK:=by rcases lk with g|⟨g,_⟩ <;> omega
 have l2:v.qE[b]!.qR.qK<=v.qE[b]!.qC.qK:=by rcases lb with g|⟨g,_⟩ <;> omega
 refine⟨?_,l1⟩
 by_cases h0:0<v.qE[k]!.qC.qK
 ·rcases h.adv k hk h0 b hb with g|⟨g,_⟩ <;> omega
 ·omega
theorem RndIs.begin(hg:Giv s own n)(ht:zA s t):RndIs n (xk s own t n):=by
 have e:∀k,k<n->(xk s own t n).qE[k]! =⟨Vs s own t k,Vs s own t k⟩:=fun k hk=>by
  show (yZ s own t n)[k]! =_
  rw[getElem!_pos (yZ s own t n) k<|by simpa [yZ] using hk];simp[yZ]
 refine⟨by simp[xk,yZ],fun k hk=>?_,fun k hk=>?_,fun k hk=>?_,fun k hk=>?_,fun j hj=>by simp[xk] at hj⟩
 ·rw[e k hk];exact .inr ⟨rfl,fun x=>x⟩
 ·rw[e k hk];exact fun h0=>absurd h0<|by show ¬(0:Int)<0;omega
 ·rw[e k hk];exact fun h0=>by cases h0
 ·rw[e k hk];exact fun h0=>by cases h0
theorem TisIs.begin(hg:Giv s own n):TisIs s t own n (xk s own t n):=by
 have e:∀k,k<n->(xk s own t n).qE[k]! =⟨Vs s own t k,Vs s own t k⟩:=fun k hk=>by
  show (yZ s own t n)[k]! =_
  rw[getElem!_pos (yZ s own t n) k<|by simpa [yZ] using hk];simp[yZ]
 refine⟨by simp[xk,yZ],fun k hk=>?_,fun j hj=>by simp[xk] at hj⟩
 rw[e k hk];exact⟨Vg.begin hg k,Vg.begin hg k⟩
theorem run_is(hg:Giv s own n)(ht:zA s t)(hw:Whole t){l:List Qu}(hl:∀k,k<l.length->VT l[k]!):∀k,k<=l.length→
 TisIs s t own n (x9 s own (xk s own t n) l k).1/\RndIs n (x9 s own (xk s own t n) l k).1
 |0,_=>⟨TisIs.begin hg,RndIs.begin hg ht⟩
 |k+1,hk=>by
  have ih:=run_is hg ht hw hl k qf
  have ok:=run_ok hg (begin_ok hg ht) hl k qf
  exact⟨TisIs.doM hg ht hw ok ih.1<|hl k qf,RndIs.doM ok ih.2<|hl k qf⟩
end
section
variable{s : qJ}{t u : qV}{own : yLI}{n : Nat}
theorem halt_no(h:Halted s u)(hi:i<s.qB.length):¬Appl s u i:=h i hi
theorem halt_cnt(h:Halted s u)(hi:i<s.qB.length):(xq s u)[i]! =0:=by
 rw[firstL_get hi,VW<|halt_no h hi]
theorem halt_all(h:Halted s u)(p q:Nat):∀i,i<=s.qB.length->allS s u (xq s u) i p q=0
 |0,_=>rfl
 |i+1,hi=>by
  have e:=halt_cnt h (i:=i) qf
  rw[allS,halt_all h p q i qf,needF,putF_zero s u _ e,e,Int.neg_zero,at_zero];rfl
theorem halt_fix(hs:jW s)(hu:zA s u)(h:Halted s u):zX s u (xq s u)=u:=by
 have e:∀p q,stepF s u (xq s u) p q=base0 s u p q:=fun p q=>by rw[stepF,halt_all h p q _<|Nat.le_refl _,Int.add_zero]
 have hsh:=hu.shape
 refine state_eq J ?_ ?_
 ·show (tab2 (xJ s+1) (vG s)<|stepF s u<|xq s u).take (xJ s)=u.qG
  refine ext_get (by rw[List.length_take,tab2_len,hsh.1];omega) fun p hp=>?_
  rw[List.length_take,tab2_len] at hp
  rw[take_get qf]
  refine ext_get (by rw[tab2_row qf,(hsh.2 p qf).1];simp) fun q hq=>?_
  rw[tab2_row qf] at hq
  rw[tab2_at qf<|by simpa using hq,e,base0,if_pos qf]
 ·show (tab2 (xJ s+1) (vG s)<|stepF s u<|xq s u)[xJ s]! =u.qF
  refine ext_get (by rw[tab2_row qf,hu.around.1];simp) fun q hq=>?_
  rw[tab2_row qf] at hq
  rw[tab2_at qf<|by simpa using hq,e,base0,if_neg qf]
theorem stG_halt(hs:jW s)(hu:zA s u)(h:Halted s u):∀r,stG s u r=u
 |0=>rfl
 |r+1=>by rw[stG,stG_halt hs hu h r,halt_fix hs hu h]
theorem stG_shift:∀r,stG s (zX s u<|xq s u) r=stG s u (r+1)
 |0=>rfl
 |r+1=>by rw[stG,stG_shift r];rfl
theorem stepBy_still(hs:jW s)(hu:zA s u)(Rz:Still s):yR s u (xq s u)=told s (zX s u<|xq s u):=by
 rw[stepBy_yes<|first_isCh hs hu,stepRes,still_down Rz]
theorem runGo_gs(hs:jW s)(Rz:Still s):∀(f:Nat) (fF:Int) (u:qV),zA s u->(runGo s f fF u).2.2=0->(runGo s f fF u).1=stG s u f
 |0,fF,u,_,_=>rfl
 |f+1,fF,u,hu,hz=>by
  by_cases hh:Halted s u
  ·rw[runGo_halt hh,stG_halt hs hu hh]
  ·by_cases hc:(yR s u<|xq s u).2=0
   ·have ok:=stepBy_ok hc
    rw[runGo_go J hh hc] at hz ⊢
    rw[runGo_gs hs Rz f _ _ ok hz]
    rw[stepBy_still hs hu Rz] at hc ⊢
    by_cases h2:zA s (zX s u<|xq s u)
    ·rw[told_yes h2];exact stG_shift f
    ·rw[told_no h2] at hc;exact absurd hc qj
   ·rw[runGo_bad qf hh hc] at hz;exact absurd hz hc
theorem runGo_code(hs:jW s)(Rz:Still s):∀(f:Nat) (fF:Int) (u:qV),zA s u->(runGo s f fF u).2.2=0\/(runGo s f fF u).2.2=3
 |0,fF,u,_=>.inl rfl
 |f+1,fF,u,hu=>by
  by_cases hh:Halted s u
  ·rw[runGo_halt hh];exact .inl J
  ·by_cases hc:(yR s u<|xq s u).2=0
   ·rw[runGo_go J hh hc];exact runGo_code hs Rz f _ _<|stepBy_ok hc
   ·rw[runGo_bad qf hh hc]
    rw[stepBy_still hs hu Rz] at hc ⊢
    by_cases h2:zA s (zX s u<|xq s u)
    ·rw[told_yes h2] at hc;exact absurd J hc
    ·rw[told_no h2];exact .inr J
theorem Vg.seesA(hg:Giv s own n)(hd:jk s own n k d)(h:Vg s t own n k d)(hf:d.qY=false)(ho:own[0]! =(k:Int)){w:qV}(hw:w=stG s t d.qK.toNat)(hok:zA s w):d.qF=w.qF:=by
 have hl:=hd.bagsLen
 have hb:jd s.qQ d.qF:=by
  have:=hd.all.bag (xJ s) qf
  rwa [←hl,getElem!_pos (d.qG++[d.qF]) d.qG.length qm,List.getElem_append_right qf,List.getElem_singleton] at this
 refine ext_get (by rw[hb.len,hok.around.1]) fun q hq=>?_
 have hq:q<vG s:=by rw[hb.len] at hq;exact hq
 have:=h.rest hf (xJ s) qf (by rw[ownAt_e<|by rw[hg.len]];exact ho) q hq
 rw[deskP_around hl] at this
 rw[this,base0,if_neg qf,hw]
theorem tissue_at(hg:Giv s own n)(ht:zA s t)(hw:Whole t)(Rz:Still s){V:zO}(ok:Vo s own n V)(h:TisIs s t own n V)(hk:k<n)(hf:V.qE[k]!.qC.qY=false)(hr:V.qE[k]!.qC.qK<=200):
 ((QS s t V.qE[k]!.qC.qK).2.2=0\/(QS s t V.qE[k]!.qC.qK).2.2=3)/\((QS s t V.qE[k]!.qC.qK).2.2=0→
  zA s (QS s t V.qE[k]!.qC.qK).1/\(∀c,c<xJ s->own[c]! =(k:Int)->V.qE[k]!.qC.qG[c]! =(QS s t V.qE[k]!.qC.qK).1.qG[c]!)∧
  (own[0]! =(k:Int)->V.qE[k]!.qC.qF=(QS s t V.qE[k]!.qC.qK).1.qF)):=by
 have hd:=(ok.srv k hk).1
 have hi:=(h.desk k hk).1
 rw[run_0 ⟨hg.sys,ht⟩ ⟨hd.rnd.1,hr⟩]
 refine⟨runGo_code hg.sys Rz _ _ _ ht,fun hz=>?_⟩
 have e:=runGo_gs hg.sys Rz _ _ _ ht hz
 have so:=runGo_ok _ _ _ ht hz
 refine⟨so,fun c hc ho=>?_,fun ho=>hi.seesA hg hd hf ho e so⟩
 rw[e]
 exact hi.sees hg ht hw hd hf hc ho
end
section
variable{s : qJ}{own : yLI}{v : zO}{l : List Qu}{n : Nat}
structure ParcelAt(V A B C:zO):Prop where
 same:A=B
 wire:C.vz.length+1=V.vz.length
 srv:C.qE=V.qE
theorem Deeds.one{k:Int}{K:Int}(h:Deeds l)(h0:0<=k/\k<=999)(hK:1<=K/\K<=9):Deeds (l++[⟨K,k,0⟩]):=h.snoc ⟨hK,h0,⟨Int.le_refl _,by show (0:Int)<=999;decide⟩,.inr<|.inr J⟩
theorem Deeds.two{k:Int}(h:Deeds l)(h0:0<=k/\k<=999):Deeds (l++[⟨7,k,0⟩,⟨6,k,0⟩]):=by
 have:=(h.one h0 (K:=7) qj).one h0 (K:=6) qj
 rwa [List.append_assoc] at this
end
end
section
theorem law_FnTissue(w:World)(ag:List UInt8)(more:List UInt8)(qs:yOA)(qb:Nat)(Aw:yLN)(ki:yOA)(j5:Nat)(sT:yLN)(ZS:zP w Aw qs qb ag)(mR:zP w sT ki j5 more):Calls Tryz.prog 5 #[Sv qs ag.length qb,Sv ki more.length j5] w (Ret (fun v w'=>v=Bv true) w):=by
 refine en func5 ntmps5 ?_
 have H:=((St.start w).arg mR).arg ZS
 clear ZS mR
 have N:=Fresh.nil w.heap.size
 refine zcr<|sp (Bv false)<|zjcc<|sq 2<|sw<|vF #[Sv qs ag.length qb,Sv ki more.length j5] J J call7<|en func7 ntmps7 ?_
 refine zcr<|sp (Bv false)<|zjc<|sq 1<|oN J<|sp (Bv<|decide ((ag.length:Int)>3000))<|sp (Bv<|decide ((ag.length:Int)>3000)) ?_
 cases h1:(decide ((ag.length:Int)>3000))
 ·replace h1:=of_decide_eq_false h1
  refine qP 8 J J<|sq 1<|qP 8 J J<|oN J<|qP 8 J J<|sp (Bv<|decide ((more.length:Int)>3000))<|sp (Bv<|decide ((more.length:Int)>3000))<|sp (Bv<|decide ((more.length:Int)>3000))<|zjr<|ret1 (Bv<|decide ((more.length:Int)>3000)) J J ⟨_,J,(zjn<|cD J (fun h2=>?_)<|fun h2=>?_)⟩
  ·refine zcr (sp (Bv true)<|zjr<|t_r<|rH1 (Bv true) H ?_)
   rfl
  refine xe<|t_n<|zcr<|sq 1 ?_
  have H1:St w w [] [sF false Aw qs qb ag,sF false sT ki j5 more]:=H.pick [] [0,1]
  have N1:Fresh _ []:=N
  have K1:Kept [] [sF false sT ki j5 more]:=Kept.nil _
  refine sw<|zT #[Sv qs ag.length qb] J J call8 (a2Tissue_ok ag qs qb Aw H1 N1 K1 ) ?_
  clear H H1 N1 K1
  rintro _ w3 ⟨N6,aeC,abH,abE,adn,aeF,cg,f9,aCh,fT,nO,aI4,fh,aLw,aJm,l0,axK,oO,e7,axo,oP,aLb,aJv,oQ,awA,mL,BD,aQe,CN,hx5,hx6,hx7,hx8,hx9,rfl,N,H⟩
  obtain rfl:=H.yt 0 rfl
  obtain rfl:=H.xf (α:=yz) 1 rfl 1 rfl qj
  obtain rfl:=H.Vt 2 rfl
  obtain rfl:=H.xf (α:=yLI) 3 rfl 2 rfl qj
  obtain rfl:=H.yt 4 rfl
  obtain rfl:=H.yt 5 rfl
  refine sq 4<|sw<|x8 H ti27 [yI 0,yN,yN] fun b39 w40 H=>sw<|x8 H ti31 [yN,yN,yN] fun GN Ul H=>(sw<|xZ H 1 [yI N6,Sv f9 aeC.length fT,Sv nO abH.length fh] sizeOf27 fun w43 H=>sq 1<|sw<|xZ H 0 [Sv l0 abE.length oO,Sv e7 adn.length oP,Sv oQ aeF.length mL] sizeOf31 fun L7 H=>zjn<|xO ?_)
  obtain⟨s,e1,e2,e3⟩:∃z:qJ,N6=z.qQ/\aeC=z.qA/\abH=z.qB:=⟨⟨N6,aeC,abH⟩,rfl,rfl,rfl⟩
  subst e1 e2 e3
  obtain⟨t,e1,e2,e3⟩:∃z:qV,abE=z.qO/\adn=z.qG/\aeF=z.qF:=⟨⟨abE,adn,aeF⟩,rfl,rfl,rfl⟩
  subst e1 e2 e3
  have sd:=(‹SysDr _ _ _›)
  have td:=(‹StDr _ _ _ _ _ _›)
  obtain⟨n,p1,n4⟩:=own_all (‹OwnDr _ _›)
  have p2:zA s t:=td.ok sd qf
  have p0:Giv s cg n:=giv_of sd.ok (‹OwnDr _ _›) p1
  have p5:Still s:=still_of (‹MildTo _ _›)
  have p6:Whole t:=whole_of (‹AllTo _›)
  have q1:=p1.one
  have e0:=nSrv_all p1
  have r0:Giv s cg (nSrv cg):=by rw[e0];exact p0
  have r1:XH cg (nSrv cg):=by rw[e0];exact p1
  obtain⟨G45,N,aNS,H⟩:=H.freezeB 4 rfl N<|H.XE [2]
  have H0:=H
  obtain⟨G47,ap2,aPu,H⟩:=H.ji (α:=yLI) 5 rfl 3 rfl qj
  replace N:Fresh w.heap.size [G47,G45]:=Fresh.ice (N.pick [1,0]) H0 5 ap2.1 ap2.2<|H0.XE [0]
  clear H0
  obtain⟨G50,N,aPh,H⟩:=H.vJ 6 rfl N<|H.XE [0,1]
  obtain⟨G52,N,aDt,H⟩:=H.vJ 2 rfl N<|H.XE [0,1,2]
  obtain⟨T5,acw,aDB,H⟩:=H.ji (α:=yz) 3 rfl 5 rfl qj
  obtain⟨LH,N,ahP,H⟩:=H.vJ 7 rfl N<|H.XE<|zR 1 4
  have B0:=H.base
  have H:=H.rebase [atF GN 0<|yT t l0 oO e7 oP oQ mL,atF b39 0<|yS s f9 fT nO fh,sF true LH BD CN cg,sF false T5 nO fh s.qB,sF true G52 f9 fT s.qA,sF true G50 oQ mL t.qF,sF true G47 e7 oP t.qG,sF true G45 l0 oO t.qO,sF false Aw qs qb ag,sF false sT ki j5 more]<|VU (old_box H 0 J)<|VU (old_box H 1 J)<|VU (old_fact H 0 J)<|VU (old_fact H 1 J)<|VU (old_fact H 2 J)<|VU (old_fact H 3 J)<|VU (old_fact H 4 J)<|VU (old_fact H 5 J)<|VU (old_fact H 6 J)<|VU (old_fact H 9 J) olds_nil
  have N:=Fresh.nil L7.heap.size
  have HB:=H
  refine zf<|sq 1<|sw<|xW (yS s f9 fT nO fh) isAgg27 sizeOf27 J (qH (H.get 1 J) 0 3)<|sq 1<|sw<|xW (yT t l0 oO e7 oP oQ mL) isAgg31 sizeOf31 J (qH (H.get 0 J) 0 3) ?_
  replace H:=H.unfreeI 4 J
  replace H:=H.unfreeI 3 J
  replace H:=H.unfreeI 9 J
  replace H:=H.unfreeI 9 J
  replace H:=H.unfreeI 9 J
  have H1:St L7 L7 [] [sF false sT ki j5 more,sF false G52 f9 fT s.qA,sF false T5 nO fh s.qB,sF false LH BD CN cg,sF false G45 l0 oO t.qO,sF false G47 e7 oP t.qG,sF false G50 oQ mL t.qF,atF GN 0<|yT t l0 oO e7 oP oQ mL,atF b39 0<|yS s f9 fT nO fh,sF true LH BD CN cg,sF true G52 f9 fT s.qA,sF true G50 oQ mL t.qF,sF true G47 e7 oP t.qG,sF true G45 l0 oO t.qO,sF false Aw qs qb ag]:=H.pick [] [14,4,8,3,2,1,0,5,6,7,9,10,11,12,13]
  have N1:Fresh _ []:=N
  have K1:Kept [] [atF GN 0<|yT t l0 oO e7 oP oQ mL,atF b39 0<|yS s f9 fT nO fh,sF true LH BD CN cg,sF true G52 f9 fT s.qA,sF true G50 oQ mL t.qF,sF true G47 e7 oP t.qG,sF true G45 l0 oO t.qO,sF false Aw qs qb ag]:=Kept.nil _
  refine sw<|zT #[Sv ki more.length j5,.agg #[yI s.qQ,Sv f9 s.qA.length fT,Sv nO s.qB.length fh],Sv BD cg.length CN,.agg #[Sv l0 t.qO.length oO,Sv e7 t.qG.length oP,Sv oQ t.qF.length mL]] J J call9 (a2Deeds_ok more ki j5 sT s cg f9 fT G52 nO fh T5 BD CN LH t l0 oO G45 e7 oP G47 oQ mL G50 n H1 N1 K1 qg qg qg<|xU (HB.ltF 9 J)<|xU (fun b hb=>HB.ltF 4 J b hb)<|xU (HB.ltF 3 J)<|xU (fun b hb=>HB.ltF 2 J b hb)<|xU (fun b hb=>HB.ltF 7 J b hb)<|xU (fun b hb=>HB.ltF 6 J b hb)<|xU (fun b hb=>HB.ltF 5 J b hb)<|xU (HB.ltF 0 J)<|xU (HB.ltF 1 J)<|xU (HB.ltF 2 J)<|xU (HB.ltF 4 J)<|xU (HB.ltF 5 J)<|xU (HB.ltF 6 J)<|xU (HB.ltF 7 J)<|xU (HB.ltF 8 J) olds_none) ?_
  clear H H1 N1 K1
  rintro _ w59 ⟨kn,B6,aPH,aO8,aOu,K9,aeM,rfl,N,H⟩
  obtain rfl:=H.xf (α:=Qu) 0 rfl 7 rfl qj
  refine sq 1<|zjc<|sw<|xW (yS s f9 fT nO fh) isAgg27 sizeOf27 J (qH (H.get 9 J) 0 3)<|sq 1<|sw<|xW (yT t l0 oO e7 oP oQ mL) isAgg31 sizeOf31 J (qH (H.get 8 J) 0 3)<|sq 1 ?_
  obtain⟨G68,aKm,h70⟩:=H.Vd (α:=Qu) 0 rfl 7 rfl qj
  have dd:=(‹Deeds _/\_›)
  have d4:∀k,k<kn.length->VT (kn[k]!):=dd.1
  have tk:Vo s cg (nSrv cg) (x9 s cg (xk s cg t<|nSrv cg) kn kn.length).1:=run_ok r0 (begin_ok r0 p2) d4 _<|Nat.le_refl _
  have ti:=run_is r0 p2 p6 d4 kn.length<|Nat.le_refl _
  have aDQ:=H.base.size
  have aAw:=H.ltN (L:=[K9]) [7]
  refine sw<|oc (tissueAfter_ok _ s cg t kn (H.get 1 J).1 (H.get 2 J).1 (H.get 3 J).1 (H.get 4 J).1 (H.get 5 J).1 (H.get 6 J).1 h70 qg qg qg qg qg qg qg) ?_
  rintro _ LT ⟨BT,Ty,lr,TL,fc,J9,afz,KK,ae3,kD,rfl,M,K⟩ _
  replace N:=N.merge aDQ aAw M
  replace H:=H.merge K M
  obtain rfl:=H.xf (α:=zI) 0 rfl 0 rfl qj
  obtain rfl:=H.xf (α:=zC) 1 rfl 1 rfl qj
  refine sq 3<|sp (yI 0)<|sw<|x8 H ti39 [yN,yN] fun RG w79 H=>sw<|xZ H 0 [Sv BT ((((x9 s cg (xk s cg t<|nSrv cg) kn kn.length).1).qE).length) lr,Sv J9 ((((x9 s cg (xk s cg t<|nSrv cg) kn kn.length).1).vz).length) KK] sizeOf39 fun TO H=>sq 1<|sp (yI 0)<|zjc<|sw<|xW (yS s f9 fT nO fh) isAgg27 sizeOf27 J (qH (H.get 11 J) 0 3)<|sq 1<|sw<|xW (yT t l0 oO e7 oP oQ mL) isAgg31 sizeOf31 J (qH (H.get 10 J) 0 3)<|sq 1 ?_
  obtain⟨G81,aJT,zw⟩:=H.Vd (α:=Qu) 3 rfl 9 rfl qj
  refine sw<|oc (roundsAfter_ok _ s cg t kn (H.get 3 J).1 (H.get 4 J).1 (H.get 5 J).1 (H.get 6 J).1 (H.get 7 J).1 (H.get 8 J).1 zw qg qg qg qg qg qg qg) ?_
  rintro _ w85 ⟨atl,aHu,OX,rfl,M,K⟩ _
  replace H:=H.merge K M
  obtain rfl:=H.yt 0 rfl
  refine sq 2<|sp (yI 0)<|sq 1<|sp (yI 0)<|zjc<|sw<|xW (yS s f9 fT nO fh) isAgg27 sizeOf27 J (qH (H.get 11 J) 0 3)<|sq 1<|sw<|xW (yT t l0 oO e7 oP oQ mL) isAgg31 sizeOf31 J (qH (H.get 10 J) 0 3)<|sq 1 ?_
  obtain⟨G90,aPY,h92⟩:=H.Vd (α:=Qu) 4 rfl 9 rfl qj
  have aBB:=H.base.size
  have aDU:=H.ltN (L:=[fc,kD,K9]) [0,1,9]
  refine sw<|oc (sTissueAfter_ok _ s cg t kn (H.get 3 J).1 (H.get 4 J).1 (H.get 5 J).1 (H.get 6 J).1 (H.get 7 J).1 (H.get 8 J).1 h92 qg qg qg qg qg qg qg) ?_
  rintro _ w94 ⟨Bt,Uu,BI,Tx,gJ,Ku,aga,Lh,afG,nF,rfl,M,K⟩ _
  replace N:=N.merge aBB aDU M
  replace H:=H.merge K M
  obtain rfl:=H.xf (α:=zI) 0 rfl 0 rfl qj
  obtain rfl:=H.xf (α:=zC) 1 rfl 1 rfl qj
  refine sq 3<|sp (yI 0)<|sw<|x8 H ti39 [yN,yN] fun Rj asA H=>sw<|xZ H 0 [Sv Bt ((((x9 s cg (xk s cg t<|nSrv cg) kn kn.length).1).qE).length) BI,Sv Ku ((((x9 s cg (xk s cg t<|nSrv cg) kn kn.length).1).vz).length) Lh] sizeOf39 fun Tg H=>sq 1<|sp (yI 0)<|zjn<|xO<|xO ?_
  have tl:(x9 s cg (xk s cg t<|nSrv cg) kn kn.length).1.qE.length=nSrv cg:=tk.len
  obtain⟨V,hV⟩:∃z,(x9 s cg (xk s cg t (nSrv cg)) kn kn.length)=z:=⟨_,rfl⟩
  rw[hV] at H tk ti tl ⊢
  have t1:=ti.1
  have t2:=ti.2
  have rl:(jY V.1.qE V.1.qE.length).length=V.1.qE.length:=rounds_len
  have ol:cg.length=s.qA.length:=p0.len
  have p7:1<=s.qA.length/\s.qA.length<=6:=p0.sys.1.2.1
  refine zf<|sp (yI 0)<|sp (Bv false)<|sp (Bv false)<|qP 66 J J<|sp (yI 0)<|qP 66 J J<|sp (Bv false)<|sp (Bv false)<|sp (Bv false)<|qP 70 J J<|sq 1<|qP 70 J J<|oN J<|qP 70 J J<|oF J<|qP 70 J J<|oL J (H.cell 4 J J)<|qP 70 J J<|oN J<|qP 70 J J<|sp (Bv (((jY V.1.qE V.1.qE.length).length:Int) != (((V.1).qE).length)))<|sp (Bv (((jY V.1.qE V.1.qE.length).length:Int) != (((V.1).qE).length)))<|sp (Bv (((jY V.1.qE V.1.qE.length).length:Int) != (((V.1).qE).length))) ?_
  cases KD:(((jY V.1.qE V.1.qE.length).length:Int) != (((V.1).qE).length))
  ·replace KD:=zo KD
   refine qP 78 J J<|sp (yI 0)<|qP 78 J J<|sp (Bv false)<|sp (Bv false)<|sp (Bv false)<|qP 82 J J<|oF J<|qP 82 J J<|oL J (H.cell 4 J J)<|qP 82 J J<|oN J<|qP 82 J J<|oF J<|qP 82 J J<|oL J (H.cell 0 J J)<|qP 82 J J<|oN J<|qP 82 J J<|sq 2<|zjn<|vP _ J (fun h=>absurd J<|bne_iff_ne.1 h)<|fun aoQ=>?_
   replace aoQ:=zo aoQ
   refine xe<|t_n<|zcc<|sp (yI 0)<|zjn<|xg<|vk ((fun Z0 Z1 Z2 Z3 Z4 Z5 Z6 Z7 Z8 Z9 dU eC fe fR gB ij nc pN rN wk wd Bm Bl FF Lm TW=>fun m' ρ Tk=>∃(xR:Env) (k:Nat),ρ=upd (upd (upd (upd (upd (upd xR 5<|pp b39 0) 6<|Sv BD cg.length CN) 7<|pp GN 0) 9<|pp RG 0) 12<|Sv atl ((jY V.1.qE V.1.qE.length).length) OX) 17 (yI k)/\((k:Int)<=(((V.1).qE).length))/\m'=((((V.1).qE).length)-(k:Int)).toNat/\Fresh L7.heap.size [gJ,nF,fc,kD,K9]/\St L7 Tk [Z0,Z1,Z2,Z3,Z4,Z5,Z6,Z7] [Z8,Z9,dU,eC,fe,fR,gB,ij,nc,pN,rN,wk,wd,Bm,Bl,FF,Lm,TW]) _ _ _ _ _ _ _ _ _ _ _ _ _ _ _ _ _ _ _ _ _ _ _ _ _ _) (((((V.1).qE).length)-(0:Int)).toNat) ⟨_,0,uE6,qf,J,N,H.pick (zR 0 8) (0::1::2::3::zR 5 14)⟩ ?_
   clear H N
   rintro m' ρ R1 ⟨xR,k,rfl,i0,rfl,N,H⟩
   refine zcc<|sp (yI k)<|oF J<|oL J (H.cell 4 J J)<|oN J<|sq 1<|zjn<|cD J (fun adV=>?_)<|fun adV=>?_
   ·have y1:=rounds_get (l:=V.1.qE) (j:=k) (k:=V.1.qE.length) qf
    have y2:=(t2.near tk (k:=k) (b:=k) qf qf).2
    have y3:=(tk.srv k qf).1.rnd
    refine xe<|t_n<|xO<|xg<|zcr<|oF J<|oL J (H.cell 4 J J)<|sp (yI k) ?_
    obtain⟨dT,rfl⟩:=H.jm 5 rfl qf
    refine oI J J<|oF J ?_
    obtain⟨AX,AR,ae5,sP,sJ,WS,Er,DZ,amy,sQ,s8,aaT,Dn,DP,arq,Az,Ax,afA,alV,H⟩:=H.jV zV 5 rfl 2 rfl rfl k qf
    refine sw<|xW [yI (((((V.1).qE)[k]!).qC).qK),Sv AX ((((((V.1).qE)[k]!).qC).qG).length) AR,Sv sP ((((((V.1).qE)[k]!).qC).qF).length) sJ,Bv (((((V.1).qE)[k]!).qC).qY),Sv Er ((((((V.1).qE)[k]!).qC).jA).length) DZ,Sv sQ ((((((V.1).qE)[k]!).qC).qU).length) s8,Sv Dn ((((((V.1).qE)[k]!).qC).jH).length) DP,Sv Az ((((((V.1).qE)[k]!).qC).zM).length) Ax] isAgg47 sizeOf47 J (fun r v hv=>H.zD 5 J (alV r v hv) qf)<|sw<|x8 H ti47 [yI 0,yN,yN,Bv false,yN,yN,yN,yN] fun Gt Sl H=>(sw<|xZ H 0 [yI (((((V.1).qE)[k]!).qC).qK),Sv AX ((((((V.1).qE)[k]!).qC).qG).length) AR,Sv sP ((((((V.1).qE)[k]!).qC).qF).length) sJ,Bv (((((V.1).qE)[k]!).qC).qY),Sv Er ((((((V.1).qE)[k]!).qC).jA).length) DZ,Sv sQ ((((((V.1).qE)[k]!).qC).qU).length) s8,Sv Dn ((((((V.1).qE)[k]!).qC).jH).length) DP,Sv Az ((((((V.1).qE)[k]!).qC).zM).length) Ax] sizeOf47 fun OE H=>zjn<|xO<|xO<|vW 1 J H [0,1,2,3,4,5,6,7,8] [0,1,2,3,4,5,6,7,8,9,10,11,12,13,14,15,16,17,18,19,20,21,22,23] fun H=>?_)
    dsimp only[yu,yU]
    refine tF 0 J J H ?_
    refine tL 1 J J (fun _ h=>h.cell 0 J J) H ?_
    refine rtl 2 H ?_
    refine rtp 3 (yI k) H ?_
    obtain⟨arW,rfl⟩:=H.jm 4 rfl qf
    refine tI 4 J J J H ?_
    refine tL 5 J J (fun _ h=>h.Vx 4 J (iv:=k) (i:=k) qf qf) H ?_
    refine rtp 6 (Bv ((((((V.1).qE)[k]!).qC).qK:Int) != ((jY V.1.qE V.1.qE.length)[k]!))) H ?_
    refine rtp 7 (Bv ((((((V.1).qE)[k]!).qC).qK:Int) != ((jY V.1.qE V.1.qE.length)[k]!))) H ?_
    cases SI:((((((V.1).qE)[k]!).qC).qK:Int) != ((jY V.1.qE V.1.qE.length)[k]!))
    ·replace SI:=zo SI
     refine gF 8 J J H ?_
     refine gL 9 J J (fun _ h=>h.cell 5 J J) H ?_
     refine rgp 10 (yI k) 111 H ?_
     refine gI 11 J J J H ?_
     refine gF 12 J J H ?_
     refine gF 13 J J H ?_
     obtain⟨agb,ae6,agw,YS,YN,Vc,ash,amA,aqZ,UJ,W8,Wp,akI,aqc,aqL,afD,afU,agp,Pi,H⟩:=H.jV Qk 6 rfl 8 rfl rfl k qf
     have S:=H.ve (zR 0 9)<|zR 6 24
     refine rg 14 _ 111 (jZ (off:=0+(k:Int).toNat*16+8+0) isAgg2 J<|fun _ h=>(h.zD 6 J (Pi 0 _ J) qf)) S ?_
     refine gF 15 J J S ?_
     refine gL 16 J J (fun _ h=>h.cell 0 J J) S ?_
     refine rgl 17 111 S ?_
     refine xx qh<|zg<|sq 1<|zjn<|cD J (fun awa=>?_)<|fun awa=>?_
     ·refine zcr (sp (Bv false)<|zjr<|t_r<|zr5<|ret1 (Bv false) J J ⟨_,J,?_,(Ext.trans' B0 H.base)⟩)
      exfalso;omega
     refine xe<|t_n<|zcc<|sp (yI 0)<|zjn<|xg<|vk ((fun Z0 Z1 Z2 Z3 Z4 Z5 Z6 Z7 Z8 Z9 dU eC fe fR gB ij nc pN rN wk wd Bm Bl FF Lm TW Z26 Z27 Z28 Z29 Z30 Z31 Z32=>fun m' ρ FQ=>∃(xR:Env) (b:Nat),ρ=upd (upd (upd (upd (upd (upd (upd (upd (upd (upd (upd (upd (upd (upd (upd (upd (upd (upd xR 5<|pp b39 0) 6<|Sv BD cg.length CN) 7<|pp GN 0) 9<|pp RG 0) 12<|Sv (aa arW 0) ((jY V.1.qE V.1.qE.length).length) OX) 17<|yI k) 18<|pp Gt 0) 19<|yI b) 112<|pp RG<|0+0) 113<|Sv (aa dT 0) (((V.1).qE).length) lr) 114<|yI k) 115<|pp dT<|0+(k:Int).toNat*16) 116<|pp dT<|0+(k:Int).toNat*16+8) 117<|pp dT<|0+(k:Int).toNat*16+8+0) 118<|yI (((((V.1).qE)[k]!).qR).qK)) 119<|pp Gt<|0+0) 120<|yI (((((V.1).qE)[k]!).qC).qK)) 121 (Bv<|decide ((((((V.1).qE)[k]!).qR).qK:Int)>(((((V.1).qE)[k]!).qC).qK)))/\((b:Int)<=k)/\m'=(k-(b:Int)).toNat/\Fresh L7.heap.size [gJ,nF,fc,kD,K9]/\St L7 FQ [Z0,Z1,Z2,Z3,Z4,Z5,Z6,Z7,Z8] [Z9,dU,eC,fe,fR,gB,ij,nc,pN,rN,wk,wd,Bm,Bl,FF,Lm,TW,Z26,Z27,Z28,Z29,Z30,Z31,Z32]) _ _ _ _ _ _ _ _ _ _ _ _ _ _ _ _ _ _ _ _ _ _ _ _ _ _ _ _ _ _ _ _ _) ((k-(0:Int)).toNat) ⟨_,0,uE18,qf,J,N,H.pick (zR 0 9)<|zR 6 24⟩ ?_
     clear H N
     rintro m' ρ Q1 ⟨xR,b,rfl,i0,rfl,N,H⟩
     refine zcc<|sp (yI b)<|sp (yI k)<|sq 1<|zjn<|cD J (fun aBY=>?_)<|fun aBY=>?_
     ·have y4:=rounds_get (l:=V.1.qE) (j:=b) (k:=V.1.qE.length) qf
      have y5:=(t2.near tk (k:=k) (b:=b) qf qf).1
      have y6:=(t2.near tk (k:=b) (b:=k) qf qf).1
      refine xe<|t_n<|xO<|xg<|xO<|vW 1 J H [0,1,2,3,4,5,6,7,8] [0,1,2,3,4,5,6,7,8,9,10,11,12,13,14,15,16,17,18,19,20,21,22,23] fun H=>?_
      dsimp only[yu,yU]
      refine rtl 0 H ?_
      refine rtp 1 (yI b) H ?_
      refine tI 2 J J J H ?_
      refine tL 3 J J (fun _ h=>h.Vx 4 J (iv:=b) (i:=b) qf qf) H ?_
      refine rtl 4 H ?_
      refine rtp 5 (yI k) H ?_
      refine tI 6 J J J H ?_
      refine tL 7 J J (fun _ h=>h.Vx 4 J (iv:=k) (i:=k) qf qf) H ?_
      refine rt 8 _ (y_sub ((jY V.1.qE V.1.qE.length)[b]!) ((jY V.1.qE V.1.qE.length)[k]!) J J qf) H ?_
      refine rtp 9 (Bv<|decide ((((jY V.1.qE V.1.qE.length)[b]!)-((jY V.1.qE V.1.qE.length)[k]!):Int)>1)) H ?_
      refine rtp 10 (Bv<|decide ((((jY V.1.qE V.1.qE.length)[b]!)-((jY V.1.qE V.1.qE.length)[k]!):Int)>1)) H ?_
      cases JJ:(decide ((((jY V.1.qE V.1.qE.length)[b]!)-((jY V.1.qE V.1.qE.length)[k]!):Int)>1))
      ·replace JJ:=of_decide_eq_false JJ
       refine rgl 11 138 H ?_
       refine rgp 12 (yI k) 138 H ?_
       refine gI 13 J J J H ?_
       refine gL 14 J J (fun _ h=>h.Vx 4 J (iv:=k) (i:=k) qf qf) H ?_
       refine rgl 15 138 H ?_
       refine rgp 16 (yI b) 138 H ?_
       refine gI 17 J J J H ?_
       refine gL 18 J J (fun _ h=>h.Vx 4 J (iv:=b) (i:=b) qf qf) H ?_
       refine rg 19 _ 138 (y_sub ((jY V.1.qE V.1.qE.length)[k]!) ((jY V.1.qE V.1.qE.length)[b]!) J J qf) H ?_
       refine rgp 20 (Bv<|decide ((((jY V.1.qE V.1.qE.length)[k]!)-((jY V.1.qE V.1.qE.length)[b]!):Int)>1)) 138 H ?_
       refine xx qh<|zg<|sp (Bv<|decide ((((jY V.1.qE V.1.qE.length)[k]!)-((jY V.1.qE V.1.qE.length)[b]!):Int)>1))<|zjn<|cD J (fun aCw=>?_)<|fun aCw=>?_
       ·refine zcr (sp (Bv false)<|zjr<|zr5<|zr5<|ret1 (Bv false) J J ⟨_,J,?_,(Ext.trans' B0 H.base)⟩)
        exfalso;omega
       refine xe<|b_n<|t_n<|zf<|sp (yI b)<|sw<|zY b 1 J J qf<|sq 1<|xX<|xu (m':=(k-((b+1):Int)).toNat) qf ⟨_,b+1,uE18,?_,J,N,H⟩
       ·omega
      replace JJ:=of_decide_eq_true JJ
      refine vC (zR 11 10) 10 (H)<|xx qh<|zg<|sp (Bv true)<|zjn<|cTr J<|zcr<|sp (Bv false)<|zjr<|zr5<|zr5<|ret1 (Bv false) J J ⟨_,J,?_,(Ext.trans' B0 H.base)⟩
      exfalso;omega
     refine zx4<|zcc<|oF J<|oL J (H.cell 0 J J)<|sp (Bv (((((V.1).qE)[k]!).qC).qY)) ?_
     cases K6:(((((V.1).qE)[k]!).qC).qY)
     ·rw[K6] at H
      refine qP 152 J J<|oF J<|qP 152 J J<|oL J (H.cell 0 J J)<|qP 152 J J<|sp (Bv<|decide ((((((V.1).qE)[k]!).qC).qK:Int)>200))<|sp (Bv<|decide ((((((V.1).qE)[k]!).qC).qK:Int)>200))<|zjn<|cD J (fun azF=>?_)<|fun azF=>?_
      ·refine c_exit (t_x<|b_x<|t_n<|zf<|sp (yI k)<|sw<|zY k 1 J J qf<|sq 1<|xX<|xu (m':=((((V.1).qE).length)-((k+1):Int)).toNat) qf ⟨_,k+1,uE6,?_,J,N,H.pick (zR 1 8)<|zR 6 18⟩)
       ·omega
      have ta:=tissue_at r0 p2 p6 p5 tk t1 (k:=k) qf ql qf
      refine xe<|t_n<|zcr<|sw<|xW (yS s f9 fT nO fh) isAgg27 sizeOf27 J (qH (H.get 18 J) 0 3)<|sw<|xW (yT t l0 oO e7 oP oQ mL) isAgg31 sizeOf31 J (qH (H.get 17 J) 0 3)<|oF J<|oL J (H.cell 0 J J) ?_
      have aiR:=H.base.size
      have anu:=H.ltN (L:=[gJ,nF,fc,kD,K9]) [6,7,8,9,16]
      refine sw<|oc (implRun_ok _ s t (((((V.1).qE)[k]!).qC).qK) (H.get 10 J).1 (H.get 11 J).1 (H.get 13 J).1 (H.get 14 J).1 (H.get 15 J).1) ?_
      rintro _ aAi ⟨tw,Y8,sC,uZ,acy,yd,acl,Gi,pS,SN,pL,rfl,M,K⟩ _
      replace N:=N.merge aiR anu M
      replace H:=H.merge K M
      obtain rfl:=H.Vt 0 rfl
      obtain rfl:=H.xf (α:=yLI) 1 rfl 0 rfl qj
      obtain rfl:=H.yt 2 rfl
      refine sq 4<|sw<|x8 H ti31 [yN,yN,yN] fun axR LD H=>sw<|xZ H 0 [Sv tw ((((QS s t (((((V.1).qE)[k]!).qC).qK)).1).qO).length) sC,Sv uZ ((((QS s t (((((V.1).qE)[k]!).qC).qK)).1).qG).length) yd,Sv pS ((((QS s t (((((V.1).qE)[k]!).qC).qK)).1).qF).length) pL] sizeOf31 fun asx H=>sq 2<|zjcc<|sq 1<|sp (Bv (((QS s t (((((V.1).qE)[k]!).qC).qK)).2.2:Int) != 0))<|zjn<|vP (((QS s t (((((V.1).qE)[k]!).qC).qK)).2.2:Int) != 0) J (fun Nx=>?_)<|fun Nx=>?_
      ·replace Nx:=bne_iff_ne.1 Nx
       refine zcr<|sq 1<|sp (Bv (((QS s t (((((V.1).qE)[k]!).qC).qK)).2.2:Int) == 3))<|sp (Bv (((QS s t (((((V.1).qE)[k]!).qC).qK)).2.2:Int) == 3))<|zjr<|t_r<|zr5<|ret1 (Bv (((QS s t (((((V.1).qE)[k]!).qC).qK)).2.2:Int) == 3)) J J ⟨_,J,?_,(Ext.trans' B0 H.base)⟩
       rw[ta.1.resolve_left ql];rfl
      replace Nx:=zo Nx
      refine xe<|t_n<|zcc<|sw<|xW (yS s f9 fT nO fh) isAgg27 sizeOf27 J (qH (H.get 19 J) 0 3)<|sw<|xW [Sv tw ((((QS s t (((((V.1).qE)[k]!).qC).qK)).1).qO).length) sC,Sv uZ ((((QS s t (((((V.1).qE)[k]!).qC).qK)).1).qG).length) yd,Sv pS ((((QS s t (((((V.1).qE)[k]!).qC).qK)).1).qF).length) pL] isAgg31 sizeOf31 J (qH (H.cells 0 J) 0 3) ?_
      obtain⟨aDi,ar9,Gs⟩:=H.rowIsB 1 rfl
      obtain⟨aeO,IT,aaX⟩:=H.Vd (α:=yLI) 2 rfl 0 rfl qj
      obtain⟨aes,Zk,xc⟩:=H.Xv 3 rfl
      refine sw<|oq (specValid_ok _ s ((QS s t (((((V.1).qE)[k]!).qC).qK)).1) (H.get 11 J).1 (H.get 12 J).1 Gs aaX xc) H fun axt H=>sq 1<|zjn<|cQ J (fun az5=>?_)<|fun az5=>?_
      ·refine zcr (sp (Bv false)<|zjr<|t_r<|zr5<|ret1 (Bv false) J J ⟨_,J,?_,(Ext.trans' B0 H.base)⟩)
       exfalso;exact absurd (And.intro p0.sys (ta.2 ql).1) ql
      have tu:=ta.2 ql
      have ub:(QS s t V.1.qE[k]!.qC.qK).1.qG.length=s.qA.length:=tu.1.2.1
      have db:V.1.qE[k]!.qC.qG.length=s.qA.length:=(tk.srv k qf).1.bagsLen
      refine xe<|t_n<|zcc<|sp (yI 0)<|zjn<|xg<|vk ((fun Z0 Z1 Z2 Z3 Z4 Z5 Z6 Z7 Z8 Z9 dU eC fe fR gB ij nc pN rN wk wd Bm Bl FF Lm TW Z26 Z27 Z28 Z29 Z30 Z31 Z32 Z33 Z34 Z35 Z36 Z37=>fun m' ρ acN=>∃(xR:Env) (c:Nat),ρ=upd (upd (upd (upd (upd (upd (upd (upd (upd (upd (upd (upd (upd (upd (upd (upd (upd (upd (upd (upd (upd (upd xR 5<|pp b39 0) 6<|Sv BD cg.length CN) 7<|pp GN 0) 9<|pp RG 0) 12<|Sv (aa arW 0) ((jY V.1.qE V.1.qE.length).length) OX) 17<|yI k) 18<|pp Gt 0) 20<|pp axR 0) 23<|yI c) 112<|pp RG<|0+0) 113<|Sv (aa dT 0) (((V.1).qE).length) lr) 114<|yI k) 115<|pp dT<|0+(k:Int).toNat*16) 116<|pp dT<|0+(k:Int).toNat*16+8) 117<|pp dT<|0+(k:Int).toNat*16+8+0) 118<|yI (((((V.1).qE)[k]!).qR).qK)) 119<|pp Gt<|0+0) 120<|yI (((((V.1).qE)[k]!).qC).qK)) 121<|Bv<|decide ((((((V.1).qE)[k]!).qR).qK:Int)>(((((V.1).qE)[k]!).qC).qK))) 153<|pp Gt<|0+0) 154<|yI (((((V.1).qE)[k]!).qC).qK)) 155 (Bv<|decide ((((((V.1).qE)[k]!).qC).qK:Int)>200))/\(c<=cg.length)/\m'=(cg.length-c:Nat)/\Fresh L7.heap.size [Gi,gJ,nF,fc,kD,K9]/\St L7 acN [Z0,Z1,Z2,Z3,Z4,Z5,Z6,Z7,Z8,Z9,dU,eC,fe] [fR,gB,ij,nc,pN,rN,wk,wd,Bm,Bl,FF,Lm,TW,Z26,Z27,Z28,Z29,Z30,Z31,Z32,Z33,Z34,Z35,Z36,Z37]) _ _ _ _ _ _ _ _ _ _ _ _ _ _ _ _ _ _ _ _ _ _ _ _ _ _ _ _ _ _ _ _ _ _ _ _ _ _) ((cg.length-0:Nat)) ⟨_,0,uE22,qf,J,N,H⟩ ?_
      clear H N
      rintro m' ρ RV ⟨xR,c,rfl,w1,rfl,N,H⟩
      refine zcc<|sp (yI c)<|sq 1<|oN J<|sp (Bv<|decide ((c:Int)<cg.length))<|sp (Bv<|decide ((c:Int)<cg.length)) ?_
      cases Ae:(decide ((c:Int)<cg.length))
      ·replace Ae:=of_decide_eq_false Ae
       refine zk (zR 179 5)<|sp (Bv false)<|zjn<|cFr J<|zx4<|zcr<|sq 1 ?_
       obtain⟨aLQ,aM1,rfl⟩:=H.addr 13 rfl qf
       refine oI J J<|oL J (H.vM 13 J 0 qf)<|sp (yI k)<|sp (Bv ((cg[0]! :Int) == k))<|sp (Bv ((cg[0]! :Int) == k)) ?_
       cases KQ:((cg[0]! :Int) == k)
       ·replace KQ:=ne_of_beq_false KQ
        refine zk (zR 213 6)<|sp (Bv false)<|zjn<|cFr J<|xe<|b_n<|t_n<|zf<|sp (yI k)<|sw<|zY k 1 J J qf<|sq 1<|xX<|xu (m':=((((V.1).qE).length)-((k+1):Int)).toNat) qf ⟨_,k+1,uE6,?_,J,(N.pick<|zR 1 5),H.pick (zR 5 8)<|zR 7 18⟩
        ·omega
       replace KQ:=eq_of_beq KQ
       refine qP 212 J J<|oF J<|qP 212 J J<|oL J (H.cell 4 J J)<|qP 212 J J<|oF J<|qP 212 J J<|oL J (H.cell 0 J J)<|qP 212 J J ?_
       obtain⟨aQT,aEM,GL⟩:=H.Xv 3 rfl
       refine sw<|oq (a2Same_ok _ (((((V.1).qE)[k]!).qC).qF) (((QS s t (((((V.1).qE)[k]!).qC).qK)).1).qF) (H.get 2 J).1 GL) H fun apI H=>qP 212 J J<|sq 2<|zjn<|vP _ J (fun Cc=>?_)<|fun Cc=>?_
       ·replace Cc:=xF Cc
        replace Cc:=of_decide_eq_false Cc
        refine zcr<|sp (Bv false)<|zjr<|zr5<|ret1 (Bv false) J J ⟨_,J,?_,(Ext.trans' B0 H.base)⟩
        exfalso;exact absurd (tu.2.2 qg) ql
       replace Cc:=xw Cc
       replace Cc:=of_decide_eq_true Cc
       refine xe<|b_n<|t_n<|zf<|sp (yI k)<|sw<|zY k 1 J J qf<|sq 1<|xX<|xu (m':=((((V.1).qE).length)-((k+1):Int)).toNat) qf ⟨_,k+1,uE6,?_,J,(N.pick<|zR 1 5),H.pick (zR 5 8)<|zR 7 18⟩
       ·omega
      replace Ae:=of_decide_eq_true Ae
      refine qP 178 J J<|sp (yI c)<|qP 178 J J<|oF J<|qP 178 J J<|oL J (H.cell 4 J J)<|qP 178 J J<|oN J<|qP 178 J J<|sq 2<|zjn<|cD J (fun ada=>?_)<|fun ada=>?_
      ·refine xe (t_n<|xO<|xg<|xO<|vW 1 J H [0,1,2,3,4,5,6,7,8,9,10,11,12] [0,1,2,3,4,5,6,7,8,9,10,11,12,13,14,15,16,17,18,19,20,21,22,23,24] fun H=>?_)
       dsimp only[yu,yU]
       refine rtl 0 H ?_
       refine rtp 1 (yI c) H ?_
       obtain⟨ab8,aKO,rfl⟩:=H.addr 13 rfl qf
       refine tI 2 J J J H ?_
       refine tL 3 J J (fun _ h=>h.vM 13 J c qf) H ?_
       refine rtp 4 (yI k) H ?_
       refine rtp 5 (Bv ((cg[c]! :Int) == k)) H ?_
       refine rtp 6 (Bv ((cg[c]! :Int) == k)) H ?_
       cases ru:((cg[c]! :Int) == k)
       ·replace ru:=ne_of_beq_false ru
        refine vC (zR 7 12) 12 (H)<|xx qh<|zg<|sp (Bv false)<|zjn<|cFr J<|xe<|b_n<|t_n<|zf<|sp (yI c)<|sw<|zY c 1 J J qf<|sq 1<|xX<|xu (m':=(cg.length-(c+1):Nat)) qf ⟨_,c+1,uE22,?_,J,N,H⟩
        ·omega
       replace ru:=eq_of_beq ru
       refine gF 7 J J H ?_
       refine gL 8 J J (fun _ h=>h.cell 4 J J) H ?_
       refine rgp 9 (yI c) 193 H ?_
       obtain⟨aPi,aKI,rfl⟩:=H.addr 1 rfl qf
       obtain⟨aaI,aaR,aFA,H⟩:=H.yg 1 rfl c c qf qf qf
       have S:=H.ve (zR 0 13)<|zR 2 25
       refine gI 10 J J J S ?_
       refine gF 12 J J S ?_
       refine gL 13 J J (fun _ h=>h.cell 0 J J) S ?_
       refine rgp 14 (yI c) 193 S ?_
       obtain⟨tM,rfl⟩:=H.jm 2 rfl qf
       refine gI 15 J J J (H.pick (zR 0 13)<|zR 2 25)<|jw [11,16] qh qm<|Vu J (e:=193) J J ?_<|Vu J (e:=193) J J ?_ jy
       ·refine zx (Sv aaI (((((((V.1).qE)[k]!).qC).qG)[c]!).length) aaR) isAgg24 J (H.zU 1 J 0 J) (⟨H.pick (zR 0 13)<|zR 2 25,(jw [16] qh qm<|Vu J (e:=193) J J ?_ jy)⟩)
        obtain⟨awV,aDC,aMh,aju,H⟩:=H.yE 2 rfl 2 rfl (iv:=c) c qf qf
        refine zx (Sv awV (((((QS s t (((((V.1).qE)[k]!).qC).qK)).1).qG)[c]!).length) aDC) isAgg24 rfl ((H.zD 2 rfl aju qf))<|⟨H.pick (zR 0 13)<|zR 3 25,(jw [17] qh qm<|Vu rfl (e:=193) rfl rfl (oq (a2Same_ok _ ((((((V.1).qE)[k]!).qC).qG)[c]!) ((((QS s t (((((V.1).qE)[k]!).qC).qK)).1).qG)[c]!) (H.get 1 rfl).1 (H.get 0 rfl).1) H fun aKr H=>?_) jy)⟩
        refine⟨H.pick (zR 0 13)<|zR 3 25,(rgl 18 193 (H.pick (zR 0 13)<|zR 3 25) ?_)⟩
        refine xx qh<|zg<|sq 1<|zjn<|vP _ J (fun uq=>?_)<|fun uq=>?_
        ·replace uq:=xF uq
         replace uq:=of_decide_eq_false uq
         refine zcr<|sp (Bv false)<|zjr<|zr5<|zr5<|ret1 (Bv false) J J ⟨_,J,?_,(Ext.trans' B0 H.base)⟩
         exfalso;exact absurd (tu.2.1 c (show c<s.qA.length by omega) qg) ql
        replace uq:=xw uq
        replace uq:=of_decide_eq_true uq
        refine xe<|b_n<|t_n<|zf<|sp (yI c)<|sw<|zY c 1 J J qf<|sq 1<|xX<|xu (m':=(cg.length-(c+1):Nat)) qf ⟨_,c+1,uE22,?_,J,N,H.pick (zR 0 13)<|zR 3 25⟩
        ·omega
       obtain⟨aCf,azW,aLe,asl,H⟩:=H.yE 2 rfl 2 rfl (iv:=c) c qf qf
       refine zx (Sv aCf (((((QS s t (((((V.1).qE)[k]!).qC).qK)).1).qG)[c]!).length) azW) isAgg24 rfl ((H.zD 2 rfl asl qf))<|⟨H.pick (zR 0 13)<|zR 3 25,(jw [11] qh qm<|Vu rfl (e:=193) rfl rfl (zx (Sv aaI (((((((V.1).qE)[k]!).qC).qG)[c]!).length) aaR) isAgg24 rfl (H.zU 2 rfl 0 rfl)<|⟨H.pick (zR 0 13)<|zR 3 25,?_⟩) jy)⟩
       refine jw [17] qh qm<|Vu J (e:=193) J J (oq (a2Same_ok _ ((((((V.1).qE)[k]!).qC).qG)[c]!) ((((QS s t (((((V.1).qE)[k]!).qC).qK)).1).qG)[c]!) (H.get 1 J).1 (H.get 0 J).1) H fun amg H=>⟨H.pick (zR 0 13)<|zR 3 25,?_⟩) jy
       refine rgl 18 193 (H.pick (zR 0 13)<|zR 3 25) ?_
       refine xx qh<|zg<|sq 1<|zjn<|vP _ J (fun BB=>?_)<|fun BB=>?_
       ·replace BB:=xF BB
        replace BB:=of_decide_eq_false BB
        refine zcr<|sp (Bv false)<|zjr<|zr5<|zr5<|ret1 (Bv false) J J ⟨_,J,?_,(Ext.trans' B0 H.base)⟩
        exfalso;exact absurd (tu.2.1 c (show c<s.qA.length by omega) qg) ql
       replace BB:=xw BB
       replace BB:=of_decide_eq_true BB
       refine xe<|b_n<|t_n<|zf<|sp (yI c)<|sw<|zY c 1 J J qf<|sq 1<|xX<|xu (m':=(cg.length-(c+1):Nat)) qf ⟨_,c+1,uE22,?_,J,N,H.pick (zR 0 13)<|zR 3 25⟩
       ·omega
      refine zx4<|zcr<|sq 1 ?_
      obtain⟨aC3,aCj,rfl⟩:=H.addr 13 rfl qf
      refine oI J J<|oL J (H.vM 13 J 0 qf)<|sp (yI k)<|sp (Bv ((cg[0]! :Int) == k))<|sp (Bv ((cg[0]! :Int) == k)) ?_
      cases Ci:((cg[0]! :Int) == k)
      ·replace Ci:=ne_of_beq_false Ci
       refine zk (zR 213 6)<|sp (Bv false)<|zjn<|cFr J<|xe<|b_n<|t_n<|zf<|sp (yI k)<|sw<|zY k 1 J J qf<|sq 1<|xX<|xu (m':=((((V.1).qE).length)-((k+1):Int)).toNat) qf ⟨_,k+1,uE6,?_,J,(N.pick<|zR 1 5),H.pick (zR 5 8)<|zR 7 18⟩
       ·omega
      replace Ci:=eq_of_beq Ci
      refine qP 212 J J<|oF J<|qP 212 J J<|oL J (H.cell 4 J J)<|qP 212 J J<|oF J<|qP 212 J J<|oL J (H.cell 0 J J)<|qP 212 J J ?_
      obtain⟨aPp,aFU,ayr⟩:=H.Xv 3 rfl
      refine sw<|oq (a2Same_ok _ (((((V.1).qE)[k]!).qC).qF) (((QS s t (((((V.1).qE)[k]!).qC).qK)).1).qF) (H.get 2 J).1 ayr) H fun aAK H=>qP 212 J J<|sq 2<|zjn<|vP _ J (fun BK=>?_)<|fun BK=>?_
      ·replace BK:=xF BK
       replace BK:=of_decide_eq_false BK
       refine zcr<|sp (Bv false)<|zjr<|zr5<|ret1 (Bv false) J J ⟨_,J,?_,(Ext.trans' B0 H.base)⟩
       exfalso;omega
      replace BK:=xw BK
      replace BK:=of_decide_eq_true BK
      refine xe<|b_n<|t_n<|zf<|sp (yI k)<|sw<|zY k 1 J J qf<|sq 1<|xX<|xu (m':=((((V.1).qE).length)-((k+1):Int)).toNat) qf ⟨_,k+1,uE6,?_,J,(N.pick<|zR 1 5),H.pick (zR 5 8)<|zR 7 18⟩
      ·omega
     rw[K6] at H
     refine zk [153,154,155]<|sp (Bv true)<|zjn<|cTr J<|c_exit<|t_x<|b_x<|t_n<|zf<|sp (yI k)<|sw<|zY k 1 J J qf<|sq 1<|xX<|xu (m':=((((V.1).qE).length)-((k+1):Int)).toNat) qf ⟨_,k+1,uE6,?_,J,N,H.pick (zR 1 8)<|zR 6 18⟩
     ·omega
    replace SI:=bne_iff_ne.1 SI
    refine vC (zR 8 10) 10 (H)<|xx qh<|zg<|sp (Bv true)<|zjn<|cTr J<|zcr<|sp (Bv false)<|zjr<|t_r<|zr5<|ret1 (Bv false) J J ⟨_,J,?_,(Ext.trans' B0 H.base)⟩
    exfalso;omega
   refine zx4<|zcr<|sp (Bv true)<|zjr<|ret1 (Bv true) J J ⟨_,J,?_,(Ext.trans' B0 H.base)⟩
   rfl
  replace KD:=bne_iff_ne.1 KD
  refine zk [79,80]<|sp (Bv true)<|sp (Bv true)<|zk (zR 83 7)<|sp (Bv true)<|zjn<|cTr J<|zcr<|sp (Bv false)<|zjr<|t_r<|ret1 (Bv false) J J ⟨_,J,?_,(Ext.trans' B0 H.base)⟩
  exfalso;omega
 replace h1:=of_decide_eq_true h1
 refine zk [9,10,11]<|sp (Bv true)<|sp (Bv true)<|zjr<|ret1 (Bv true) J J ⟨_,J,(zjn<|cTr J<|zcr<|sp (Bv true)<|zjr<|t_r<|rH1 (Bv true) H ?_)⟩
 rfl
end
section
open Go.ChangeShapes Go.WideShapes Go.ChangeAt Go.RowKit Go.Joins
def Reads(P:Program)(t:TypeId)(α:Type)[qI α]:Prop:=
 ∀ {H:Type} {enc:TypeId×Value->H} {w:World} {G5:Nat->Bool} {SZ:Bool} {fuel:Nat} {cs:List Value} {x:DataW H×List MemPlace},
  DataW.trod enc P w 0 G5 SZ fuel t cs=some x->∃F,∃y:α,qI.rep w F cs y
theorem cell_spot{a:Addr}{v:Value}(h:w.cell? a=some v):a.spot=none:=by
 unfold World.cell? at h
 split at h
 ·split at h
  ·cases h
  ·rename_i hs;simpa using hs
 ·cases h
theorem reads_slice{α:Type}[qI α](hu:P.underlying t=some (.slice e))(hc:P.cellsOf e=qI.size α)(hz:0<qI.size α)(he:Reads P e α):Reads P t (List α):=by
 intro H enc w G5 SZ fuel cs x h
 rcases DataW.trod_slice hu h with ⟨rfl,_⟩|⟨a,len,gA,elems,rest,n,_,rfl,_,_,hlc,hcm,hel,hget,_⟩
 ·exact⟨[],[],none,0,J,by simp,Or.inl ⟨J,J⟩⟩
 ·have hm:gA<=9223372036854775807:=by unfold maxLen at hcm;omega
  rcases Nat.eq_zero_or_pos len with h0|h0
  ·subst h0
   exact⟨[],[],some a,gA,J,by simp,Or.inl ⟨J,J⟩⟩
  ·have Kr:∀i,i<len->∃ci Fi,∃y:α,w.cells? 0 (a.add<|i*qI.size α) (qI.size α)=some ci/\qI.rep w Fi ci y:=by
    intro i hi
    have hg:=hget i hi
    rw[hc] at hg
    have hs:elems[i]? =some (elems[i]'(by omega)):=List.getElem?_eq_getElem qf
    rw[hs] at hg
    obtain⟨ci,h1,h2⟩:=Option.bind_eq_some_iff.1 hg
    obtain⟨Fi,y,hr⟩:=he h2
    exact⟨ci,Fi,y,h1,hr⟩
   have hsp:a.spot=none:=by
    obtain⟨ci,Fi,y,h1,_⟩:=Kr 0 h0
    obtain⟨_,hl,DD⟩:=World.cells?_some h1
    have:=DD 0 hz
    rw[List.getElem?_eq_getElem<|show 0<ci.length by omega] at this
    have:=cell_spot this
    simpa [Addr.add] using this
   obtain⟨b,off,sp⟩:=a
   simp only at hsp
   subst hsp
   have axW:∀i j:Nat,((⟨b,off,none⟩:Addr).add<|i*qI.size α).add j=⟨b,off+i*qI.size α+j,none⟩:=fun i j=>by simp[Addr.add_mid]
   have GQ:∀m,m<=len->∃F vs,∃l:List α,l.length=m/\reps w F vs l/\jO w b off vs:=by
    intro m
    induction m with
    |zero=>exact fun _=>⟨[],[],[],rfl,⟨rfl,rfl⟩,fun i v hv=>by simp at hv⟩
    |succ m ih=>
     intro hm'
     obtain⟨F,vs,l,hl,hr,SS⟩:=ih qf
     obtain⟨ci,Fi,y,h1,h2⟩:=Kr m qf
     obtain⟨_,aOk,DD⟩:=World.cells?_some h1
     refine⟨F++Fi,vs++ci,l++[y],by simp[hl],Qc hr<|reps_one h2,fun i v hv=>?_⟩
     have hvl:=reps_len hr
     rw[hl] at hvl
     rcases Nat.lt_or_ge i vs.length with hi|hi
     ·rw[List.getElem?_append_left hi] at hv
      exact SS i v hv
     ·rw[List.getElem?_append_right hi] at hv
      have hi2:i-vs.length<ci.length:=by
       rcases Nat.lt_or_ge (i-vs.length) ci.length with h|h
       ·exact h
       ·simp[h] at hv
      have:=DD (i-vs.length) qf
      rw[axW,hv] at this
      rw[←this]
      congr 1
      rw[show off+i=off+m*qI.size α+(i-vs.length) by omega]
   obtain⟨F,vs,l,hl,hr,SS⟩:=GQ len<|Nat.le_refl _
   have hb:b<w.heap.size:=by
    have h1:0<vs.length:=by rw[reps_len hr,hl];exact Nat.mul_pos h0 hz
    exact World.block_lt_of_cell? w _<|SS 0 _<|List.getElem?_eq_getElem h1
   subst hl
   exact⟨b::F,l,some ⟨b,off,none⟩,gA,J,⟨by omega,hlc⟩,Or.inr ⟨b,off,F,vs,J,J,hb,hr,SS⟩⟩
theorem arg_slice{α:Type}[qI α]{H:Type}{enc:TypeId×Value->H}{G5:Nat->Bool}{SZ:Bool}{b0:Nat}{v:Value}{d:DataW H}{p:List MemPlace}(hu:P.underlying t=some (.slice e))(hr:Reads P t (List α))
 (hv:Value.okWide P w .any b0 t v) (h:DataW.Trod enc P w 0 G5 SZ t v d p):∃(a:yOA) (c:Nat) (F:yLN) (l:List α),v=Sv a l.length c/\qI.rep w F [Sv a l.length c] l:=by
 obtain⟨a,m,c,rfl⟩:=okWide_slice hu hv
 obtain⟨fuel,hf⟩:=h
 obtain⟨F,l,hl⟩:=hr hf
 have LJ:(Value.slice a m c).cells.toList=[Sv a m c]:=rfl
 rw[LJ] at hl
 obtain⟨a',c',hc,hx⟩:=id hl
 simp only[List.cons.injEq,Value.slice.injEq,and_true] at hc
 obtain⟨rfl,rfl,rfl⟩:=hc
 exact⟨a,c,F,l,J,hl⟩
section
variable{H : Type}{enc : TypeId × Value -> H}{P : Program}
theorem trodAll_below(hl:laidOutB P=true){W W':World}(hb:Below W.heap.size W W'):
 ∀(ts:List TypeId) (vs:List Value) (ds:List (DataW H)) (ps:List MemPlace),(∀t∈ts,P.readableRec t=true/\t<P.types.size)→
  DataW.TrodAll enc P W 0 (fun _=>true) true ts vs ds ps->(∀x∈ps,x.block<W.heap.size)→
  DataW.TrodAll enc P W' 0 (fun b=>decide<|b<W.heap.size) true ts vs ds ps
 | [],vs,ds,ps,_,h,_=>by
  obtain⟨rfl,rfl,rfl⟩:=trodAll_nil h
  exact trodAll_mk0
 |t::ts,vs,ds,ps,hr,h,hp=>by
  obtain⟨v,vs',d,ds',p,q,rfl,rfl,rfl,h0,h1⟩:=trodAll_cons h
  have ht:=hr t<|List.mem_cons_self ..
  exact trodAll_cons_mk (Below.trod hl ht.1 ht.2 h0 hb<|fun x hx=>hp x<|List.mem_append_left _ hx)
   (trodAll_below hl hb ts vs' ds' q (fun t' ht'=>hr t'<|List.mem_cons_of_mem _ ht') h1<|fun x hx=>hp x<|List.mem_append_right _ hx)
theorem post_law{f:Func}{s:ChangeSpec}{W W':World}{args:Array Value}{tb:TypeId}{ds gs:List (DataW H)}{uP:List MemPlace}
 (hW:DataW.Whole enc P f.params.toList s.vars false W args.toList ds gs uP) (hv:s.vars=[])
 (hs:s.fn H (ds++[])={ results:=[.lit<|.bool true],args:=ds }) (hr:f.resultTypes=#[tb]) (hu:P.underlying tb=some .bool)
 (hl:laidOutB P=true) (hts:∀t∈f.params.toList,P.readableRec t=true/\t<P.types.size) (hb:Below W.heap.size W W'):
 s.post enc P f false true false false W args (Bv true) W':=by
 have hW':=hW
 obtain⟨p,q,hA,hV,rfl,hz,hn⟩:=hW
 rw[hv] at hV
 obtain⟨rfl,rfl⟩:=trodVars_none hV
 have nU:∀x∈p++[],x.block<W.heap.size:=fun x hx=>hW'.lt x hx
 refine⟨ds,[],p++[],[],p,[],hW',?_,?_,?_,World.keptBut_mono (fun x hx=>⟨hx,Or.inr<|Or.inl<|by simpa using hx⟩) (hb.frame (·∈p++[])),fun h=>by cases h⟩
 ·rw[hs,hr]
  simp only[Value.resultList]
  exact trodAll_mk1<|shut_bool hu true
 ·rw[hs]
  exact trodAll_below hl hb _ _ _ _ hts hA<|fun x hx=>nU x<|by simpa using hx
 ·rw[hv,hs]
  exact J
end
theorem reads_byte(hu:P.underlying t=some (.int .u8)):Reads P t UInt8:=fun h=>by
 obtain⟨n,rfl,_,hw⟩:=DataW.trod_int hu h
 have hb:0<=n/\n<=255:=by
  simp[Lit.wf,IntKind.min,IntKind.max,IntKind.signed,IntKind.bits] at hw
  omega
 refine⟨[],UInt8.ofNat n.toNat,J,?_⟩
 have e:(UInt8.ofNat n.toNat).toNat=n.toNat:=by
  simp
  omega
 rw[e,Int.toNat_of_nonneg hb.1]
end
end Go.Proofs.YtghikkinnchndaaGreat
