/- Walks and laws, printed by program and by hand: what each function comes to, for all arguments, part 7. -/
import Derived.Test.YtdhklgjmiamiaaaGreatA6
import Derived.Test.YtdhklgjmiamiaaaGreatRows
import Derived.ProofKit
import Derived.OpenShut
import Derived.Carry
import Derived.BigQuiet
import Derived.Lib.SmallJoins
namespace Go.Proofs.YtdhklgjmiamiaaaGreat
open Go.Proofs.Tryz
set_option linter.unusedVariables false
set_option linter.unusedSimpArgs false
set_option maxRecDepth 100000
set_option maxHeartbeats 4000000
open Go.RowKit
open Go.Proofs.Tryz
open Go.Proofs.YtdhklgjmiamiaaaGreat.Tot (tot)
open Go.Proofs.YtdhklgjmiamiaaaGreat.Mark (cnt mrk mkd mkd_mark cnt_mark)
variable{E S:List qG}{F Fl xJ xW xu zF zk:yLN}{K N gj c i j k m n nn:Nat}{P:Program}{R l:yLL}{W0 w:World}{a b d fr:Bool}{al qF qM qO qV xm:yOA}{e:TypeId}{ps:List Prv}{s:qH}{t u:qG}{v z:Value}{x y:Operand}{xs:List Value}{Γ:List Fact}
section
variable{qU xk qL qE qN : Nat}
theorem a2Place_ok(w:World)(l:List qG)(t:qG){cl:Nat}(hl:zP w Fl al cl l)(xR:zP w zk qV qU t.qK)(zu:zP w zF xm xk t.qQ)(xB:zP w xJ qM qL t.qJ):Calls Tryz.prog 24 #[Sv al l.length cl,.agg #[Sv qV t.qK.length qU,Sv xm t.qQ.length xk,Sv qM t.qJ.length qL]] w (Ret (fun v w'=>v=yI (firstIdx (fun zz=>decide<|l[zz]! =t) l.length)) w):=by
 refine en func24 ntmps24 ?_
 have H:=((((St.start w).arg xB).arg zu).arg xR).arg hl
 have y4:=qR hl
 clear hl xR zu xB
 have N:=Fresh.nil w.heap.size
 refine zcr<|sw<|zN H (yT t qV qU xm xk qM qL) fun b1 w2 H=>sp (yI 0)<|zjcc<|sp (yI 0)<|zjn<|xf<|zD ((fun Z0 Z1 Z2 Z3 Z4=>fun m' ρ w3=>∃(xN:Env) (i:Nat),ρ=upd (upd (upd xN 0<|Sv al l.length cl) 3<|pp b1 0) 5 (yI i)/\((i:Int)<=l.length)/\(noneTo (fun zz=>decide<|l[zz]! =t) i)/\m'=(l.length-(i:Int)).toNat/\Fresh w.heap.size []/\St w w3 [Z0] [Z1,Z2,Z3,Z4]) _ _ _ _ _) ((l.length-(0:Int)).toNat) ⟨_,0,uE3,qf,qx,rfl,N,H⟩ ?_
 clear H N
 rintro m' ρ w4 ⟨xN,i,rfl,i0,i1,rfl,N,H⟩
 refine zcc<|sp (yI i)<|sq 1<|oN rfl<|sq 1<|zjn<|cD rfl (fun h5=>?_)<|fun h5=>?_
 ·refine qZ (t_n<|xU<|xf<|xU<|ji rfl H fun H=>rtl 0 H ?_)
  refine rtp 1 (yI i) H ?_
  obtain⟨b7,o8,rfl⟩:=H.addr 0 rfl qf
  obtain⟨GF,Gv,WK,IP,IR,acW,BK,CU,Sp,H⟩:=H.XO 0 rfl i i qf qf qf
  have S:=H.jF [0]<|zR 4 4
  refine tI 2 rfl rfl rfl S ?_
  refine rt 4 _ (yF (cs:=(yT t qV qU xm xk qM qL)) isAgg31 sizeOf31 rfl<|fun _ h=>qC (h.cells 0 rfl) 0 3) S ?_
  refine ro 3 rfl<|xy [Sv GF (((l[i]!).qK).length) Gv,Sv IP (((l[i]!).qQ).length) IR,Sv BK (((l[i]!).qJ).length) CU] isAgg31 sizeOf31 rfl (qC (H.get 3 rfl) 0 3)<|⟨H.pick [0]<|zR 4 4,(ro 5 rfl<|oq (specSame_ok _ (l[i]!) t (H.get 0 rfl).1 (H.get 1 rfl).1 (H.get 2 rfl).1 (H.get 5 rfl).1 (H.get 6 rfl).1 (H.get 7 rfl).1) H fun we H=>⟨H.pick [0]<|zR 4 4,(xC qh<|t_n<|cD rfl (fun eE=>?_)<|fun eE=>?_)⟩)⟩
  ·refine zcr (sp (yI i)<|sp (yI i)<|zjr<|zr5<|rH1 (yI i) H ?_)
   rw[Xj (k:=i) qf i1<|decide_eq_true ‹_›]
  refine qZ<|b_n<|t_n<|xX<|sp (yI i)<|sw<|zC i 1 rfl rfl qf<|sq 1<|xZ<|xh (m':=(l.length-((i+1):Int)).toNat) qf ⟨_,i+1,uE3,?_,?_,rfl,N,H.pick [0]<|zR 4 4⟩
  ·omega
  ·exact noneTo_succ i1<|decide_eq_false ‹_›
 refine zx4<|zcr<|sq 1<|zjr<|rH1 (yI (-1)) H ?_
 rw[firstIdx_none<|fun j hj=>i1 j qf]
theorem implSH_ok(w:World)(s:qH)(t:qG)(xe:zP w xu qF qE s.qA)(xE:zP w xW qO qN s.qB)(xR:zP w zk qV qU t.qK)(zu:zP w zF xm xk t.qQ)(xB:zP w xJ qM qL t.qJ):Calls Tryz.prog 37 #[.agg #[yI s.zf,Sv qF s.qA.length qE,Sv qO s.qB.length qN],.agg #[Sv qV t.qK.length qU,Sv xm t.qQ.length xk,Sv qM t.qJ.length qL]] w (Ret (fun v w'=>∃(iI:yOA) (iB:Nat) (iP:yLN),v=.tuple #[Sv iI (((QK s t).1).length) iB,yI ((QK s t).2)]/\Fresh w.heap.size [iP]/\St w w' [] [sF true iP iI iB ((QK s t).1)]) w):=by
 refine en func37 ntmps37 ?_
 have H:=(((((St.start w).arg xB).arg zu).arg xR).arg xE).arg xe
 clear xe xE xR zu xB
 have N:=Fresh.nil w.heap.size
 refine zcr<|sw<|zN H (yS s qF qE qO qN) fun b1 w2 H=>sw<|zN H (yT t qV qU xm xk qM qL) fun b3 w4 H=>sq 1<|sp (yI 0)<|zjc<|sw<|xy (yS s qF qE qO qN) isAgg27 sizeOf27 rfl (qC (H.cells 1 rfl) 0 3)<|sw<|xy (yT t qV qU xm xk qM qL) isAgg31 sizeOf31 rfl (qC (H.cells 0 rfl) 0 3) ?_
 have RE:=H.base.size
 refine sw<|oc (implEx_ok _ s t (H.get 0 rfl).1 (H.get 1 rfl).1 (H.get 2 rfl).1 (H.get 3 rfl).1 (H.get 4 rfl).1) ?_
 rintro _ w6 ⟨an,ak,aw,aq,ap,ay,rfl,M,K⟩ _
 replace N:=N.merge RE qm M
 replace H:=H.merge K M
 refine sq 3<|sw<|xg H ti46 [yN,yN] fun g9 rL H=>sw<|xx H 0 [Sv an (((exG s t).xq).length) ak,Sv aq (((exG s t).fNext).length) ap] sizeOf46 fun we H=>sq 1<|zjcc<|sq 1<|sp (Bv (((yG s t).2:Int) != 0))<|zjn<|zX (((yG s t).2:Int) != 0) rfl (fun dS=>?_)<|fun dS=>?_
 ·replace dS:=bne_iff_ne.1 dS
  refine zcr<|sq 3<|zjr<|t_r ?_
  replace H:=H.addNil (α:=yLI)
  refine ret2 yN (yI ((yG s t).2)) rfl rfl rfl ⟨_,rfl,?_,H.base⟩
  rw[sh_c ql]
  exact⟨none,0,[],rfl,(N.emp.pick [0]),H.pick [] [0]⟩
 replace dS:=xA dS
 have k1:=(VA (s:=s) (t:=t) qf).1
 have c0:(yG s t).2=0:=by omega
 have ga:=ex_all c0
 have gx:=ex_nx c0
 have gn:=ga.len
 have gl:=ga.le
 have g1:=ga.ok
 have g4:=ga.st
 refine qZ<|t_n<|zcr<|sw<|xy [Sv an (((exG s t).xq).length) ak,Sv aq (((exG s t).fNext).length) ap] isAgg46 sizeOf46 rfl (qC (H.cells 0 rfl) 0 2)<|sw<|zW #[.agg #[Sv an (((exG s t).xq).length) ak,Sv aq (((exG s t).fNext).length) ap]] rfl rfl call76<|en func76 ntmps76 ?_
 refine zcr<|sw<|zN H [Sv an (((exG s t).xq).length) ak,Sv aq (((exG s t).fNext).length) ap] fun e9 uK H=>sq 1<|zjc<|sw<|ja H underlying24 ti2 fun m1 GW H=>sq 1<|zjcc<|oF rfl<|oL rfl (H.cell 1 rfl rfl)<|oN rfl<|sp (yI 0)<|zjn<|xf ?_
 replace H:=H.boxRowI 0 [] 0
 refine zD ((fun Z0 Z1 Z2 Z3 Z4 Z5 Z6 Z7 Z8 Z9 bG=>fun m' ρ EY=>∃(xN:Env) (jZ:yOA) (vV:Nat) (jQ:Nat) (out:yLI) (i:Nat),ρ=upd (upd (upd (upd xN 3<|Sv jZ vV jQ) 8<|Sv aq (((exG s t).fNext).length) ap) 9<|yI (((exG s t).fNext).length)) 10 (yI i)/\out=(idxL (exG s t).fNext i)/\((i:Int)<=(((exG s t).fNext).length))/\m'=((((exG s t).fNext).length)-(i:Int)).toNat/\Fresh w.heap.size [aw,ay]/\St w EY [rr jZ vV jQ 2 1<|out.map<|Value.int .i64,Z0,Z1,Z2,Z3] [Z4,Z5,Z6,Z7,Z8,Z9,bG]) _ _ _ _ _ _ _ _ _ _ _) (((((exG s t).fNext).length)-(0:Int)).toNat) ⟨_,(aa m1 0),0,0,([]:yLI),0,uE4,(by rfl),qf,rfl,N,H⟩ ?_
 clear H N
 rintro m' ρ y6 ⟨xN,jZ,vV,jQ,out,i,rfl,rfl,i0,rfl,N,H⟩
 have bQ:=H.jy 0 rfl
 have il:=idx_len (exG s t).fNext i
 refine zcr<|sq 1<|zjn<|xU<|cD rfl (fun wx=>?_)<|fun wx=>?_
 ·refine qZ (t_n<|xU<|xf<|zcr<|sp (yI i) ?_)
  obtain⟨pg,o22,rfl⟩:=H.addr 1 rfl qf
  obtain⟨am2,aml,amB,H⟩:=H.jo 1 rfl i i qf qf qf
  refine oI rfl rfl<|oL rfl (H.zo 1 rfl 0 rfl)<|sp (yI i)<|sq 1<|zjc<|sq 1<|oN rfl<|sp (Bv (((((exG s t).fNext)[i]!).length:Int) == 0))<|zjn<|cE rfl (fun x6=>?_)<|fun x6=>?_
  ·refine xX (sq 1<|sp (yI i)<|sw<|zl H underlying24 ti2 [yI i] fun yn BA H=>sw<|zt H 1 rfl 0 rfl underlying24 ti2 rfl qj rfl rfl rfl qw qp qf fun ZG c29 BB H=>?_)
   rw[snocI] at H
   refine sq 1<|xZ<|b_n<|t_n<|xX<|sw<|zC i 1 rfl rfl qf<|sq 1<|xZ<|xh (m':=((((exG s t).fNext).length)-((i+1):Int)).toNat) qf ⟨_,_,_,_,_,i+1,uE4,?_,?_,rfl,N,H.pick (zR 1 5)<|zR 2 7⟩
   ·exact idx_yes qf
   ·omega
  refine qZ<|b_n<|t_n<|xX<|sw<|zC i 1 rfl rfl qf<|sq 1<|xZ<|xh (m':=((((exG s t).fNext).length)-((i+1):Int)).toNat) qf ⟨_,_,_,_,_,i+1,uE4,?_,?_,rfl,N,H.pick (zR 0 5)<|zR 2 7⟩
  ·exact idx_no qf
  ·omega
 refine zx4<|zcr<|sq 2<|zjr<|ret1 (Sv jZ vV jQ) rfl rfl ⟨_,rfl,?_⟩
 replace H:=H.erases [1]
 dsimp only[zU,List.eraseIdx] at H
 refine sq 1<|zjcc<|sq 1<|oN rfl<|sp (Bv ((vV:Int) == 0))<|zjn<|cE rfl (fun WS=>?_)<|fun WS=>?_
 ·refine zcr (sq 1<|sp (yI 6)<|zjr<|t_r ?_)
  replace H:=H.addNil (α:=yLI)
  refine ret2 yN (yI 6) rfl rfl rfl ⟨_,rfl,?_,H.base⟩
  rw[sh_6 c0 (n:=i) qf qf]
  exact⟨none,0,[],rfl,(N.emp.pick [0]),H.pick [] [0]⟩
 obtain⟨ia,ib⟩:=idx_at (R:=(exG s t).fNext) (k:=i) (q:=0) qf
 refine qZ<|t_n<|xU<|ji rfl H fun H=>rt 0 _ (yF (cs:=(yS s qF qE qO qN)) isAgg27 sizeOf27 rfl<|fun _ h=>qC (h.cells 3 rfl) 0 3) H ?_
 refine rt 1 _ (yF (cs:=[Sv an (((exG s t).xq).length) ak,Sv aq (((exG s t).fNext).length) ap]) isAgg46 sizeOf46 rfl<|fun _ h=>qC (h.cells 1 rfl) 0 2) H ?_
 refine rtl 2 H ?_
 obtain⟨mX,rfl⟩:=H.jR 0 rfl qf
 refine tI 3 rfl rfl rfl H ?_
 refine tL 4 rfl rfl (fun _ h=>h.Xb 0 rfl (iv:=0) (i:=0) qf qf) H ?_
 refine ro 5 rfl ?_
 have alY:=H.base.size
 have amt:=H.ltN (L:=[aw,ay]) [0,1]
 refine oc (path_ok _ s (exG s t) ((idxL (exG s t).fNext i)[0]!) (H.get 2 rfl).1 (H.get 3 rfl).1 (H.get 0 rfl).1 (H.get 1 rfl).1 qg qg qg qg qg qg qg) ?_
 rintro _ Ao ⟨ON,Px,aeN,rfl,M,K⟩ _
 replace N:=N.merge alY amt M
 replace H:=H.merge K M
 refine⟨H.pick (zR 0 4)<|zR 1 7,?_⟩
 have S:=H.jF (zR 0 4)<|zR 1 7
 refine rtl 6 S ?_
 refine rtp 7 (yI 0) S ?_
 refine rtl 8 S ?_
 refine rtp 9 (yI 0) S ?_
 refine xC qh<|t_n<|c_ret<|ret2 (Sv ON ((wayL s (exG s t).xq (exG s t).fNext (((idxL (exG s t).fNext i)[0]!):Int).toNat).length) Px) (yI 0) rfl rfl rfl ⟨_,rfl,?_,H.base⟩
 rw[sh_0 c0 (n:=i) qf qf]
 exact⟨ON,Px,aeN,rfl,(N.pick [0]),H.pick [] [0]⟩
theorem implHS_ok(w:World)(s:qH)(t:qG)(xe:zP w xu qF qE s.qA)(xE:zP w xW qO qN s.qB)(xR:zP w zk qV qU t.qK)(zu:zP w zF xm xk t.qQ)(xB:zP w xJ qM qL t.qJ):Calls Tryz.prog 30 #[.agg #[yI s.zf,Sv qF s.qA.length qE,Sv qO s.qB.length qN],.agg #[Sv qV t.qK.length qU,Sv xm t.qQ.length xk,Sv qM t.qJ.length qL]] w (Ret (fun v w'=>∃(iI:yOA) (iB:Nat) (iP:yLN),v=.tuple #[Sv iI (((vK s t).1).length) iB,yI ((vK s t).2)]/\Fresh w.heap.size [iP]/\St w w' [] [sF true iP iI iB ((vK s t).1)]) w):=by
 refine en func30 ntmps30 ?_
 have H:=(((((St.start w).arg xB).arg zu).arg xR).arg xE).arg xe
 clear xe xE xR zu xB
 have N:=Fresh.nil w.heap.size
 refine zcr<|sw<|zN H (yS s qF qE qO qN) fun b1 w2 H=>sw<|zN H (yT t qV qU xm xk qM qL) fun b3 w4 H=>sq 1<|sp (yI 0)<|zjc<|sw<|xy (yS s qF qE qO qN) isAgg27 sizeOf27 rfl (qC (H.cells 1 rfl) 0 3)<|sw<|xy (yT t qV qU xm xk qM qL) isAgg31 sizeOf31 rfl (qC (H.cells 0 rfl) 0 3) ?_
 have RE:=H.base.size
 refine sw<|oc (implEx_ok _ s t (H.get 0 rfl).1 (H.get 1 rfl).1 (H.get 2 rfl).1 (H.get 3 rfl).1 (H.get 4 rfl).1) ?_
 rintro _ w6 ⟨an,ak,aw,aq,ap,ay,rfl,M,K⟩ _
 replace N:=N.merge RE qm M
 replace H:=H.merge K M
 refine sq 3<|sw<|xg H ti46 [yN,yN] fun g9 rL H=>sw<|xx H 0 [Sv an (((exG s t).xq).length) ak,Sv aq (((exG s t).fNext).length) ap] sizeOf46 fun we H=>sq 1<|zjcc<|sq 1<|sp (Bv (((yG s t).2:Int) != 0))<|zjn<|zX (((yG s t).2:Int) != 0) rfl (fun dS=>?_)<|fun dS=>?_
 ·replace dS:=bne_iff_ne.1 dS
  refine zcr<|sq 3<|zjr<|t_r ?_
  replace H:=H.addNil (α:=qG)
  refine ret2 yN (yI ((yG s t).2)) rfl rfl rfl ⟨_,rfl,?_,H.base⟩
  rw[hs_c ‹_›]
  exact⟨none,0,[],rfl,(N.emp.pick [0]),H.pick [] [0]⟩
 replace dS:=xA dS
 have c0:(yG s t).2=0:=by omega
 have ga:=ex_all c0
 have k0:=VA c0
 have gp:=ga.pos
 have gl:=ga.le
 have gn:=ga.len
 refine qZ<|t_n<|zcr<|sw<|ja H underlying38 ti31 fun e9 uK H=>sq 1<|zjcc<|sw<|xy [Sv an (((exG s t).xq).length) ak,Sv aq (((exG s t).fNext).length) ap] isAgg46 sizeOf46 rfl (qC (H.cells 1 rfl) 0 2)<|sw<|zW #[.agg #[Sv an (((exG s t).xq).length) ak,Sv aq (((exG s t).fNext).length) ap]] rfl rfl call76<|en func76 ntmps76 ?_
 refine zcr<|sw<|zN H [Sv an (((exG s t).xq).length) ak,Sv aq (((exG s t).fNext).length) ap] fun m1 GW H=>sq 1<|zjc<|sw<|ja H underlying24 ti2 fun Gn y6 H=>sq 1<|zjcc<|oF rfl<|oL rfl (H.cell 1 rfl rfl)<|oN rfl<|sp (yI 0)<|zjn<|xf ?_
 replace H:=H.boxRowI 0 [] 0
 refine zD ((fun Z0 Z1 Z2 Z3 Z4 Z5 Z6 Z7 Z8 Z9 bG bX=>fun m' ρ tr=>∃(xN:Env) (jZ:yOA) (vV:Nat) (jQ:Nat) (out:yLI) (i:Nat),ρ=upd (upd (upd (upd xN 3<|Sv jZ vV jQ) 8<|Sv aq (((exG s t).fNext).length) ap) 9<|yI (((exG s t).fNext).length)) 10 (yI i)/\out=(idxL (exG s t).fNext i)/\((i:Int)<=(((exG s t).fNext).length))/\m'=((((exG s t).fNext).length)-(i:Int)).toNat/\Fresh w.heap.size [aw,ay]/\St w tr [rr jZ vV jQ 2 1<|out.map<|Value.int .i64,Z0,Z1,Z2,Z3,Z4] [Z5,Z6,Z7,Z8,Z9,bG,bX]) _ _ _ _ _ _ _ _ _ _ _ _) (((((exG s t).fNext).length)-(0:Int)).toNat) ⟨_,(aa Gn 0),0,0,([]:yLI),0,uE4,(by rfl),qf,rfl,N,H⟩ ?_
 clear H N
 rintro m' ρ G4 ⟨xN,jZ,vV,jQ,out,i,rfl,rfl,i0,rfl,N,H⟩
 have bQ:=H.jy 0 rfl
 have il:=idx_len (exG s t).fNext i
 refine zcr<|sq 1<|zjn<|xU<|cD rfl (fun WF=>?_)<|fun WF=>?_
 ·refine qZ (t_n<|xU<|xf<|zcr<|sp (yI i) ?_)
  obtain⟨zw,o24,rfl⟩:=H.addr 1 rfl qf
  obtain⟨alr,ano,amP,H⟩:=H.jo 1 rfl i i qf qf qf
  refine oI rfl rfl<|oL rfl (H.zo 1 rfl 0 rfl)<|sp (yI i)<|sq 1<|zjc<|sq 1<|oN rfl<|sp (Bv (((((exG s t).fNext)[i]!).length:Int) == 0))<|zjn<|cE rfl (fun mg=>?_)<|fun mg=>?_
  ·refine xX (sq 1<|sp (yI i)<|sw<|zl H underlying24 ti2 [yI i] fun rj GZ H=>sw<|zt H 1 rfl 0 rfl underlying24 ti2 rfl qj rfl rfl rfl qw qp qf fun PL PN G6 H=>?_)
   rw[snocI] at H
   refine sq 1<|xZ<|b_n<|t_n<|xX<|sw<|zC i 1 rfl rfl qf<|sq 1<|xZ<|xh (m':=((((exG s t).fNext).length)-((i+1):Int)).toNat) qf ⟨_,_,_,_,_,i+1,uE4,?_,?_,rfl,N,H.pick (zR 1 6)<|zR 2 7⟩
   ·exact idx_yes qf
   ·omega
  refine qZ<|b_n<|t_n<|xX<|sw<|zC i 1 rfl rfl qf<|sq 1<|xZ<|xh (m':=((((exG s t).fNext).length)-((i+1):Int)).toNat) qf ⟨_,_,_,_,_,i+1,uE4,?_,?_,rfl,N,H.pick (zR 0 6)<|zR 2 7⟩
  ·exact idx_no qf
  ·omega
 refine zx4<|zcr<|sq 2<|zjr<|ret1 (Sv jZ vV jQ) rfl rfl ⟨_,rfl,?_⟩
 replace H:=H.erases [1]
 dsimp only[zU,List.eraseIdx] at H
 refine oN rfl<|sp (yI 0)<|zjn<|xf ?_
 obtain⟨TR,B34,P35,N,H⟩:=H.pool (α:=qG) 0 rfl N
 replace H:=H.boxRow 1 rfl 3 0 rfl qj
 replace H:=H.vP (α:=qG)
 replace H:St _ _ [rr jZ vV jQ 2 1 ((idxL (exG s t).fNext i).map<|Value.int .i64),rr (aa e9 0) 0 0 31 3 [],.box g9 [Sv an (((exG s t).xq).length) ak,Sv aq (((exG s t).fNext).length) ap] 46,.box b3 (yT t qV qU xm xk qM qL) 31,.box b1 (yS s qF qE qO qN) 27] [xG true [] [] ([]:List qG),xG true P35 (TR.drop<|0*3) (((exG s t).xq).drop 0),cellsF B34 (Sv an (((exG s t).xq).length) ak) TR,sF true aw an ak ((exG s t).xq),sF true ay aq ap ((exG s t).fNext),sF false xu qF qE s.qA,sF false xW qO qN s.qB,sF false zk qV qU t.qK,sF false zF xm xk t.qQ,sF false xJ qM qL t.qJ]:=H
 refine zD ((fun Z0 Z1 Z2 Z3 Z4 Z5 Z6 Z7 Z8 Z9 bG bX=>fun m' ρ Gy=>∃(xN:Env) (cj:yOA) (QQ:Nat) (XR:Nat) (bL:List qG) (Xf:List Value) (y8:yLN) (k:Nat) (p:Nat) (P_p:yLN),ρ=upd (upd (upd (upd (upd xN 6<|pp g9 0) 8<|Sv cj QQ XR) 22<|Sv jZ vV jQ) 23<|yI vV) 24 (yI k)/\bL=(((idxL (exG s t).fNext i).take k).map<|fun(i:Int)=>(exG s t).xq[i.toNat]!)/\((k:Int)<=vV)/\(∀z,k<=z->z<(idxL (exG s t).fNext i).length->p<=((idxL (exG s t).fNext i)[z]!).toNat)/\m'=(vV-(k:Int)).toNat/\Fresh w.heap.size [ay,y8,P_p]/\St w Gy [Z0,rr cj QQ XR 31 3 Xf,Z1,Z2,Z3] [xG true y8 Xf bL,xG true P_p (TR.drop<|p*3) (((exG s t).xq).drop p),Z4,Z5,Z6,Z7,Z8,Z9,bG,bX]) _ _ _ _ _ _ _ _ _ _ _ _) ((vV-(0:Int)).toNat) ⟨_,(aa e9 0),0,0,([]:List qG),[],[],0,0,P35,uE5,(by rfl),qf,(by exact fun z _ _=>Nat.zero_le _),rfl,(N.emp.pick [2,0,1]),H⟩ ?_
 clear H N
 rintro m' ρ Jk ⟨xN,cj,QQ,XR,bL,Xf,y8,k,p,P_p,rfl,rfl,i0,kp,rfl,N,H⟩
 have bQ:=H.xQ (α:=qG) 1 rfl 0 rfl qj
 have tl:(((idxL (exG s t).fNext i).take k).map<|fun(i:Int)=>(exG s t).xq[i.toNat]!).length<=(idxL (exG s t).fNext i).length:=by rw[List.length_map,List.length_take];omega
 refine zcr<|sq 1<|zjn<|xU<|cD rfl (fun Bm=>?_)<|fun Bm=>?_
 ·have kq:=kp k qf qf
  obtain⟨ia,ib⟩:=idx_at (R:=(exG s t).fNext) (k:=i) (q:=k) qf
  refine qZ<|t_n<|xU<|xf<|zcr ?_
  obtain⟨b39,rfl⟩:=H.jR 0 rfl qf
  refine oI rfl rfl<|oL rfl (H.Xb 0 rfl (iv:=k) (i:=k) qf qf)<|sq 1<|zjn<|xX<|sq 1<|oF rfl<|oL rfl (H.cell 2 rfl rfl)<|sq 1 ?_
  obtain⟨RJ,o41,rfl⟩:=H.addr 3 rfl qf
  obtain⟨l9,lZ,ww,n7,nO,z6,j6,iY,sy,P44,N,H⟩:=H.drain_StateD 2 rfl 1 rfl ((N.pick [2,0,1]):Fresh w.heap.size [P_p,ay,y8]) ((idxL (exG s t).fNext i)[k]!) (((idxL (exG s t).fNext i)[k]!).toNat) qf qf qf
  refine oI rfl rfl<|sw<|xy [Sv l9 (((((exG s t).xq)[((idxL (exG s t).fNext i)[k]!).toNat]!).qK).length) lZ,Sv n7 (((((exG s t).xq)[((idxL (exG s t).fNext i)[k]!).toNat]!).qQ).length) nO,Sv j6 (((((exG s t).xq)[((idxL (exG s t).fNext i)[k]!).toNat]!).qJ).length) iY] isAgg31 sizeOf31 rfl (qC (H.get 3 rfl) 0 3)<|sw<|zl H underlying38 ti31 [Sv l9 (((((exG s t).xq)[((idxL (exG s t).fNext i)[k]!).toNat]!).qK).length) lZ,Sv n7 (((((exG s t).xq)[((idxL (exG s t).fNext i)[k]!).toNat]!).qQ).length) nO,Sv j6 (((((exG s t).xq)[((idxL (exG s t).fNext i)[k]!).toNat]!).qJ).length) iY] fun KC Dz H=>sw<|zt H 2 rfl 0 rfl underlying38 ti31 rfl qj rfl rfl rfl qw qp qf fun a47 W5 OV H=>?_
  replace H:=H.Qo 5 rfl 0 rfl 1 rfl 2 rfl
  replace N:Fresh w.heap.size [(y8++(ww++z6++sy)),P44,ay]:=(N.pick [0,1,2,5,3,4]).join.join.swap.join
  refine sq 1<|xZ<|b_n<|t_n<|xX<|sw<|zC k 1 rfl rfl qf<|sq 1<|xZ<|xh (m':=(vV-((k+1):Int)).toNat) qf ⟨_,_,_,_,_,_,_,k+1,(((idxL (exG s t).fNext i)[k]!).toNat)+1,_,uE5,?_,?_,?_,rfl,(N.pick [2,0,1]),H.pick (zR 1 5) (0::5::zR 8 8)⟩
  ·exact map_snoc! (f:=fun(i:Int)=>(exG s t).xq[i.toNat]!) qf
  ·omega
  ·exact fun z h1 h2=>idx_up (p:=k) qf h2
 refine zx4<|zcr<|sq 2<|sp (yI 0)<|zjr ?_
 have H0:=H
 obtain⟨Pm,Js,Jh,H⟩:=H.yC (α:=qG) 1 rfl 0 rfl qj
 replace N:Fresh w.heap.size [Pm,ay,P_p]:=Fresh.ice (N.pick [1,0,2]) H0 1 Js.1 Js.2<|H0.vX [4,1]
 clear H0
 obtain rfl:=H.isLen 0 rfl
 refine ret2 (Sv cj ((((idxL (exG s t).fNext i).take k).map<|fun(i:Int)=>(exG s t).xq[i.toNat]!).length) XR) (yI 0) rfl rfl rfl ⟨_,rfl,?_,H.base⟩
 have hi:i=(exG s t).fNext.length:=by omega
 rw[hs_i c0 (q:=k)<|by rw[←hi];omega,←hi]
 exact⟨cj,XR,Pm,rfl,(N.pick [0]),H.pick [] [0]⟩
end
section
def XL(l:yLL):Nat->yLN
 |0=>[]
 |j+1=>if 0<j/\l[j]! =l[j-1]! then XL l j else XL l j++[j]
def compL(l:yLL):yLL:=(XL l l.length).map fun i=>l[i]!
def cvals(xs:List Value)(l:yLL)(j:Nat):List Value:=(XL l j).map (fun i=>xs[i]!)++xs.drop (XL l j).length
theorem keepI_lt{l:yLL}:∀j,∀i∈XL l j,i<j
 |0,i,h=>by simp[XL] at h
 |j+1,i,h=>by
  rw[XL] at h
  split at h
  ·have:=keepI_lt j i h;omega
  ·rcases List.mem_append.1 h with h|h
   ·have:=keepI_lt j i h;omega
   ·have:=List.mem_singleton.1 h;omega
theorem keepI_all{l:yLL}:∀j,(∀i,0<i->i<j->¬l[i]! =l[i-1]!)->XL l j=List.range j
 |0,_=>rfl
 |j+1,h=>by rw[XL,if_neg<|fun e=>h j e.1 qf e.2,keepI_all j<|fun i a b=>h i a qf,List.range_succ]
theorem range_get{α:Type}[Inhabited α]{xs:List α}:∀j,j<=xs.length->(List.range j).map (fun i=>xs[i]!)=xs.take j
 |0,_=>rfl
 |j+1,h=>by rw[List.range_succ,List.map_append,range_get j qf];exact take_snoc qf
theorem cvals_all(hj:j<=xs.length)(h:∀i,0<i->i<j->¬l[i]! =l[i-1]!):cvals xs l j=xs:=by
 unfold cvals;rw[keepI_all j h,range_get j hj,List.length_range,List.take_append_drop]
theorem cvals_get{p:Nat}(h:(XL l j).length<=p):(cvals xs l j)[p]? =xs[p]? :=by
 unfold cvals
 rw[List.getElem?_append_right<|by simpa using h,List.length_map,List.getElem?_drop]
 congr 1;omega
theorem cvals_skip(h:0<j/\l[j]! =l[j-1]!):cvals xs l (j+1)=cvals xs l j/\(XL l<|j+1).length=(XL l j).length:=by
 unfold cvals;rw[XL,if_pos h];exact⟨rfl,rfl⟩
theorem cvals_keep(h:¬l[j]! =l[j-1]!)(hq:(XL l j).length<xs.length):(cvals xs l j).set (XL l j).length (xs[j]!)=cvals xs l (j+1)/\(XL l<|j+1).length=(XL l j).length+1:=by
 unfold cvals;rw[XL,if_neg<|fun e=>h e.2]
 refine⟨?_,by simp⟩
 rw[List.set_append_right _ _ qm,List.length_map,Nat.sub_self,List.drop_eq_getElem_cons hq,List.set_cons_zero,List.map_append,List.length_append,List.append_assoc];rfl
theorem cvals_end(hm:(XL l j).length=m)(ys:List Value):((cvals xs l j).take m++ys).take m=(XL l j).map fun i=>xs[i]! :=by
 subst hm
 unfold cvals
 rw[List.take_append_of_le_length qm,List.take_take,Nat.min_self,List.take_append_of_le_length qm,List.take_of_length_le qm]
theorem reps_subl{α:Type}[qX α](h1:qX.size α=1):∀ {zs' zs:List (Value×α)},zs'.Sublist zs->∀ {F:yLN},reps w F (zs.map Prod.fst) (zs.map Prod.snd)->∃F',F'.Sublist F/\reps w F' (zs'.map Prod.fst) (zs'.map Prod.snd):=by
 intro zs' zs hs
 induction hs with
 |slnil=>intro F h;exact⟨F,.refl _,h⟩
 |cons a s ih=>
  intro F h
  obtain⟨F1,F2,c1,c2,hF,hv,h2,h3⟩:=h
  have hl:=qX.len h2
  rw[h1] at hl
  obtain⟨u,rfl⟩:=List.length_eq_one_iff.1 hl
  simp only[List.map_cons,List.singleton_append,List.cons.injEq] at hv
  obtain⟨_,rfl⟩:=hv
  obtain⟨F',a1,a2⟩:=ih h3
  exact⟨F',hF▸a1.trans (List.sublist_append_right ..),a2⟩
 |cons_cons a s ih=>
  intro F h
  obtain⟨F1,F2,c1,c2,hF,hv,h2,h3⟩:=h
  have hl:=qX.len h2
  rw[h1] at hl
  obtain⟨u,rfl⟩:=List.length_eq_one_iff.1 hl
  simp only[List.map_cons,List.singleton_append,List.cons.injEq] at hv
  obtain⟨hu,rfl⟩:=hv
  obtain⟨F',a1,a2⟩:=ih h3
  exact⟨F1++F',hF▸List.Sublist.append (.refl _) a1,F1,F',[u],_,rfl,by rw[List.map_cons,hu];rfl,h2,a2⟩
theorem keep_subl{β:Type}[Inhabited β]{zs:List β}(l:yLL):∀j,j<=zs.length->((XL l j).map<|fun i=>zs[i]!).Sublist (zs.take j)
 |0,_=>by simp[XL]
 |j+1,h=>by
  have ih:=keep_subl (zs:=zs) l j qf
  rw[←take_snoc qf,XL]
  split
  ·exact ih.trans<|List.sublist_append_left ..
  ·rw[List.map_append];exact List.Sublist.append ih<|.refl _
theorem compReps(hr:reps w F xs l):∃F',F'.Sublist F/\reps w F' ((XL l l.length).map fun i=>xs[i]!) (compL l):=by
 have uH:xs.length=l.length:=by have:=X7 hr;simpa [qX.size] using this
 have hz:(xs.zip l).length=l.length:=by simp[uH]
 have hs:=keep_subl (zs:=xs.zip l) l l.length qf
 rw[List.take_of_length_le qf] at hs
 have IC :reps w F ((xs.zip l).map Prod.fst) ((xs.zip l).map Prod.snd):=by rw[zip_fst uH,zip_snd uH];exact hr
 obtain⟨F',a,b⟩:=reps_subl (α:=yLI) rfl hs IC
 refine⟨F',a,?_⟩
 have e1:∀i,i<l.length->(xs.zip l)[i]! =(xs[i]!,l[i]!):=fun i hi=>by
  rw[getElem!_pos _ i qf,getElem!_pos xs i qf,getElem!_pos l i hi,List.getElem_zip]
 rw[List.map_map,List.map_map] at b
 have e2:(XL l l.length).map (Prod.fst ∘ fun i=>(xs.zip l)[i]!)=(XL l l.length).map fun i=>xs[i]! :=List.map_congr_left fun i hi=>by show ((xs.zip l)[i]!).1=_;rw[e1 i<|keepI_lt _ i hi]
 have e3:(XL l l.length).map (Prod.snd ∘ fun i=>(xs.zip l)[i]!)=compL l:=List.map_congr_left fun i hi=>by show ((xs.zip l)[i]!).2=_;rw[e1 i<|keepI_lt _ i hi]
 rwa [e2,e3] at b
section
variable{P : Program}{Q : Exit -> Act -> World -> Prop}{n : Nat}{ρ : Env}{W0 w : World}{ps : List Prv}{Γ : List Fact}
 {d:Nat} {op:Op} {ty:TypeId} {pos:String} {af:Array Edge} {K:Env->World->Prop}
theorem St.rowCut(H:St W0 w ps Γ)(k:Nat){b:Nat}(hp:ps[k]? =some (.row (Sv (some ⟨b,0,none⟩) nn c) e 1 nn xs))(m:Nat)(hm:m<=nn):
 St W0 w (ps.set k<|.row (Sv (some ⟨b,0,none⟩) m c) e 1 m<|xs.take m) Γ:=
 H.turn k hp (fun h=>by
  have h:w.ownsRow W0.heap.size e 1 (Sv (some ⟨b,0,none⟩) nn c) nn xs:=h
  obtain⟨hl,h|⟨g,ed,ee,hv,hB,hg,hn,hmx,pn,ht⟩⟩:=h
  ·simp at h
  ·simp only[Value.slice.injEq] at hv
   obtain⟨uD,_,hv3⟩:=hv
   refine⟨by rw[List.length_take];omega,Or.inr ⟨g,ed,ee,by rw[uD,hv3],hB,hg,by omega,hmx,pn,?_⟩⟩
   rw[←ht,List.take_take];congr 1;omega) rfl
theorem o_none[Dfr]{w':World}(v:Value)(h:(execOp (ev n ρ) ⟨none,op,ty,pos,af,none⟩).run P w=.ok (.value v) w')(k:K ρ w'):OW P Q ⟨none,op,ty,pos,af,none⟩ n ρ w K:=by
 unfold OW
 intro K' hK
 unfold Oper.wp
 rw[Xc,h]
 exact hK _ _ k
theorem o_from[Dfr]{t:TypeId}{b aF:Nat}(kk:Nat)(hu:P.underlying t=some (.slice e))(he:TI P e z 1 gj)(hx:ev n ρ x=Sv (some ⟨b,aF,none⟩) m c)(hy:ev n ρ y=.int .i64 (kk:Int))(hk:kk<=m)(hc:kk<c)(hm:m<=c)
 (k:K (upd ρ d<|Sv (some ⟨b,aF+kk,none⟩) (m-kk)<|c-kk) w):OW P Q ⟨some d,.slice t x (some y) none none,ty,pos,af,none⟩ n ρ w K:=by
 refine XW _ ?_ k
 have iQ:¬c=kk:=by omega
 simp[execOp,hx,hy,Instr.sliceAt,Instr.slice,Instr.sliceBounds,Instr.sliceBound,asIntOf,run_underlying hu,he.sizeOf,hk,iQ,Addr.add]
theorem o_upto[Dfr]{t:TypeId}{a:yOA}(kk:Nat)(hu:P.underlying t=some (.slice e))(he:TI P e z 1 gj)(hx:ev n ρ x=Sv a m c)(hy:ev n ρ y=.int .i64 (kk:Int))(hk:kk<=c)(h0:0<c)
 (k:K (upd ρ d<|Sv a kk c) w):OW P Q ⟨some d,.slice t x none (some y) none,ty,pos,af,none⟩ n ρ w K:=by
 refine XW _ ?_ k
 cases a <;> simp[execOp,hx,hy,Instr.sliceAt,Instr.slice,Instr.sliceBounds,Instr.sliceBound,asIntOf,run_underlying hu,he.sizeOf,hk,Addr.add]
theorem o_clearRow[Dfr]{t e':TypeId}{b c' kk:Nat}(H:St W0 w ps Γ)(i:Nat)(hp:ps[i]? =some (.row (Sv (some ⟨b,0,none⟩) nn c) e 1 nn xs))(hu:P.underlying t=some (.slice e'))(hv:∀w,(zeroValue e').run P w=.ok (Sv none 0 0) w)
 (hx:ev n ρ x=Sv (some ⟨b,0+kk,none⟩) m c') (hm:kk+m=nn) (h0:0<m) (k:∀w',St W0 w' (ps.set i<|.row (Sv (some ⟨b,0,none⟩) nn c) e 1 nn<|xs.take kk++List.replicate m (Sv none 0 0)) Γ->K ρ w'):
 OW P Q ⟨none,.call ⟨.builtin .clear,#[x],#[t]⟩,ty,pos,af,none⟩ n ρ w K:=by
 have hl:=H.rowLen i hp
 obtain⟨w',hr,H'⟩:=H.rowSet i hp kk (List.replicate m<|Sv none 0 0) (by rw[List.length_replicate];omega) (fun u hu=>by rw[(List.mem_replicate.1 hu).2];rfl) (P:=P)
 refine o_none (w':=w') (.tuple #[]) ?_<|k w' ?_
 ·have hz:(Builtin.zeroCells (Value.slice none 0 0).cells m).toList=List.replicate m (Sv none 0 0):=by
   rw[show (Value.slice none 0 0).cells=#[Sv none 0 0] from rfl]
   simp[Builtin.zeroCells]
   apply List.ext_getElem
   ·simp
   ·intro q h1 h2;simp[Nat.mod_one]
  obtain⟨m',rfl⟩:∃q,m=q+1:=⟨m-1,by omega⟩
  rw[Nat.zero_add] at hx
  simp[execOp,resolve,invoke,builtin,Builtin.clear_,hx,run_underlying hu,hv,hz,hr]
 ·rw[List.length_replicate,List.drop_of_length_le qf,List.append_nil] at H'
  exact H'
end
theorem St.repsEl(H:St W0 w ps Γ)(j:Nat)(hf:Γ[j]? =some (xG fr F xs l))(p:Nat)(hp:p<l.length):
 ∃(a:yOA) (c:Nat) (G:yLN),xs[p]? =some (Sv a (l[p]!).length c)/\St W0 w ps (isF fr G (Sv a (l[p]!).length c) (l[p]!)::Γ):=by
 obtain⟨hr,dq⟩:=H.get j hf
 obtain⟨F1,Fk,F2,v1,cs,v2,hF,hv,Me,hl2,hk,_,_⟩:=reps_get hr p hp
 obtain⟨a,c,pn,_⟩:=id hk
 have e:l[p]=l[p]! :=(getElem!_pos l p hp).symm
 rw[e] at hk pn
 subst pn
 have aJ:∀x∈Fk,x∈F:=fun x hx=>by rw[hF];simp[hx]
 refine⟨a,c,Fk,?_,H.jO j hf _ ⟨hk,fun e=>(dq e).sub aJ⟩ aJ⟩
 have:v1.length=p:=by rw[Me];exact Nat.mul_one _
 rw[hv,List.append_assoc,List.getElem?_append_right qf,this];simp
theorem compL_all(h:∀i,0<i->i<l.length->¬l[i]! =l[i-1]!):compL l=l:=by
 unfold compL;rw[keepI_all _ h,range_get _<|Nat.le_refl _,List.take_length]
theorem kept_all(hx:xs.length=l.length)(h:∀i,0<i->i<l.length->¬l[i]! =l[i-1]!):((XL l l.length).map fun i=>xs[i]!)=xs:=by
 rw[keepI_all _ h,range_get _ qf,←hx,List.take_length]
theorem set_selfR{p:Prv}(hp:ps[k]? =some p):ps.set k p=ps:=by
 obtain⟨hk,he⟩:=List.getElem?_eq_some_iff.1 hp
 rw[←he,List.set_getElem_self]
instance iSCF:SliC Tryz.prog 29 24:=⟨underlying29⟩
instance iTCF:TIC Tryz.prog 24 (Sv none 0 0) 1 24:=⟨by unfold TI;kernel_rfl⟩
instance iACF:SclC Tryz.prog 24:=⟨isAgg24⟩
instance iCCF:QY Tryz.prog 81:=⟨call81⟩
theorem compactRow(H:St W0 w ps Γ)(k:Nat){a:yOA}(hp:ps[k]? =some (.row (Sv a nn c) e 1 nn xs))(j:Nat)(hf:Γ[j]? =some (xG fr F xs l))(hb:l.length<=1000000):
 Calls Tryz.prog 80 #[Sv a nn c,.func (.func 81) #[] #[]] w fun e' w'=>∃v,e'=.returned v/\∃(F':yLN) (HC :List Value),v=Sv a (compL l).length c/\F'.Sublist F∧
  St W0 w' (ps.set k<|.row (Sv a (compL l).length c) e 1 (compL l).length HC) (xG fr F' HC (compL l)::Γ):=by
 have uH:xs.length=l.length:=by have:=X7 (H.get j hf).1;simpa [qX.size] using this
 have hnl:nn=l.length:=by have:=H.rowLen k hp;omega
 subst hnl
 obtain⟨F',aJ,mB⟩:=compReps (H.get j hf).1
 have akW :fr=true->yf w F':=fun e x hx=>(H.get j hf).2 e x<|aJ.subset hx
 have sc :∀b∈F',b<w.heap.size/\∀i,yO ps i≠some b:=fun b hb=>(H.facts _<|List.mem_of_getElem? hf).2 b<|aJ.subset hb
 have Hr:=H.add (xG fr F' ((XL l l.length).map fun i=>xs[i]!)<|compL l) ⟨mB,akW⟩ sc
 refine en Tryz.func80 Tryz.ntmps80 ?_
 refine xU<|xX<|sp (Sv none 0 0)<|xZ<|t_n<|xU<|xU<|xX<|sp (Sv a l.length c)<|sw<|o_len underlying29 a l.length c rfl<|sp (Bv<|decide ((l.length:Int)<2))<|xZ<|t_n<|zX (decide ((l.length:Int)<2)) rfl (fun h1=>?_)<|fun h1=>?_
 ·replace h1:=of_decide_eq_true h1
  refine xU<|xX<|sps [Sv a l.length c,Sv a l.length c]<|xZ<|t_n<|c_ret<|t_r ?_
  have hn:∀i,0<i->i<l.length->¬l[i]! =l[i-1]! :=fun i h2 h3=>by omega
  rw[kept_all uH hn] at Hr
  rw[compL_all hn] at Hr ⊢
  refine ret1 (Sv a l.length c) rfl rfl ⟨_,rfl,F',xs,rfl,aJ,?_⟩
  rw[set_selfR hp];exact Hr
 ·replace h1:=of_decide_eq_false h1
  obtain⟨b,rfl⟩:=H.jR k hp qf
  have hj:(xG fr F' ((XL l l.length).map fun i=>xs[i]!) (compL l)::Γ)[j+1]? =some (xG fr F xs l):=hf
  have hc:l.length<=c:=by
   obtain⟨_,h|⟨g,ed,ee,hv,_,_,h2,_⟩⟩:=(Hr.has _ (List.mem_of_getElem? hp):w.ownsRow W0.heap.size e 1 _ l.length xs)
   ·exact absurd h.2 qf
   ·simp only[Value.slice.injEq] at hv;omega
  clear H
  refine qZ (t_n (xU<|xU<|xX<|sp (.int .i64 1)<|xZ<|t_n<|xf<|zD (fun m' ρ w1=>∃(xN:Env) (i:Nat),ρ=upd (upd (upd xN 0<|Sv (some ⟨b,0,none⟩) l.length c) 1<|.func (.func 81) #[] #[]) 5 (.int .i64 i)/\(1<=i/\i<=l.length)/\(∀q,0<q->q<i->¬l[q]! =l[q-1]!)/\m'=l.length-i∧
   St W0 w1 ps (xG fr F' ((XL l l.length).map fun i=>xs[i]!) (compL l)::Γ)) (l.length-1) ⟨_,1,(by exact zy (zy (zy rfl rfl) rfl) rfl),⟨by omega,by omega⟩,fun q h2 h3=>by omega,rfl,Hr⟩ ?_))
  clear Hr
  rintro m' ρ w1 ⟨xN,i,rfl,⟨hi1,hi2⟩,uU,rfl,H⟩
  refine xU<|xU<|xX<|sps [.int .i64 i,Sv (some ⟨b,0,none⟩) l.length c]<|oN rfl<|sp (Bv<|decide ((i:Int)<l.length)) ?_
  refine xZ<|t_n<|zX (decide ((i:Int)<l.length)) rfl (fun h4=>?_)<|fun h4=>?_
  ·replace h4:=of_decide_eq_true h4
   refine qZ<|t_n<|xU<|xf<|xU<|ji rfl H fun H=>?_
   refine rtp 0 (.func (.func 81) #[] #[]) H ?_
   refine rtp 1 (Sv (some ⟨b,0,none⟩) l.length c) H ?_
   refine rtp 2 (.int .i64 i) H ?_
   refine tI 3 rfl rfl rfl H ?_
   obtain⟨a1,c1,G1,s1,hc1,hx1,hy1,H⟩:=H.rowElemX k hp (j+1) hj (iv:=i) i qf qf
   have S:=H.sub _<|fun f hf=>List.mem_cons_of_mem _ hf
   refine tL 4 rfl rfl (fun _ h=>h.VI k hp hx1) S ?_
   refine rtp 5 (Sv (some ⟨b,0,none⟩) l.length c) S ?_
   refine rtp 6 (.int .i64 i) S ?_
   refine rt 7 (.int .i64<|i-1) (y_sub i 1 rfl rfl qf) S ?_
   refine tI 8 rfl rfl rfl S ?_
   obtain⟨a2,c2,G2,s2,hc2,hx2,hy2,H⟩:=H.rowElemX k hp (j+2) hj (iv:=(i:Int)-1) (i-1) qf qf
   replace S:=H.sub _<|fun f hf=>List.mem_cons_of_mem _<|List.mem_cons_of_mem _ hf
   refine tL 9 rfl rfl (fun _ h=>h.VI k hp hx2) S ?_
   refine ro 10 rfl<|oq (equalI_ok _ (l[i]!) (l[i-1]!) (H.get 1 rfl).1 (H.get 0 rfl).1) H fun w2 H=>⟨H.sub _<|fun f hf=>List.mem_cons_of_mem _<|List.mem_cons_of_mem _ hf,?_⟩
   refine xC qh<|t_n ?_
   replace H:=H.sub _<|fun f hf=>List.mem_cons_of_mem _<|List.mem_cons_of_mem _ hf
   clear S hc1 hc2
   refine zX (decide<|l[i]! =l[i-1]!) rfl (fun h5=>?_)<|fun h5=>?_
   ·replace h5:=of_decide_eq_true h5
    have hk0:(XL l<|i+1).length=i:=by rw[(cvals_skip (xs:=xs) ⟨hi1,h5⟩).2,keepI_all i uU,List.length_range]
    have hv0:cvals xs l (i+1)=xs:=by rw[(cvals_skip ⟨hi1,h5⟩).1,cvals_all qf uU]
    refine xU<|xX<|sps [Sv (some ⟨b,0,none⟩) l.length c,.int .i64 i]<|sw<|o_from i underlying29 iTCF.out rfl rfl qf qf qf<|sp (Sv (some ⟨b,0+i,none⟩) (l.length-i)<|c-i)<|xZ<|t_n<|xU<|xU<|xX<|sp (.int .i64 1)<|xZ<|t_n<|xf ?_
    have ad7:∀ {ys zs:List Value},(ps.set k<|.row (Sv (some ⟨b,0,none⟩) l.length c) e 1 l.length ys).set k (.row (Sv (some ⟨b,0,none⟩) l.length c) e 1 l.length zs)=ps.set k (.row (Sv (some ⟨b,0,none⟩) l.length c) e 1 l.length zs):=fun {_ _}=>List.set_set ..
    have Hg:∀ {ys:List Value},(ps.set k<|.row (Sv (some ⟨b,0,none⟩) l.length c) e 1 l.length ys)[k]? =some (.row (Sv (some ⟨b,0,none⟩) l.length c) e 1 l.length ys):=fun {_}=>set_at hp
    refine zD (fun m' ρ w1=>∃(xN:Env) (q m:Nat),ρ=upd (upd (upd (upd (upd xN 0<|Sv (some ⟨b,0,none⟩) l.length c) 1<|.func (.func 81) #[] #[]) 5<|.int .i64 m) 6<|Sv (some ⟨b,0+i,none⟩) (l.length-i)<|c-i) 7 (.int .i64 q)∧
     (1<=q/\i+q<=l.length/\m+1<=i+q)/\(XL l<|i+q).length=m/\m'=l.length-(i+q)∧
     St W0 w1 (ps.set k<|.row (Sv (some ⟨b,0,none⟩) l.length c) e 1 l.length<|cvals xs l<|i+q) (xG fr F' ((XL l l.length).map fun i=>xs[i]!) (compL l)::Γ)) (l.length-(i+1))
     ⟨_,1,i,(by exact zy (zy (zy (zy (zy rfl rfl) rfl) rfl) rfl) rfl),⟨by omega,by omega,by omega⟩,hk0,rfl,by rw[hv0,set_selfR hp];exact H⟩ ?_
    clear H
    rintro m' ρ w3 ⟨xN,q,m,rfl,⟨hq1,hq2,hq3⟩,hm,rfl,H⟩
    refine xU<|xU<|xX<|sps [.int .i64 q,Sv (some ⟨b,0+i,none⟩) (l.length-i)<|c-i]<|oN rfl<|sp (Bv<|decide ((q:Int)<((l.length-i:Nat):Int)))<|xZ<|t_n<|zX (decide ((q:Int)<((l.length-i:Nat):Int))) rfl (fun h6=>?_)<|fun h6=>?_
    ·replace h6:=of_decide_eq_true h6
     refine qZ<|t_n<|xU<|xf<|xU<|ji rfl H fun H=>?_
     refine rtp 0 (.func (.func 81) #[] #[]) H ?_
     refine rtp 1 (Sv (some ⟨b,0+i,none⟩) (l.length-i)<|c-i) H ?_
     refine rtp 2 (.int .i64 q) H ?_
     refine tI 3 rfl rfl rfl H ?_
     obtain⟨a1,c1,G1,hx1,H⟩:=H.repsEl (j+1) hj (i+q) qf
     have uD:(cvals xs l<|i+q)[0+i+(q:Int).toNat*1]? =some (Sv a1 (l[i+q]!).length c1):=by rw[show 0+i+(q:Int).toNat*1=i+q by omega,cvals_get qf];exact hx1
     have S:=H.sub _<|fun f hf=>List.mem_cons_of_mem _ hf
     refine tL 4 rfl rfl (fun _ h=>h.VI k Hg uD) S ?_
     refine rtp 5 (Sv (some ⟨b,0+i,none⟩) (l.length-i)<|c-i) S ?_
     refine rtp 6 (.int .i64 q) S ?_
     refine rt 7 (.int .i64<|q-1) (y_sub q 1 rfl rfl qf) S ?_
     refine tI 8 rfl rfl rfl S ?_
     obtain⟨a2,c2,G2,hx2,H⟩:=H.repsEl (j+2) hj (i+q-1) qf
     have hv2:(cvals xs l<|i+q)[0+i+((q:Int)-1).toNat*1]? =some (Sv a2 (l[i+q-1]!).length c2):=by rw[show 0+i+((q:Int)-1).toNat*1=i+q-1 by omega,cvals_get qf];exact hx2
     replace S:=H.sub _<|fun f hf=>List.mem_cons_of_mem _<|List.mem_cons_of_mem _ hf
     refine tL 9 rfl rfl (fun _ h=>h.VI k Hg hv2) S ?_
     refine ro 10 rfl<|oq (equalI_ok _ (l[i+q]!) (l[i+q-1]!) (H.get 1 rfl).1 (H.get 0 rfl).1) H fun w4 H=>⟨H.sub _<|fun f hf=>List.mem_cons_of_mem _<|List.mem_cons_of_mem _ hf,?_⟩
     replace S:=H.sub _<|fun f hf=>List.mem_cons_of_mem _<|List.mem_cons_of_mem _ hf
     refine rtp 11 (Bv (!(decide<|l[i+q]! =l[i+q-1]!))) S ?_
     refine xC qh<|t_n ?_
     replace H:=S
     clear S
     refine zX (!(decide<|l[i+q]! =l[i+q-1]!)) rfl (fun h7=>?_)<|fun h7=>?_
     ·replace h7:¬l[i+q]! =l[i+q-1]! :=of_decide_eq_false (x8 h7)
      obtain⟨e1,e2⟩:=cvals_keep (xs:=xs) (l:=l) (j:=i+q) h7 qf
      rw[hm] at e1 e2
      rw[show xs[i+q]! =.slice a1 (l[i+q]!).length c1 by rw[getElem!_def,hx1]] at e1
      refine xU<|xX<|sps [Sv (some ⟨b,0,none⟩) l.length c,.int .i64 m,Sv (some ⟨b,0+i,none⟩) (l.length-i)<|c-i,.int .i64 q]<|oI rfl rfl<|oL rfl (H.VI k Hg uD)<|oI rfl rfl<|sw<|V6 H k Hg (Sv a1 (l[i+q]!).length c1) sizeOf24 rfl rfl rfl qf fun w5 H=>?_
      rw[ad7,Int.toNat_natCast,e1] at H
      refine xZ<|t_n<|xX<|sp (.int .i64 m)<|sw<|zC m 1 rfl rfl qf<|sp (.int .i64<|m+1)<|xZ<|b_n<|t_n<|xX<|sp (.int .i64 q)<|sw<|zC q 1 rfl rfl qf<|sp (.int .i64<|q+1)<|xZ<|xh (m':=l.length-(i+(q+1))) qf ⟨_,q+1,m+1,(by exact zy (zy (zy (zy (zy rfl rfl) rfl) rfl) rfl) rfl),⟨by omega,by omega,by omega⟩,e2,rfl,H⟩
     ·replace h7:l[i+q]! =l[i+q-1]! :=of_decide_eq_true (xO h7)
      obtain⟨e1,e2⟩:=cvals_skip (xs:=xs) (l:=l) (j:=i+q) ⟨by omega,h7⟩
      rw[hm] at e2
      rw[←e1] at H
      refine qZ<|b_n<|t_n<|xX<|sp (.int .i64 q)<|sw<|zC q 1 rfl rfl qf<|sp (.int .i64<|q+1)<|xZ<|xh (m':=l.length-(i+(q+1))) qf ⟨_,q+1,m,(by exact zy (zy (zy (zy (zy rfl rfl) rfl) rfl) rfl) rfl),⟨by omega,by omega,by omega⟩,e2,rfl,H⟩
    ·replace h6:=of_decide_eq_false h6
     have af5:i+q=l.length:=by omega
     have mZ:(compL l).length=m:=by rw[←hm,af5];simp[compL]
     refine VR<|t_x<|t_x<|b_x<|t_n<|xU<|xX<|sps [Sv (some ⟨b,0,none⟩) l.length c,.int .i64 m]<|sw<|o_from m underlying29 iTCF.out rfl rfl qf qf qf<|sw<|o_clearRow H k Hg underlying29 zeroValue24 rfl qf qf fun w5 H=>(xZ<|t_n<|xU<|xX<|sps [Sv (some ⟨b,0,none⟩) l.length c,.int .i64 m]<|sw<|o_upto m underlying29 iTCF.out rfl rfl qf qf<|sp (Sv (some ⟨b,0,none⟩) m c)<|xZ<|t_n<|c_ret ?_)
     repeat (first|refine t_r ?_|refine b_r ?_)
     rw[ad7] at H
     replace H:=H.rowCut k Hg m qf
     rw[cvals_end hm,af5,List.set_set] at H
     refine ret1 (Sv (some ⟨b,0,none⟩) m c) rfl rfl ⟨_,rfl,F',(XL l l.length).map<|fun i=>xs[i]!,by rw[mZ],aJ,?_⟩
     rw[mZ];exact H
   ·replace h5:=of_decide_eq_false h5
    refine qZ<|b_n<|t_n<|xX<|sp (.int .i64 i)<|sw<|zC i 1 rfl rfl qf<|sp (.int .i64<|i+1)<|xZ<|xh (m':=l.length-(i+1)) qf ⟨_,i+1,(by exact zy (zy (zy rfl rfl) rfl) rfl),⟨by omega,by omega⟩,fun q h6 h7=>?_,rfl,H⟩
    by_cases e:q=i
    ·subst e;exact h5
    ·exact uU q h6 qf
  ·replace h4:=of_decide_eq_false h4
   have hn:∀q,0<q->q<l.length->¬l[q]! =l[q-1]! :=fun q h2 h3=>uU q h2 qf
   rw[kept_all uH hn] at H
   rw[compL_all hn] at H ⊢
   refine VR<|t_x<|t_x<|b_x<|t_n<|xU<|xX<|sps [Sv (some ⟨b,0,none⟩) l.length c,Sv (some ⟨b,0,none⟩) l.length c]<|xZ<|t_n<|c_ret<|ret1 (Sv (some ⟨b,0,none⟩) l.length c) rfl rfl ⟨_,rfl,F',xs,rfl,aJ,?_⟩
   rw[set_selfR hp];exact H
end
section
open Classical in
noncomputable def putL(x:yLI):yLL->yLL
 | []=>[x]
 |a::l=>if ahead a x then a::putL x l else if a=x then a::l else x::a::l
theorem put_mem{x y:yLI}:∀ {l:yLL},y∈putL x l<->y=x\/y∈l
 | []=>by simp[putL]
 |a::l=>by
  rw[putL]
  split
  ·rw[List.mem_cons,put_mem,List.mem_cons]
   constructor
   ·rintro(h|h|h) <;> simp[h]
   ·rintro(h|h|h) <;> simp[h]
  ·split
   ·next h=>subst h;simp
   ·simp
theorem put_asc{x:yLI}{K:Nat}(hx:x.length=K):∀ {l:yLL},(∀y∈l,y.length=K)->l.Pairwise ahead->(putL x l).Pairwise ahead
 | [],_,_=>by simp[putL]
 |a::l,hl,h=>by
  have h':=List.pairwise_cons.1 h
  have ha:=hl a<|List.mem_cons_self ..
  rw[putL]
  split
  ·next h1=>
   refine List.pairwise_cons.2 ⟨fun y hy=>?_,put_asc hx (fun y hy=>hl y<|List.mem_cons_of_mem _ hy) h'.2⟩
   rcases put_mem.1 hy with rfl|hy
   ·exact h1
   ·exact h'.1 y hy
  ·split
   ·exact h
   ·next h1 h2=>
    have h3:ahead x a:=Classical.byContradiction fun hn=>h2<|ahead_tri (ha.trans hx.symm) h1 hn
    refine List.pairwise_cons.2 ⟨fun y hy=>?_,h⟩
    rcases List.mem_cons.1 hy with rfl|hy
    ·exact h3
    ·exact ahead_trans (hx.trans ha.symm) h3<|h'.1 y hy
theorem asc_one{K:Nat}:∀ {l m:yLL},(∀y∈l,y.length=K)->l.Pairwise ahead->m.Pairwise ahead->(∀x,x∈l<->x∈m)->l=m
 | [],m,_,_,_,h=>by
  cases m with
  |nil=>rfl
  |cons y m=>exact absurd ((h y).2<|List.mem_cons_self ..) qm
 |x::l,[],_,_,_,h=>absurd ((h x).1<|List.mem_cons_self ..) qm
 |x::l,y::m,hK,hl,hm,h=>by
  have KL :=List.pairwise_cons.1 hl
  have IOz :=List.pairwise_cons.1 hm
  have e:x=y:=by
   rcases List.mem_cons.1 ((h x).1 (List.mem_cons_self ..)) with h1|h1
   ·exact h1
   ·rcases List.mem_cons.1 ((h y).2 (List.mem_cons_self ..)) with h2|h2
    ·exact h2.symm
    ·exact absurd (ahead_trans ((hK x<|List.mem_cons_self ..).trans (hK y ((h y).2<|List.mem_cons_self ..)).symm) (KL.1 y h2)<|IOz.1 x h1)<|ahead_irr x
  subst e
  rw[asc_one (fun z hz=>hK z<|List.mem_cons_of_mem _ hz) KL.2 IOz.2 fun z=>?_]
  constructor
  ·intro hz
   rcases List.mem_cons.1 ((h z).1 (List.mem_cons_of_mem _ hz)) with h1|h1
   ·subst h1;exact absurd (KL.1 z hz)<|ahead_irr z
   ·exact h1
  ·intro hz
   rcases List.mem_cons.1 ((h z).2 (List.mem_cons_of_mem _ hz)) with h1|h1
   ·subst h1;exact absurd (IOz.1 z hz)<|ahead_irr z
   ·exact h1
theorem keepI_pair{l:yLL}:∀j,(XL l j).Pairwise fun p q=>p<q/\¬l[q]! =l[q-1]!
 |0=>List.Pairwise.nil
 |j+1=>by
  have ih:=keepI_pair (l:=l) j
  rw[XL]
  split
  ·exact ih
  ·next h=>
   refine List.pairwise_append.2 ⟨ih,by simp,fun p hp q hq=>?_⟩
   obtain rfl:=List.mem_singleton.1 hq
   have:=keepI_lt _ p hp
   exact⟨this,fun e=>h ⟨by omega,e⟩⟩
theorem keep_mem{l:yLL}:∀j,∀i,i<j->∃q∈XL l j,l[q]! =l[i]!
 |0,i,h=>by omega
 |j+1,i,h=>by
  have ih:=keep_mem (l:=l) j
  rw[XL]
  split
  ·next hk=>
   by_cases e:i=j
   ·subst e
    obtain⟨q,a,b⟩:=ih (i-1) qf
    exact⟨q,a,b.trans hk.2.symm⟩
   ·exact ih i qf
  ·by_cases e:i=j
   ·exact⟨i,by simp[e],rfl⟩
   ·obtain⟨q,a,b⟩:=ih i qf
    exact⟨q,List.mem_append_left _ a,b⟩
theorem comp_mem{x:yLI}:x∈compL l<->x∈l:=by
 unfold compL
 constructor
 ·intro h
  obtain⟨i,hi,rfl⟩:=List.mem_map.1 h
  have:=keepI_lt _ i hi
  rw[getElem!_pos l i this];exact List.getElem_mem _
 ·intro h
  obtain⟨i,hi,rfl⟩:=List.getElem_of_mem h
  obtain⟨q,a,b⟩:=keep_mem l.length i hi
  exact List.mem_map.2 ⟨q,a,b.trans<|getElem!_pos l i hi⟩
theorem comp_asc(hK:∀y∈l,y.length=K)(hs:∀i j,i<j->j<l.length->¬ahead (l[j]!) (l[i]!)):(compL l).Pairwise ahead:=by
 unfold compL
 rw[List.pairwise_map]
 refine((keepI_pair (l:=l) l.length).imp_of_mem fun {p q} hp hq h=>?_)
 have PT :=keepI_lt _ q hq
 have Hg:∀i,i<l.length->(l[i]!).length=K:=fun i hi=>hK _<|by rw[getElem!_pos l i hi];exact List.getElem_mem _
 refine Classical.byContradiction fun hn=>?_
 have e:=ahead_tri ((Hg p qf).trans (Hg q PT).symm) hn<|hs p q h.1 PT
 by_cases e2:p=q-1
 ·subst e2;exact h.2 e.symm
 ·refine h.2 (ahead_tri ((Hg q PT).trans (Hg (q-1) qf).symm) (hs (q-1) q qf PT) ?_)
  rw[←e];exact hs p (q-1) qf qf
open Classical in
noncomputable def resB(N:Nat)(cell:Int)(u:qG):Option yLI:=if cell=N then some u.qJ else if u.qK[cell.toNat]! =true then some (u.qQ[cell.toNat]!) else none
noncomputable def rsL(N:Nat)(cell:Int)(E:List qG):Nat->yLL
 |0=>[]
 |k+1=>match resB N cell (E[k]!) with|none=>rsL N cell E k|some b=>putL b (rsL N cell E k)
noncomputable def bgL(N:Nat)(cell:Int)(E:List qG):Nat->yLL
 |0=>[]
 |k+1=>match resB N cell (E[k]!) with|none=>bgL N cell E k|some b=>bgL N cell E k++[b]
theorem res_a{cell:Int}(h:cell=N):resB N cell u=some u.qJ:=if_pos h
theorem res_b{cell:Int}(h:¬cell=N)(h1:u.qK[cell.toNat]! =true):resB N cell u=some (u.qQ[cell.toNat]!):=by rw[resB,if_neg h,if_pos h1]
theorem res_c{cell:Int}(h:¬cell=N)(h1:¬u.qK[cell.toNat]! =true):resB N cell u=none:=by rw[resB,if_neg h,if_neg h1]
theorem bg_some{cell:Int}{b:yLI}(h:resB N cell (E[k]!)=some b):bgL N cell E k++[b]=bgL N cell E (k+1):=by rw[bgL,h]
theorem bg_none{cell:Int}(h:resB N cell (E[k]!)=none):bgL N cell E k=bgL N cell E (k+1):=by rw[bgL,h]
theorem bg_len{N:Nat}{cell:Int}{E:List qG}:∀k,(bgL N cell E k).length<=k
 |0=>Nat.le_refl _
 |k+1=>by
  have:=bg_len (N:=N) (cell:=cell) (E:=E) k
  rw[bgL]
  split
  ·omega
  ·rw[List.length_append,List.length_singleton];omega
theorem rs_mem{N:Nat}{cell:Int}{E:List qG}{x:yLI}:∀k,x∈rsL N cell E k<->x∈bgL N cell E k
 |0=>Iff.rfl
 |k+1=>by
  have ih:=rs_mem (N:=N) (cell:=cell) (E:=E) (x:=x) k
  rw[rsL,bgL]
  split
  ·exact ih
  ·rw[put_mem,List.mem_append,List.mem_singleton,ih,Or.comm]
theorem resB_len{cell:Int}(h:xK s u)(hc:0<=cell/\cell<=(s.qA.length:Int)){b:yLI}(hb:resB s.qA.length cell u=some b):b.length=s.zf.toNat:=by
 obtain⟨h1,h2,h3,h4,h5⟩:=h
 unfold resB at hb
 split at hb
 ·cases hb;have:=h4.2;omega
 ·split at hb
  ·cases hb;have:=(h5 cell.toNat qf).1.2;omega
  ·cases hb
theorem bg_row{s:qH}{cell:Int}{E:List qG}(hE:∀u∈E,xK s u)(hc:0<=cell/\cell<=(s.qA.length:Int)):∀k,k<=E.length->∀x∈bgL s.qA.length cell E k,x.length=s.zf.toNat
 |0,_,x,h=>by simp[bgL] at h
 |k+1,hk,x,h=>by
  have ih:=bg_row hE hc k qf
  rw[bgL] at h
  split at h
  ·exact ih x h
  ·next b hb=>
   rcases List.mem_append.1 h with h|h
   ·exact ih x h
   ·obtain rfl:=List.mem_singleton.1 h
    exact resB_len (hE _<|by rw[getElem!_pos E k qf];exact List.getElem_mem _) hc hb
theorem rs_row{cell:Int}(hE:∀u∈E,xK s u)(hc:0<=cell/\cell<=(s.qA.length:Int))(hk:k<=E.length):∀j,j<(rsL s.qA.length cell E k).length->((rsL s.qA.length cell E k)[j]!).length=s.zf.toNat:=fun j hj=>
 bg_row hE hc k hk _ ((rs_mem k).1<|by rw[getElem!_pos _ j hj];exact List.getElem_mem _)
theorem rs_asc{s:qH}{cell:Int}{E:List qG}(hE:∀u∈E,xK s u)(hc:0<=cell/\cell<=(s.qA.length:Int)):∀k,k<=E.length->(rsL s.qA.length cell E k).Pairwise ahead
 |0,_=>List.Pairwise.nil
 |k+1,hk=>by
  have ih:=rs_asc hE hc k qf
  rw[rsL]
  split
  ·exact ih
  ·next b hb=>
   exact put_asc (resB_len (hE _<|by rw[getElem!_pos E k qf];exact List.getElem_mem _) hc hb) (fun y hy=>bg_row hE hc k qf y ((rs_mem k).1 hy)) ih
theorem rs_comp{cell:Int}(hE:∀u∈E,xK s u)(hc:0<=cell/\cell<=(s.qA.length:Int))(hk:k<=E.length)(hp:(bgL s.qA.length cell E k).Perm l)
 (hs:∀i j,i<j->j<l.length->¬ahead (l[j]!) (l[i]!)):rsL s.qA.length cell E k=compL l:=by
 have hK:∀y∈l,y.length=s.zf.toNat:=fun y hy=>bg_row hE hc k hk y<|hp.symm.subset hy
 exact asc_one (fun y hy=>bg_row hE hc k hk y ((rs_mem k).1 hy)) (rs_asc hE hc k hk) (comp_asc hK hs) fun x=>by rw[comp_mem,rs_mem];exact hp.mem_iff
open Classical in
noncomputable def Xt(s:qH)(t:qG)(cell:Int):yLL×Int:=
 if vz s/\xK s t then (if 0<=cell/\cell<=(s.qA.length:Int) then (if (yG s t).2=0 then (rsL s.qA.length cell (endsL s (exG s t).xq (exG s t).xq.length) (endsL s (exG s t).xq (exG s t).xq.length).length,0) else ([],(yG s t).2)) else ([],2)) else ([],1)
theorem rs_1{cell:Int}(h:¬(vz s/\xK s t)):Xt s t cell=([],1):=by rw[Xt,if_neg h]
theorem rs_2{cell:Int}(h:vz s/\xK s t)(h1:¬(0<=cell/\cell<=(s.qA.length:Int))):Xt s t cell=([],2):=by rw[Xt,if_pos h,if_neg h1]
theorem rs_c{cell:Int}(h:vz s/\xK s t)(h1:0<=cell/\cell<=(s.qA.length:Int))(h2:(yG s t).2≠0):Xt s t cell=([],(yG s t).2):=by rw[Xt,if_pos h,if_pos h1,if_neg h2]
theorem rs_0{cell:Int}(h:vz s/\xK s t)(h1:0<=cell/\cell<=(s.qA.length:Int))(h2:(yG s t).2=0)(hi:i=(exG s t).xq.length)(hk:k=(endsL s (exG s t).xq i).length):
 Xt s t cell=(rsL s.qA.length cell (endsL s (exG s t).xq i) k,0):=by subst hk hi;rw[Xt,if_pos h,if_pos h1,if_pos h2]
theorem ends_ok(h:∀u∈S,xK s u)(k:Nat):∀u∈endsL s S k,xK s u:=fun u hu=>h u<|List.mem_of_mem_take (List.mem_filter.1 hu).1
theorem hs_code:(vK s t).2=(yG s t).2:=by
 by_cases h:(yG s t).2=0
 ·rw[hs_0 h];exact h.symm
 ·rw[hs_c h]
theorem hs_ok(h:(vK s t).2=0):(∀u∈(vK s t).1,xK s u)/\(vK s t).1.length<=300/\(yG s t).2=0:=by
 rw[hs_code] at h
 have ga:=ex_all h
 rw[hs_0 h]
 exact⟨ends_ok ga.st _,Nat.le_trans (ends_len ..) ga.le,h⟩
theorem rs_i{cell:Int}(h:vz s/\xK s t)(h1:0<=cell/\cell<=(s.qA.length:Int))(h2:(vK s t).2=0)(hk:k=(vK s t).1.length)(hp:(bgL s.qA.length cell (vK s t).1 k).Perm l)
 (hs:∀i j,i<j->j<l.length->¬ahead (l[j]!) (l[i]!)):Xt s t cell=(compL l,0):=by
 obtain⟨e1,e2,e3⟩:=hs_ok h2
 rw[←rs_comp e1 h1 qf hp hs,hk,hs_0 e3]
 exact rs_0 h h1 e3 rfl rfl
theorem rs_ci{cell:Int}(h:vz s/\xK s t)(h1:0<=cell/\cell<=(s.qA.length:Int))(h2:(vK s t).2≠0):Xt s t cell=([],(vK s t).2):=by
 rw[hs_code] at h2 ⊢;exact rs_c h h1 h2
theorem perm_row{cell:Int}(hE:∀u∈E,xK s u)(hc:0<=cell/\cell<=(s.qA.length:Int))(hk:k<=E.length)(hp:(bgL s.qA.length cell E k).Perm l):∀j,j<l.length->(l[j]!).length=s.zf.toNat:=fun j hj=>
 bg_row hE hc k hk _ (hp.symm.subset<|by rw[getElem!_pos _ j hj];exact List.getElem_mem _)
end
section
open Go.RowKit Go.Shelf Go.Lib Go.Sort
section
variable{W0 w : World}{ps : List Prv}{Γ : List Fact}
theorem putCells_none(enc:Nat->Value)(d:Array Nat)(hd:d.size=0)(ee:Array Value):putCells enc 0 d ee=ee:=by
 unfold putCells
 apply Array.ext
 ·simp
 ·intro i h1 h2
  simp[hd]
theorem sortRow0{ρ:Ren}(L:SlLaysF.n6 P ρ){g:Nat}(eg:∀args w,(callFunc g args).run P w=.ok (.enter g args) w)
 (cmp:∀(W:World) (x y:yLI) (a:yOA) (c:Nat) (F:yLN) (a':yOA) (c':Nat) (F':yLN),qX.rep W F [Sv a x.length c] x->qX.rep W F' [Sv a' y.length c'] y→
  Calls P g #[Sv a x.length c,Sv a' y.length c'] W fun e w'=>e=.returned (.int .i64<|cmpL x y)/\w'=W)
 (H:St W0 w ps Γ) (k:Nat) {b c:Nat} {e:TypeId} {nn:Nat} {xs:List Value} (hp:ps[k]? =some (.row (Sv (some ⟨b,0,none⟩) nn c) e 1 nn xs)) (j:Nat) {fr:Bool} {F:yLN} {l:yLL} (hf:Γ[j]? =some (xG fr F xs l)) (hsz:l.length<4611686018427387904):
 Calls P (ρ.f 6) #[Sv (some ⟨b,0,none⟩) nn c,.func (.func g) #[] #[]] w fun e' w'=>∃v,e'=.returned v/\∃HC F' l',v=.tuple #[]/\F'.Perm F/\l.Perm l' /\(∀i j,i<j->j<l'.length->¬cmpL (l'[j]!) (l'[i]!)<0)∧
  St W0 w' (ps.set k<|.row (Sv (some ⟨b,0,none⟩) nn c) e 1 nn HC) (xG fr F' HC l'::Γ):=by
 by_cases h0:0<l.length
 ·exact sortRow L eg cmp H k hp j hf h0 hsz
 obtain rfl:l=[]:=List.eq_nil_of_length_eq_zero qf
 have ho:=(H.has _ (List.mem_of_getElem? hp):w.ownsRow W0.heap.size e 1 _ nn xs)
 obtain⟨hr,dq⟩:=H.get j hf
 obtain⟨rfl,rfl⟩:F=[]/\xs=[]:=hr
 have hnn:nn=0:=by have:=ho.1;simp at this;omega
 subst hnn
 obtain⟨hl,h|⟨g',ed,ee,hv,hB,hg,hn,hm,pn,ht⟩⟩:=ho
 ·simp at h
 simp only[Value.slice.injEq,Option.some.injEq,Addr.mk.injEq,and_true] at hv
 obtain⟨rfl,_,rfl⟩:=hv
 let enc:Nat->Value:=fun _=>Sv none 0 0
 let cf:Nat->Nat->Int:=fun _ _=>0
 have hO:OneCell enc:=fun i=>rfl
 have hS:SWO (ltOf cf):=⟨fun x=>rfl,fun x y z h1 h2=>h1,fun x y z h1 h2=>rfl⟩
 have B4:b<w.heap.size:=(Array.getElem?_eq_some_iff.1 hg).1
 have mB:∀W:World,qX.rep W [] [Value.slice none ([]:yLI).length 0] ([]:yLI):=fun W=>⟨none,0,rfl,by simp,Or.inl ⟨rfl,rfl⟩⟩
 have Rs:CmpLays1 P g #[] enc cf b 0 (#[]:Array Nat).size w:=fun m os dk hs x y=>by
  refine(cmp _ [] [] none 0 [] none 0 [] (mB _)<|mB _).mono fun e' w' h=>⟨h.1,0,#[],?_⟩
  rw[grow_empty];exact h.2
 have hc:=Any.slices_SortFunc L enc hO cf hS g #[] b 0 c (#[]:Array Nat) w eg Rs (fun i hi=>absurd hi qm) B4 qm
 refine hc.mono fun e' w' ⟨he,d',n,os,hpm,hso,hw⟩=>⟨_,he,[],[],[],rfl,.refl _,.refl _,fun i j _ h=>absurd h qm,?_⟩
 have KN :d'.size=0:=hpm.1
 subst hw
 have t8:(sortWorld enc w b 0 n d' os).ownsRow W0.heap.size e 1 (Sv (some ⟨b,0,none⟩) 0 c) 0 []:=
  ⟨rfl,Or.inr ⟨b,c,putCells enc 0 d' ee,rfl,hB,sw_row hg,hn,hm,by rw[putCells_none _ _ KN];exact pn,by simp⟩⟩
 have si:w.heap.size<=(sortWorld enc w b 0 n d' os).heap.size:=by
  unfold sortWorld putRow mapBlock grow
  show _<=((Sort.ahead w n).heap.modify b _++os).size
  rw[Array.size_append,Array.size_modify]
  exact Nat.le_add_right _ _
 have H1:=H.change k hp (w':=sortWorld enc w b 0 n d' os) (p':=.row (Sv (some ⟨b,0,none⟩) 0 c) e 1 0 []) rfl rfl rfl si (fun i hi iQ=>sw_block hi<|fun e2=>iQ<|by subst e2;rfl) t8<|Or.inl rfl
 exact H1.add _ ⟨⟨rfl,rfl⟩,fun _=>yf.nil _⟩<|by simp[xG]
end
section
variable{P : Program}{Q : Exit -> Act -> World -> Prop}{n : Nat}{ρ : Env}{W0 w : World}{ps : List Prv}{Γ : List Fact}
 {d:Nat} {ty:TypeId} {pos:String} {af:Array Edge} {K:Env->World->Prop}
end
end
section
variable{qE qN qU xk qL : Nat}
theorem implRS_ok(w:World)(s:qH)(t:qG)(cell:Int)(xe:zP w xu qF qE s.qA)(xE:zP w xW qO qN s.qB)(xR:zP w zk qV qU t.qK)(zu:zP w zF xm xk t.qQ)(xB:zP w xJ qM qL t.qJ):Calls Tryz.prog 31 #[.agg #[yI s.zf,Sv qF s.qA.length qE,Sv qO s.qB.length qN],.agg #[Sv qV t.qK.length qU,Sv xm t.qQ.length xk,Sv qM t.qJ.length qL],yI cell] w (Ret (fun v w'=>∃(iI:yOA) (iB:Nat) (iP:yLN),v=.tuple #[Sv iI (((Xt s t cell).1).length) iB,yI ((Xt s t cell).2)]/\Fresh w.heap.size [iP]/\St w w' [] [sF true iP iI iB ((Xt s t cell).1)]) w):=by
 refine en func31 ntmps31 ?_
 have H:=(((((St.start w).arg xB).arg zu).arg xR).arg xE).arg xe
 have zV:=qR xe
 clear xe xE xR zu xB
 have N:=Fresh.nil w.heap.size
 refine zcr<|sw<|zN H (yS s qF qE qO qN) fun b1 w2 H=>sw<|zN H (yT t qV qU xm xk qM qL) fun b3 w4 H=>sq 1<|sp (yI 0)<|zjcc<|sw<|xy (yS s qF qE qO qN) isAgg27 sizeOf27 rfl (qC (H.cells 1 rfl) 0 3)<|sw<|xy (yT t qV qU xm xk qM qL) isAgg31 sizeOf31 rfl (qC (H.cells 0 rfl) 0 3)<|sw<|oq (QA _ s t (H.get 0 rfl).1 (H.get 1 rfl).1 (H.get 2 rfl).1 (H.get 3 rfl).1 (H.get 4 rfl).1) H fun w6 H=>sq 1<|zjn<|cQ rfl (fun h8=>?_)<|fun h8=>?_
 ·refine zcr (sq 1<|sp (yI 1)<|zjr<|t_r ?_)
  replace H:=H.addNil (α:=yLI)
  refine ret2 yN (yI 1) rfl rfl rfl ⟨_,rfl,?_,H.base⟩
  rw[rs_1 ‹_›]
  exact⟨none,0,[],rfl,N.emp,H.pick [] [0]⟩
 have k0:=(‹vz s/\xK s t›:vz s/\xK s t)
 have k1:=k0.1
 have k2:=k0.2
 obtain⟨q7,q8,q9,Bz⟩:=k2.sizes k1.1
 refine qZ<|t_n<|zcc<|sq 1<|oF rfl<|oL rfl (H.cell 1 rfl rfl)<|sw<|oq (sizeI_ok _ s.qA (H.get 0 rfl).1) H fun w9 H=>sw<|oq (Xe w9 cell 0 (s.qA.length:Int)) H fun rL H=>sq 1<|zjn<|zX _ rfl (fun dS=>?_)<|fun dS=>?_
 ·replace dS:=x8 dS
  replace dS:=XG dS
  refine zcr<|sq 1<|sp (yI 2)<|zjr<|t_r ?_
  replace H:=H.addNil (α:=yLI)
  refine ret2 yN (yI 2) rfl rfl rfl ⟨_,rfl,?_,H.base⟩
  rw[rs_2 k0 ‹_›]
  exact⟨none,0,[],rfl,N.emp,H.pick [] [0]⟩
 replace dS:=xO dS
 replace dS:=Q8.1 dS
 have hc:0<=cell/\cell<=(s.qA.length:Int):=by assumption
 refine qZ<|t_n<|zcr<|sw<|xy (yS s qF qE qO qN) isAgg27 sizeOf27 rfl (qC (H.cells 1 rfl) 0 3)<|sw<|xy (yT t qV qU xm xk qM qL) isAgg31 sizeOf31 rfl (qC (H.cells 0 rfl) 0 3) ?_
 have SR:=H.base.size
 refine sw<|oc (implHS_ok _ s t (H.get 0 rfl).1 (H.get 1 rfl).1 (H.get 2 rfl).1 (H.get 3 rfl).1 (H.get 4 rfl).1) ?_
 rintro _ uK ⟨acX,acu,asc,rfl,M,K⟩ _
 replace N:=N.merge SR qm M
 replace H:=H.merge K M
 refine sq 5<|zjcc<|sq 1<|sp (Bv (((vK s t).2:Int) != 0))<|zjn<|zX (((vK s t).2:Int) != 0) rfl (fun CI=>?_)<|fun CI=>?_
 ·replace CI:=bne_iff_ne.1 CI
  refine zcr<|sq 3<|zjr<|t_r ?_
  replace H:=H.addNil (α:=yLI)
  refine ret2 yN (yI ((vK s t).2)) rfl rfl rfl ⟨_,rfl,?_,H.base⟩
  rw[rs_ci k0 hc ‹_›]
  exact⟨none,0,[],rfl,(N.emp.pick [0]),H.pick [] [0]⟩
 replace CI:=xA CI
 have c1:(vK s t).2=0:=by omega
 obtain⟨e1,e2,e3⟩:=hs_ok c1
 refine qZ<|t_n<|zcr<|sw<|ja H underlying29 ti24 fun Kq G4 H=>sq 1<|zjcc<|sq 1<|oN rfl<|sp (yI 0)<|zjn<|xf ?_
 obtain⟨akE,B23,P24,N,H⟩:=H.pool (α:=qG) 0 rfl N
 replace H:=H.boxRow 0 rfl 1 0 rfl qj
 replace H:=H.vP (α:=yLI)
 refine zD ((fun Z0 Z1 Z2 Z3 Z4 Z5 Z6 Z7 Z8=>fun m' ρ Ce=>∃(xN:Env) (jZ:yOA) (vV:Nat) (jQ:Nat) (out:yLL) (Xf:List Value) (y8:yLN) (k:Nat) (y1:yLN),ρ=upd (upd (upd (upd (upd (upd xN 2<|yI cell) 3<|pp b1 0) 10<|Sv jZ vV jQ) 33<|Sv acX (((vK s t).1).length) acu) 34<|yI (((vK s t).1).length)) 35 (yI k)/\out=(bgL s.qA.length cell (vK s t).1 k)/\((k:Int)<=(((vK s t).1).length))/\(∃b,jZ=some ⟨b,0,none⟩)/\m'=((((vK s t).1).length)-(k:Int)).toNat/\Fresh w.heap.size [y8,y1]/\St w Ce [rr jZ vV jQ 24 1 Xf,Z0,Z1] [xG true y8 Xf out,xG true y1 (akE.drop<|k*3) (((vK s t).1).drop k),Z2,Z3,Z4,Z5,Z6,Z7,Z8]) _ _ _ _ _ _ _ _ _) (((((vK s t).1).length)-(0:Int)).toNat) ⟨_,(aa Kq 0),0,0,([]:yLL),[],[],0,P24,uE6,(by rfl),qf,(by exact⟨_,rfl⟩),rfl,N.emp,H⟩ ?_
 clear H N
 rintro m' ρ BP ⟨xN,jZ,vV,jQ,out,Xf,y8,k,y1,rfl,rfl,i0,oa,rfl,N,H⟩
 have bQ:=H.xQ (α:=yLI) 0 rfl 0 rfl qj
 have bl0:=bg_len (N:=s.qA.length) (cell:=cell) (E:=(vK s t).1) k
 refine zcr<|sq 1<|zjn<|xU<|cD rfl (fun mg=>?_)<|fun mg=>?_
 ·have ks:=e1 ((vK s t).1[k]!) (mem_at (k:=k) qf rfl)
  obtain⟨z1,z2,z3,z4,z5⟩:=ks
  refine qZ<|t_n<|xU<|xf<|zcr ?_
  obtain⟨rj,o29,rfl⟩:=H.addr 3 rfl qf
  obtain⟨vq,vd,pi,Bl,AW,Bb,mO,mz,mC,P32,N,H⟩:=H.drain_StateD 2 rfl 1 rfl ((N.pick [1,0]):Fresh w.heap.size [y1,y8]) k k qf qf qf
  refine oI rfl rfl<|sw<|xy [Sv vq (((((vK s t).1)[k]!).qK).length) vd,Sv Bl (((((vK s t).1)[k]!).qQ).length) AW,Sv mO (((((vK s t).1)[k]!).qJ).length) mz] isAgg31 sizeOf31 rfl (qC (H.get 3 rfl) 0 3)<|sw<|xg H ti31 [yN,yN,yN] fun mX Gj H=>sw<|xx H 0 [Sv vq (((((vK s t).1)[k]!).qK).length) vd,Sv Bl (((((vK s t).1)[k]!).qQ).length) AW,Sv mO (((((vK s t).1)[k]!).qJ).length) mz] sizeOf31 fun Ao H=>zjn<|xf<|zcr<|sq 1<|oF rfl<|oL rfl (H.cell 3 rfl rfl)<|sw<|oq (sizeI_ok _ s.qA (H.get 9 rfl).1) H fun Gy H=>sq 2<|zjn<|cE rfl (fun Bm=>?_)<|fun Bm=>?_
  ·refine xX (sq 1<|oF rfl<|oL rfl (H.cell 0 rfl rfl)<|sw<|zl H underlying29 ti24 [Sv mO (((((vK s t).1)[k]!).qJ).length) mz] fun b39 Y0 H=>sw<|zt H 2 rfl 0 rfl underlying29 ti24 rfl qj rfl rfl rfl qw qp qf fun a41 c42 KQ H=>?_)
   replace H:=H.yh 5 rfl 2 rfl
   replace N:Fresh w.heap.size [(y8++mC),pi,Bb,P32]:=(N.pick [4,2,0,1,3]).join
   refine sq 1<|xZ<|b_n<|b_n<|t_n<|xX<|sw<|zC k 1 rfl rfl qf<|sq 1<|xZ<|xh (m':=((((vK s t).1).length)-((k+1):Int)).toNat) qf ⟨_,_,_,_,_,_,_,k+1,_,uE6,?_,?_,?_,rfl,(N.pick [0,3]),H.pick [2,3,4] (0::5::zR 8 7)⟩
   ·exact bg_some<|res_a qf
   ·omega
   ·exact H.jR 2 rfl qf
  refine zcr<|oF rfl<|oL rfl (H.cell 0 rfl rfl)<|sq 1 ?_
  obtain⟨Kg,WZ,rfl⟩:=H.addr 0 rfl qf
  refine oI rfl rfl<|oL rfl (H.elemBool 0 rfl cell qf qf)<|sq 1<|zjn<|zX _ rfl (fun h47=>?_)<|fun h47=>?_
  ·obtain⟨aAU,B49,P50,N,H⟩:=H.pool (α:=yLI) 1 rfl ((N.pick [1,0,2,3,4]):Fresh w.heap.size [Bb,pi,mC,P32,y8])
   refine xX<|sq 1<|oF rfl<|oL rfl (H.cell 0 rfl rfl)<|sq 1 ?_
   obtain⟨KA,o52,rfl⟩:=H.addr 3 rfl qf
   obtain⟨alt,ao9,amU,P55,N,H⟩:=H.drainList 1 rfl 0 rfl N cell cell.toNat qf qf qf
   refine oI rfl rfl<|oL rfl (H.zo 1 rfl 0 rfl)<|sw<|zl H underlying29 ti24 [Sv alt ((((((vK s t).1)[k]!).qQ)[cell.toNat]!).length) ao9] fun Wf Lf H=>sw<|zt H 2 rfl 0 rfl underlying29 ti24 rfl qj rfl rfl rfl qw qp qf fun a58 c59 Sj H=>?_
   replace H:=H.yh 10 rfl 0 rfl
   replace N:Fresh w.heap.size [(y8++amU),P55,pi,mC,P32]:=(N.pick (5::zR 0 5)).join
   refine sq 1<|xZ<|b_n<|b_n<|t_n<|xX<|sw<|zC k 1 rfl rfl qf<|sq 1<|xZ<|xh (m':=((((vK s t).1).length)-((k+1):Int)).toNat) qf ⟨_,_,_,_,_,_,_,k+1,_,uE6,?_,?_,?_,rfl,(N.pick [0,4]),H.pick [2,3,4] (0::10::zR 13 7)⟩
   ·exact bg_some<|res_b qf ql
   ·omega
   ·exact H.jR 2 rfl qf
  refine qZ<|b_n<|b_n<|t_n<|xX<|sw<|zC k 1 rfl rfl qf<|sq 1<|xZ<|xh (m':=((((vK s t).1).length)-((k+1):Int)).toNat) qf ⟨_,_,_,_,_,_,_,k+1,_,uE6,?_,?_,?_,rfl,(N.pick [4,3]),H.pick [1,2,3] (5::4::zR 7 7)⟩
  ·exact bg_none<|res_c qf<|fun e=>absurd (e.symm.trans ‹_=false›) qj
  ·omega
  ·exact oa
 refine zx4<|zcr<|sq 1 ?_
 obtain⟨OA,rfl⟩:=oa
 refine sw<|ve #[Sv (aa OA 0) vV jQ,.func (.func 79) #[] #[]] rfl rfl call78 (sortRow0 sortL call79 cmpSort H 0 rfl 0 rfl qf) ?_
 rintro _ GT ⟨axe,F64,l65,rfl,akU,K6,akd,H⟩
 replace N:Fresh w.heap.size [F64,y1]:=Fresh.perm N akU
 refine zjc<|sq 1 ?_
 have pl:=K6.length_eq
 refine sw<|ve #[Sv (aa OA 0) vV jQ,.func (.func 81) #[] #[]] rfl rfl call80 (compactRow H 0 rfl 0 rfl qf) ?_
 rintro _ KF ⟨F70,ajX,rfl,agD,H⟩
 replace N:Fresh w.heap.size [F70,y1]:=Fresh.less N (fun x hx=>agD.subset hx)<|fun hn=>hn.sublist agD
 refine sq 1<|sp (yI 0)<|zjr ?_
 have H0:=H
 obtain⟨G73,ae0,Gl,H⟩:=H.yC (α:=yLI) 0 rfl 0 rfl qj
 replace N:Fresh w.heap.size [G73,y1]:=Fresh.ice N H0 0 ae0.1 ae0.2<|H0.vX [3]
 clear H0
 refine ret2 (Sv (aa OA 0) ((compL l65).length) jQ) (yI 0) rfl rfl rfl ⟨_,rfl,?_,H.base⟩
 rw[rs_i k0 hc c1 (k:=k) qf K6<|fun x y hx hy h=>akd x y hx hy ((cmpL_ahead ((perm_row e1 hc (k:=k) qf K6 y hy).trans (perm_row e1 hc (k:=k) qf K6 x qf).symm)).2 h)]
 exact⟨(aa OA 0),jQ,G73,rfl,(N.pick [0]),H.pick [] [0]⟩
theorem implIC_ok(w:World)(s:qH)(t:qG)(xe:zP w xu qF qE s.qA)(xE:zP w xW qO qN s.qB)(xR:zP w zk qV qU t.qK)(zu:zP w zF xm xk t.qQ)(xB:zP w xJ qM qL t.qJ):Calls Tryz.prog 32 #[.agg #[yI s.zf,Sv qF s.qA.length qE,Sv qO s.qB.length qN],.agg #[Sv qV t.qK.length qU,Sv xm t.qQ.length xk,Sv qM t.qJ.length qL]] w (Ret (fun v w'=>v=.tuple #[Bv ((icRes s t).1),yI ((icRes s t).2)]) w):=by
 refine en func32 ntmps32 ?_
 have H:=(((((St.start w).arg xB).arg zu).arg xR).arg xE).arg xe
 clear xe xE xR zu xB
 have N:=Fresh.nil w.heap.size
 refine zcr<|sw<|zN H (yS s qF qE qO qN) fun b1 w2 H=>sw<|zN H (yT t qV qU xm xk qM qL) fun b3 w4 H=>sp (Bv false)<|sp (yI 0)<|zjc<|sw<|xy (yS s qF qE qO qN) isAgg27 sizeOf27 rfl (qC (H.cells 1 rfl) 0 3)<|sw<|xy (yT t qV qU xm xk qM qL) isAgg31 sizeOf31 rfl (qC (H.cells 0 rfl) 0 3) ?_
 have RE:=H.base.size
 refine sw<|oc (implEx_ok _ s t (H.get 0 rfl).1 (H.get 1 rfl).1 (H.get 2 rfl).1 (H.get 3 rfl).1 (H.get 4 rfl).1) ?_
 rintro _ w6 ⟨an,ak,aw,aq,ap,ay,rfl,M,K⟩ _
 replace N:=N.merge RE qm M
 replace H:=H.merge K M
 refine sq 3<|sw<|xg H ti46 [yN,yN] fun g9 rL H=>sw<|xx H 0 [Sv an (((exG s t).xq).length) ak,Sv aq (((exG s t).fNext).length) ap] sizeOf46 fun we H=>sq 1<|zjcc<|sq 1<|sp (Bv (((yG s t).2:Int) != 0))<|zjn<|zX (((yG s t).2:Int) != 0) rfl (fun dS=>?_)<|fun dS=>?_
 ·replace dS:=bne_iff_ne.1 dS
  refine zcr<|sq 1<|sp (Bv false)<|sq 1<|zjr<|t_r<|ret2 (Bv false) (yI ((yG s t).2)) rfl rfl rfl ⟨_,rfl,?_,H.base⟩
  rw[ic_c ‹_›]
 replace dS:=xA dS
 have c0:(yG s t).2=0:=by omega
 have ga:=ex_all c0
 have k0:=VA c0
 have gp:=ga.pos
 have gl:=ga.le
 have gn:=ga.len
 refine qZ<|t_n<|zcr<|sw<|xy [Sv an (((exG s t).xq).length) ak,Sv aq (((exG s t).fNext).length) ap] isAgg46 sizeOf46 rfl (qC (H.cells 0 rfl) 0 2)<|sw<|zW #[.agg #[Sv an (((exG s t).xq).length) ak,Sv aq (((exG s t).fNext).length) ap]] rfl rfl call64<|en func64 ntmps64 ?_
 refine zcr<|sw<|zN H [Sv an (((exG s t).xq).length) ak,Sv aq (((exG s t).fNext).length) ap] fun e9 uK H=>sp (yI 0)<|sp (Bv false)<|zjn<|xU<|VD (fun ρ tr=>∃(xN:Env) (m1:Nat) (G5:Nat) (Gn:Nat) (gO:Nat),ρ=upd (upd (upd xN 1<|pp e9 0) 4<|pp m1 0) 5 (pp G5 0)/\Fresh w.heap.size [aw,ay]/\St w tr [.box G5 [Sv (aa Gn 0) (((exG s t).fNext).length) (((exG s t).fNext).length)] 24,.box m1 [Sv (aa gO 0) (((exG s t).fNext).length) (((exG s t).fNext).length)] 135,rr (aa Gn 0) (((exG s t).fNext).length) (((exG s t).fNext).length) 2 1 ((List.replicate (((exG s t).fNext).length) (0:Int)).map<|Value.int .i64),rr (aa gO 0) (((exG s t).fNext).length) (((exG s t).fNext).length) 3 1 ((List.replicate (((exG s t).fNext).length) (0:Int)).map<|Value.int .i64),.box e9 [Sv an (((exG s t).xq).length) ak,Sv aq (((exG s t).fNext).length) ap] 46,.box g9 [Sv an (((exG s t).xq).length) ak,Sv aq (((exG s t).fNext).length) ap] 46,.box b3 (yT t qV qU xm xk qM qL) 31,.box b1 (yS s qF qE qO qN) 27] [sF true aw an ak ((exG s t).xq),sF true ay aq ap ((exG s t).fNext),sF false xu qF qE s.qA,sF false xW qO qN s.qB,sF false zk qV qU t.qK,sF false zF xm xk t.qQ,sF false xJ qM qL t.qJ]) ?_ ?_
 ·refine ji rfl H fun H=>?_
  refine yL (fun ρ BP=>∃(xN:Env) (fj:Nat) (zw:Nat) (C0:Nat),ρ=upd (upd (upd (upd (upd xN 1<|pp e9 0) 4<|pp zw 0) 5<|pp C0 0) 11<|Sv (aa fj 0) (((exG s t).fNext).length) (((exG s t).fNext).length)) 14 (yI (((exG s t).fNext).length))/\Fresh w.heap.size [aw,ay]/\St w BP [.box C0 [yN] 24,.box zw [yN] 135,rr (aa fj 0) (((exG s t).fNext).length) (((exG s t).fNext).length) 3 1 ((List.replicate (((exG s t).fNext).length) (0:Int)).map<|Value.int .i64),.box e9 [Sv an (((exG s t).xq).length) ak,Sv aq (((exG s t).fNext).length) ap] 46,.box g9 [Sv an (((exG s t).xq).length) ak,Sv aq (((exG s t).fNext).length) ap] 46,.box b3 (yT t qV qU xm xk qM qL) 31,.box b1 (yS s qF qE qO qN) 27] [sF true aw an ak ((exG s t).xq),sF true ay aq ap ((exG s t).fNext),sF false xu qF qE s.qA,sF false xW qO qN s.qB,sF false zk qV qU t.qK,sF false zF xm xk t.qQ,sF false xJ qM qL t.qJ]) 3 #[true,true,true,true,true,true,true,false,true,true,false,false] ?_ fun L25=>?_
  ·rintro ρ BA ⟨xN,fj,zw,C0,rfl,N,H⟩
   refine zY [7,10] qh qm<|vG rfl ?_<|vG rfl ?_ zZ
   ·refine zq H underlying24 ti2 (((exG s t).fNext).length) rfl rfl qf qf qf fun rj GZ H=>⟨H.pick (zR 4 4)<|zR 0 7,(ro 10 rfl<|xn H 2 [Sv (aa fj 0) (((exG s t).fNext).length) (((exG s t).fNext).length)] sizeOf135 fun BB H=>⟨H.pick (zR 4 4)<|zR 0 7,(ro 11 rfl<|xn H 1 [Sv (aa rj 0) (((exG s t).fNext).length) (((exG s t).fNext).length)] sizeOf24 fun UZ H=>⟨H.pick (zR 4 4)<|zR 0 7,(xC qh ((meet ⟨_,zw,C0,rj,fj,uE3,N,H.pick [1,2,0,3,4,5,6,7]<|zR 0 7⟩)))⟩)⟩)⟩
   refine xn H 1 [Sv (aa fj 0) (((exG s t).fNext).length) (((exG s t).fNext).length)] sizeOf135 fun G6 H=>⟨H.pick (zR 3 4)<|zR 0 7,(ro 7 rfl<|zq H underlying24 ti2 (((exG s t).fNext).length) rfl rfl qf qf qf fun mX Gj H=>⟨H.pick (zR 4 4)<|zR 0 7,(ro 11 rfl<|xn H 1 [Sv (aa mX 0) (((exG s t).fNext).length) (((exG s t).fNext).length)] sizeOf24 fun Ao H=>⟨H.pick (zR 4 4)<|zR 0 7,(xC qh ((meet ⟨_,zw,C0,mX,fj,uE3,N,H.pick [1,2,0,3,4,5,6,7]<|zR 0 7⟩)))⟩)⟩)⟩
  refine yL (fun ρ BG=>∃(xN:Env) (tD:Nat) (GQ:Nat),ρ=upd (upd (upd xN 1<|pp e9 0) 11<|Sv (aa tD 0) (((exG s t).fNext).length) (((exG s t).fNext).length)) 15 (Sv (aa GQ 0) (((exG s t).fNext).length) (((exG s t).fNext).length))/\Fresh w.heap.size [aw,ay]/\St w BG [rr (aa GQ 0) (((exG s t).fNext).length) (((exG s t).fNext).length) 2 1 ((List.replicate (((exG s t).fNext).length) (0:Int)).map<|Value.int .i64),rr (aa tD 0) (((exG s t).fNext).length) (((exG s t).fNext).length) 3 1 ((List.replicate (((exG s t).fNext).length) (0:Int)).map<|Value.int .i64),.box e9 [Sv an (((exG s t).xq).length) ak,Sv aq (((exG s t).fNext).length) ap] 46,.box g9 [Sv an (((exG s t).xq).length) ak,Sv aq (((exG s t).fNext).length) ap] 46,.box b3 (yT t qV qU xm xk qM qL) 31,.box b1 (yS s qF qE qO qN) 27] [sF true aw an ak ((exG s t).xq),sF true ay aq ap ((exG s t).fNext),sF false xu qF qE s.qA,sF false xW qO qN s.qB,sF false zk qV qU t.qK,sF false zF xm xk t.qQ,sF false xJ qM qL t.qJ]) 4 #[true,true,true,true,true,true,true,true,false,false,false,false] ?_ fun L38=>?_
  ·rintro ρ Y0 ⟨xN,tD,GQ,rfl,N,H⟩
   refine zY [8,9] qh qm<|vG rfl ?_<|vG rfl ?_ zZ
   ·refine xg H ti135 [yN] fun b41 KE H=>⟨H.pick (zR 3 4)<|zR 0 7,(ro 9 rfl<|xg H ti24 [yN] fun GX JC H=>⟨H.pick (zR 4 4)<|zR 0 7,(ro 10 rfl<|xn H 1 [Sv (aa tD 0) (((exG s t).fNext).length) (((exG s t).fNext).length)] sizeOf135 fun LQ H=>⟨H.pick (zR 4 4)<|zR 0 7,(ro 11 rfl<|xn H 0 [Sv (aa GQ 0) (((exG s t).fNext).length) (((exG s t).fNext).length)] sizeOf24 fun Dz H=>⟨H.pick (zR 4 4)<|zR 0 7,(xC qh ((meet ⟨_,b41,GX,GQ,tD,uE3,N,H⟩)))⟩)⟩)⟩)⟩
   refine xg H ti24 [yN] fun GS Lc H=>⟨H.pick (zR 3 4)<|zR 0 7,(ro 8 rfl<|xg H ti135 [yN] fun Lq Pt H=>⟨H.pick (zR 4 4)<|zR 0 7,(ro 10 rfl<|xn H 0 [Sv (aa tD 0) (((exG s t).fNext).length) (((exG s t).fNext).length)] sizeOf135 fun w51 H=>⟨H.pick (zR 4 4)<|zR 0 7,(ro 11 rfl<|xn H 1 [Sv (aa GQ 0) (((exG s t).fNext).length) (((exG s t).fNext).length)] sizeOf24 fun w52 H=>⟨H.pick (zR 4 4)<|zR 0 7,(xC qh<|?_)⟩)⟩)⟩)⟩
   exact meet ⟨_,Lq,GS,GQ,tD,uE3,N,H.pick (1::0::zR 2 6)<|zR 0 7⟩
  refine yL (fun ρ G3=>∃(xN:Env) (Rd:Nat) (Lm:Nat),ρ=upd (upd (upd (upd xN 1<|pp e9 0) 4<|pp Lm 0) 11<|Sv (aa Rd 0) (((exG s t).fNext).length) (((exG s t).fNext).length)) 14 (yI (((exG s t).fNext).length))/\Fresh w.heap.size [aw,ay]/\St w G3 [.box Lm [yN] 135,rr (aa Rd 0) (((exG s t).fNext).length) (((exG s t).fNext).length) 3 1 ((List.replicate (((exG s t).fNext).length) (0:Int)).map<|Value.int .i64),.box e9 [Sv an (((exG s t).xq).length) ak,Sv aq (((exG s t).fNext).length) ap] 46,.box g9 [Sv an (((exG s t).xq).length) ak,Sv aq (((exG s t).fNext).length) ap] 46,.box b3 (yT t qV qU xm xk qM qL) 31,.box b1 (yS s qF qE qO qN) 27] [sF true aw an ak ((exG s t).xq),sF true ay aq ap ((exG s t).fNext),sF false xu qF qE s.qA,sF false xW qO qN s.qB,sF false zk qV qU t.qK,sF false zF xm xk t.qQ,sF false xJ qM qL t.qJ]) 4 #[true,true,true,true,true,true,true,false,true,false,false,false] ?_ fun L55=>?_
  ·rintro ρ Lf ⟨xN,Rd,Lm,rfl,N,H⟩
   refine zY [7,9] qh qm<|vG rfl ?_<|vG rfl ?_ zZ
   ·refine zq H underlying24 ti2 (((exG s t).fNext).length) rfl rfl qf qf qf fun b58 N9 H=>⟨H.pick (zR 3 4)<|zR 0 7,(ro 9 rfl<|xg H ti24 [yN] fun GO Sq H=>⟨H.pick (zR 4 4)<|zR 0 7,(ro 10 rfl<|xn H 2 [Sv (aa Rd 0) (((exG s t).fNext).length) (((exG s t).fNext).length)] sizeOf135 fun GT H=>⟨H.pick (zR 4 4)<|zR 0 7,(ro 11 rfl<|xn H 0 [Sv (aa b58 0) (((exG s t).fNext).length) (((exG s t).fNext).length)] sizeOf24 fun Wo H=>⟨H.pick (zR 4 4)<|zR 0 7,(xC qh<|?_)⟩)⟩)⟩)⟩
    exact meet ⟨_,Lm,GO,b58,Rd,uE3,N,H.pick [0,2,1,3,4,5,6,7]<|zR 0 7⟩
   refine xg H ti24 [yN] fun LH LE H=>⟨H.pick (zR 3 4)<|zR 0 7,(jq L25 ⟨_,Rd,Lm,LH,uE5,N,H⟩)⟩
  refine yL (fun ρ KF=>∃(xN:Env) (OD:Nat) (Kz:Nat),ρ=upd (upd (upd (upd xN 1<|pp e9 0) 5<|pp Kz 0) 11<|Sv (aa OD 0) (((exG s t).fNext).length) (((exG s t).fNext).length)) 14 (yI (((exG s t).fNext).length))/\Fresh w.heap.size [aw,ay]/\St w KF [.box Kz [yN] 24,rr (aa OD 0) (((exG s t).fNext).length) (((exG s t).fNext).length) 3 1 ((List.replicate (((exG s t).fNext).length) (0:Int)).map<|Value.int .i64),.box e9 [Sv an (((exG s t).xq).length) ak,Sv aq (((exG s t).fNext).length) ap] 46,.box g9 [Sv an (((exG s t).xq).length) ak,Sv aq (((exG s t).fNext).length) ap] 46,.box b3 (yT t qV qU xm xk qM qL) 31,.box b1 (yS s qF qE qO qN) 27] [sF true aw an ak ((exG s t).xq),sF true ay aq ap ((exG s t).fNext),sF false xu qF qE s.qA,sF false xW qO qN s.qB,sF false zk qV qU t.qK,sF false zF xm xk t.qQ,sF false xJ qM qL t.qJ]) 4 #[true,true,true,true,true,true,true,false,false,true,false,false] ?_ fun L68=>?_
  ·rintro ρ UU ⟨xN,OD,Kz,rfl,N,H⟩
   refine zY [7,8] qh qm<|vG rfl ?_<|vG rfl ?_ zZ
   ·refine zq H underlying24 ti2 (((exG s t).fNext).length) rfl rfl qf qf qf fun b71 I4 H=>⟨H.pick (zR 3 4)<|zR 0 7,(ro 8 rfl<|xg H ti135 [yN] fun b73 w74 H=>⟨H.pick (zR 4 4)<|zR 0 7,(ro 10 rfl<|xn H 0 [Sv (aa OD 0) (((exG s t).fNext).length) (((exG s t).fNext).length)] sizeOf135 fun V2 H=>⟨H.pick (zR 4 4)<|zR 0 7,(ro 11 rfl<|xn H 2 [Sv (aa b71 0) (((exG s t).fNext).length) (((exG s t).fNext).length)] sizeOf24 fun w76 H=>⟨H.pick (zR 4 4)<|zR 0 7,(xC qh<|?_)⟩)⟩)⟩)⟩
    exact meet ⟨_,b73,Kz,b71,OD,uE3,N,H.pick [2,0,1,3,4,5,6,7]<|zR 0 7⟩
   refine xg H ti135 [yN] fun Bt RH H=>⟨H.pick (zR 3 4)<|zR 0 7,(jq L25 ⟨_,OD,Bt,Kz,uE5,N,H.pick (1::0::zR 2 5)<|zR 0 7⟩)⟩
  refine yL (fun ρ w82=>∃(xN:Env) (sY:Nat) (b80:Nat),ρ=upd (upd (upd (upd xN 1<|pp e9 0) 4<|pp b80 0) 10<|yI (((exG s t).fNext).length)) 15 (Sv (aa sY 0) (((exG s t).fNext).length) (((exG s t).fNext).length))/\Fresh w.heap.size [aw,ay]/\St w w82 [.box b80 [yN] 135,rr (aa sY 0) (((exG s t).fNext).length) (((exG s t).fNext).length) 2 1 ((List.replicate (((exG s t).fNext).length) (0:Int)).map<|Value.int .i64),.box e9 [Sv an (((exG s t).xq).length) ak,Sv aq (((exG s t).fNext).length) ap] 46,.box g9 [Sv an (((exG s t).xq).length) ak,Sv aq (((exG s t).fNext).length) ap] 46,.box b3 (yT t qV qU xm xk qM qL) 31,.box b1 (yS s qF qE qO qN) 27] [sF true aw an ak ((exG s t).xq),sF true ay aq ap ((exG s t).fNext),sF false xu qF qE s.qA,sF false xW qO qN s.qB,sF false zk qV qU t.qK,sF false zF xm xk t.qQ,sF false xJ qM qL t.qJ]) 4 #[true,true,true,false,true,true,true,true,true,false,false,false] ?_ fun L81=>?_
  ·rintro ρ w83 ⟨xN,sY,b80,rfl,N,H⟩
   refine zY [3,9] qh qm<|vG rfl ?_<|vG rfl ?_ zZ
   ·refine zq H underlying135 ti3 (((exG s t).fNext).length) rfl rfl qf qf qf fun b84 w85 H=>⟨H.pick (zR 3 4)<|zR 0 7,(ro 9 rfl<|xg H ti24 [yN] fun b86 UV H=>⟨H.pick (zR 4 4)<|zR 0 7,(ro 10 rfl<|xn H 2 [Sv (aa b84 0) (((exG s t).fNext).length) (((exG s t).fNext).length)] sizeOf135 fun OM H=>⟨H.pick (zR 4 4)<|zR 0 7,(ro 11 rfl<|xn H 0 [Sv (aa sY 0) (((exG s t).fNext).length) (((exG s t).fNext).length)] sizeOf24 fun w89 H=>⟨H.pick (zR 4 4)<|zR 0 7,(xC qh<|?_)⟩)⟩)⟩)⟩
    exact meet ⟨_,b80,b86,sY,b84,uE3,N,H.pick [0,2,3,1,4,5,6,7]<|zR 0 7⟩
   refine xg H ti24 [yN] fun b90 MV H=>⟨H.pick (zR 3 4)<|zR 0 7,(ro 3 rfl<|zq H underlying135 ti3 (((exG s t).fNext).length) rfl rfl qf qf qf fun b92 Vv H=>⟨H.pick (zR 4 4)<|zR 0 7,(ro 10 rfl<|xn H 2 [Sv (aa b92 0) (((exG s t).fNext).length) (((exG s t).fNext).length)] sizeOf135 fun L8 H=>⟨H.pick (zR 4 4)<|zR 0 7,(ro 11 rfl<|xn H 1 [Sv (aa sY 0) (((exG s t).fNext).length) (((exG s t).fNext).length)] sizeOf24 fun w95 H=>⟨H.pick (zR 4 4)<|zR 0 7,(xC qh<|?_)⟩)⟩)⟩)⟩
   exact meet ⟨_,b80,b90,sY,b92,uE3,N,H.pick [1,2,3,0,4,5,6,7]<|zR 0 7⟩
  refine yL (fun ρ Lu=>∃(xN:Env) (EJ:Nat) (Nk:Nat),ρ=upd (upd (upd (upd xN 1<|pp e9 0) 5<|pp Nk 0) 10<|yI (((exG s t).fNext).length)) 15 (Sv (aa EJ 0) (((exG s t).fNext).length) (((exG s t).fNext).length))/\Fresh w.heap.size [aw,ay]/\St w Lu [.box Nk [yN] 24,rr (aa EJ 0) (((exG s t).fNext).length) (((exG s t).fNext).length) 2 1 ((List.replicate (((exG s t).fNext).length) (0:Int)).map<|Value.int .i64),.box e9 [Sv an (((exG s t).xq).length) ak,Sv aq (((exG s t).fNext).length) ap] 46,.box g9 [Sv an (((exG s t).xq).length) ak,Sv aq (((exG s t).fNext).length) ap] 46,.box b3 (yT t qV qU xm xk qM qL) 31,.box b1 (yS s qF qE qO qN) 27] [sF true aw an ak ((exG s t).xq),sF true ay aq ap ((exG s t).fNext),sF false xu qF qE s.qA,sF false xW qO qN s.qB,sF false zk qV qU t.qK,sF false zF xm xk t.qQ,sF false xJ qM qL t.qJ]) 4 #[true,true,true,false,true,true,true,true,false,true,false,false] ?_ fun L98=>?_
  ·rintro ρ HK ⟨xN,EJ,Nk,rfl,N,H⟩
   refine zY [3,8] qh qm<|vG rfl ?_<|vG rfl ?_ zZ
   ·refine zq H underlying135 ti3 (((exG s t).fNext).length) rfl rfl qf qf qf fun i9 xc H=>⟨H.pick (zR 3 4)<|zR 0 7,(ro 8 rfl<|xg H ti135 [yN] fun FV zv H=>⟨H.pick (zR 4 4)<|zR 0 7,(ro 10 rfl<|xn H 0 [Sv (aa i9 0) (((exG s t).fNext).length) (((exG s t).fNext).length)] sizeOf135 fun Gi H=>⟨H.pick (zR 4 4)<|zR 0 7,(ro 11 rfl<|xn H 2 [Sv (aa EJ 0) (((exG s t).fNext).length) (((exG s t).fNext).length)] sizeOf24 fun RG H=>⟨H.pick (zR 4 4)<|zR 0 7,(xC qh<|?_)⟩)⟩)⟩)⟩
    exact meet ⟨_,FV,Nk,EJ,i9,uE3,N,H.pick [2,0,3,1,4,5,6,7]<|zR 0 7⟩
   refine xg H ti135 [yN] fun Hy LF H=>⟨H.pick (zR 3 4)<|zR 0 7,(ro 3 rfl<|zq H underlying135 ti3 (((exG s t).fNext).length) rfl rfl qf qf qf fun rz Tp H=>⟨H.pick (zR 4 4)<|zR 0 7,(ro 10 rfl<|xn H 1 [Sv (aa rz 0) (((exG s t).fNext).length) (((exG s t).fNext).length)] sizeOf135 fun M0 H=>⟨H.pick (zR 4 4)<|zR 0 7,(ro 11 rfl<|xn H 2 [Sv (aa EJ 0) (((exG s t).fNext).length) (((exG s t).fNext).length)] sizeOf24 fun II H=>⟨H.pick (zR 4 4)<|zR 0 7,(xC qh<|?_)⟩)⟩)⟩)⟩
   exact meet ⟨_,Hy,Nk,EJ,rz,uE3,N,H.pick [2,1,3,0,4,5,6,7]<|zR 0 7⟩
  refine yL (fun ρ oe=>∃(xN:Env) (E2:Nat) (CA:Nat),ρ=upd (upd (upd (upd (upd xN 1<|pp e9 0) 4<|pp E2 0) 5<|pp CA 0) 10<|yI (((exG s t).fNext).length)) 14 (yI (((exG s t).fNext).length))/\Fresh w.heap.size [aw,ay]/\St w oe [.box CA [yN] 24,.box E2 [yN] 135,.box e9 [Sv an (((exG s t).xq).length) ak,Sv aq (((exG s t).fNext).length) ap] 46,.box g9 [Sv an (((exG s t).xq).length) ak,Sv aq (((exG s t).fNext).length) ap] 46,.box b3 (yT t qV qU xm xk qM qL) 31,.box b1 (yS s qF qE qO qN) 27] [sF true aw an ak ((exG s t).xq),sF true ay aq ap ((exG s t).fNext),sF false xu qF qE s.qA,sF false xW qO qN s.qB,sF false zk qV qU t.qK,sF false zF xm xk t.qQ,sF false xJ qM qL t.qJ]) 4 #[true,true,true,false,true,true,true,false,true,true,false,false] ?_ fun ag4=>?_
  ·rintro ρ ajR ⟨xN,E2,CA,rfl,N,H⟩
   refine zY [3,7] qh qm<|vG rfl ?_<|vG rfl ?_ zZ
   ·refine zq H underlying135 ti3 (((exG s t).fNext).length) rfl rfl qf qf qf fun ap0 Jt H=>⟨H.pick (zR 3 4)<|zR 0 7,(jq L25 ⟨_,ap0,E2,CA,uE5,N,H.pick [1,2,0,3,4,5,6]<|zR 0 7⟩)⟩
   refine zq H underlying24 ti2 (((exG s t).fNext).length) rfl rfl qf qf qf fun RT Fg H=>⟨H.pick (zR 3 4)<|zR 0 7,(ro 3 rfl<|zq H underlying135 ti3 (((exG s t).fNext).length) rfl rfl qf qf qf fun yk EM H=>⟨H.pick (zR 4 4)<|zR 0 7,(ro 10 rfl<|xn H 3 [Sv (aa yk 0) (((exG s t).fNext).length) (((exG s t).fNext).length)] sizeOf135 fun GB H=>⟨H.pick (zR 4 4)<|zR 0 7,(ro 11 rfl<|xn H 2 [Sv (aa RT 0) (((exG s t).fNext).length) (((exG s t).fNext).length)] sizeOf24 fun J3 H=>?_)⟩)⟩)⟩
   refine⟨H.pick (zR 4 4)<|zR 0 7,(xC qh ((meet ⟨_,E2,CA,RT,yk,uE3,N,H.pick [2,3,1,0,4,5,6,7]<|zR 0 7⟩)))⟩
  refine tF 0 rfl rfl H ?_
  refine tL 1 rfl rfl (fun _ h=>h.cell 0 rfl rfl) H ?_
  refine tN 2 rfl rfl H ?_
  refine tF 4 rfl rfl H ?_
  refine tL 5 rfl rfl (fun _ h=>h.cell 0 rfl rfl) H ?_
  refine tN 6 rfl rfl H ?_
  refine zY [3,7,8,9] qh qm<|vG rfl ?_<|vG rfl ?_<|vG rfl ?_<|vG rfl ?_ zZ
  ·refine zq H underlying135 ti3 (((exG s t).fNext).length) rfl rfl qf qf qf fun Ju Ko H=>⟨H.pick (zR 1 4)<|zR 0 7,(zY [7,8,9] qh qm<|vG rfl ?_<|vG rfl ?_<|vG rfl ?_ zZ)⟩
   ·refine zq H underlying24 ti2 (((exG s t).fNext).length) rfl rfl qf qf qf fun bj H7 H=>⟨H.pick (zR 2 4)<|zR 0 7,(jq L38 ⟨_,Ju,bj,uE3,N,H⟩)⟩
   ·refine xg H ti135 [yN] fun gr MU H=>⟨H.pick (zR 2 4)<|zR 0 7,(jq L55 ⟨_,Ju,gr,uE4,N,H⟩)⟩
   refine xg H ti24 [yN] fun ld LZ H=>⟨H.pick (zR 2 4)<|zR 0 7,(jq L68 ⟨_,Ju,ld,uE4,N,H⟩)⟩
  ·refine zq H underlying24 ti2 (((exG s t).fNext).length) rfl rfl qf qf qf fun LY A8 H=>⟨H.pick (zR 1 4)<|zR 0 7,(zY [3,8,9] qh qm<|vG rfl ?_<|vG rfl ?_<|vG rfl ?_ zZ)⟩
   ·refine zq H underlying135 ti3 (((exG s t).fNext).length) rfl rfl qf qf qf fun lC CW H=>⟨H.pick (zR 2 4)<|zR 0 7,(jq L38 ⟨_,lC,LY,uE3,N,H.pick [1,0,2,3,4,5]<|zR 0 7⟩)⟩
   ·refine xg H ti135 [yN] fun mJ abV H=>⟨H.pick (zR 2 4)<|zR 0 7,(jq L81 ⟨_,LY,mJ,uE4,N,H⟩)⟩
   refine xg H ti24 [yN] fun aos T9 H=>⟨H.pick (zR 2 4)<|zR 0 7,(jq L98 ⟨_,LY,aos,uE4,N,H⟩)⟩
  ·refine xg H ti135 [yN] fun gV Ih H=>⟨H.pick (zR 1 4)<|zR 0 7,(zY [3,7,9] qh qm<|vG rfl ?_<|vG rfl ?_<|vG rfl ?_ zZ)⟩
   ·refine zq H underlying135 ti3 (((exG s t).fNext).length) rfl rfl qf qf qf fun Uy FQ H=>⟨H.pick (zR 2 4)<|zR 0 7,(jq L55 ⟨_,Uy,gV,uE4,N,H.pick [1,0,2,3,4,5]<|zR 0 7⟩)⟩
   ·refine zq H underlying24 ti2 (((exG s t).fNext).length) rfl rfl qf qf qf fun anR aA0 H=>⟨H.pick (zR 2 4)<|zR 0 7,(jq L81 ⟨_,anR,gV,uE4,N,H.pick [1,0,2,3,4,5]<|zR 0 7⟩)⟩
   refine xg H ti24 [yN] fun aae CP H=>⟨H.pick (zR 2 4)<|zR 0 7,(jq ag4 ⟨_,gV,aae,uE5,N,H⟩)⟩
  refine xg H ti24 [yN] fun kd ayW H=>⟨H.pick (zR 1 4)<|zR 0 7,(zY [3,7,8] qh qm<|vG rfl ?_<|vG rfl ?_<|vG rfl ?_ zZ)⟩
  ·refine zq H underlying135 ti3 (((exG s t).fNext).length) rfl rfl qf qf qf fun anA Fr H=>⟨H.pick (zR 2 4)<|zR 0 7,(jq L68 ⟨_,anA,kd,uE4,N,H.pick [1,0,2,3,4,5]<|zR 0 7⟩)⟩
  ·refine zq H underlying24 ti2 (((exG s t).fNext).length) rfl rfl qf qf qf fun CG adn H=>⟨H.pick (zR 2 4)<|zR 0 7,(jq L98 ⟨_,CG,kd,uE4,N,H.pick [1,0,2,3,4,5]<|zR 0 7⟩)⟩
  refine xg H ti135 [yN] fun alB B2 H=>⟨H.pick (zR 2 4)<|zR 0 7,(jq ag4 ⟨_,alB,kd,uE5,N,H.pick [1,0,2,3,4,5]<|zR 0 7⟩)⟩
 clear H N
 rintro ρ Nb ⟨xN,m1,G5,Gn,gO,rfl,N,H⟩
 refine t_n<|zcr<|sw<|xg H ti71 [.nilFunc] fun rI BN H=>zjc<|sp (.func (.func 111) #[] #[pp m1 0,pp e9 0,pp rI 0,pp G5 0])<|sw<|xn H 0 [.func (.func 111) #[] #[pp m1 0,pp e9 0,pp rI 0,pp G5 0]] sizeOf71 fun GE H=>zjc<|oL rfl (H.cell 0 rfl rfl) ?_
 replace H:=H.unfreeI 1 rfl
 have rin:=ga.ok.rowsIn gn qf
 have vi:=VisI.start (exG s t).fNext
 have v00:(List.replicate (exG s t).fNext.length (0:Int))[(0:Int).toNat]! =0:=repAt1 qf
 have H1:St w GE [.box m1 [Sv (aa gO 0) (((exG s t).fNext).length) (((exG s t).fNext).length)] 135,.box e9 [Sv an (((exG s t).xq).length) ak,Sv aq (((exG s t).fNext).length) ap] 46,.box rI [.func (.func 111) #[] #[pp m1 0,pp e9 0,pp rI 0,pp G5 0]] 71,.box G5 [Sv (aa Gn 0) (((exG s t).fNext).length) (((exG s t).fNext).length)] 24,rr (aa gO 0) (((exG s t).fNext).length) (((exG s t).fNext).length) 3 1 ((List.replicate (((exG s t).fNext).length) (0:Int)).map<|Value.int .i64),rr (aa Gn 0) (((exG s t).fNext).length) (((exG s t).fNext).length) 2 1 ((List.replicate (((exG s t).fNext).length) (0:Int)).map<|Value.int .i64),.box g9 [Sv an (((exG s t).xq).length) ak,Sv aq (((exG s t).fNext).length) ap] 46,.box b3 (yT t qV qU xm xk qM qL) 31,.box b1 (yS s qF qE qO qN) 27] [sF false ay aq ap ((exG s t).fNext),sF false ay aq ap ((exG s t).fNext),sF true aw an ak ((exG s t).xq),sF true ay aq ap ((exG s t).fNext),sF false xu qF qE s.qA,sF false xW qO qN s.qB,sF false zk qV qU t.qK,sF false zF xm xk t.qQ,sF false xJ qM qL t.qJ]:=H.pick [2,5,0,1,4,3,6,7,8] (0::zR 0 8)
 have N1:Fresh _ [aw,ay]:=N
 have K1:Kept [] [sF false ay aq ap ((exG s t).fNext),sF true aw an ak ((exG s t).xq),sF true ay aq ap ((exG s t).fNext),sF false xu qF qE s.qA,sF false xW qO qN s.qB,sF false zk qV qU t.qK,sF false zF xm xk t.qQ,sF false xJ qM qL t.qJ]:=Kept.nil _
 replace K1:=K1.cons (F:=ay) 0 rfl rfl
 replace K1:=K1.cons (F:=aw) 1 rfl rfl
 refine sw<|ve #[yI 0,pp m1 0,pp e9 0,pp rI 0,pp G5 0] rfl rfl call111 (visit_ok 300 (0:Int) (List.replicate (((exG s t).fNext).length) (0:Int)) (List.replicate (((exG s t).fNext).length) (0:Int)) ((exG s t).fNext) an (((exG s t).xq).length) ak aq ap ay m1 e9 rI G5 (aa gO 0) (((exG s t).fNext).length) (((exG s t).fNext).length) (aa Gn 0) (((exG s t).fNext).length) (((exG s t).fNext).length) H1 N1 K1 (by assumption) (by exact⟨by omega,by omega⟩) ql ql (by exact fun j hj=>(rep0 hj).elim)<|by exact rep_cnt qf) ?_
 clear H H1 N1 K1
 rintro _ Ai ⟨asF,O1,asg,atk,Oy,rfl,N,H⟩
 refine sp (Bv<|dec<|Halts ((exG s t).fNext) (0:Int).toNat)<|zjc<|oL rfl (H.cell 3 rfl rfl)<|oI rfl rfl<|oL rfl (H.Xb 5 rfl (iv:=0) (i:=0) qf qf)<|sp (Bv<|dec<|Halts ((exG s t).fNext) (0:Int).toNat)<|sq 1<|sp (Bv<|dec<|Halts ((exG s t).fNext) (0:Int).toNat)<|zjr<|ret2 (yI<|O1[0]!) (Bv<|dec<|Halts ((exG s t).fNext) (0:Int).toNat) rfl rfl rfl ⟨_,rfl,?_⟩
 replace H:=H.erases [5,4,3,2,1,0]
 dsimp only[zU,List.eraseIdx] at H
 refine sp (.tuple #[yI<|O1[0]!,Bv<|dec<|Halts ((exG s t).fNext) (0:Int).toNat])<|sq 1<|sp (Bv<|dec<|Halts ((exG s t).fNext) (0:Int).toNat)<|sq 1<|sp (Bv<|dec<|Halts ((exG s t).fNext) (0:Int).toNat)<|zjc<|sp (Bv<|dec<|Halts ((exG s t).fNext) (0:Int).toNat)<|sp (Bv<|dec<|Halts ((exG s t).fNext) (0:Int).toNat) ?_
 cases nE:(dec (Halts ((exG s t).fNext) (0:Int).toNat))
 ·replace nE:=vF nE
  refine xY (zR 26 4)<|sp (Bv false)<|sp (Bv false)<|sp (yI 0)<|zjr<|ret2 (Bv false) (yI 0) rfl rfl rfl ⟨_,rfl,?_,H.base⟩
  rw[ic_n c0 ‹_›]
 replace nE:=Qc nE
 refine qP 25 rfl rfl<|sw<|xy [Sv an (((exG s t).xq).length) ak,Sv aq (((exG s t).fNext).length) ap] isAgg46 sizeOf46 rfl (qC (H.cells 0 rfl) 0 2)<|qP 25 rfl rfl<|sw<|zW #[.agg #[Sv an (((exG s t).xq).length) ak,Sv aq (((exG s t).fNext).length) ap]] rfl rfl call76<|en func76 ntmps76 ?_
 refine zcr<|sw<|zN H [Sv an (((exG s t).xq).length) ak,Sv aq (((exG s t).fNext).length) ap] fun aeO LM H=>sq 1<|zjc<|sw<|ja H underlying24 ti2 fun CE Ma H=>sq 1<|zjcc<|oF rfl<|oL rfl (H.cell 1 rfl rfl)<|oN rfl<|sp (yI 0)<|zjn<|xf ?_
 replace H:=H.boxRowI 0 [] 0
 refine zD ((fun Z0 Z1 Z2 Z3 Z4 Z5 Z6 Z7 Z8 Z9 bG bX eZ=>fun m' ρ Uz=>∃(xN:Env) (jZ:yOA) (vV:Nat) (jQ:Nat) (out:yLI) (i:Nat),ρ=upd (upd (upd (upd xN 3<|Sv jZ vV jQ) 8<|Sv aq (((exG s t).fNext).length) ap) 9<|yI (((exG s t).fNext).length)) 10 (yI i)/\out=(idxL (exG s t).fNext i)/\((i:Int)<=(((exG s t).fNext).length))/\m'=((((exG s t).fNext).length)-(i:Int)).toNat/\Fresh w.heap.size [aw,ay]/\St w Uz [rr jZ vV jQ 2 1<|out.map<|Value.int .i64,Z0,Z1,Z2,Z3] [Z4,Z5,Z6,Z7,Z8,Z9,bG,bX,eZ]) _ _ _ _ _ _ _ _ _ _ _ _ _) (((((exG s t).fNext).length)-(0:Int)).toNat) ⟨_,(aa CE 0),0,0,([]:yLI),0,uE4,(by rfl),qf,rfl,N,H⟩ ?_
 clear H N
 rintro m' ρ Rq ⟨xN,jZ,vV,jQ,out,i,rfl,rfl,i0,rfl,N,H⟩
 have bQ:=H.jy 0 rfl
 have il:=idx_len (exG s t).fNext i
 refine zcr<|sq 1<|zjn<|xU<|cD rfl (fun Sc=>?_)<|fun Sc=>?_
 ·refine qZ (t_n<|xU<|xf<|zcr<|sp (yI i) ?_)
  obtain⟨pD,am6,rfl⟩:=H.addr 0 rfl qf
  obtain⟨ar7,arI,arx,H⟩:=H.jo 0 rfl i i qf qf qf
  refine oI rfl rfl<|oL rfl (H.zo 1 rfl 0 rfl)<|sp (yI i)<|sq 1<|zjc<|sq 1<|oN rfl<|sp (Bv (((((exG s t).fNext)[i]!).length:Int) == 0))<|zjn<|cE rfl (fun an5=>?_)<|fun an5=>?_
  ·refine xX (sq 1<|sp (yI i)<|sw<|zl H underlying24 ti2 [yI i] fun Lt Fe H=>sw<|zt H 1 rfl 0 rfl underlying24 ti2 rfl qj rfl rfl rfl qw qp qf fun akh akX Lp H=>?_)
   rw[snocI] at H
   refine sq 1<|xZ<|b_n<|t_n<|xX<|sw<|zC i 1 rfl rfl qf<|sq 1<|xZ<|xh (m':=((((exG s t).fNext).length)-((i+1):Int)).toNat) qf ⟨_,_,_,_,_,i+1,uE4,?_,?_,rfl,N,H.pick (zR 1 5)<|zR 2 9⟩
   ·exact idx_yes qf
   ·omega
  refine qZ<|b_n<|t_n<|xX<|sw<|zC i 1 rfl rfl qf<|sq 1<|xZ<|xh (m':=((((exG s t).fNext).length)-((i+1):Int)).toNat) qf ⟨_,_,_,_,_,i+1,uE4,?_,?_,rfl,N,H.pick (zR 0 5)<|zR 2 9⟩
  ·exact idx_no qf
  ·omega
 refine zx4<|zcr<|sq 2<|zjr<|ret1 (Sv jZ vV jQ) rfl rfl ⟨_,rfl,?_⟩
 replace H:=H.erases [1]
 dsimp only[zU,List.eraseIdx] at H
 refine qP 25 rfl rfl<|oN rfl<|qP 25 rfl rfl<|sp (Bv ((vV:Int) == 1))<|sp (Bv ((vV:Int) == 1))<|sp (Bv ((vV:Int) == 1))<|sp (yI 0)<|zjr<|ret2 (Bv ((vV:Int) == 1)) (yI 0) rfl rfl rfl ⟨_,rfl,?_,H.base⟩
 rw[ic_i c0 ‹_› (i:=i) qf,dec_one (n:=vV) qf]
theorem implRun_ok(w:World)(s:qH)(t:qG)(aQ:Int)(xe:zP w xu qF qE s.qA)(xE:zP w xW qO qN s.qB)(xR:zP w zk qV qU t.qK)(zu:zP w zF xm xk t.qQ)(xB:zP w xJ qM qL t.qJ):Calls Tryz.prog 38 #[.agg #[yI s.zf,Sv qF s.qA.length qE,Sv qO s.qB.length qN],.agg #[Sv qV t.qK.length qU,Sv xm t.qQ.length xk,Sv qM t.qJ.length qL],yI aQ] w (Ret (fun v w'=>∃(cJ:yOA) (cw:Nat) (cU:Nat) (dI:yOA) (dP:Nat) (dD:Nat) (dK:List Value) (dL:yLN) (Vj:yOA) (Vb:Nat) (Vf:Nat),v=.tuple #[.agg #[Sv cJ cw cU,Sv dI dP dD,Sv Vj Vb Vf],yI ((QH s t aQ).2.1),yI ((QH s t aQ).2.2)]/\Fresh w.heap.size [dL]/\St w w' [rr cJ cw cU 4 1 ((((QH s t aQ).1).qK).map<|Value.bool),rr dI dP dD 24 1 dK,rr Vj Vb Vf 2 1 ((((QH s t aQ).1).qJ).map<|Value.int .i64)] [xG true dL dK (((QH s t aQ).1).qQ)]) w):=by
 refine en func38 ntmps38 ?_
 have H:=(((((St.start w).arg xB).arg zu).arg xR).arg xE).arg xe
 have jT:=qR xR
 have yR:=qR zu
 have jv:=qR xB
 clear xe xE xR zu xB
 have N:=Fresh.nil w.heap.size
 refine zcr<|sw<|zN H (yS s qF qE qO qN) fun b1 w2 H=>sw<|zN H (yT t qV qU xm xk qM qL) fun b3 w4 H=>sw<|xg H ti31 [yN,yN,yN] fun b5 w6 H=>sp (yI 0)<|sp (yI 0)<|zjcc<|sw<|xy (yS s qF qE qO qN) isAgg27 sizeOf27 rfl (qC (H.cells 2 rfl) 0 3)<|sw<|xy (yT t qV qU xm xk qM qL) isAgg31 sizeOf31 rfl (qC (H.cells 1 rfl) 0 3)<|sw<|oq (QA _ s t (H.get 0 rfl).1 (H.get 1 rfl).1 (H.get 2 rfl).1 (H.get 3 rfl).1 (H.get 4 rfl).1) H fun w8 H=>sq 1<|zjn<|cQ rfl (fun bx=>?_)<|fun bx=>?_
 ·refine zcr (sw<|vg [yN,yN,yN] []<|sw<|xx H 0 [yN,yN,yN] sizeOf31 fun rL H=>sp (yI 0)<|sp (yI 1)<|zjr<|t_r ?_)
  replace H:=H.nilRowB 4
  replace H:=H.nilRow 24 1
  replace H:=H.vP (α:=yLI)
  replace H:=H.nilRowI 2
  refine retC3 H 3 rfl (yI 0) (yI 1) rfl isAgg31 sizeOf31 rfl rfl rfl ⟨_,rfl,?_,H.base⟩
  rw[run_1 ‹_›]
  exact⟨none,0,0,none,0,0,[],[],none,0,0,rfl,N.emp,H.pick [2,1,0] [0]⟩
 have k0:=(‹vz s/\xK s t›:vz s/\xK s t)
 have k1:=k0.1
 have k2:=k0.2
 obtain⟨q7,q8,q9,Bz⟩:=k2.sizes k1.1
 have Uj:=fun k hk=>Nat.le_trans (Bz k hk) (by decide:8<=1000000)
 refine qZ<|t_n<|zcc<|sq 1<|sw<|oq (Xe w8 aQ 0 200) H fun we H=>sq 1<|zjn<|zX _ rfl (fun eE=>?_)<|fun eE=>?_
 ·replace eE:=x8 eE
  replace eE:=XG eE
  refine zcr<|sw<|vg [yN,yN,yN] []<|sw<|xx H 0 [yN,yN,yN] sizeOf31 fun uK H=>sp (yI 0)<|sp (yI 2)<|zjr<|t_r ?_
  replace H:=H.nilRowB 4
  replace H:=H.nilRow 24 1
  replace H:=H.vP (α:=yLI)
  replace H:=H.nilRowI 2
  refine retC3 H 3 rfl (yI 0) (yI 2) rfl isAgg31 sizeOf31 rfl rfl rfl ⟨_,rfl,?_,H.base⟩
  rw[run_2 ‹_› ‹_›]
  exact⟨none,0,0,none,0,0,[],[],none,0,0,rfl,N.emp,H.pick [2,1,0] [0]⟩
 replace eE:=xO eE
 replace eE:=Q8.1 eE
 refine qZ<|t_n<|zcr<|sw<|xy (yT t qV qU xm xk qM qL) isAgg31 sizeOf31 rfl (qC (H.cells 1 rfl) 0 3) ?_
 have an8:=H.base.size
 refine sw<|oc (Q9 _ t (H.get 2 rfl).1 (H.get 3 rfl).1 (H.get 4 rfl).1 qg qg qg qg) ?_
 rintro _ GW ⟨vu,V1,wB,A1,abQ,Bc,Jr,Ke,sC,SC,sM,rfl,M,K⟩ _
 replace N:=N.merge an8 qm M
 replace H:=H.merge K M
 obtain rfl:=H.Xg 0 rfl
 obtain rfl:=H.xQ (α:=yLI) 1 rfl 0 rfl qj
 obtain rfl:=H.jy 2 rfl
 refine sw<|xg H ti31 [yN,yN,yN] fun C0 Ce H=>sw<|xx H 0 (yT t vu wB A1 Bc sC sM) sizeOf31 fun BP H=>zjc<|sp (yI 0)<|zjn<|xf<|zD ((fun Z0 Z1 Z2 Z3 Z4 Z5 Z6 Z7=>fun m' ρ BA=>∃(xN:Env) (n:Nat) (jI:yOA) (jG:Nat) (jH:Nat) (et:List Bool) (jW:yOA) (jU:Nat) (jV:Nat) (fh:yLL) (Xd:List Value) (Qs:yLN) (jg:yOA) (je:Nat) (jf:Nat) (dt:yLI) (u:qG),ρ=upd (upd (upd (upd (upd xN 2<|yI aQ) 3<|pp b1 0) 6<|pp b5 0) 9<|pp C0 0) 10 (yI n)/\et=u.qK/\fh=u.qQ/\dt=u.qJ/\(xK s u)/\(0<=(n:Int)/\(n:Int)<=aQ)/\(QH s t aQ=runGo s (aQ-n).toNat n u)/\m'=(aQ-n).toNat/\Fresh w.heap.size [Qs]/\St w BA [.box C0 [Sv jI jG jH,Sv jW jU jV,Sv jg je jf] 31,rr jI jG jH 4 1<|et.map<|Value.bool,rr jW jU jV 24 1 Xd,rr jg je jf 2 1<|dt.map<|Value.int .i64,Z0,Z1,Z2] [xG true Qs Xd fh,Z3,Z4,Z5,Z6,Z7]) _ _ _ _ _ _ _ _) ((aQ-0).toNat) ⟨_,0,vu,t.qK.length,wB,t.qK,A1,t.qQ.length,Bc,t.qQ,Jr,Ke,sC,t.qJ.length,sM,t.qJ,t,uE5,(by rfl),(by rfl),(by rfl),(by exact k2),qf,(by rw[run_0 ‹vz s/\xK s t› qf,show (aQ-(0:Nat)).toNat=aQ.toNat by omega];rfl),rfl,N,H⟩ ?_
 clear H N
 rintro m' ρ PE ⟨xN,n,jI,jG,jH,et,jW,jU,jV,fh,Xd,Qs,jg,je,jf,dt,u,rfl,rfl,rfl,rfl,ku,km,kr,rfl,N,H⟩
 refine xU<|xf<|zcc<|sp (yI n)<|sq 1<|sp (Bv ((n:Int) == aQ))<|sp (Bv ((n:Int) == aQ)) ?_
 cases Pi:((n:Int) == aQ)
 ·replace Pi:=ne_of_beq_false Pi
  refine qP 29 rfl rfl<|sw<|xy (yS s qF qE qO qN) isAgg27 sizeOf27 rfl (qC (H.cells 6 rfl) 0 3)<|qP 29 rfl rfl<|sw<|xy [Sv jI jG jH,Sv jW jU jV,Sv jg je jf] isAgg31 sizeOf31 rfl (qC (H.cells 0 rfl) 0 3)<|qP 29 rfl rfl ?_
  obtain⟨G30,Rt,LV⟩:=H.rowIsB 1 rfl
  obtain⟨NI,Hw,UA⟩:=H.QL (α:=yLI) 2 rfl 0 rfl qj
  obtain⟨Ip,Mq,Bm⟩:=H.XB 3 rfl
  refine sw<|oc (Qu (by rw[←Rt,←Hw,←Mq])<|Xn _ s u (H.get 1 rfl).1 (H.get 2 rfl).1 (Rt▸LV) (Hw▸UA) (Mq▸Bm) qg qg) ?_
  rintro _ Y0 ⟨abE,ay2,aaJ,rfl,M,K⟩ _
  replace H:=H.merge K M
  obtain rfl:=H.jy 0 rfl
  refine qP 29 rfl rfl<|oN rfl<|qP 29 rfl rfl<|sp (Bv (((appls s u).length:Int) == 0))<|sp (Bv (((appls s u).length:Int) == 0))<|zjn<|cE rfl (fun pT=>?_)<|fun pT=>?_
  ·refine zcr (sw<|xy [Sv jI jG jH,Sv jW jU jV,Sv jg je jf] isAgg31 sizeOf31 rfl (qC (H.cells 1 rfl) 0 3)<|sp (yI n)<|sw<|xx H 5 [Sv jI jG jH,Sv jW jU jV,Sv jg je jf] sizeOf31 fun Dz H=>sp (yI n)<|sp (yI 0)<|zjr<|t_r<|b_r<|t_r<|t_r<|b_r<|retC3 H 5 rfl (yI n) (yI 0) rfl isAgg31 sizeOf31 rfl rfl rfl ⟨_,rfl,?_,H.base⟩)
   rw[kr,runGo_halt<|Qy.1 qf]
   exact⟨jI,jG,jH,jW,jU,jV,Xd,Qs,jg,je,jf,rfl,N,H.pick [2,3,4] [0]⟩
  refine qZ<|t_n<|xU<|VD (fun ρ G3=>∃(xN:Env) (GS:Nat) (JR:yOA) (uI:Nat) (Hb:yOA) (HG:Nat) (Jv:yOA) (Kj:Nat) (S2:List Value) (Ua:yLN),ρ=upd (upd (upd (upd (upd (upd (upd (upd (upd (upd (upd (upd xN 2<|yI aQ) 3<|pp b1 0) 6<|pp b5 0) 9<|pp C0 0) 10<|yI n) 11<|pp GS 0) 12<|yI ((zA s u<|yA s u).2)) 30<|.agg #[yI s.zf,Sv qF s.qA.length qE,Sv qO s.qB.length qN]) 31<|.agg #[Sv jI jG jH,Sv jW jU jV,Sv jg je jf]) 32<|Sv abE ((appls s u).length) aaJ) 33<|yI ((appls s u).length)) 34 (Bv (((appls s u).length:Int) == 0))/\Fresh w.heap.size [Ua,Qs]/\St w G3 [.box GS [Sv JR ((((zA s u<|yA s u).1).qK).length) uI,Sv Hb ((((zA s u<|yA s u).1).qQ).length) HG,Sv Jv ((((zA s u<|yA s u).1).qJ).length) Kj] 31,rr JR ((((zA s u<|yA s u).1).qK).length) uI 4 1 ((((zA s u<|yA s u).1).qK).map<|Value.bool),rr Hb ((((zA s u<|yA s u).1).qQ).length) HG 24 1 S2,rr Jv ((((zA s u<|yA s u).1).qJ).length) Kj 2 1 ((((zA s u<|yA s u).1).qJ).map<|Value.int .i64),rr abE ((appls s u).length) aaJ 2 1 ((appls s u).map<|Value.int .i64),.box C0 [Sv jI jG jH,Sv jW jU jV,Sv jg je jf] 31,rr jI jG jH 4 1<|u.qK.map<|Value.bool,rr jW jU jV 24 1 Xd,rr jg je jf 2 1<|u.qJ.map<|Value.int .i64,.box b5 [yN,yN,yN] 31,.box b3 (yT t qV qU xm xk qM qL) 31,.box b1 (yS s qF qE qO qN) 27] [xG true Ua S2 (((zA s u<|yA s u).1).qQ),xG true Qs Xd u.qQ,sF false xu qF qE s.qA,sF false xW qO qN s.qB,sF false zk qV qU t.qK,sF false zF xm xk t.qQ,sF false xJ qM qL t.qJ]) ?_ ?_
  ·refine ji rfl H fun H=>rt 0 _ (yF (cs:=(yS s qF qE qO qN)) isAgg27 sizeOf27 rfl<|fun _ h=>qC (h.cells 7 rfl) 0 3) H ?_
   refine rt 1 _ (yF (cs:=[Sv jI jG jH,Sv jW jU jV,Sv jg je jf]) isAgg31 sizeOf31 rfl<|fun _ h=>qC (h.cells 1 rfl) 0 3) H ?_
   refine rt 2 _ (yF (cs:=(yS s qF qE qO qN)) isAgg27 sizeOf27 rfl<|fun _ h=>qC (h.cells 7 rfl) 0 3) H ?_
   refine rt 3 _ (yF (cs:=[Sv jI jG jH,Sv jW jU jV,Sv jg je jf]) isAgg31 sizeOf31 rfl<|fun _ h=>qC (h.cells 1 rfl) 0 3) H ?_
   refine zY [4,9] qh qm<|vG rfl ?_<|vG rfl ?_ zZ
   ·obtain⟨G58,abD,h60⟩:=H.rowIsB 2 rfl
    obtain⟨G61,Td,h63⟩:=H.QL (α:=yLI) 3 rfl 0 rfl qj
    obtain⟨G64,af2,h66⟩:=H.XB 4 rfl
    refine oc (Qu (by rw[←abD,←Td,←af2])<|firstChoice_ok _ s u (H.get 1 rfl).1 (H.get 2 rfl).1 (abD▸h60) (Td▸h63) (af2▸h66) qg qg) ?_
    rintro _ Sr ⟨av4,azk,awn,rfl,M,K⟩ _
    replace H:=H.merge K M
    obtain rfl:=H.jy 0 rfl
    refine⟨H.pick (zR 1 8)<|zR 0 6,(zY [5,9] qh qm<|vG rfl ?_<|vG rfl ?_ zZ)⟩
    ·obtain⟨G73,Gl,BR⟩:=H.rowIsB 3 rfl
     obtain⟨G76,Hv,h78⟩:=H.QL (α:=yLI) 4 rfl 0 rfl qj
     obtain⟨G79,adT,h81⟩:=H.XB 5 rfl
     obtain⟨G82,ann,h84⟩:=H.XB 0 rfl
     have k3:=first_cnt k1 ku
     have k4:=first_isCh k1 ku
     have anN:=H.base.size
     have apY:=H.ltN (L:=[Qs]) [0]
     refine oc (Qu (by rw[←Gl,←Hv,←adT])<|step_ok _ s u (yA s u) (H.get 1 rfl).1 (H.get 2 rfl).1 (Gl▸BR) (Hv▸h78) (adT▸h81) h84 qg qg qg qg) ?_
     rintro _ w86 ⟨tx,Ux,uo,wD,Wy,vo,FSz,Gw,qd,Oi,pN,rfl,M,K⟩ _
     replace N:=N.merge anN apY M
     replace H:=H.merge K M
     obtain rfl:=H.Xg 0 rfl
     obtain rfl:=H.xQ (α:=yLI) 1 rfl 0 rfl qj
     obtain rfl:=H.jy 2 rfl
     refine⟨H.pick (zR 4 8)<|zR 1 6,?_⟩
     have S:=H.jF (zR 4 8)<|zR 1 6
     refine rtl 6 S ?_
     refine rtl 7 S ?_
     refine rtl 8 S ?_
     refine ro 9 rfl<|xg H ti31 [yN,yN,yN] fun GM L8 H=>⟨H.pick (zR 5 8)<|zR 1 6,(ro 10 rfl<|xx H 0 [Sv tx ((((zA s u<|yA s u).1).qK).length) uo,Sv wD ((((zA s u<|yA s u).1).qQ).length) vo,Sv qd ((((zA s u<|yA s u).1).qJ).length) pN] sizeOf31 fun w95 H=>⟨H.pick (zR 5 8)<|zR 1 6,(rtl 11 (H.pick (zR 5 8)<|zR 1 6) ?_)⟩)⟩
     refine xC qh ((meet ⟨_,GM,tx,uo,wD,vo,qd,pN,FSz,Gw,uE12,N,H.pick (0::1::2::3::zR 5 8)<|zR 0 7⟩))
    refine xg H ti31 [yN,yN,yN] fun EJ NP H=>⟨H.pick (zR 2 8)<|zR 0 6,(ro 5 rfl ?_)⟩
    obtain⟨Kv,MF,Ch⟩:=H.rowIsB 4 rfl
    obtain⟨avf,PB,aj7⟩:=H.QL (α:=yLI) 5 rfl 0 rfl qj
    obtain⟨aom,PO,BL⟩:=H.XB 6 rfl
    obtain⟨aul,as1,Hc⟩:=H.XB 1 rfl
    have k3:=first_cnt k1 ku
    have k4:=first_isCh k1 ku
    have afr:=H.base.size
    have Yi:=H.ltN (L:=[Qs]) [0]
    refine oc (Qu (by rw[←MF,←PB,←PO])<|step_ok _ s u (yA s u) (H.get 1 rfl).1 (H.get 2 rfl).1 (MF▸Ch) (PB▸aj7) (PO▸BL) Hc qg qg qg qg) ?_
    rintro _ M0 ⟨pM,NO,qz,uq,RK,tp,CM,CV,nZ,L7,n8,rfl,M,K⟩ _
    replace N:=N.merge afr Yi M
    replace H:=H.merge K M
    obtain rfl:=H.Xg 0 rfl
    obtain rfl:=H.xQ (α:=yLI) 1 rfl 0 rfl qj
    obtain rfl:=H.jy 2 rfl
    refine⟨H.pick (zR 5 8)<|zR 1 6,?_⟩
    have S:=H.jF (zR 5 8)<|zR 1 6
    refine rtl 6 S ?_
    refine rtl 7 S ?_
    refine rtl 8 S ?_
    refine ro 10 rfl<|xx H 3 [Sv pM ((((zA s u<|yA s u).1).qK).length) qz,Sv uq ((((zA s u<|yA s u).1).qQ).length) tp,Sv nZ ((((zA s u<|yA s u).1).qJ).length) n8] sizeOf31 fun Tk H=>⟨H.pick (zR 5 8)<|zR 1 6,(rtl 11 (H.pick (zR 5 8)<|zR 1 6) ?_)⟩
    refine xC qh ((meet ⟨_,EJ,pM,qz,uq,tp,nZ,n8,CM,CV,uE12,N,H.pick (3::0::1::2::zR 5 8)<|zR 0 7⟩))
   refine xg H ti31 [yN,yN,yN] fun wS afw H=>⟨H.pick (zR 1 8)<|zR 0 6,(ro 4 rfl ?_)⟩
   obtain⟨yi,Kp,ajT⟩:=H.rowIsB 3 rfl
   obtain⟨nL,Ay,apx⟩:=H.QL (α:=yLI) 4 rfl 0 rfl qj
   obtain⟨RI,JU,anS⟩:=H.XB 5 rfl
   refine oc (Qu (by rw[←Kp,←Ay,←JU])<|firstChoice_ok _ s u (H.get 1 rfl).1 (H.get 2 rfl).1 (Kp▸ajT) (Ay▸apx) (JU▸anS) qg qg) ?_
   rintro _ MU ⟨atz,aqj,aqQ,rfl,M,K⟩ _
   replace H:=H.merge K M
   obtain rfl:=H.jy 0 rfl
   refine⟨H.pick (zR 2 8)<|zR 0 6,(ro 5 rfl ?_)⟩
   obtain⟨alT,NX,Fd⟩:=H.rowIsB 4 rfl
   obtain⟨avC,P4,aoM⟩:=H.QL (α:=yLI) 5 rfl 0 rfl qj
   obtain⟨ayy,No,R3⟩:=H.XB 6 rfl
   obtain⟨aAn,aqO,alO⟩:=H.XB 0 rfl
   have k3:=first_cnt k1 ku
   have k4:=first_isCh k1 ku
   have ae1:=H.base.size
   have adt:=H.ltN (L:=[Qs]) [0]
   refine oc (Qu (by rw[←NX,←P4,←No])<|step_ok _ s u (yA s u) (H.get 1 rfl).1 (H.get 2 rfl).1 (NX▸Fd) (P4▸aoM) (No▸R3) alO qg qg qg qg) ?_
   rintro _ CP ⟨pX,Rj,qb,sD,TG,sk,B7,BT,nm,Mo,ng,rfl,M,K⟩ _
   replace N:=N.merge ae1 adt M
   replace H:=H.merge K M
   obtain rfl:=H.Xg 0 rfl
   obtain rfl:=H.xQ (α:=yLI) 1 rfl 0 rfl qj
   obtain rfl:=H.jy 2 rfl
   refine⟨H.pick (zR 5 8)<|zR 1 6,?_⟩
   have S:=H.jF (zR 5 8)<|zR 1 6
   refine rtl 6 S ?_
   refine rtl 7 S ?_
   refine rtl 8 S ?_
   refine ro 10 rfl<|xx H 4 [Sv pX ((((zA s u<|yA s u).1).qK).length) qb,Sv sD ((((zA s u<|yA s u).1).qQ).length) sk,Sv nm ((((zA s u<|yA s u).1).qJ).length) ng] sizeOf31 fun EN H=>⟨H.pick (zR 5 8)<|zR 1 6,(rtl 11 (H.pick (zR 5 8)<|zR 1 6) ?_)⟩
   refine xC qh ((meet ⟨_,wS,pX,qb,sD,sk,nm,ng,B7,BT,uE12,N,H.pick (4::0::1::2::zR 5 8)<|zR 0 7⟩))
  clear H N
  rintro ρ B2 ⟨xN,GS,JR,uI,Hb,HG,Jv,Kj,S2,Ua,rfl,N,H⟩
  refine t_n<|zcc<|sq 1<|sp (Bv (((zA s u<|yA s u).2:Int) != 0))<|zjn<|zX (((zA s u<|yA s u).2:Int) != 0) rfl (fun He=>?_)<|fun He=>?_
  ·replace He:=bne_iff_ne.1 He
   refine zcr<|sw<|vg [yN,yN,yN] []<|sq 1<|sw<|xx H 9 [yN,yN,yN] sizeOf31 fun KY H=>sp (yI 0)<|sq 1<|zjr<|t_r<|b_r<|t_r<|t_r<|b_r ?_
   replace H:=H.nilRowB 4
   replace H:=H.nilRow 24 1
   replace H:=H.vP (α:=yLI)
   replace H:=H.nilRowI 2
   refine retC3 H 12 rfl (yI 0) (yI ((zA s u<|yA s u).2)) rfl isAgg31 sizeOf31 rfl rfl rfl ⟨_,rfl,?_,H.base⟩
   rw[kr,runGo_bad qf (fun h=>by have:=Qy.2 h;omega) ‹_›]
   exact⟨none,0,0,none,0,0,[],[],none,0,0,rfl,(N.emp.pick [0]),H.pick [2,1,0] [0]⟩
  replace He:=xA He
  refine qZ<|t_n<|xX<|sw<|xy [Sv JR ((((zA s u<|yA s u).1).qK).length) uI,Sv Hb ((((zA s u<|yA s u).1).qQ).length) HG,Sv Jv ((((zA s u<|yA s u).1).qJ).length) Kj] isAgg31 sizeOf31 rfl (qC (H.cells 0 rfl) 0 3)<|sw<|xx H 5 [Sv JR ((((zA s u<|yA s u).1).qK).length) uI,Sv Hb ((((zA s u<|yA s u).1).qQ).length) HG,Sv Jv ((((zA s u<|yA s u).1).qJ).length) Kj] sizeOf31 fun BN H=>xZ<|b_n<|t_n<|xX<|sp (yI n)<|sw<|zC n 1 rfl rfl qf<|sq 1<|xZ<|xh (m':=(aQ-(n+1)).toNat) qf ⟨_,n+1,_,_,_,_,_,_,_,_,_,_,_,_,_,_,(zA s u<|yA s u).1,uE5,?_,?_,?_,?_,?_,?_,rfl,(N.pick [0]),H.pick [5,1,2,3,9,10,11] (0::zR 2 5)⟩
  ·rfl
  ·rfl
  ·rfl
  ·exact stepBy_ok ‹_›
  ·omega
  ·exact kr.trans<|runGo_go qf (fun h=>by have:=Qy.2 h;omega) ‹_›
 replace Pi:=eq_of_beq Pi
 refine xY (zR 30 5)<|sp (Bv true)<|zjn<|cTr rfl<|zcr<|sw<|xy [Sv jI jG jH,Sv jW jU jV,Sv jg je jf] isAgg31 sizeOf31 rfl (qC (H.cells 0 rfl) 0 3)<|sp (yI n)<|sw<|xx H 4 [Sv jI jG jH,Sv jW jU jV,Sv jg je jf] sizeOf31 fun GE H=>sp (yI n)<|sp (yI 0)<|zjr<|t_r<|b_r<|t_r<|t_r<|b_r<|retC3 H 4 rfl (yI n) (yI 0) rfl isAgg31 sizeOf31 rfl rfl rfl ⟨_,rfl,?_,H.base⟩
 rw[kr,runGo_end qf]
 exact⟨jI,jG,jH,jW,jU,jV,Xd,Qs,jg,je,jf,rfl,N,H.pick [1,2,3] [0]⟩
end
section
theorem dotP_pos{q:Nat}:∀(y:yLI) (ps:yLL),(∀v∈y,0<=v)->(∀p∈ps,0<=p[q]!)->0<=dotP y ps q
 | [],[],_,_=>by simp[dotP]
 | [],_::_,_,_=>by simp[dotP]
 |_::_,[],_,_=>by simp[dotP]
 |n::y,p::ps,h,h1=>by
  have a:=dotP_pos y ps (fun v hv=>h v<|List.mem_cons_of_mem _ hv) fun v hv=>h1 v<|List.mem_cons_of_mem _ hv
  have b:=Int.mul_nonneg (h n<|List.mem_cons_self ..)<|h1 p<|List.mem_cons_self ..
  rw[dotP];omega
theorem le_times{l m:yLI}{n:Int}(h0:n<=1000):∀k,(∀q,q<k->n*l[q]! <=m[q]!)->n<=Qv l m k
 |0,_=>h0
 |k+1,h=>by
  have ih:=le_times h0 k fun q hq=>h q qf
  rw[Qv]
  split
  ·next hp=>
   have:=(Int.le_ediv_iff_mul_le hp).2<|h k qf
   omega
  ·exact ih
theorem packs_has{K:Nat}{ad:yLL}(hP:Yc K ad):∀(f k:Nat) (ai y:yLI),k+f=ad.length->RestOk K ai->y.length=f->(∀v∈y,0<=v)→
 (∀q,q<K->0<=ai[q]!-dotP y (ad.drop k) q)->(∀r:yLI,r.length=K->(∀q,q<K->r[q]! =ai[q]!-dotP y (ad.drop k) q)->FullOk ad r)->y∈packs ad f k ai
 |0,k,ai,y,hk,hR,hl,hv,hd,hf=>by
  obtain rfl:=List.eq_nil_of_length_eq_zero hl
  rw[packs,if_pos (hf ai hR.1 fun q hq=>by simp only[dotP];omega)]
  exact List.mem_singleton.2 rfl
 |f+1,k,ai,[],hk,hR,hl,_,_,_=>by simp at hl
 |f+1,k,ai,n::y,hk,hR,hl,hv,hd,hf=>by
  have dd:ad.drop k=ad[k]! :: ad.drop (k+1):=by rw[getElem!_pos ad k qf];exact(List.drop_eq_getElem_cons qf)
  have hn:0<=n:=hv n<|List.mem_cons_self ..
  have hy:∀v∈y,0<=v:=fun v h=>hv v<|List.mem_cons_of_mem _ h
  obtain⟨p1,p2,j,p3,p4⟩:=hP k qf
  have hq0:∀q,q<K->n*(ad[k]!)[q]! <=ai[q]! :=fun q hq=>by
   have a:=hd q hq
   rw[dd,dotP] at a
   have b:=dotP_pos (q:=q) y (ad.drop<|k+1) hy fun p hp=>by
    obtain⟨i,hi,rfl⟩:=List.mem_iff_getElem.1<|List.mem_of_mem_drop hp
    rw[←getElem!_pos ad i hi];exact((hP i hi).2.1 q hq).1
   omega
  have hn1:n<=1000:=by
   have a:=hq0 j p3
   have b:=(hR.2 j p3).2
   have c:=Int.mul_le_mul_of_nonneg_left (show 1<=(ad[k]!)[j]! by omega) hn
   omega
  have ht:n<=jd (ad[k]!) ai:=le_times hn1 _ fun q hq=>hq0 q qf
  have en:((n.toNat:Nat):Int)=n:=Int.toNat_of_nonneg hn
  rw[packs,List.mem_flatMap]
  refine⟨n.toNat,List.mem_range.2 qf,List.mem_map.2 ⟨y,?_,by rw[en]⟩⟩
  rw[en]
  have hg:∀q,q<K->(jX ai (ad[k]!) (-n))[q]! =ai[q]!-n*(ad[k]!)[q]! :=fun q hq=>by rw[XM (by have:=hR.1;omega),Int.neg_mul];omega
  refine packs_has hP f (k+1) _ y qf (hR.take hP qf hn ht) (by simpa using hl) hy (fun q hq=>?_) fun r hr h=>hf r hr fun q hq=>?_
  ·have a:=hd q hq
   rw[dd,dotP] at a
   rw[hg q hq];omega
  ·rw[h q hq,hg q hq,dd,dotP];omega
theorem says_prod{s:qH}{t:qG}{k:Nat}:∀m,m<=(xP s t k).length->∀x,Says s t k m x->x∈Qm s.qB.length (xP s t k) (zI s t k) m
 |0,_,x,h=>by
  refine List.mem_singleton.2<|ext_get (by rw[h.1];simp) fun r hr=>?_
  rw[h.2.2 r (by rw[←h.1];exact hr) fun i hi=>by omega,getElem!_pos _ r<|by rw[List.length_replicate,←h.1];exact hr];simp
 |m+1,hm,x,⟨h1,h2,h3⟩=>by
  have hb:∀j,j<((xP s t k)[m]!).length->(((xP s t k)[m]!)[j]!).toNat<x.length:=fun j hj=>by rw[h1];exact(choice_at qf hj).2
  have hn:∀a b,a<((xP s t k)[m]!).length->b<((xP s t k)[m]!).length->(((xP s t k)[m]!)[a]!).toNat=(((xP s t k)[m]!)[b]!).toNat->a=b:=fun a b ha P5 e=>(rules_inj (show m<_ by omega) (show m<_ by omega) ha P5 e).2
  obtain⟨y,hy,hxy⟩:=h2 m qf
  let z:=List.replicate ((xP s t k)[m]!).length (0:Int)
  have hz:∀j,j<((xP s t k)[m]!).length->z[j]! =0:=fun j hj=>by
   show (List.replicate _ (0:Int))[j]! =0
   rw[getElem!_pos _ j<|by simpa using hj];simp
  have ho:Says s t k m (setAll x ((xP s t k)[m]!) z):=by
   refine⟨by rw[setAll_len];exact h1,fun i hi=>?_,fun r hr iQ=>?_⟩
   ·obtain⟨y',hy',h4⟩:=h2 i qf
    refine⟨y',hy',fun j hj=>?_⟩
    rw[←h4 j hj]
    exact setTo_ne (fun a ha e'=>absurd (rules_inj (show m<_ by omega) (show i<_ by omega) ha hj e').1 qf) hb
   ·by_cases hx:∃j,j<((xP s t k)[m]!).length/\(((xP s t k)[m]!)[j]!).toNat=r
    ·obtain⟨j,hj,rfl⟩:=hx
     exact(setTo_eq hn hb hj).trans<|hz j hj
    ·rw[←h3 r hr fun i hi j hj e=>by
      by_cases em:i=m
      ·subst em;exact hx ⟨j,hj,e⟩
      ·exact iQ i qf j hj e]
     exact setTo_ne (fun a ha e=>hx ⟨a,ha,e⟩) hb
  have IOz :=says_prod m qf _ ho
  rw[Qm,nextK,List.take_length,List.mem_flatMap]
  refine⟨_,IOz,List.mem_map.2 ⟨y,hy,?_⟩⟩
  have O4:∀j,j<((xP s t k)[m]!).length->(((xP s t k)[m]!)[j]!).toNat<(setAll x ((xP s t k)[m]!) z).length:=fun j hj=>by rw[setAll_len];exact hb j hj
  refine ext_get (by rw[setAll_len,setAll_len]) fun p hp=>?_
  by_cases hx:∃j,j<((xP s t k)[m]!).length/\(((xP s t k)[m]!)[j]!).toNat=p
  ·obtain⟨j,hj,rfl⟩:=hx
   rw[hxy j hj]
   exact setTo_eq hn O4 hj
  ·exact(setTo_ne (fun a ha e=>hx ⟨a,ha,e⟩) O4).trans<|setTo_ne (fun a ha e=>hx ⟨a,ha,e⟩) hb
theorem most_says(hs:vz s)(ht:xK s t){x:yLI}(hc:CntOk s x)(hm:VW s t x)(hg:GoodP s t s.qA.length):Says s t s.qA.length (xP s t s.qA.length).length x:=by
 have hB:=ht.2.1
 obtain⟨⟨g1,g2⟩,g3⟩:=hm
 refine⟨hc.1,fun i hi=>?_,fun r hr iQ=>Classical.byContradiction fun h0=>?_⟩
 ·obtain⟨c,mZ,hr,e1,e2⟩:=live_at hi
  rw[e1,e2]
  let y:=(vW s t c).map fun r=>x[r.toNat]!
  have yl:y.length=(vW s t c).length:=by simp[y]
  have yg:∀j,j<(vW s t c).length->x[((vW s t c)[j]!).toNat]! =y[j]! :=fun j hj=>by
   rw[getElem!_pos y j qf,getElem!_pos (vW s t c) j hj];simp[y]
  refine⟨y,?_,yg⟩
  have ecp:cellP s t c=y5 (t.qQ[c]!) (vY s<|vW s t c):=rfl
  have hcp:=(hg c mZ).resolve_left hr
  rw[ecp] at hcp ⊢
  rcases all_cases (b:=t.qQ[c]!) (ad:=vY s<|vW s t c) with h5|⟨_,h5,_⟩
  ·rw[h5] at hcp;simp at hcp
  ·rw[h5]
   have he:=restR_ent hs ht hc s.qB.length<|Nat.le_refl _
   have hl:((yB s t x s.qB.length)[c]!).length=yE s:=(he.sh.2 c<|by unfold jK;omega).1
   have AA:∀q,q<yE s->((yB s t x s.qB.length)[c]!)[q]! =(t.qQ[c]!)[q]!-dotP y ((vY s<|vW s t c).drop 0) q:=fun q hq=>by
    have heq:=he.eq c q (by unfold jK;omega) qf
    have hn:=needS_cell (t:=t) (x:=x) (c:=c) (q:=q) hs s.qB.length (Nat.le_refl _) fun k hk _ KW=>by
     by_cases h0:x[k]! =0
     ·exact h0
     ·exact absurd ⟨by have:=(hc.bd hk).1;omega,KW⟩<|g1 k<|by rw[hc.1];exact hk
    have h6:=sumOver_dot (s:=s) (x:=x) (q:=q) (l:=vW s t c) (y:=y) yl yg
    rw[heq,hn]
    show (t.qQ[c]!)[q]! + -(X9 s x q<|vW s t c)=_
    rw[h6,List.drop_zero]
    omega
   refine packs_has (cell_parts (t:=t) hs c) _ 0 _ y (Nat.zero_add _) (cell_rest ht qf) (by rw[yl,Q7]) (fun v hv=>?_) (fun q hq=>?_) fun r On hrg=>?_
   ·obtain⟨r,hr1,rfl⟩:=List.mem_map.1 hv
    obtain⟨j,hj,rfl⟩:=List.mem_iff_getElem.1 hr1
    have:=cellR_at hj
    rw[getElem!_pos _ j hj] at this
    exact(hc.bd this.2.1).1
   ·rw[←AA q hq]
    have:=g2 c qf q<|by rw[hc.1,hl];exact hq
    rw[hc.1] at this;exact this
   ·have er:r=(yB s t x s.qB.length)[c]! :=ext_get qf fun q hq=>by rw[hrg q qf,AA q qf]
    subst er
    intro j hj
    rw[Q7] at hj
    obtain⟨a1,a2,a3,a4⟩:=cellR_at hj
    have:=g3 _ a2 a3
    rw[needs_get hj]
    rw[a4,Int.toNat_natCast,hc.1] at this
    exact this
 ·have hp:0<x[r]! :=by have:=(hc.bd hr).1;omega
  have ha:Appl s t r:=Classical.byContradiction fun ha=>g1 r (by rw[hc.1];exact hr) ⟨hp,ha⟩
  have mZ:=(hs.rule (i:=r) hr).1
  obtain⟨c,ec⟩:∃c:Nat,(s.qB[r]!).qY=(c:Int):=⟨(s.qB[r]!).qY.toNat,by have:=mZ.1;omega⟩
  obtain⟨j,hj,ej⟩:=List.mem_iff_getElem.1<|cellT_mem hr ha ec
  obtain⟨i,hi,e1,_⟩:=cell_live (s:=s) (t:=t) (k:=s.qA.length) (c:=c) (by have:=mZ;have:=ec;omega) qf
  exact iQ i hi j (by rw[e1];exact hj)<|by rw[e1,getElem!_pos _ j hj,ej,Int.toNat_natCast]
theorem cho_has(hs:vz s)(ht:xK s t)(h:(zK s t).2=0){x:yLI}(hc:CntOk s x)(hm:VW s t x):x∈(zK s t).1:=by
 unfold zK at h ⊢
 split at h
 ·simp at h
 ·next h1=>
  split at h
  ·simp at h
  ·next h2=>
   rw[if_neg h1,if_neg h2]
   have hp:=says_prod _ (Nat.le_refl _) x<|most_says hs ht hc hm<|Classical.byContradiction h1
   rw[←packsL_le] at hp
   show x∈inOrder _
   unfold inOrder
   split
   ·next h3=>exact(Classical.choose_spec h3).1.subset hp
   ·exact hp
theorem left_none{l m:yLI}(hl:l.length=K)(hb:∀q,q<K->0<=l[q]! /\l[q]! <=1000)(hj:∃j,j<K/\0<l[j]!)(hR:RestOk K m):within l (jX m l (-(jd l m)))=false:=by
 have hP:Yc K [l]:=fun i hi=>by
  obtain rfl:i=0:=by simp at hi;omega
  exact⟨hl,hb,hj⟩
 have ht:=times_bd hP hR (k:=0) qm
 by_cases h:jd l m<1000
 ·exact within_none hP hR (k:=0) qm h
 ·obtain⟨j,h1,h2⟩:=hj
  have h3:jd l m=1000:=by have:jd l m<=1000:=ht.2;omega
  rw[h3]
  refine within_no (k:=j) ?_ qf
  rw[XM (by have:=hR.1;omega)]
  have:=(hR.2 j h1).2
  omega
theorem within_down{l a b:yLI}(h:within l a=false)(h1:∀q,q<l.length->b[q]! <=a[q]!):within l b=false:=by
 rw[Bool.eq_false_iff] at h ⊢
 intro hw
 rw[within_iff] at hw
 refine h<|within_iff.2 fun q hq=>?_
 have:=hw q hq
 have:=h1 q hq
 omega
theorem first_full{s:qH}{t:qG}(hs:vz s)(ht:xK s t):∀k,k<=s.qB.length->∀i,i<k->Appl s t i->within (s.qB[i]!).zJ ((yM s t k)[(s.qB[i]!).qY.toNat]!)=false
 |0,_,i,hi,_=>by omega
 |k+1,hk,i,hi,ha=>by
  by_cases KW:Appl s t k
  ·have hr:=hs.rule (i:=k) qf
   have hb:=hr.2.2.2.2.1
   have uQ:=firstR_row hs ht (k:=k) qf hr.cell
   have hRk:RestOk (yE s) ((yM s t k)[(s.qB[k]!).qY.toNat]!):=⟨uQ.1,uQ.2.2⟩
   have hti:=X0 (l:=(s.qB[k]!).zJ) (m:=(yM s t k)[(s.qB[k]!).qY.toNat]!) (fun j hj=>(uQ.2.2 j<|by rw[←hb.len];exact hj).1) _<|Nat.le_refl _
   rw[firstR_yes KW]
   rw[getset<|by rw[(firstR_box hs ht k qf).1];exact hr.cell]
   by_cases e:i=k
   ·subst e
    rw[if_pos rfl]
    exact left_none hb.len (fun q hq=>hb.get<|by rw[hb.len];exact hq) (need_some hs qf) hRk
   ·have ih:=first_full hs ht k qf i qf ha
    split
    ·next ec=>
     rw[ec] at ih
     refine within_down ih fun q hq=>?_
     have hql:q<yE s:=by have:=(hs.rule (i:=i) qf).2.2.2.2.1.len;omega
     rw[XM<|by rw[uQ.1];exact hql,Int.neg_mul]
     have:=Int.mul_nonneg hti.1 (hb.get (k:=q)<|by rw[hb.len];exact hql).1
     unfold jd;omega
    ·exact ih
  ·rw[firstR_no KW]
   have iQ:i≠k:=fun e=>KW<|e▸ha
   exact first_full hs ht k qf i qf ha
where
 need_some {s:qH} (hs:vz s) {k:Nat} (hk:k<s.qB.length):∃j,j<yE s/\0<((s.qB[k]!).zJ)[j]! :=by
  have q:=hs.rule hk
  have b:=q.2.2.2.2.1
  have hl:=b.len
  obtain⟨j,hj,hp⟩:=sum_pos b.1 q.2.2.2.2.2.2.2.2.2.1
  exact⟨j,by omega,hp⟩
theorem first_most(hs:vz s)(ht:xK s t):VW s t (yA s t):=by
 refine⟨first_isCh hs ht,fun i hi ha=>?_⟩
 rw[show (yA s t).length=s.qB.length from Qx _ _ _ _,first_rest hs ht _<|Nat.le_refl _]
 exact first_full hs ht _ (Nat.le_refl _) i hi ha
theorem first_in(hs:vz s)(ht:xK s t)(h:(zK s t).2=0):yA s t∈(zK s t).1:=cho_has hs ht h (first_cnt hs ht)<|first_most hs ht
def WayF(R:yLL):Nat->Nat->Nat->Prop
 |0,i,j=>i=j
 |n+1,i,j=>∃k,k<(R[i]!).length/\WayF R n ((R[i]!)[k]!).toNat j
theorem WayF.snoc{R:yLL}{j:Nat}:∀ {n i m:Nat},WayF R n i m->InRow R m j->WayF R (n+1) i j
 |0,i,m,h,⟨k,hk,e⟩=>by
  have h:i=m:=h
  subst h;exact⟨k,hk,e⟩
 |n+1,i,m,⟨k,hk,h⟩,hr=>⟨k,hk,WayF.snoc h hr⟩
theorem WayF.lt{S:List qG}{R:yLL}(g:GrOk S R)(hl:R.length=S.length):∀ {n i j:Nat},i<S.length->WayF R n i j->j<S.length
 |0,i,j,hi,h=>by have h:i=j:=h;omega
 |n+1,i,j,hi,⟨k,hk,h⟩=>WayF.lt g hl (g.rows i qf k hk).2 h
theorem mxF_ge{g:Nat->Int}{r:yLI}:∀ {m k:Nat},k<m->g ((r[k]!).toNat)+1<=mxF g r m
 |m+1,k,h=>by
  rw[mxF]
  by_cases e:k=m
  ·subst e;omega
  ·have:=mxF_ge (g:=g) (r:=r) (show k<m by omega);omega
theorem mxF_pos{g:Nat->Int}{r:yLI}:∀m,0<=mxF g r m
 |0=>Int.le_refl _
 |m+1=>by rw[mxF];have:=mxF_pos (g:=g) (r:=r) m;omega
theorem mxF_at{g:Nat->Int}{r:yLI}:∀ {m:Nat},(∀k,k<m->0<=g ((r[k]!).toNat))->0<m->∃k,k<m/\mxF g r m=g ((r[k]!).toNat)+1
 |m+1,h,_=>by
  rw[mxF]
  have h0:=h m qf
  by_cases e:mxF g r m<=g ((r[m]!).toNat)+1
  ·exact⟨m,by omega,by omega⟩
  ·by_cases hm:m=0
   ·subst hm;rw[mxF] at e;omega
   ·obtain⟨k,hk,e2⟩:=mxF_at (g:=g) (r:=r) (m:=m) (fun k hk=>h k qf) qf
    exact⟨k,by omega,by omega⟩
theorem dp_pos:∀f i,0<=dpN R f i
 |0,_=>Int.le_refl _
 |_+1,_=>mxF_pos _
theorem way_le{R:yLL}:∀ {f i n j:Nat},HaltIn R f i->WayF R n i j->(n:Int)<=dpN R f i
 |0,_,_,_,h,_=>h.elim
 |f+1,i,0,j,h,_=>dp_pos _ _
 |f+1,i,n+1,j,h,⟨k,hk,hw⟩=>by
  have:=way_le (h k hk) hw
  have h2:=mxF_ge (g:=dpN R f) (r:=R[i]!) hk
  rw[dpN];omega
theorem way_at{R:yLL}:∀ {f i:Nat},HaltIn R f i->∃j,WayF R (dpN R f i).toNat i j
 |0,_,h=>h.elim
 |f+1,i,h=>by
  by_cases e:(R[i]!).length=0
  ·exact⟨i,by rw[dpN,e];rfl⟩
  ·obtain⟨k,hk,e2⟩:=mxF_at (g:=dpN R f) (r:=R[i]!) (m:=(R[i]!).length) (fun k _=>dp_pos f _) qf
   obtain⟨j,hj⟩:=way_at<|h k hk
   refine⟨j,?_⟩
   have h0:=dp_pos (R:=R) f ((R[i]!)[k]!).toNat
   rw[dpN,e2,show (dpN R f ((R[i]!)[k]!).toNat+1).toNat=(dpN R f ((R[i]!)[k]!).toNat).toNat+1 by omega]
   exact⟨k,hk,hj⟩
theorem lon_le(h:Halts R 0)(hw:WayF R n 0 j):(n:Int)<=lonD R:=by
 obtain⟨f,hf⟩:=h
 rw[lonD_of ⟨f,hf,rfl⟩];exact way_le hf hw
theorem lon_at(h:Halts R 0):0<=lonD R/\∃j,WayF R (lonD R).toNat 0 j:=by
 obtain⟨f,hf⟩:=h
 rw[lonD_of ⟨f,hf,rfl⟩];exact⟨dp_pos _ _,way_at hf⟩
theorem walk_steps(g:GrOk S R):∀j,j<S.length->WayF R (yt R j) 0 j:=fun j=>Nat.strongRecOn j fun j ih hj=>by
 by_cases h0:0<j
 ·have hf:=frm_ok g h0 hj
  rw[steps_succ g h0 hj]
  exact(ih _ hf.2 qf).snoc hf.1.2.2.1
 ·obtain rfl:j=0:=by omega
  rw[steps_zero];rfl
theorem nextTo_has{s:qH}{t:qG}{cs:yLL}:∀k q,q<k->(zA s t<|cs[q]!).1∈yV s t cs k
 |k+1,q,h=>by
  rw[yV]
  by_cases e:q=k
  ·subst e
   split
   ·assumption
   ·exact List.mem_append_right _<|List.mem_singleton.2 rfl
  ·have ih:=nextTo_has (s:=s) (t:=t) (cs:=cs) k q qf
   split
   ·exact ih
   ·exact List.mem_append_left _ ih
theorem succ_first(hs:vz s)(ht:xK s t)(hh:¬Halted s t)(hc:(qW s t).2=0):(zA s t<|yA s t).2=0/\(zA s t<|yA s t).1∈(qW s t).1:=by
 by_cases h2:(zK s t).2=0
 ·obtain⟨q,hq,e⟩:=List.mem_iff_getElem.1 (first_in hs ht h2)
  rw[succ_0 hh h2] at hc ⊢
  by_cases hb:NoBad s t (zK s t).1 (zK s t).1.length
  ·have h:=nextTo_has (s:=s) (t:=t) (cs:=(zK s t).1) _ q hq
   have h3:=hb q hq
   rw[next_ok hb]
   rw[getElem!_pos _ q hq,e] at h
   refine⟨Classical.byContradiction fun hx=>h3 ?_,h⟩
   show (zA s t ((zK s t).1[q]!)).2≠0
   rw[getElem!_pos _ q hq,e];exact hx
  ·rw[Q5,if_neg hb] at hc
   obtain⟨j,hj,hx⟩:∃j,j<(zK s t).1.length/\CodeBad s t (zK s t).1 j:=Classical.byContradiction fun hx=>hb fun j hj am1=>hx ⟨j,hj,am1⟩
   obtain⟨m,a,b,c⟩:=least_of (g:=fun k=>dec<|CodeBad s t (zK s t).1 k) j<|jP hx
   have O4:CodeBad s t (zK s t).1 m:=Classical.byContradiction fun hx=>by rw[xw hx] at b;cases b
   have:=next_bad (s:=s) (t:=t) (cs:=(zK s t).1) (k:=m) (fun i hi hx=>by have:=c i hi;rw[jP hx] at this;cases this) qf O4
   rw[Q5,if_neg hb] at this
   rw[this] at hc
   exact absurd hc O4
 ·rw[succ_c h2] at hc;exact absurd hc h2
theorem GrFull.first{s:qH}{t:qG}{S:List qG}{R:yLL}(g:GrFull s t S R)(hs:vz s):∀(f i:Nat) (iu:Int),i<S.length→
 ∃n j,n<=f/\WayF R n i j/\runGo s f iu (S[i]!)=(S[j]!,iu+(n:Int),0)/\(n=f\/Halted s (S[j]!))
 |0,i,iu,hi=>⟨0,i,Nat.le_refl _,rfl,by rw[runGo];simp,.inl rfl⟩
 |f+1,i,iu,hi=>by
  have hst:xK s (S[i]!):=g.all.st _<|by rw[getElem!_pos S i hi];exact List.getElem_mem _
  by_cases hh:Halted s (S[i]!)
  ·exact⟨0,i,by omega,rfl,by rw[runGo_halt hh];simp,.inr hh⟩
  ·obtain⟨h1,h2⟩:=succ_first hs hst hh (g.code i hi)
   obtain⟨k,hk,e⟩:=List.mem_iff_getElem.1 h2
   have za :k<(R[i]!).length:=by rw[g.rlen i hi];exact hk
   have hr:=g.rat i hi k za
   rw[getElem!_pos (qW s<|S[i]!).1 k hk,e] at hr
   have jj:=g.all.len
   have Bp:=(g.all.ok.rows i qf k za).2
   obtain⟨n,j,a,b,c,d⟩:=GrFull.first g hs f ((R[i]!)[k]!).toNat (iu+1) Bp
   refine⟨n+1,j,by omega,⟨k,za,b⟩,?_,d.imp qf id⟩
   rw[runGo_go rfl hh h1,←hr,c,show iu+1+(n:Int)=iu+((n+1:Nat):Int) by omega]
theorem GrFull.lev{s:qH}{t:qG}{S:List qG}{R:yLL}(g:GrFull s t S R):∀(n:Nat) (l:List qG),(∀u∈l,u∈S)→
 ∃o,saRun s n l=(o,0)/\(∀v∈o,∃i j,i<S.length/\S[i]! ∈l/\WayF R n i j/\S[j]! =v)/\∀i j,i<S.length->S[i]! ∈l->WayF R n i j->S[j]! ∈o
 |0,l,hl=>⟨l,rfl,fun v hv=>by
  obtain⟨i,hi,rfl⟩:=List.mem_iff_getElem.1 (hl v hv)
  exact⟨i,i,hi,by rw[getElem!_pos S i hi];exact hv,rfl,getElem!_pos S i hi⟩,fun i j hi hm h=>by
  have h:i=j:=h
  subst h;exact hm⟩
 |n+1,l,hl=>by
  have jj:=g.all.len
  have Uk:∀i,i<S.length->∀v,v∈(qW s<|S[i]!).1->∃k,k<(R[i]!).length/\S[((R[i]!)[k]!).toNat]! =v/\((R[i]!)[k]!).toNat<S.length:=fun i hi v hv=>by
   obtain⟨k,hk,rfl⟩:=List.mem_iff_getElem.1 hv
   have za :k<(R[i]!).length:=by rw[g.rlen i hi];exact hk
   have:=g.rat i hi k za
   rw[getElem!_pos (qW s<|S[i]!).1 k hk] at this
   exact⟨k,za,this,(g.all.ok.rows i qf k za).2⟩
  obtain⟨o,e1,_,e3⟩:=saGo_mem (s:=s) (T:=S) g.all.le (l:=l) (out:=[]) qm qm fun u hu=>by
   obtain⟨i,hi,rfl⟩:=List.mem_iff_getElem.1<|hl u hu
   rw[←getElem!_pos S i hi]
   refine⟨g.code i hi,fun v hv=>?_⟩
   obtain⟨k,_,rfl,hr⟩:=Uk i hi v hv
   rw[getElem!_pos S _ hr];exact List.getElem_mem hr
  obtain⟨o',f1,f2,f3⟩:=GrFull.lev g n o fun u hu=>by
   rcases(e3 u).1 hu with h|⟨w,hw,h⟩
   ·simp at h
   ·obtain⟨i,hi,rfl⟩:=List.mem_iff_getElem.1 (hl w hw)
    obtain⟨k,_,rfl,hr⟩:=Uk i hi u<|by rw[getElem!_pos S i hi];exact h
    rw[getElem!_pos S _ hr];exact List.getElem_mem hr
  refine⟨o',by rw[saRun,if_neg<|by rw[e1];simp,e1];exact f1,fun v hv=>?_,fun i j hi hm hw=>?_⟩
  ·obtain⟨m,j,hm,hmo,hw,rfl⟩:=f2 v hv
   rcases(e3 _).1 hmo with h|⟨w,UW,h⟩
   ·simp at h
   ·obtain⟨i,hi,rfl⟩:=List.mem_iff_getElem.1 (hl w UW)
    obtain⟨k,hk,e,hr⟩:=Uk i hi _<|by rw[getElem!_pos S i hi];exact h
    have:=idx_of g.nd hr hm e
    exact⟨i,j,hi,by rw[getElem!_pos S i hi];exact UW,⟨k,hk,by rw[this];exact hw⟩,rfl⟩
  ·obtain⟨k,hk,hw⟩:=hw
   refine f3 _ j (g.all.ok.rows i qf k hk).2 ((e3 _).2<|.inr ⟨_,hm,?_⟩) hw
   have hk2:k<(qW s<|S[i]!).1.length:=by rw[←g.rlen i hi];exact hk
   rw[g.rat i hi k hk,getElem!_pos _ k hk2];exact List.getElem_mem hk2
theorem has_at{u:yLI}(hk:k<l.length)(h:l[k]! =u):u∈l:=h▸mem_at_L hk
theorem has_not{u:yLI}(h:∀j,j<k->l[j]! ≠u)(hk:l.length<=k):¬u∈l:=fun hm=>by
 obtain⟨j,hj,e⟩:=List.mem_iff_getElem.1 hm
 exact h j qf<|by rw[getElem!_pos l j hj];exact e
def RiseTo(l:yLL)(n:Int)(k:Nat):Prop:=∀i,i<k->((l[i]!).length:Int)=n/\(0<i->ahead (l[i-1]!) (l[i]!))
theorem RiseTo.succ{n:Int}(h:RiseTo l n k)(h1:((l[k]!).length:Int)=n)(h2:0<k->ahead (l[k-1]!) (l[k]!)):RiseTo l n (k+1):=fun i hi=>by
 by_cases e:i=k
 ·subst e;exact⟨h1,h2⟩
 ·exact h i qf
variable{s : qH}{t : qG}
theorem ah_code:(Qn s t).2=(yG s t).2:=by
 unfold Qn yG
 split
 ·split
  ·next h=>exact h.symm
  ·rfl
 ·rfl
theorem ic_code:(icRes s t).2=(yG s t).2:=by
 unfold icRes
 split
 ·next h=>exact h.symm
 ·rfl
theorem rs_code(h:vz s/\xK s t){cell:Int}(h1:0<=cell/\cell<=(s.qA.length:Int)):(Xt s t cell).2=(yG s t).2:=by
 unfold Xt
 rw[if_pos h,if_pos h1]
 split
 ·next h=>exact h.symm
 ·rfl
structure HaltsAt(s:qH)(t:qG):Prop where
 ex:(yG s t).2=0
theorem ah_is(h:(yG s t).2=0):(Qn s t).1=dec (Halts (exG s t).fNext 0):=by
 have hv:=VA h
 have e:=ex_0 hv rfl
 have h':=h
 rw[e] at h'
 rw[Qn,if_pos hv,if_pos h',exG,e]
theorem ic_is(h:(yG s t).2=0):(icRes s t).1=((Qn s t).1 && decide ((vK s t).1.length=1)):=by
 rw[ah_is h,icRes,if_pos h,hs_0 h]
 by_cases hh:Halts (exG s t).fNext 0
 ·rw[jP hh,if_pos hh];simp
 ·rw[xw hh,if_neg hh];rfl
theorem ends_mem(h:(yG s t).2=0):u∈(vK s t).1<->∃j,j<(exG s t).xq.length/\(exG s t).xq[j]! =u/\Halted s u:=by
 rw[hs_0 h]
 show u∈endsL _ _ _<->_
 unfold endsL
 rw[List.take_length,List.mem_filter]
 constructor
 ·rintro⟨h1,h2⟩
  obtain⟨j,hj,rfl⟩:=List.mem_iff_getElem.1 h1
  exact⟨j,hj,getElem!_pos _ j hj,Classical.byContradiction fun hx=>by rw[xw hx] at h2;cases h2⟩
 ·rintro⟨j,hj,rfl,h2⟩
  exact⟨by rw[getElem!_pos _ j hj];exact List.getElem_mem hj,jP h2⟩
theorem ends_at(h:(yG s t).2=0)(hi:i<(vK s t).1.length):xK s ((vK s t).1[i]!)/\Halted s ((vK s t).1[i]!):=by
 have hm:(vK s t).1[i]! ∈(vK s t).1:=by rw[getElem!_pos _ i hi];exact List.getElem_mem hi
 exact⟨(hs_ok<|by rw[hs_code];exact h).1 _ hm,by obtain⟨j,_,_,h2⟩:=(ends_mem h).1 hm;exact h2⟩
theorem bg_mem{N:Nat}{cell:Int}{E:List qG}:∀ {k i:Nat},i<k->∀ {b:yLI},resB N cell (E[i]!)=some b->b∈bgL N cell E k
 |k+1,i,hi,b,hb=>by
  rw[bgL]
  by_cases e:i=k
  ·subst e;rw[hb];simp
  ·have ih:=bg_mem (show i<k by omega) hb
   split
   ·exact ih
   ·exact List.mem_append_left _ ih
theorem bgs_len{N:Nat}{cell:Int}{E:List qG}:∀k,(bgL N cell E k).length<=k
 |0=>Nat.le_refl _
 |k+1=>by
  rw[bgL]
  have:=bgs_len (N:=N) (cell:=cell) (E:=E) k
  split
  ·omega
  ·rw[List.length_append,List.length_singleton];omega
theorem rs_is(h:(yG s t).2=0){cell:Int}(h1:0<=cell/\cell<=(s.qA.length:Int)):(Xt s t cell).1=rsL s.qA.length cell (vK s t).1 (vK s t).1.length:=by
 rw[hs_0 h,rs_0 (VA h) h1 h rfl rfl]
theorem rs_has(h:(yG s t).2=0){cell:Int}(h1:0<=cell/\cell<=(s.qA.length:Int))(hi:i<(vK s t).1.length){b:yLI}(hb:resB s.qA.length cell ((vK s t).1[i]!)=some b):b∈(Xt s t cell).1:=by
 rw[rs_is h h1];exact(rs_mem _).2<|bg_mem hi hb
theorem asc_nodup(h:l.Pairwise ahead):l.Nodup:=h.imp fun⟨i,_,_,h3⟩ e=>by rw[e] at h3;omega
theorem rs_fewer(h:(yG s t).2=0){cell:Int}(h1:0<=cell/\cell<=(s.qA.length:Int)):(Xt s t cell).1.length<=(vK s t).1.length:=by
 have ha:=rs_asc (s:=s) (cell:=cell) (E:=(vK s t).1) (hs_ok<|by rw[hs_code];exact h).1 h1 _<|Nat.le_refl _
 rw[rs_is h h1]
 exact Nat.le_trans (nodup_le (asc_nodup ha) fun x hx=>(rs_mem _).1 hx)<|bgs_len _
theorem rs_rise(h:(yG s t).2=0){cell:Int}(h1:0<=cell/\cell<=(s.qA.length:Int))(hi:i<(Xt s t cell).1.length):((Xt s t cell).1[i]!).length=s.zf.toNat/\(0<i->ahead ((Xt s t cell).1[i-1]!) ((Xt s t cell).1[i]!)):=by
 have hE:=(hs_ok (s:=s) (t:=t)<|by rw[hs_code];exact h).1
 have ha:=rs_asc (s:=s) (cell:=cell) (E:=(vK s t).1) hE h1 _<|Nat.le_refl _
 rw[rs_is h h1] at hi ⊢
 refine⟨rs_row hE h1 (Nat.le_refl _) i hi,fun h0=>?_⟩
 rw[getElem!_pos _ (i-1) qf,getElem!_pos _ i hi]
 exact List.pairwise_iff_getElem.1 ha (i-1) i qf hi qf
theorem QI(h:(yG s t).2=0){cell:Int}(h1:0<=cell/\cell<=(s.qA.length:Int)){n:Int}(hn:n=s.zf)(h0:0<=s.zf):RiseTo (Xt s t cell).1 n (Xt s t cell).1.length:=fun i hi=>by
 obtain⟨a,b⟩:=rs_rise h h1 hi
 exact⟨by omega,b⟩
theorem sh_code(h:(yG s t).2=0):((QK s t).2=0<->0<(vK s t).1.length)/\((QK s t).2=0->∃j,j<(exG s t).xq.length/\Halted s ((exG s t).xq[j]!)/\(QK s t).1=(stRes s t ((exG s t).xq[j]!)).1):=by
 have ga:=ex_all h
 have hl:=ga.len
 have e:(vK s t).1.length=(idxL (exG s t).fNext (exG s t).fNext.length).length:=by
  rw[hs_0 h,←hl,←idx_ends ga _<|Nat.le_refl _,List.length_map]
 by_cases h2:(idxL (exG s t).fNext (exG s t).fNext.length).length=0
 ·rw[sh_6 h rfl h2]
  exact⟨⟨fun hx=>absurd hx<|by show ¬(6:Int)=0;omega,fun hx=>by omega⟩,fun hx=>absurd hx<|by show ¬(6:Int)=0;omega⟩
 ·rw[sh_0 h rfl h2]
  refine⟨⟨fun _=>by omega,fun _=>rfl⟩,fun _=>?_⟩
  have hx:=idx_at (R:=(exG s t).fNext) (k:=(exG s t).fNext.length) (q:=0) qf
  have hj:((idxL (exG s t).fNext (exG s t).fNext.length)[0]!).toNat<(exG s t).xq.length:=by omega
  refine⟨_,hj,?_,by rw[graph_st h hj]⟩
  refine(ga.ht _ hx.2).1 ?_
  have hm:(idxL (exG s t).fNext (exG s t).fNext.length)[0]! ∈idxL (exG s t).fNext (exG s t).fNext.length:=by rw[getElem!_pos _ 0 qf];exact List.getElem_mem qf
  unfold idxL at hm
  obtain⟨i,hi,e2⟩:=List.mem_map.1 hm
  have h3:=of_decide_eq_true (List.mem_filter.1 hi).2
  have e3:((idxL (exG s t).fNext (exG s t).fNext.length)[0]!).toNat=i:=by unfold idxL;rw[←e2];rfl
  rw[e3];exact h3
theorem lr_code(h:(yG s t).2=0):((QD s t).2=0<->Halts (exG s t).fNext 0)/\(Halts (exG s t).fNext 0->QD s t=(lonD (exG s t).fNext,0)):=by
 have hv:=VA h
 have e:=ex_0 hv rfl
 have h':=h
 rw[e] at h'
 rw[QD,if_pos hv,if_pos h',exG,e]
 by_cases hh:Halts (Yf s t).1.2 0
 ·rw[if_pos hh];exact⟨⟨fun _=>hh,fun _=>rfl⟩,fun _=>rfl⟩
 ·rw[if_neg hh];exact⟨⟨fun hx=>absurd hx<|by show ¬(4:Int)=0;omega,fun hx=>absurd hx hh⟩,fun hx=>absurd hx hh⟩
theorem sh_run(h:(yG s t).2=0)(h6:(QK s t).2=0):(XP s t (QK s t).1).2=0/\(XP s t (QK s t).1).1∈(vK s t).1/\(Halts (exG s t).fNext 0->((QK s t).1.length:Int)<=(QD s t).1):=by
 obtain⟨j,hj,hh,e⟩:=(sh_code h).2 h6
 rw[e,graph_run h hj]
 refine⟨rfl,(ends_mem h).2 ⟨j,hj,rfl,hh⟩,fun hx=>?_⟩
 rw[((lr_code h).2 hx),graph_len h hj]
 show ((yt (exG s t).fNext j:Nat):Int)<=lonD (exG s t).fNext
 exact lon_le hx<|walk_steps (ex_full h).all.ok j hj
theorem lr_pos(h:(yG s t).2=0)(hx:Halts (exG s t).fNext 0):0<=(QD s t).1:=by rw[(lr_code h).2 hx];exact(lon_at hx).1
theorem VL(ie:a=(b && d))(h:b=false)(h1:a≠false):False:=by subst h ie;exact h1 rfl
theorem Vo(ie:a=(b && decide (n=1)))(h:b=true)(h1:a≠((n:Int) == 1)):False:=by
 subst h ie
 refine h1 ?_
 show decide (n=1)=((n:Int) == 1)
 by_cases e:n=1
 ·subst e;rfl
 ·rw[decide_eq_false e];exact(beq_eq_false_iff_ne.2 qf).symm
theorem X5{a:Int}(h:a=0<->0<n)(h1:(a == 0)≠decide ((n:Int)>0)):False:=by
 refine h1 ?_
 by_cases e:a=0
 ·rw[decide_eq_true (by have:=h.1 e;omega)];subst e;rfl
 ·rw[decide_eq_false<|fun hx=>e<|h.2 qf];exact beq_eq_false_iff_ne.2 e
theorem Vm{a:Int}{v:Bool}{P:Prop}(h:a=0<->P)(ae:b=dec P)(e:b=v)(h1:(a == 0)≠v):False:=by
 refine h1 ?_
 subst e
 by_cases x:P
 ·rw[ae,jP x,h.2 x];rfl
 ·rw[ae,xw x];exact beq_eq_false_iff_ne.2 fun hx=>x<|h.1 hx
theorem halts_f(ie:a=(b && d))(h:b=false):(a != false)=false:=by subst h ie;rfl
theorem halts_g(ie:a=(b && decide (n=1)))(h:b=true):(a != ((n:Int) == 1))=false:=by
 cases hx:(a != ((n:Int) == 1)) with
 |false=>rfl
 |true=>exact(Vo ie h<|bne_iff_ne.1 hx).elim
theorem halts_h{a:Int}{P:Prop}(h:a=0<->P)(ae:b=dec P):((a == 0) != b)=false:=by
 cases hx:((a == 0) != b) with
 |false=>rfl
 |true=>exact(Vm h ae rfl<|bne_iff_ne.1 hx).elim
theorem Xu{P:Prop}(ae:b=dec P)(e:b=true):P:=Classical.byContradiction fun x=>by rw[xw x,e] at ae;cases ae
theorem halts_run(h:(yG s t).2=0)(hx:Halts (exG s t).fNext 0)(hl:(QD s t).1<=199):(QH s t 200).2.2=0/\(QH s t 200).1∈(vK s t).1/\(QH s t 200).2.1<=(QD s t).1:=by
 have hv:=VA h
 have g:=ex_full h
 have hg:=g.all.pos
 rw[(lr_code h).2 hx] at hl ⊢
 obtain⟨n,j,h1,h2,h3,h4⟩:=g.first hv.1 200 0 0 hg
 rw[g.fst] at h3
 rw[run_0 hv qf,show (200:Int).toNat=200 from rfl,h3]
 have hn:=lon_le hx h2
 refine⟨rfl,(ends_mem h).2 ⟨j,WayF.lt g.all.ok g.all.len hg h2,rfl,h4.resolve_left qf⟩,by show (0:Int)+(n:Int)<=_;omega⟩
theorem halts_after(h:(yG s t).2=0)(hx:Halts (exG s t).fNext 0)(hl:(QD s t).1<=199):(Va s t (QD s t).1).2=0/\0<(Va s t (QD s t).1).1.length/\(Va s t ((QD s t).1+1)).2=0/\(Va s t ((QD s t).1+1)).1.length=0:=by
 have hv:=VA h
 have g:=ex_full h
 have hg:=g.all.pos
 rw[(lr_code h).2 hx] at hl ⊢
 obtain⟨h0,j,hj⟩:=lon_at hx
 have ht:∀u∈[t],u∈(exG s t).xq:=fun u hu=>by
  have hm:(exG s t).xq[0]! ∈(exG s t).xq:=by rw[getElem!_pos _ 0 hg];exact List.getElem_mem hg
  rw[g.fst] at hm
  rw[List.mem_singleton.1 hu];exact hm
 have h00:(exG s t).xq[0]! ∈[t]:=by rw[g.fst];simp
 show (Va s t<|lonD _).2=0/\0<(Va s t<|lonD _).1.length/\(Va s t<|lonD _+1).2=0/\(Va s t<|lonD _+1).1.length=0
 unfold Va
 rw[if_pos hv,if_pos qf,if_pos hv,if_pos qf]
 obtain⟨o,e1,_,e3⟩:=g.lev (lonD (exG s t).fNext).toNat [t] ht
 obtain⟨o',f1,f2,_⟩:=g.lev (lonD (exG s t).fNext+1).toNat [t] ht
 rw[e1,f1]
 refine⟨rfl,List.length_pos_of_mem<|e3 0 j hg h00 hj,rfl,?_⟩
 refine Classical.byContradiction fun iQ=>?_
 obtain⟨v,Sk⟩:=List.exists_mem_of_length_pos (show 0<o'.length by have:¬o'.length=0:=iQ;omega)
 obtain⟨i,j',hi,hm,hw,_⟩:=f2 v Sk
 have e0:i=0:=idx_of g.nd hi hg<|by rw[g.fst];exact List.mem_singleton.1 hm
 subst e0
 have:=lon_le hx hw
 omega
end
section
variable{cl : Nat}
theorem a2Has_ok(w:World)(l:yLL)(u:yLI){au:yOA}{cu:Nat}{Fu:yLN}(hl:zP w Fl al cl l)(hu:zP w Fu au cu u):Calls Tryz.prog 35 #[Sv al l.length cl,Sv au u.length cu] w (Ret (fun v w'=>v=Bv (dec<|u∈l)) w):=by
 refine en func35 ntmps35 ?_
 have H:=((St.start w).arg hu).arg hl
 have y4:=qR hl
 clear hl hu
 have N:=Fresh.nil w.heap.size
 refine zcr<|sp (Bv false)<|zjcc<|sp (yI 0)<|zjn<|xf<|zD ((fun Z0 Z1=>fun m' ρ w1=>∃(xN:Env) (i:Nat),ρ=upd (upd (upd xN 0<|Sv al l.length cl) 1<|Sv au u.length cu) 5 (yI i)/\((i:Int)<=l.length)/\(∀j,j<i->l[j]! ≠u)/\m'=(l.length-(i:Int)).toNat/\Fresh w.heap.size []/\St w w1 [] [Z0,Z1]) _ _) ((l.length-(0:Int)).toNat) ⟨_,0,uE3,qf,qx,rfl,N,H⟩ ?_
 clear H N
 rintro m' ρ w2 ⟨xN,i,rfl,i0,i1,rfl,N,H⟩
 refine zcc<|sp (yI i)<|sq 1<|oN rfl<|sq 1<|zjn<|cD rfl (fun h3=>?_)<|fun h3=>?_
 ·refine qZ (t_n<|xU<|xf<|zcr<|sq 1<|sp (yI i) ?_)
  obtain⟨b4,o5,rfl⟩:=H.addr 0 rfl qf
  obtain⟨ae7,ce7,Fe7,H⟩:=H.jo 0 rfl i i qf qf qf
  refine oI rfl rfl<|oL rfl (H.zo 1 rfl 0 rfl)<|sq 1<|sw<|oq (a2Same_ok _ (l[i]!) u (H.get 0 rfl).1 (H.get 3 rfl).1) H fun w9 H=>zjn<|cD rfl (fun aV=>?_)<|fun aV=>?_
  ·refine zcr (sp (Bv true)<|zjr<|zr5<|rH1 (Bv true) H ?_)
   rw[jP<|has_at (k:=i) qf<|by assumption]
  refine qZ<|b_n<|t_n<|xX<|sp (yI i)<|sw<|zC i 1 rfl rfl qf<|sq 1<|xZ<|xh (m':=(l.length-((i+1):Int)).toNat) qf ⟨_,i+1,uE3,?_,?_,rfl,N,H.pick [] [2,3]⟩
  ·omega
  ·exact fun j hj=>if e:j=i then (by rw[e];assumption) else i1 j qf
 refine zx4<|zcr<|sp (Bv false)<|zjr<|rH1 (Bv false) H ?_
 rw[xw<|has_not (k:=i) i1 qf]
theorem a2Less_ok(w:World)(a:yLI)(b:yLI){aa:yOA}{ca:Nat}{Fa:yLN}{ab:yOA}{cb:Nat}{Fb:yLN}(ha:zP w Fa aa ca a)(hb:zP w Fb ab cb b)(p0:a.length=b.length):Calls Tryz.prog 85 #[Sv aa a.length ca,Sv ab b.length cb] w (Ret (fun v w'=>v=Bv (dec<|ahead a b)) w):=by
 refine en func85 ntmps85 ?_
 have H:=((St.start w).arg hb).arg ha
 have U4:=qR ha
 clear ha hb
 have N:=Fresh.nil w.heap.size
 refine zcr<|sp (Bv false)<|zjcc<|sp (yI 0)<|zjn<|xf<|zD ((fun Z0 Z1=>fun m' ρ w1=>∃(xN:Env) (i:Nat),ρ=upd (upd (upd xN 0<|Sv aa a.length ca) 1<|Sv ab b.length cb) 5 (yI i)/\(SameTo a b i)/\m'=a.length-i/\Fresh w.heap.size []/\St w w1 [] [Z0,Z1]) _ _) (a.length-0) ⟨_,0,uE3,qx,rfl,N,H⟩ ?_
 clear H N
 rintro m' ρ w2 ⟨xN,i,rfl,i1,rfl,N,H⟩
 refine zcc<|sp (yI i)<|sq 1<|oN rfl<|sp (Bv<|decide ((i:Int)<a.length))<|sp (Bv<|decide ((i:Int)<a.length)) ?_
 cases h3:(decide ((i:Int)<a.length))
 ·replace h3:=of_decide_eq_false h3
  refine xY (zR 11 4)<|sp (Bv false)<|zjn<|cFr rfl<|zx4<|zcr<|sp (Bv false)<|zjr<|rH1 (Bv false) H ?_
  rw[xw<|ahead_same<|show SameTo a b a.length from fun j hj=>i1 j qf]
 replace h3:=of_decide_eq_true h3
 refine qP 10 rfl rfl<|sp (yI i)<|qP 10 rfl rfl<|sq 1<|qP 10 rfl rfl<|oN rfl<|qP 10 rfl rfl<|sq 2<|zjn<|cD rfl (fun h4=>?_)<|fun h4=>?_
 ·refine qZ (t_n<|xU<|xf<|xU<|ji rfl H fun H=>rtl 0 H ?_)
  refine rtp 1 (yI i) H ?_
  obtain⟨b6,o7,rfl⟩:=H.addr 0 rfl qf
  refine tI 2 rfl rfl rfl H ?_
  refine tL 3 rfl rfl (fun _ h=>h.zS 0 rfl i qf) H ?_
  refine rtl 4 H ?_
  refine rtp 5 (yI i) H ?_
  obtain⟨b9,o10,rfl⟩:=H.addr 1 rfl qf
  refine tI 6 rfl rfl rfl H ?_
  refine tL 7 rfl rfl (fun _ h=>h.zS 1 rfl i qf) H ?_
  refine rtl 8 H ?_
  refine xC qh<|t_n<|zX _ rfl (fun cZ=>?_)<|fun cZ=>?_
  ·replace cZ:=bne_iff_ne.1 cZ
   refine xU<|ji rfl H fun H=>rtl 0 H ?_
   refine rtp 1 (yI i) H ?_
   refine tI 2 rfl rfl rfl H ?_
   refine tL 3 rfl rfl (fun _ h=>h.zS 0 rfl i qf) H ?_
   refine rtl 4 H ?_
   refine rtp 5 (yI i) H ?_
   refine tI 6 rfl rfl rfl H ?_
   refine tL 7 rfl rfl (fun _ h=>h.zS 1 rfl i qf) H ?_
   refine rtl 8 H ?_
   refine rtl 9 H ?_
   refine xC qh<|t_n<|c_ret<|zr5<|rH1 (Bv<|decide ((a[i]! :Int)<(b[i]!))) H ?_
   rw[show decide (a[i]!<b[i]!)=dec (ahead a b) from dec_eq ⟨fun h=>ahead_yes i1 qf<|of_decide_eq_true h,fun h=>decide_eq_true<|Classical.byContradiction fun h1=>ahead_no i1 h1 ‹_› h⟩]
  replace cZ:=xA cZ
  refine qZ<|b_n<|t_n<|xX<|sp (yI i)<|sw<|zC i 1 rfl rfl qf<|sq 1<|xZ<|xh (m':=a.length-(i+1)) qf ⟨_,i+1,uE3,?_,rfl,N,H⟩
  ·exact i1.succ qg
 refine zx4<|zcr<|sp (Bv false)<|zjr<|rH1 (Bv false) H ?_
 rw[xw<|ahead_same<|show SameTo a b a.length from fun j hj=>i1 j qf]
theorem a2Rising_ok(w:World)(l:yLL)(n:Int)(hl:zP w Fl al cl l):Calls Tryz.prog 36 #[Sv al l.length cl,yI n] w (Ret (fun v w'=>v=Bv (dec<|RiseTo l n l.length)) w):=by
 refine en func36 ntmps36 ?_
 have H:=(St.start w).arg hl
 have y4:=qR hl
 clear hl
 have N:=Fresh.nil w.heap.size
 refine zcr<|sp (Bv false)<|zjcc<|sp (yI 0)<|zjn<|xf<|zD ((fun Z0=>fun m' ρ w1=>∃(xN:Env) (i:Nat),ρ=upd (upd (upd xN 0<|Sv al l.length cl) 1<|yI n) 5 (yI i)/\((i:Int)<=l.length)/\(RiseTo l n i)/\m'=(l.length-(i:Int)).toNat/\Fresh w.heap.size []/\St w w1 [] [Z0]) _) ((l.length-(0:Int)).toNat) ⟨_,0,uE3,qf,qx,rfl,N,H⟩ ?_
 clear H N
 rintro m' ρ w2 ⟨xN,i,rfl,i0,i1,rfl,N,H⟩
 refine zcc<|sp (yI i)<|sq 1<|oN rfl<|sq 1<|zjn<|cD rfl (fun h3=>?_)<|fun h3=>?_
 ·refine qZ (t_n<|xU<|xf<|xU<|ji rfl H fun H=>rtl 0 H ?_)
  refine rtp 1 (yI i) H ?_
  obtain⟨b5,o6,rfl⟩:=H.addr 0 rfl qf
  obtain⟨ae8,ce8,Fe8,H⟩:=H.jo 0 rfl i i qf qf qf
  have S:=H.jF [] [2]
  refine tI 2 rfl rfl rfl S ?_
  refine rtp 5 (yI n) S ?_
  refine ro 3 rfl<|zB (Sv ae8 ((l[i]!).length) ce8) isAgg24 rfl (H.zo 1 rfl 0 rfl)<|⟨H.pick [] [2],?_⟩
  have S:=H.jF [] [2]
  refine tN 4 rfl rfl S ?_
  refine rtp 6 (Bv (((l[i]!).length:Int) != n)) S ?_
  refine rtp 7 (Bv (((l[i]!).length:Int) != n)) S ?_
  cases h9:(((l[i]!).length:Int) != n)
  ·replace h9:=xA h9
   have S:=H.jF [] [2]
   refine rgp 8 (yI i) 19 S ?_
   refine rgp 9 (Bv<|decide ((i:Int)>0)) 19 S ?_
   refine rgp 10 (Bv<|decide ((i:Int)>0)) 19 S ?_
   cases bx:(decide ((i:Int)>0))
   ·replace bx:=of_decide_eq_false bx
    refine vJ (zR 11 11) 11 (H.pick [] [2]) ?_
    have S:=H.jF [] [2]
    refine rgp 22 (Bv false) 19 S ?_
    refine rtp 23 (Bv false) S ?_
    refine xC qh<|t_n<|cFr rfl<|qZ<|b_n<|t_n<|xX<|sp (yI i)<|sw<|zC i 1 rfl rfl qf<|sq 1<|xZ<|xh (m':=(l.length-((i+1):Int)).toNat) qf ⟨_,i+1,uE3,?_,?_,rfl,N,H.pick [] [2]⟩
    ·omega
    ·exact i1.succ qf<|fun h0=>by omega
   replace bx:=of_decide_eq_true bx
   have S:=H.jF [] [2]
   refine rgl 11 22 S ?_
   refine rgp 12 (yI i) 22 S ?_
   refine rg 13 _ 22 (y_sub i 1 rfl rfl qf) S ?_
   obtain⟨aam,ZE,axE,H⟩:=H.jo 2 rfl (i-1) (i-1) qf qf qf
   have S:=H.jF [] [4]
   refine gI 14 rfl rfl rfl S ?_
   refine rgl 16 22 S ?_
   refine rgp 17 (yI i) 22 S ?_
   refine gI 18 rfl rfl rfl S ?_
   refine zY [15,19] qh qm<|X4 rfl (e:=22) rfl rfl ?_<|X4 rfl (e:=22) rfl rfl ?_ zZ
   ·refine zB (Sv aam ((l[i-1]!).length) ZE) isAgg24 rfl (H.zo 1 rfl 0 rfl) (⟨H.pick [] [4],(zY [19] qh qm<|X4 rfl (e:=22) rfl rfl (zB (Sv ae8 ((l[i]!).length) ce8) isAgg24 rfl (H.zo 3 rfl 0 rfl)<|⟨H.pick [] [4],(zY [20] qh qm<|X4 rfl (e:=22) rfl rfl ?_ zZ)⟩) zZ)⟩)
    have i2:=i1 (i-1) qf
    refine oq (a2Less_ok _ (l[i-1]!) (l[i]!) (H.get 0 rfl).1 (H.get 2 rfl).1 qg) H fun xp H=>⟨H.pick [] [4],?_⟩
    have S:=H.jF [] [4]
    refine rgl 21 22 S ?_
    refine rgl 22 19 S ?_
    refine rtl 23 S ?_
    refine xC qh<|t_n<|cQ rfl (fun mc=>?_)<|fun mc=>?_
    ·refine zcr (sp (Bv false)<|zjr<|zr5<|rH1 (Bv false) H ?_)
     rw[xw (fun h:RiseTo l n l.length=>by have h1:=h i qf;exact absurd (h1.2 qf) ql)]
    refine qZ<|b_n<|t_n<|xX<|sp (yI i)<|sw<|zC i 1 rfl rfl qf<|sq 1<|xZ<|xh (m':=(l.length-((i+1):Int)).toNat) qf ⟨_,i+1,uE3,?_,?_,rfl,N,H.pick [] [4]⟩
    ·omega
    ·exact i1.succ qf<|fun h0=>by omega
   refine zB (Sv ae8 ((l[i]!).length) ce8) isAgg24 rfl (H.zo 3 rfl 0 rfl)<|⟨H.pick [] [4],(zY [15] qh qm<|X4 rfl (e:=22) rfl rfl (zB (Sv aam ((l[i-1]!).length) ZE) isAgg24 rfl (H.zo 1 rfl 0 rfl)<|⟨H.pick [] [4],(zY [20] qh qm<|X4 rfl (e:=22) rfl rfl ?_ zZ)⟩) zZ)⟩
   have i2:=i1 (i-1) qf
   refine oq (a2Less_ok _ (l[i-1]!) (l[i]!) (H.get 0 rfl).1 (H.get 2 rfl).1 qg) H fun GW H=>⟨H.pick [] [4],?_⟩
   have S:=H.jF [] [4]
   refine rgl 21 22 S ?_
   refine rgl 22 19 S ?_
   refine rtl 23 S ?_
   refine xC qh<|t_n<|cQ rfl (fun CI=>?_)<|fun CI=>?_
   ·refine zcr (sp (Bv false)<|zjr<|zr5<|rH1 (Bv false) H ?_)
    rw[xw (fun h:RiseTo l n l.length=>by have h1:=h i qf;exact absurd (h1.2 qf) ql)]
   refine qZ<|b_n<|t_n<|xX<|sp (yI i)<|sw<|zC i 1 rfl rfl qf<|sq 1<|xZ<|xh (m':=(l.length-((i+1):Int)).toNat) qf ⟨_,i+1,uE3,?_,?_,rfl,N,H.pick [] [4]⟩
   ·omega
   ·exact i1.succ qf<|fun h0=>by omega
  replace h9:=bne_iff_ne.1 h9
  refine vJ (zR 8 15) 15 (H.pick [] [2])<|rtp 23 (Bv true) (H.pick [] [2])<|xC qh<|t_n<|cTr rfl<|zcr<|sp (Bv false)<|zjr<|zr5<|rH1 (Bv false) H ?_
  rw[xw (fun h:RiseTo l n l.length=>by have h1:=h i qf;omega)]
 refine zx4<|zcr<|sp (Bv true)<|zjr<|rH1 (Bv true) H ?_
 rw[jP<|show RiseTo l n l.length from fun j hj=>i1 j qf]
theorem law_FnHalts(w:World)(code:List UInt8)(aW:List UInt8)(m6:yOA)(m3:Nat)(Bj:yLN)(AK:yOA)(zr:Nat)(Ie:yLN)(vm:zP w Bj m6 m3 code)(ua:zP w Ie AK zr aW):Calls Tryz.prog 5 #[Sv m6 code.length m3,Sv AK aW.length zr] w (Ret (fun v w'=>v=Bv true) w):=by
 refine en func5 ntmps5 ?_
 have H:=((St.start w).arg ua).arg vm
 clear vm ua
 have N:=Fresh.nil w.heap.size
 refine zcr<|sp (Bv false)<|zjcc<|sq 2<|sw<|zW #[Sv m6 code.length m3,Sv AK aW.length zr] rfl rfl call6<|en func6 ntmps6 ?_
 refine zcr<|sp (Bv false)<|zjc<|sq 1<|oN rfl<|sp (Bv<|decide ((code.length:Int)>3000))<|sp (Bv<|decide ((code.length:Int)>3000)) ?_
 cases h1:(decide ((code.length:Int)>3000))
 ·replace h1:=of_decide_eq_false h1
  refine qP 8 rfl rfl<|sq 1<|qP 8 rfl rfl<|oN rfl<|qP 8 rfl rfl<|sp (Bv<|decide ((aW.length:Int)>3000))<|sp (Bv<|decide ((aW.length:Int)>3000))<|sp (Bv<|decide ((aW.length:Int)>3000))<|zjr<|ret1 (Bv<|decide ((aW.length:Int)>3000)) rfl rfl ⟨_,rfl,(zjn<|cD rfl (fun h2=>?_)<|fun h2=>?_)⟩
  ·refine zcr (sp (Bv true)<|zjr<|t_r<|rH1 (Bv true) H ?_)
   rfl
  refine qZ<|t_n<|zcr<|sq 1 ?_
  have H1:St w w [] [sF false Bj m6 m3 code,sF false Ie AK zr aW]:=H.pick [] [0,1]
  have N1:Fresh _ []:=N
  have K1:Kept [] [sF false Ie AK zr aW]:=Kept.nil _
  refine sw<|ve #[Sv m6 code.length m3] rfl rfl call19 (a2Given_ok code m6 m3 Bj H1 N1 K1 ) ?_
  clear H H1 N1 K1
  rintro _ w3 ⟨BW,zl8,zR9,Ry,Rv,gm,e5,agS,fg,fH,amX,fI,avU,acU,hZ,ayR,iD,iJ,avc,gW,axz,avX,gy,ayZ,iA,hx5,hx6,rfl,N,H⟩
  obtain rfl:=H.jy 0 rfl
  obtain rfl:=H.xQ (α:=yH) 1 rfl 1 rfl qj
  obtain rfl:=H.Xg 2 rfl
  obtain rfl:=H.xQ (α:=yLI) 3 rfl 2 rfl qj
  obtain rfl:=H.jy 4 rfl
  refine sq 3<|sw<|xg H ti27 [yI 0,yN,yN] fun GC Ml H=>sw<|xg H ti31 [yN,yN,yN] fun mV Ao H=>sw<|xx H 1 [yI BW,Sv e5 zl8.length fg,Sv fH zR9.length fI] sizeOf27 fun Gy H=>(sw<|xx H 0 [Sv hZ Ry.length iD,Sv iJ Rv.length gW,Sv gy gm.length iA] sizeOf31 fun Jk H=>zjn<|xU ?_)
  obtain⟨s,e1,e2,e3⟩:∃z:qH,BW=z.zf/\zl8=z.qA/\zR9=z.qB:=⟨⟨BW,zl8,zR9⟩,rfl,rfl,rfl⟩
  subst e1 e2 e3
  obtain⟨t,e1,e2,e3⟩:∃z:qG,Ry=z.qK/\Rv=z.qQ/\gm=z.qJ:=⟨⟨Ry,Rv,gm⟩,rfl,rfl,rfl⟩
  subst e1 e2 e3
  obtain⟨kJ,N,Tx,H⟩:=H.zQ 2 rfl N<|H.vX [2]
  obtain⟨Bk,GJ,SG,H⟩:=H.yC (α:=yH) 3 rfl 2 rfl qj
  obtain⟨oV,N,agv,H⟩:=H.freezeB 4 rfl N<|H.vX [1,4]
  have H0:=H
  obtain⟨vl,abW,apg,H⟩:=H.yC (α:=yLI) 5 rfl 5 rfl qj
  replace N:Fresh w.heap.size [vl,oV,kJ]:=Fresh.ice (N.pick [2,0,1]) H0 5 abW.1 abW.2<|H0.vX [0,2]
  clear H0
  obtain⟨A5,N,azJ,H⟩:=H.zQ 6 rfl N<|H.vX [0,1,3]
  have sd:=(‹SysDr _ _ _›)
  have td:=(‹StDr _ _ _ _ _ _›)
  have k0:vz s/\xK s t:=⟨sd.ok,td.ok sd qf⟩
  have k1:=k0.1
  have k2:=k0.2
  have cc:=(atV_bd aW 0 (n:=((s.qA.length:Int)+1)) qf)
  have bc:0<=(atV aW 0 ((s.qA.length:Int)+1))/\(atV aW 0 ((s.qA.length:Int)+1))<=(s.qA.length:Int):=by omega
  have fl:=k1.1.2.1
  have q1:=ah_code (s:=s) (t:=t)
  have q2:=hs_code (s:=s) (t:=t)
  have q3:=rs_code ⟨k1,k2⟩ bc
  have q4:=ic_code (s:=s) (t:=t)
  refine xX<|sw<|xy (yS s e5 fg fH fI) isAgg27 sizeOf27 rfl (qC (H.cells 1 rfl) 0 3)<|sw<|xy (yT t hZ iD iJ gW gy iA) isAgg31 sizeOf31 rfl (qC (H.cells 0 rfl) 0 3)<|sw<|oq (specAH_ok _ s t (H.get 4 rfl).1 (H.get 3 rfl).1 (H.get 2 rfl).1 (H.get 1 rfl).1 (H.get 0 rfl).1) H fun w51 H=>sp (.tuple #[Bv ((Qn s t).1),yI ((Qn s t).2)])<|sp (Bv ((Qn s t).1))<|sq 1<|sp (Bv ((Qn s t).1))<|sq 1<|zjc<|sw<|xy (yS s e5 fg fH fI) isAgg27 sizeOf27 rfl (qC (H.cells 1 rfl) 0 3)<|sw<|xy (yT t hZ iD iJ gW gy iA) isAgg31 sizeOf31 rfl (qC (H.cells 0 rfl) 0 3)<|sw<|oq (implAH_ok _ s t (H.get 4 rfl).1 (H.get 3 rfl).1 (H.get 2 rfl).1 (H.get 1 rfl).1 (H.get 0 rfl).1) H fun WP H=>sp (.tuple #[Bv ((Qn s t).1),yI ((Qn s t).2)])<|sp (Bv ((Qn s t).1))<|sq 1<|sp (Bv ((Qn s t).1))<|sq 1<|zjc<|sw<|xy (yS s e5 fg fH fI) isAgg27 sizeOf27 rfl (qC (H.cells 1 rfl) 0 3)<|sw<|xy (yT t hZ iD iJ gW gy iA) isAgg31 sizeOf31 rfl (qC (H.cells 0 rfl) 0 3) ?_
  have amg:=H.base.size
  have aox:=H.ltN (L:=[A5,vl,oV,kJ]) [0,1,2,4]
  refine sw<|oc (implHS_ok _ s t (H.get 4 rfl).1 (H.get 3 rfl).1 (H.get 2 rfl).1 (H.get 1 rfl).1 (H.get 0 rfl).1) ?_
  rintro _ Lf ⟨nN,nF,fx,rfl,M,K⟩ _
  replace N:=N.merge amg aox M
  replace H:=H.merge K M
  refine sq 5<|zjc<|sq 1<|oF rfl<|oL rfl (H.cell 1 rfl rfl)<|oN rfl<|sw<|zC s.qA.length 1 rfl rfl qf<|sw<|oq (a2At_ok _ aW 0 (s.qA.length+1) (H.get 9 rfl).1 qg) H fun GT H=>sq 1<|zjc<|sw<|xy (yS s e5 fg fH fI) isAgg27 sizeOf27 rfl (qC (H.cells 1 rfl) 0 3)<|sw<|xy (yT t hZ iD iJ gW gy iA) isAgg31 sizeOf31 rfl (qC (H.cells 0 rfl) 0 3)<|sq 1 ?_
  have ajA:=H.base.size
  have ak4:=H.ltN (L:=[fx,A5,vl,oV,kJ]) [0,1,2,3,5]
  refine sw<|oc (implRS_ok _ s t (atV aW 0<|s.qA.length+1) (H.get 5 rfl).1 (H.get 4 rfl).1 (H.get 3 rfl).1 (H.get 2 rfl).1 (H.get 1 rfl).1) ?_
  rintro _ LE ⟨YS,abC,ac7,rfl,M,K⟩ _
  replace N:=N.merge ajA ak4 M
  replace H:=H.merge K M
  refine sq 5<|zjc<|sw<|xy (yS s e5 fg fH fI) isAgg27 sizeOf27 rfl (qC (H.cells 1 rfl) 0 3)<|sw<|xy (yT t hZ iD iJ gW gy iA) isAgg31 sizeOf31 rfl (qC (H.cells 0 rfl) 0 3)<|sw<|oq (implIC_ok _ s t (H.get 6 rfl).1 (H.get 5 rfl).1 (H.get 4 rfl).1 (H.get 3 rfl).1 (H.get 2 rfl).1) H fun UU H=>sq 5<|zjcc<|sq 2<|sp (Bv (((Qn s t).2:Int) != ((Qn s t).2)))<|sp (Bv (((Qn s t).2:Int) != ((Qn s t).2))) ?_
  cases K7:(((Qn s t).2:Int) != ((Qn s t).2))
  ·replace K7:=xA K7
   refine qP 84 rfl rfl<|sq 1<|qP 84 rfl rfl<|sq 1<|qP 84 rfl rfl<|sp (Bv (((vK s t).2:Int) != ((Qn s t).2)))<|sp (Bv (((vK s t).2:Int) != ((Qn s t).2)))<|sp (Bv (((vK s t).2:Int) != ((Qn s t).2))) ?_
   cases Re:(((vK s t).2:Int) != ((Qn s t).2))
   ·replace Re:=xA Re
    refine qP 89 rfl rfl<|sq 1<|qP 89 rfl rfl<|sq 1<|qP 89 rfl rfl<|sp (Bv (((Xt s t<|atV aW 0<|s.qA.length+1).2:Int) != ((Qn s t).2)))<|sp (Bv (((Xt s t<|atV aW 0<|s.qA.length+1).2:Int) != ((Qn s t).2)))<|sp (Bv (((Xt s t<|atV aW 0<|s.qA.length+1).2:Int) != ((Qn s t).2))) ?_
    cases Ow:(((Xt s t (atV aW 0 (s.qA.length+1))).2:Int) != ((Qn s t).2))
    ·replace Ow:=xA Ow
     refine qP 94 rfl rfl<|sq 1<|qP 94 rfl rfl<|sq 1<|qP 94 rfl rfl<|sq 2<|zjn<|zX _ rfl (fun BR=>?_)<|fun BR=>?_
     ·replace BR:=bne_iff_ne.1 BR
      refine zcr<|sp (Bv false)<|zjr<|t_r<|rH1 (Bv false) H ?_
      exfalso;omega
     replace BR:=xA BR
     refine qZ<|t_n<|zcc<|sq 1<|sp (Bv (((Qn s t).2:Int) != 0))<|zjn<|zX (((Qn s t).2:Int) != 0) rfl (fun Lw=>?_)<|fun Lw=>?_
     ·replace Lw:=bne_iff_ne.1 Lw
      refine zcr<|sp (Bv true)<|zjr<|t_r<|rH1 (Bv true) H ?_
      rfl
     replace Lw:=xA Lw
     have c0:(yG s t).2=0:=by omega
     have hl:=(hs_ok (s:=s) (t:=t) qf).2.1
     have lr:=lr_code c0
     have sh:=sh_code c0
     have ie:=ic_is c0
     have ae:=ah_is c0
     have fe:=rs_fewer c0 bc
     refine qZ<|t_n<|zcc<|sp (yI 0)<|zjn<|xf<|zD ((fun Z0 Z1 Z2 Z3 Z4 Z5 Z6 Z7 Z8=>fun m' ρ w77=>∃(xN:Env) (i:Nat),ρ=upd (upd (upd (upd (upd (upd (upd (upd xN 5<|pp GC 0) 6<|pp mV 0) 9<|Bv ((Qn s t).1)) 11<|Sv nN (((vK s t).1).length) nF) 13<|yI<|atV aW 0<|s.qA.length+1) 14<|Sv YS (((Xt s t<|atV aW 0<|s.qA.length+1).1).length) abC) 16<|Bv ((icRes s t).1)) 18 (yI i)/\((i:Int)<=(((vK s t).1).length))/\m'=((((vK s t).1).length)-(i:Int)).toNat/\Fresh w.heap.size [ac7,fx,A5,vl,oV,kJ]/\St w w77 [Z0,Z1] [Z2,Z3,Z4,Z5,Z6,Z7,Z8]) _ _ _ _ _ _ _ _ _) (((((vK s t).1).length)-(0:Int)).toNat) ⟨_,0,uE8,qf,rfl,N,H.pick [0,1]<|zR 0 7⟩ ?_
     clear H N
     rintro m' ρ RH ⟨xN,i,rfl,i0,rfl,N,H⟩
     refine zcc<|sp (yI i)<|sq 1<|oN rfl<|sq 1<|zjn<|cD rfl (fun LG=>?_)<|fun LG=>?_
     ·refine qZ (t_n<|xU<|xf<|xU<|xU ?_)
      have ea:=ends_at c0 (i:=i) qf
      have k3:=And.intro k1 ea.1
      have eb:=ea.1.1
      have ec:=ea.1.2.1
      refine ji rfl H fun H=>rt 0 _ (yF (cs:=(yS s e5 fg fH fI)) isAgg27 sizeOf27 rfl<|fun _ h=>qC (h.cells 1 rfl) 0 3) H ?_
      refine rtl 1 H ?_
      refine rtp 2 (yI i) H ?_
      obtain⟨b81,o82,rfl⟩:=H.addr 1 rfl qf
      obtain⟨wn,px,UQ,AO,rZ,afS,mS,mN,R5,H⟩:=H.XO 1 rfl i i qf qf qf
      refine tI 3 rfl rfl rfl (H.pick [0,1]<|zR 4 7)<|ro 4 rfl<|xy [Sv wn (((((vK s t).1)[i]!).qK).length) px,Sv AO (((((vK s t).1)[i]!).qQ).length) rZ,Sv mS (((((vK s t).1)[i]!).qJ).length) mN] isAgg31 sizeOf31 rfl (qC (H.get 3 rfl) 0 3)<|⟨H.pick [0,1]<|zR 4 7,(ro 5 rfl<|oq (specValid_ok _ s (((vK s t).1)[i]!) (H.get 10 rfl).1 (H.get 9 rfl).1 (H.get 0 rfl).1 (H.get 1 rfl).1 (H.get 2 rfl).1) H fun w86 H=>⟨H.pick [0,1]<|zR 4 7,(rtl 6 (H.pick [0,1]<|zR 4 7) ?_)⟩)⟩
      refine xC qh<|t_n<|cQ rfl (fun h88=>?_)<|fun h88=>?_
      ·refine zcr (sp (Bv false)<|zjr<|t_r<|zr5<|rH1 (Bv false) H ?_)
       exfalso;contradiction
      refine qZ<|t_n<|zcr<|sq 1<|sp (yI i)<|oI rfl rfl<|oF rfl<|oL rfl (H.zo 3 rfl 2 rfl)<|sq 1<|zjc<|sp (Bv true)<|zjcc<|sq 1<|oF rfl<|oL rfl (H.cell 1 rfl rfl)<|oN rfl<|sq 1<|zjn<|cD rfl (fun y2=>?_)<|fun y2=>?_
      ·have rm:=fun h1=>rs_has c0 bc (i:=i) qf (res_b qf h1)
       refine zcr<|sq 1<|sp (yI i)<|oI rfl rfl<|oF rfl<|oL rfl (H.zo 3 rfl 1 rfl)<|sq 1 ?_
       obtain⟨b90,o91,rfl⟩:=H.addr 1 rfl qf
       obtain⟨azq,axG,aA7,H⟩:=H.jo 1 rfl (atV aW 0<|s.qA.length+1) ((atV aW 0<|s.qA.length+1).toNat) qf qf qf
       refine oI rfl rfl<|oL rfl (H.zo 1 rfl 0 rfl)<|sq 1<|zjn<|xX<|sq 1<|sp (yI i)<|oI rfl rfl<|oF rfl<|oL rfl (H.zo 5 rfl 0 rfl)<|sq 1 ?_
       obtain⟨TC,o95,rfl⟩:=H.addr 2 rfl qf
       refine oI rfl rfl<|oL rfl (H.elemBool 2 rfl (atV aW 0<|s.qA.length+1) qf qf)<|sp (Bv (((((vK s t).1)[i]!).qK)[(atV aW 0<|s.qA.length+1).toNat]!))<|zjn<|xU<|ji rfl H fun H=>rt 0 _ (yF (cs:=(yS s e5 fg fH fI)) isAgg27 sizeOf27 rfl<|fun _ h=>qC (h.cells 1 rfl) 0 3) H ?_
       refine rtl 1 H ?_
       refine rtp 2 (yI i) H ?_
       refine tI 3 rfl rfl rfl H ?_
       refine rt 4 _ (yF (cs:=[Sv (aa TC o95) (((((vK s t).1)[i]!).qK).length) px,Sv (aa b90 o91) (((((vK s t).1)[i]!).qQ).length) rZ,Sv mS (((((vK s t).1)[i]!).qJ).length) mN]) isAgg31 sizeOf31 rfl<|fun _ h=>qC (h.get 5 rfl) 0 3) H ?_
       refine ro 5 rfl<|oq (isHalted_ok _ s (((vK s t).1)[i]!) (H.get 12 rfl).1 (H.get 11 rfl).1 (H.get 2 rfl).1 (H.get 3 rfl).1 (H.get 4 rfl).1 qg) H fun Lu H=>⟨H,(rtl 6 H ?_)⟩
       refine rtl 7 H ?_
       refine rtp 8 (yI 0) H ?_
       refine rtl 9 H ?_
       refine rtp 10 (yI 0) H ?_
       refine xC qh<|t_n<|zcr<|sp (yI 0)<|sp (Bv false)<|sp (Bv false)<|qP 151 rfl rfl<|sq 1<|qP 151 rfl rfl<|sp (Bv (!(dec<|Halted s (((vK s t).1)[i]!))))<|sp (Bv (!(dec<|Halted s (((vK s t).1)[i]!))))<|sp (Bv (!(dec<|Halted s (((vK s t).1)[i]!)))) ?_
       cases AG:(!(dec (Halted s (((vK s t).1)[i]!))))
       ·replace AG:=xO AG
        replace AG:=Qc AG
        refine qP 155 rfl rfl<|sp (Bv (((((vK s t).1)[i]!).qK)[(atV aW 0<|s.qA.length+1).toNat]!))<|qP 155 rfl rfl<|sp (Bv (((((vK s t).1)[i]!).qK)[(atV aW 0<|s.qA.length+1).toNat]!)) ?_
        cases aeT:(((((vK s t).1)[i]!).qK)[(atV aW 0 (s.qA.length+1)).toNat]!)
        ·refine xY (zR 158 4) (qP 155 rfl rfl<|sp (Bv false)<|sp (Bv false)<|zjn<|cFr rfl<|qZ<|b_n<|t_n<|xX<|sp (yI i)<|sw<|zC i 1 rfl rfl qf<|sq 1<|xZ<|xh (m':=((((vK s t).1).length)-((i+1):Int)).toNat) qf ⟨_,i+1,uE8,?_,rfl,N,H.pick [0,1]<|zR 6 7⟩)
         ·omega
        refine qP 157 rfl rfl<|sq 1<|qP 157 rfl rfl<|sq 1<|qP 157 rfl rfl<|sw<|oq (a2Has_ok _ ((Xt s t<|atV aW 0<|s.qA.length+1).1) (((((vK s t).1)[i]!).qQ)[(atV aW 0<|s.qA.length+1).toNat]!) (H.get 6 rfl).1 (H.get 0 rfl).1) H fun zv H=>qP 157 rfl rfl<|sq 1<|qP 155 rfl rfl<|sq 2<|zjn<|cQ rfl (fun BL=>?_)<|fun BL=>?_
        ·refine zcr (sp (Bv false)<|zjr<|zr5<|rH1 (Bv false) H ?_)
         exfalso;exact absurd (rm ql) ql
        refine qZ<|b_n<|t_n<|xX<|sp (yI i)<|sw<|zC i 1 rfl rfl qf<|sq 1<|xZ<|xh (m':=((((vK s t).1).length)-((i+1):Int)).toNat) qf ⟨_,i+1,uE8,?_,rfl,N,H.pick [0,1]<|zR 6 7⟩
        ·omega
       replace AG:=x8 AG
       replace AG:=vF AG
       refine xY (zR 156 7)<|sp (Bv true)<|zjn<|cTr rfl<|zcr<|sp (Bv false)<|zjr<|zr5<|rH1 (Bv false) H ?_
       exfalso;exact absurd ea.2 ql
      have rm:=rs_has c0 bc (i:=i) qf<|res_a qf
      refine qZ<|t_n<|xU<|ji rfl H fun H=>rt 0 _ (yF (cs:=(yS s e5 fg fH fI)) isAgg27 sizeOf27 rfl<|fun _ h=>qC (h.cells 1 rfl) 0 3) H ?_
      refine rtl 1 H ?_
      refine rtp 2 (yI i) H ?_
      refine tI 3 rfl rfl rfl H ?_
      refine rt 4 _ (yF (cs:=[Sv wn (((((vK s t).1)[i]!).qK).length) px,Sv AO (((((vK s t).1)[i]!).qQ).length) rZ,Sv mS (((((vK s t).1)[i]!).qJ).length) mN]) isAgg31 sizeOf31 rfl<|fun _ h=>qC (h.get 3 rfl) 0 3) H ?_
      refine ro 5 rfl<|oq (isHalted_ok _ s (((vK s t).1)[i]!) (H.get 10 rfl).1 (H.get 9 rfl).1 (H.get 0 rfl).1 (H.get 1 rfl).1 (H.get 2 rfl).1 qg) H fun Mf H=>⟨H,(rtl 6 H ?_)⟩
      refine rtl 7 H ?_
      refine rtp 8 (yI 0) H ?_
      refine rtl 9 H ?_
      refine rtp 10 (yI 0) H ?_
      refine xC qh<|t_n<|zcr<|sp (yI 0)<|sp (Bv false)<|sp (Bv false)<|qP 151 rfl rfl<|sq 1<|qP 151 rfl rfl<|sp (Bv (!(dec<|Halted s (((vK s t).1)[i]!))))<|sp (Bv (!(dec<|Halted s (((vK s t).1)[i]!))))<|sp (Bv (!(dec<|Halted s (((vK s t).1)[i]!)))) ?_
      cases uM:(!(dec (Halted s (((vK s t).1)[i]!))))
      ·replace uM:=xO uM
       replace uM:=Qc uM
       refine qP 155 rfl rfl<|sp (Bv true)<|qP 155 rfl rfl<|sp (Bv true)<|qP 157 rfl rfl<|sq 1<|qP 157 rfl rfl<|sq 1<|qP 157 rfl rfl<|sw<|oq (a2Has_ok _ ((Xt s t<|atV aW 0<|s.qA.length+1).1) ((((vK s t).1)[i]!).qJ) (H.get 4 rfl).1 (H.get 2 rfl).1) H fun Aw H=>qP 157 rfl rfl<|sq 1<|qP 155 rfl rfl<|sq 2<|zjn<|cQ rfl (fun aoT=>?_)<|fun aoT=>?_
       ·refine zcr (sp (Bv false)<|zjr<|zr5<|rH1 (Bv false) H ?_)
        exfalso;contradiction
       refine qZ<|b_n<|t_n<|xX<|sp (yI i)<|sw<|zC i 1 rfl rfl qf<|sq 1<|xZ<|xh (m':=((((vK s t).1).length)-((i+1):Int)).toNat) qf ⟨_,i+1,uE8,?_,rfl,N,H.pick [0,1]<|zR 4 7⟩
       ·omega
      replace uM:=x8 uM
      replace uM:=vF uM
      refine xY (zR 156 7)<|sp (Bv true)<|zjn<|cTr rfl<|zcr<|sp (Bv false)<|zjr<|zr5<|rH1 (Bv false) H ?_
      exfalso;exact absurd ea.2 ql
     refine zx4<|xU<|xU<|VD (fun ρ oe=>∃(xN:Env) (Tu:Bool),ρ=upd (upd (upd (upd (upd xN 5<|pp GC 0) 6<|pp mV 0) 9<|Bv ((Qn s t).1)) 11<|Sv nN (((vK s t).1).length) nF) 185 (Bv Tu)/\(Tu=false)/\Fresh w.heap.size [fx,A5,vl,oV,kJ]/\St w oe [.box mV (yT t hZ iD iJ gW gy iA) 31,.box GC (yS s e5 fg fH fI) 27] [sF true fx nN nF ((vK s t).1),sF true A5 gy iA t.qJ,sF true vl iJ gW t.qQ,sF true oV hZ iD t.qK,sF false Bk fH fI s.qB,sF true kJ e5 fg s.qA]) ?_ ?_
     ·refine xX (sq 1<|oN rfl<|sq 1<|oN rfl<|sp (Bv<|decide ((((Xt s t<|atV aW 0<|s.qA.length+1).1).length:Int)>(((vK s t).1).length)))<|sp (Bv<|decide ((((Xt s t<|atV aW 0<|s.qA.length+1).1).length:Int)>(((vK s t).1).length))) ?_)
      cases FF:(decide ((((Xt s t (atV aW 0 (s.qA.length+1))).1).length:Int)>(((vK s t).1).length)))
      ·replace FF:=of_decide_eq_false FF
       refine qP 169 rfl rfl<|sq 1<|qP 169 rfl rfl<|oF rfl<|qP 169 rfl rfl<|oL rfl (H.cell 1 rfl rfl)<|qP 169 rfl rfl<|sw<|oq (a2Rising_ok _ ((Xt s t<|atV aW 0<|s.qA.length+1).1) s.zf (H.get 0 rfl).1) H fun Jt H=>qP 169 rfl rfl<|sp (Bv (!(dec<|RiseTo ((Xt s t<|atV aW 0<|s.qA.length+1).1) s.zf ((Xt s t<|atV aW 0<|s.qA.length+1).1).length)))<|sp (Bv (!(dec<|RiseTo ((Xt s t<|atV aW 0<|s.qA.length+1).1) s.zf ((Xt s t<|atV aW 0<|s.qA.length+1).1).length)))<|sp (Bv (!(dec<|RiseTo ((Xt s t<|atV aW 0<|s.qA.length+1).1) s.zf ((Xt s t<|atV aW 0<|s.qA.length+1).1).length))) ?_
       cases uS:(!(dec (RiseTo ((Xt s t (atV aW 0 (s.qA.length+1))).1) s.zf ((Xt s t (atV aW 0 (s.qA.length+1))).1).length)))
       ·replace uS:=xO uS
        replace uS:=Qc uS
        refine qP 176 rfl rfl<|sq 1<|qP 176 rfl rfl<|sp (Bv ((Qn s t).1))<|qP 176 rfl rfl<|sp (Bv ((Qn s t).1)) ?_
        cases h122:((Qn s t).1)
        ·refine xY [180,181,182] (qP 176 rfl rfl<|sp (Bv false)<|qP 176 rfl rfl<|sw<|o_neB underlying4 ((icRes s t).1) false rfl rfl<|sq 1<|xZ<|meet ⟨_,((icRes s t).1) != false,uE5,?_,(N.pick<|zR 1 5),H.pick [0,1]<|zR 1 6⟩)
         ·exact halts_f ie ql
        refine qP 179 rfl rfl<|sq 1<|qP 179 rfl rfl<|oN rfl<|qP 179 rfl rfl<|sp (Bv ((((vK s t).1).length:Int) == 1))<|qP 176 rfl rfl<|sp (Bv ((((vK s t).1).length:Int) == 1))<|qP 176 rfl rfl<|sw<|o_neB underlying4 ((icRes s t).1) ((((vK s t).1).length:Int) == 1) rfl rfl<|sp (Bv (((icRes s t).1) != ((((vK s t).1).length:Int) == 1)))<|xZ<|meet ⟨_,((icRes s t).1) != ((((vK s t).1).length:Int) == 1),uE5,?_,(N.pick<|zR 1 5),H.pick [0,1]<|zR 1 6⟩
        ·exact halts_g ie ql
       replace uS:=x8 uS
       replace uS:=vF uS
       refine xY (zR 177 8)<|sp (Bv true)<|xZ<|meet ⟨_,true,uE5,?_,(N.pick<|zR 1 5),H.pick [0,1]<|zR 1 6⟩
       ·(exfalso;exact absurd (QI c0 bc rfl (by have:=k1.1.1;omega)) ql)
      replace FF:=of_decide_eq_true FF
      refine xY (zR 170 5)<|sp (Bv true)<|sp (Bv true)<|xY (zR 177 8)<|sp (Bv true)<|xZ<|meet ⟨_,true,uE5,?_,(N.pick<|zR 1 5),H.pick [0,1]<|zR 1 6⟩
      ·(exfalso;omega)
     clear H N
     rintro ρ EM ⟨xN,Tu,rfl,j27,N,H⟩
     refine t_n<|zX _ rfl (fun Uc=>?_)<|fun Uc=>?_
     ·refine zcr (sp (Bv false)<|zjr<|t_r<|rH1 (Bv false) H ?_)
      exfalso;exact absurd (j27.symm.trans ql) qj
     refine qZ<|t_n<|zcr<|sw<|xy (yS s e5 fg fH fI) isAgg27 sizeOf27 rfl (qC (H.cells 1 rfl) 0 3)<|sw<|xy (yT t hZ iD iJ gW gy iA) isAgg31 sizeOf31 rfl (qC (H.cells 0 rfl) 0 3) ?_
     have ahX:=H.base.size
     have ag1:=H.ltN (L:=[fx,A5,vl,oV,kJ]) [0,1,2,3,5]
     refine sw<|oc (implSH_ok _ s t (H.get 5 rfl).1 (H.get 4 rfl).1 (H.get 3 rfl).1 (H.get 2 rfl).1 (H.get 1 rfl).1) ?_
     rintro _ FM ⟨HA,Ja,Cp,rfl,M,K⟩ _
     replace N:=N.merge ahX ag1 M
     replace H:=H.merge K M
     refine sq 5<|zjc<|sw<|xy (yS s e5 fg fH fI) isAgg27 sizeOf27 rfl (qC (H.cells 1 rfl) 0 3)<|sw<|xy (yT t hZ iD iJ gW gy iA) isAgg31 sizeOf31 rfl (qC (H.cells 0 rfl) 0 3)<|sw<|oq (implLR_ok _ s t (H.get 6 rfl).1 (H.get 5 rfl).1 (H.get 4 rfl).1 (H.get 3 rfl).1 (H.get 2 rfl).1) H fun MU H=>sq 5<|zjn<|xU<|xU<|VD (fun ρ LZ=>∃(xN:Env) (TL:Bool),ρ=upd (upd (upd (upd (upd (upd (upd (upd xN 5<|pp GC 0) 6<|pp mV 0) 9<|Bv ((Qn s t).1)) 11<|Sv nN (((vK s t).1).length) nF) 23<|Sv HA (((QK s t).1).length) Ja) 24<|yI ((QK s t).2)) 25<|yI ((QD s t).1)) 209 (Bv TL)/\(TL=false)/\Fresh w.heap.size [Cp,fx,A5,vl,oV,kJ]/\St w LZ [.box mV (yT t hZ iD iJ gW gy iA) 31,.box GC (yS s e5 fg fH fI) 27] [sF true Cp HA Ja ((QK s t).1),sF true fx nN nF ((vK s t).1),sF true A5 gy iA t.qJ,sF true vl iJ gW t.qQ,sF true oV hZ iD t.qK,sF false Bk fH fI s.qB,sF true kJ e5 fg s.qA]) ?_ ?_
     ·refine xX (sq 1<|sp (Bv (((QK s t).2:Int) == 0))<|sq 1<|oN rfl<|sp (Bv<|decide ((((vK s t).1).length:Int)>0))<|sw<|o_neB underlying4 (((QK s t).2:Int) == 0) (decide ((((vK s t).1).length:Int)>0)) rfl rfl<|sp (Bv ((((QK s t).2:Int) == 0) != (decide ((((vK s t).1).length:Int)>0)))) ?_)
      cases LP:((((QK s t).2:Int) == 0) != (decide ((((vK s t).1).length:Int)>0)))
      ·replace LP:=xA LP
       refine qP 204 rfl rfl<|sq 1<|qP 204 rfl rfl<|sp (Bv (((QD s t).2:Int) == 0))<|qP 204 rfl rfl<|sp (Bv ((Qn s t).1))<|qP 204 rfl rfl<|sw<|o_neB underlying4 (((QD s t).2:Int) == 0) ((Qn s t).1) rfl rfl<|sp (Bv ((((QD s t).2:Int) == 0) != ((Qn s t).1)))<|xZ<|meet ⟨_,(((QD s t).2:Int) == 0) != ((Qn s t).1),uE8,?_,N,H⟩
       ·exact halts_h lr.1 ae
      replace LP:=bne_iff_ne.1 LP
      refine xY (zR 205 4)<|sp (Bv true)<|xZ<|meet ⟨_,true,uE8,?_,N,H⟩
      ·(exfalso;exact X5 sh.1 ql)
     clear H N
     rintro ρ A8 ⟨xN,TL,rfl,j31,N,H⟩
     refine t_n<|zX _ rfl (fun RD=>?_)<|fun RD=>?_
     ·refine zcr (sp (Bv false)<|zjr<|t_r<|rH1 (Bv false) H ?_)
      exfalso;exact absurd (j31.symm.trans ql) qj
     refine qZ<|t_n<|zcc<|sq 1<|sp (Bv (((QK s t).2:Int) == 0))<|zjn<|VD (fun ρ CW=>∃(xN:Env),ρ=upd (upd (upd (upd (upd xN 5<|pp GC 0) 6<|pp mV 0) 9<|Bv ((Qn s t).1)) 11<|Sv nN (((vK s t).1).length) nF) 25 (yI ((QD s t).1))/\Fresh w.heap.size [fx,A5,vl,oV,kJ]/\St w CW [.box mV (yT t hZ iD iJ gW gy iA) 31,.box GC (yS s e5 fg fH fI) 27] [sF true fx nN nF ((vK s t).1),sF true A5 gy iA t.qJ,sF true vl iJ gW t.qQ,sF true oV hZ iD t.qK,sF false Bk fH fI s.qB,sF true kJ e5 fg s.qA]) ?_ ?_
     ·refine cE rfl (fun Fd=>?_) (fun Fd=>?_)
      ·obtain⟨r1,r2,r3⟩:=sh_run c0 Fd
       have r2':¬firstIdx (fun zz=>decide ((vK s t).1[zz]! =(XP s t (QK s t).1).1)) (vK s t).1.length<0:=fun h=>find_mem.1 h r2
       refine zcr<|sw<|xy (yS s e5 fg fH fI) isAgg27 sizeOf27 rfl (qC (H.cells 1 rfl) 0 3)<|sw<|xy (yT t hZ iD iJ gW gy iA) isAgg31 sizeOf31 rfl (qC (H.cells 0 rfl) 0 3)<|sq 1 ?_
       have agY:=H.base.size
       have aeg:=H.ltN (L:=[Cp,fx,A5,vl,oV,kJ]) [0,1,2,3,4,6]
       refine sw<|oc (implCh_ok _ s t ((QK s t).1) (H.get 6 rfl).1 (H.get 5 rfl).1 (H.get 4 rfl).1 (H.get 3 rfl).1 (H.get 2 rfl).1 (H.get 0 rfl).1) ?_
       rintro _ CN ⟨gG,Nw,gA,jp,SO,kh,rT,sP,eX,Mn,eW,rfl,M,K⟩ _
       replace N:=N.merge agY aeg M
       replace H:=H.merge K M
       obtain rfl:=H.Xg 0 rfl
       obtain rfl:=H.xQ (α:=yLI) 1 rfl 0 rfl qj
       obtain rfl:=H.jy 2 rfl
       refine sq 3<|sw<|xg H ti31 [yN,yN,yN] fun mQ Kk H=>sw<|xx H 0 [Sv gG ((((XP s t ((QK s t).1)).1).qK).length) gA,Sv jp ((((XP s t ((QK s t).1)).1).qQ).length) kh,Sv eX ((((XP s t ((QK s t).1)).1).qJ).length) eW] sizeOf31 fun CP H=>sq 1<|zjn<|xU<|VD (fun ρ R7=>∃(xN:Env) (Sg:Bool),ρ=upd (upd (upd (upd (upd (upd xN 5<|pp GC 0) 6<|pp mV 0) 9<|Bv ((Qn s t).1)) 11<|Sv nN (((vK s t).1).length) nF) 25<|yI ((QD s t).1)) 235 (Bv Sg)/\(Sg=false)/\Fresh w.heap.size [sP,fx,A5,vl,oV,kJ]/\St w R7 [.box mQ [Sv gG ((((XP s t ((QK s t).1)).1).qK).length) gA,Sv jp ((((XP s t ((QK s t).1)).1).qQ).length) kh,Sv eX ((((XP s t ((QK s t).1)).1).qJ).length) eW] 31,rr gG ((((XP s t ((QK s t).1)).1).qK).length) gA 4 1 ((((XP s t ((QK s t).1)).1).qK).map<|Value.bool),rr jp ((((XP s t ((QK s t).1)).1).qQ).length) kh 24 1 rT,rr eX ((((XP s t ((QK s t).1)).1).qJ).length) eW 2 1 ((((XP s t ((QK s t).1)).1).qJ).map<|Value.int .i64),.box mV (yT t hZ iD iJ gW gy iA) 31,.box GC (yS s e5 fg fH fI) 27] [xG true sP rT (((XP s t ((QK s t).1)).1).qQ),sF true fx nN nF ((vK s t).1),sF true A5 gy iA t.qJ,sF true vl iJ gW t.qQ,sF true oV hZ iD t.qK,sF false Bk fH fI s.qB,sF true kJ e5 fg s.qA]) ?_ ?_
       ·refine xX (sq 1<|sp (Bv (((XP s t ((QK s t).1)).2:Int) != 0))<|sp (Bv (((XP s t ((QK s t).1)).2:Int) != 0)) ?_)
        cases ET:(((XP s t ((QK s t).1)).2:Int) != 0)
        ·replace ET:=xA ET
         refine qP 221 rfl rfl<|sq 1<|qP 221 rfl rfl<|sw<|xy [Sv gG ((((XP s t ((QK s t).1)).1).qK).length) gA,Sv jp ((((XP s t ((QK s t).1)).1).qQ).length) kh,Sv eX ((((XP s t ((QK s t).1)).1).qJ).length) eW] isAgg31 sizeOf31 rfl (qC (H.cells 0 rfl) 0 3)<|qP 221 rfl rfl ?_
         obtain⟨auJ,aqX,Ur⟩:=H.rowIsB 1 rfl
         obtain⟨auu,atn,ajH⟩:=H.QL (α:=yLI) 2 rfl 0 rfl qj
         obtain⟨YR,Zn,Ta⟩:=H.XB 3 rfl
         refine sw<|oq (a2Place_ok _ ((vK s t).1) ((XP s t ((QK s t).1)).1) (H.get 2 rfl).1 Ur ajH Ta) H fun Ai H=>qP 221 rfl rfl<|sp (Bv<|decide ((firstIdx (fun zz=>decide (((vK s t).1)[zz]! =((XP s t ((QK s t).1)).1))) ((vK s t).1).length:Int)<0))<|sp (Bv<|decide ((firstIdx (fun zz=>decide (((vK s t).1)[zz]! =((XP s t ((QK s t).1)).1))) ((vK s t).1).length:Int)<0))<|sp (Bv<|decide ((firstIdx (fun zz=>decide (((vK s t).1)[zz]! =((XP s t ((QK s t).1)).1))) ((vK s t).1).length:Int)<0)) ?_
         cases GA:(decide ((firstIdx (fun zz=>decide (((vK s t).1)[zz]! =((XP s t ((QK s t).1)).1))) ((vK s t).1).length:Int)<0))
         ·replace GA:=of_decide_eq_false GA
          refine qP 227 rfl rfl<|sp (Bv ((Qn s t).1))<|qP 227 rfl rfl<|sp (Bv ((Qn s t).1)) ?_
          cases ad2:((Qn s t).1)
          ·refine xY (zR 230 4) (qP 227 rfl rfl<|sp (Bv false)<|sp (Bv false)<|xZ<|meet ⟨_,false,uE6,?_,(N.pick (0::zR 2 5)),H.pick (zR 0 6) (0::zR 2 6)⟩)
           ·rfl
          refine qP 229 rfl rfl<|sq 1<|qP 229 rfl rfl<|oN rfl<|qP 229 rfl rfl<|sq 1<|qP 229 rfl rfl<|sq 1<|qP 227 rfl rfl<|sq 2<|xZ<|meet ⟨_,decide ((((QK s t).1).length:Int)>((QD s t).1)),uE6,?_,(N.pick (0::zR 2 5)),H.pick (zR 0 6) (0::zR 2 6)⟩
          ·exact decide_eq_false (by have:=r3 (Xu ae ql);omega)
         replace GA:=of_decide_eq_true GA
         refine xY (zR 228 7)<|sp (Bv true)<|xZ<|meet ⟨_,true,uE6,?_,(N.pick (0::zR 2 5)),H.pick (zR 0 6) (0::zR 2 6)⟩
         ·(exfalso;omega)
        replace ET:=bne_iff_ne.1 ET
        refine xY (zR 222 4)<|sp (Bv true)<|sp (Bv true)<|xY (zR 228 7)<|sp (Bv true)<|xZ<|meet ⟨_,true,uE6,?_,(N.pick (0::zR 2 5)),H.pick (zR 0 6) (0::zR 2 6)⟩
        ·(exfalso;omega)
       clear H N
       rintro ρ Tw ⟨xN,Sg,rfl,j35,N,H⟩
       refine t_n<|zX _ rfl (fun aed=>?_)<|fun aed=>?_
       ·exact absurd (j35.symm.trans aed) qj
       refine qZ<|meet ⟨_,uE5,(N.pick<|zR 1 5),H.pick [4,5]<|zR 1 6⟩
      refine qZ<|meet ⟨_,uE5,(N.pick<|zR 1 5),H.pick [0,1]<|zR 1 6⟩
     clear H N
     rintro ρ ZM ⟨xN,rfl,N,H⟩
     refine t_n<|zcc<|sp (Bv ((Qn s t).1))<|sp (Bv (!((Qn s t).1)))<|zjn<|zX _ rfl (fun nE=>?_)<|fun nE=>?_
     ·replace nE:=x8 nE
      refine zcr<|sp (Bv true)<|zjr<|t_r<|rH1 (Bv true) H ?_
      rfl
     replace nE:=xO nE
     have hx:=Xu ae nE
     have lp:=lr_pos c0 hx
     refine qZ<|t_n<|zcr<|sw<|xy (yS s e5 fg fH fI) isAgg27 sizeOf27 rfl (qC (H.cells 1 rfl) 0 3)<|sw<|xy (yT t hZ iD iJ gW gy iA) isAgg31 sizeOf31 rfl (qC (H.cells 0 rfl) 0 3) ?_
     have aet:=H.base.size
     have ae4:=H.ltN (L:=[fx,A5,vl,oV,kJ]) [0,1,2,3,5]
     refine sw<|oc (implRun_ok _ s t 200 (H.get 5 rfl).1 (H.get 4 rfl).1 (H.get 3 rfl).1 (H.get 2 rfl).1 (H.get 1 rfl).1) ?_
     rintro _ LM ⟨pU,NH,pW,tX,Sa,tR,Ty,tm,na,K4,oh,rfl,M,K⟩ _
     replace N:=N.merge aet ae4 M
     replace H:=H.merge K M
     obtain rfl:=H.Xg 0 rfl
     obtain rfl:=H.xQ (α:=yLI) 1 rfl 0 rfl qj
     obtain rfl:=H.jy 2 rfl
     refine sq 4<|sw<|xg H ti31 [yN,yN,yN] fun uN STz H=>sw<|xx H 0 [Sv pU ((((QH s t 200).1).qK).length) pW,Sv tX ((((QH s t 200).1).qQ).length) tR,Sv na ((((QH s t 200).1).qJ).length) oh] sizeOf31 fun az6 H=>sq 2<|zjc<|sw<|xy (yS s e5 fg fH fI) isAgg27 sizeOf27 rfl (qC (H.cells 5 rfl) 0 3)<|sw<|xy (yT t hZ iD iJ gW gy iA) isAgg31 sizeOf31 rfl (qC (H.cells 4 rfl) 0 3)<|sq 1 ?_
     have aby:=H.base.size
     have af9:=H.ltN (L:=[tm,fx,A5,vl,oV,kJ]) [0,1,2,3,4,6]
     refine sw<|oc (implSA_ok _ s t ((QD s t).1) (H.get 6 rfl).1 (H.get 5 rfl).1 (H.get 4 rfl).1 (H.get 3 rfl).1 (H.get 2 rfl).1) ?_
     rintro _ acP ⟨ap8,apc,Ro,rfl,M,K⟩ _
     replace N:=N.merge aby af9 M
     replace H:=H.merge K M
     refine sq 5<|zjcc<|sq 1<|sp (Bv<|decide (((QD s t).1:Int)>199))<|zjn<|cD rfl (fun alW=>?_)<|fun alW=>?_
     ·refine zcr (sp (Bv true)<|zjr<|t_r<|rH1 (Bv true) H ?_)
      rfl
     obtain⟨u1,u2,u3⟩:=halts_run c0 hx qf
     have u2':¬firstIdx (fun zz=>decide ((vK s t).1[zz]! =(QH s t 200).1)) (vK s t).1.length<0:=fun h=>find_mem.1 h u2
     obtain⟨v1,v2,v3,v4⟩:=halts_after c0 hx qf
     refine qZ<|t_n<|zcr<|sw<|xy (yS s e5 fg fH fI) isAgg27 sizeOf27 rfl (qC (H.cells 5 rfl) 0 3)<|sw<|xy (yT t hZ iD iJ gW gy iA) isAgg31 sizeOf31 rfl (qC (H.cells 4 rfl) 0 3)<|sq 1<|sw<|zC ((QD s t).1) 1 rfl rfl qf ?_
     have aek:=H.base.size
     have ac8:=H.ltN (L:=[Ro,tm,fx,A5,vl,oV,kJ]) [0,1,2,3,4,5,7]
     refine sw<|oc (implSA_ok _ s t (((QD s t).1)+1) (H.get 7 rfl).1 (H.get 6 rfl).1 (H.get 5 rfl).1 (H.get 4 rfl).1 (H.get 3 rfl).1) ?_
     rintro _ agL ⟨ajo,am5,ajL,rfl,M,K⟩ _
     replace N:=N.merge aek ac8 M
     replace H:=H.merge K M
     refine sq 5<|zjc<|sq 1<|sp (Bv (((QH s t 200).2.2:Int) == 0))<|sp (Bv (((QH s t 200).2.2:Int) == 0)) ?_
     cases Lk:(((QH s t 200).2.2:Int) == 0)
     ·replace Lk:=ne_of_beq_false Lk
      refine xY [265,266]<|sp (Bv false)<|sp (Bv false)<|xY [269,270]<|sp (Bv false)<|sp (Bv false)<|xY [273,274,275]<|sp (Bv false)<|sp (Bv false)<|xY (zR 278 4)<|sp (Bv false)<|sp (Bv false)<|xY [284,285,286]<|sp (Bv false)<|sp (Bv false)<|xY [289,290,291]<|sp (Bv false)<|sp (Bv false)<|zjr<|rH1 (Bv false) H ?_
      exfalso;omega
     replace Lk:=eq_of_beq Lk
     refine qP 264 rfl rfl<|sq 1<|qP 264 rfl rfl<|sp (Bv (((Va s t ((QD s t).1)).2:Int) == 0))<|sp (Bv (((Va s t ((QD s t).1)).2:Int) == 0))<|sp (Bv (((Va s t ((QD s t).1)).2:Int) == 0)) ?_
     cases Mj:(((Va s t ((QD s t).1)).2:Int) == 0)
     ·replace Mj:=ne_of_beq_false Mj
      refine xY [269,270]<|sp (Bv false)<|sp (Bv false)<|xY [273,274,275]<|sp (Bv false)<|sp (Bv false)<|xY (zR 278 4)<|sp (Bv false)<|sp (Bv false)<|xY [284,285,286]<|sp (Bv false)<|sp (Bv false)<|xY [289,290,291]<|sp (Bv false)<|sp (Bv false)<|zjr<|rH1 (Bv false) H ?_
      exfalso;omega
     replace Mj:=eq_of_beq Mj
     refine qP 268 rfl rfl<|sq 1<|qP 268 rfl rfl<|sp (Bv (((Va s t (((QD s t).1)+1)).2:Int) == 0))<|sp (Bv (((Va s t (((QD s t).1)+1)).2:Int) == 0))<|sp (Bv (((Va s t (((QD s t).1)+1)).2:Int) == 0)) ?_
     cases MJ:(((Va s t (((QD s t).1)+1)).2:Int) == 0)
     ·replace MJ:=ne_of_beq_false MJ
      refine xY [273,274,275]<|sp (Bv false)<|sp (Bv false)<|xY (zR 278 4)<|sp (Bv false)<|sp (Bv false)<|xY [284,285,286]<|sp (Bv false)<|sp (Bv false)<|xY [289,290,291]<|sp (Bv false)<|sp (Bv false)<|zjr<|rH1 (Bv false) H ?_
      exfalso;omega
     replace MJ:=eq_of_beq MJ
     refine qP 272 rfl rfl<|sq 1<|qP 272 rfl rfl<|sq 1<|qP 272 rfl rfl<|sp (Bv<|decide (((QH s t 200).2.1:Int)<=((QD s t).1)))<|sp (Bv<|decide (((QH s t 200).2.1:Int)<=((QD s t).1)))<|sp (Bv<|decide (((QH s t 200).2.1:Int)<=((QD s t).1))) ?_
     cases yb:(decide (((QH s t 200).2.1:Int)<=((QD s t).1)))
     ·replace yb:=of_decide_eq_false yb
      refine xY (zR 278 4)<|sp (Bv false)<|sp (Bv false)<|xY [284,285,286]<|sp (Bv false)<|sp (Bv false)<|xY [289,290,291]<|sp (Bv false)<|sp (Bv false)<|zjr<|rH1 (Bv false) H ?_
      exfalso;omega
     replace yb:=of_decide_eq_true yb
     refine qP 277 rfl rfl<|sq 1<|qP 277 rfl rfl<|sw<|xy [Sv pU ((((QH s t 200).1).qK).length) pW,Sv tX ((((QH s t 200).1).qQ).length) tR,Sv na ((((QH s t 200).1).qJ).length) oh] isAgg31 sizeOf31 rfl (qC (H.cells 0 rfl) 0 3)<|qP 277 rfl rfl ?_
     obtain⟨awk,atb,ajP⟩:=H.rowIsB 1 rfl
     obtain⟨alJ,asU,ac3⟩:=H.QL (α:=yLI) 2 rfl 2 rfl qj
     obtain⟨azT,aqk,anx⟩:=H.XB 3 rfl
     refine sw<|oq (a2Place_ok _ ((vK s t).1) ((QH s t 200).1) (H.get 3 rfl).1 ajP ac3 anx) H fun aoX H=>qP 277 rfl rfl<|sp (Bv<|decide ((firstIdx (fun zz=>decide (((vK s t).1)[zz]! =((QH s t 200).1))) ((vK s t).1).length:Int)>=0))<|sp (Bv<|decide ((firstIdx (fun zz=>decide (((vK s t).1)[zz]! =((QH s t 200).1))) ((vK s t).1).length:Int)>=0))<|sp (Bv<|decide ((firstIdx (fun zz=>decide (((vK s t).1)[zz]! =((QH s t 200).1))) ((vK s t).1).length:Int)>=0)) ?_
     cases Ji:(decide ((firstIdx (fun zz=>decide (((vK s t).1)[zz]! =((QH s t 200).1))) ((vK s t).1).length:Int)>=0))
     ·replace Ji:=of_decide_eq_false Ji
      refine xY [284,285,286]<|sp (Bv false)<|sp (Bv false)<|xY [289,290,291]<|sp (Bv false)<|sp (Bv false)<|zjr<|rH1 (Bv false) H ?_
      exfalso;omega
     replace Ji:=of_decide_eq_true Ji
     refine qP 283 rfl rfl<|sq 1<|qP 283 rfl rfl<|oN rfl<|qP 283 rfl rfl<|sp (Bv<|decide ((((Va s t ((QD s t).1)).1).length:Int)>0))<|sp (Bv<|decide ((((Va s t ((QD s t).1)).1).length:Int)>0))<|sp (Bv<|decide ((((Va s t ((QD s t).1)).1).length:Int)>0)) ?_
     cases LB:(decide ((((Va s t ((QD s t).1)).1).length:Int)>0))
     ·replace LB:=of_decide_eq_false LB
      refine xY [289,290,291]<|sp (Bv false)<|sp (Bv false)<|zjr<|rH1 (Bv false) H ?_
      exfalso;omega
     replace LB:=of_decide_eq_true LB
     refine qP 288 rfl rfl<|sq 1<|qP 288 rfl rfl<|oN rfl<|qP 288 rfl rfl<|sp (Bv ((((Va s t (((QD s t).1)+1)).1).length:Int) == 0))<|sp (Bv ((((Va s t (((QD s t).1)+1)).1).length:Int) == 0))<|sp (Bv ((((Va s t (((QD s t).1)+1)).1).length:Int) == 0))<|zjr<|rH1 (Bv ((((Va s t (((QD s t).1)+1)).1).length:Int) == 0)) H ?_
     rw[v4];rfl
    replace Ow:=bne_iff_ne.1 Ow
    refine xY [95,96,97]<|sp (Bv true)<|zjn<|cTr rfl<|zcr<|sp (Bv false)<|zjr<|t_r<|rH1 (Bv false) H ?_
    exfalso;omega
   replace Re:=bne_iff_ne.1 Re
   refine xY [90,91,92]<|sp (Bv true)<|sp (Bv true)<|xY [95,96,97]<|sp (Bv true)<|zjn<|cTr rfl<|zcr<|sp (Bv false)<|zjr<|t_r<|rH1 (Bv false) H ?_
   exfalso;omega
  ·exact absurd rfl<|bne_iff_ne.1 K7
 replace h1:=of_decide_eq_true h1
 refine xY [9,10,11]<|sp (Bv true)<|sp (Bv true)<|zjr<|ret1 (Bv true) rfl rfl ⟨_,rfl,(zjn<|cTr rfl<|zcr<|sp (Bv true)<|zjr<|t_r<|rH1 (Bv true) H ?_)⟩
 rfl
end
section
open Go.ChangeShapes Go.WideShapes Go.ChangeAt Go.RowKit Go.Joins
def Reads(P:Program)(t:TypeId)(α:Type)[qX α]:Prop:=
 ∀ {H:Type} {enc:TypeId×Value->H} {w:World} {DM:Nat->Bool} {M9:Bool} {fuel:Nat} {cs:List Value} {x:DataW H×List MemPlace},
  DataW.trod enc P w 0 DM M9 fuel t cs=some x->∃F,∃y:α,qX.rep w F cs y
theorem cell_spot{a:Addr}(h:w.cell? a=some v):a.spot=none:=by
 unfold World.cell? at h
 split at h
 ·split at h
  ·cases h
  ·rename_i hs;simpa using hs
 ·cases h
theorem reads_slice{α:Type}[qX α]{t:TypeId}(hu:P.underlying t=some (.slice e))(hc:P.cellsOf e=qX.size α)(hz:0<qX.size α)(he:Reads P e α):Reads P t (List α):=by
 intro H enc w DM M9 fuel cs x h
 rcases DataW.trod_slice hu h with ⟨rfl,_⟩|⟨a,len,ed,elems,ai,n,_,rfl,_,_,hlc,hcm,hel,hget,_⟩
 ·exact⟨[],[],none,0,rfl,by simp,Or.inl ⟨rfl,rfl⟩⟩
 ·have hm:ed<=9223372036854775807:=by unfold maxLen at hcm;omega
  rcases Nat.eq_zero_or_pos len with h0|h0
  ·subst h0
   exact⟨[],[],some a,ed,rfl,by simp,Or.inl ⟨rfl,rfl⟩⟩
  ·have LU:∀i,i<len->∃ci Fi,∃y:α,w.cells? 0 (a.add<|i*qX.size α) (qX.size α)=some ci/\qX.rep w Fi ci y:=by
    intro i hi
    have hg:=hget i hi
    rw[hc] at hg
    have hs:elems[i]? =some (elems[i]'(by omega)):=List.getElem?_eq_getElem qf
    rw[hs] at hg
    obtain⟨ci,h1,h2⟩:=Option.bind_eq_some_iff.1 hg
    obtain⟨Fi,y,hr⟩:=he h2
    exact⟨ci,Fi,y,h1,hr⟩
   have hsp:a.spot=none:=by
    obtain⟨ci,Fi,y,h1,_⟩:=LU 0 h0
    obtain⟨_,hl,JT⟩:=World.cells?_some h1
    have:=JT 0 hz
    rw[List.getElem?_eq_getElem<|show 0<ci.length by omega] at this
    have:=cell_spot this
    simpa [Addr.add] using this
   obtain⟨b,aF,sp⟩:=a
   simp only at hsp
   subst hsp
   have ao3:∀i j:Nat,((⟨b,aF,none⟩:Addr).add<|i*qX.size α).add j=⟨b,aF+i*qX.size α+j,none⟩:=fun i j=>by simp[Addr.add_mid]
   have uU:∀m,m<=len->∃F vs,∃l:List α,l.length=m/\reps w F vs l/\jC w b aF vs:=by
    intro m
    induction m with
    |zero=>exact fun _=>⟨[],[],[],rfl,⟨rfl,rfl⟩,fun i v hv=>by simp at hv⟩
    |succ m ih=>
     intro IOz
     obtain⟨F,vs,l,hl,hr,mZ⟩:=ih qf
     obtain⟨ci,Fi,y,h1,h2⟩:=LU m qf
     obtain⟨_,auy,JT⟩:=World.cells?_some h1
     refine⟨F++Fi,vs++ci,l++[y],by simp[hl],Qw hr<|reps_one h2,fun i v hv=>?_⟩
     have hvl:=X7 hr
     rw[hl] at hvl
     rcases Nat.lt_or_ge i vs.length with hi|hi
     ·rw[List.getElem?_append_left hi] at hv
      exact mZ i v hv
     ·rw[List.getElem?_append_right hi] at hv
      have hi2:i-vs.length<ci.length:=by
       rcases Nat.lt_or_ge (i-vs.length) ci.length with h|h
       ·exact h
       ·simp[h] at hv
      have:=JT (i-vs.length) qf
      rw[ao3,hv] at this
      rw[←this]
      congr 1
      rw[show aF+i=aF+m*qX.size α+(i-vs.length) by omega]
   obtain⟨F,vs,l,hl,hr,mZ⟩:=uU len<|Nat.le_refl _
   have hb:b<w.heap.size:=by
    have h1:0<vs.length:=by rw[X7 hr,hl];exact Nat.mul_pos h0 hz
    exact World.block_lt_of_cell? w _<|mZ 0 _<|List.getElem?_eq_getElem h1
   subst hl
   exact⟨b::F,l,some ⟨b,aF,none⟩,ed,rfl,⟨by omega,hlc⟩,Or.inr ⟨b,aF,F,vs,rfl,rfl,hb,hr,mZ⟩⟩
theorem arg_slice{α:Type}[qX α]{H:Type}{enc:TypeId×Value->H}{DM:Nat->Bool}{M9:Bool}{b0:Nat}{t:TypeId}{d:DataW H}{p:List MemPlace}(hu:P.underlying t=some (.slice e))(hr:Reads P t (List α))
 (hv:Value.okWide P w .any b0 t v) (h:DataW.Trod enc P w 0 DM M9 t v d p):∃(a:yOA) (c:Nat) (F:yLN) (l:List α),v=Sv a l.length c/\qX.rep w F [Sv a l.length c] l:=by
 obtain⟨a,m,c,rfl⟩:=okWide_slice hu hv
 obtain⟨fuel,hf⟩:=h
 obtain⟨F,l,hl⟩:=hr hf
 have pn:(Value.slice a m c).cells.toList=[Sv a m c]:=rfl
 rw[pn] at hl
 obtain⟨a',c',hc,hx⟩:=id hl
 simp only[List.cons.injEq,Value.slice.injEq,and_true] at hc
 obtain⟨rfl,rfl,rfl⟩:=hc
 exact⟨a,c,F,l,rfl,hl⟩
section
variable{H : Type}{enc : TypeId × Value -> H}{P : Program}
theorem trodAll_below(hl:laidOutB P=true){W W':World}(hb:Below W.heap.size W W'):
 ∀(ts:List TypeId) (vs:List Value) (ds:List (DataW H)) (ps:List MemPlace),(∀t∈ts,P.readableRec t=true/\t<P.types.size)→
  DataW.TrodAll enc P W 0 (fun _=>true) true ts vs ds ps->(∀x∈ps,x.block<W.heap.size)→
  DataW.TrodAll enc P W' 0 (fun b=>decide<|b<W.heap.size) true ts vs ds ps
 | [],vs,ds,ps,_,h,_=>by
  obtain⟨rfl,rfl,rfl⟩:=trodAll_nil h
  exact trodAll_mk0
 |t::ts,vs,ds,ps,hr,h,hp=>by
  obtain⟨v,vs',d,ds',p,q,rfl,rfl,rfl,h0,h1⟩:=trodAll_cons h
  have ht:=hr t<|List.mem_cons_self ..
  exact trodAll_cons_mk (Below.trod hl ht.1 ht.2 h0 hb<|fun x hx=>hp x<|List.mem_append_left _ hx)
   (trodAll_below hl hb ts vs' ds' q (fun t' ht'=>hr t'<|List.mem_cons_of_mem _ ht') h1<|fun x hx=>hp x<|List.mem_append_right _ hx)
theorem post_law{f:Func}{s:ChangeSpec}{W W':World}{args:Array Value}{tb:TypeId}{ds gs:List (DataW H)}{ub:List MemPlace}
 (hW:DataW.Whole enc P f.params.toList s.vars false W args.toList ds gs ub) (hv:s.vars=[])
 (hs:s.fn H (ds++[])={ results:=[.lit<|.bool true],args:=ds }) (hr:f.resultTypes=#[tb]) (hu:P.underlying tb=some .bool)
 (hl:laidOutB P=true) (hts:∀t∈f.params.toList,P.readableRec t=true/\t<P.types.size) (hb:Below W.heap.size W W'):
 s.post enc P f false true false false W args (Bv true) W':=by
 have hW':=hW
 obtain⟨p,q,hA,hV,rfl,hz,hn⟩:=hW
 rw[hv] at hV
 obtain⟨rfl,rfl⟩:=trodVars_none hV
 have Bp:∀x∈p++[],x.block<W.heap.size:=fun x hx=>hW'.lt x hx
 refine⟨ds,[],p++[],[],p,[],hW',?_,?_,?_,World.keptBut_mono (fun x hx=>⟨hx,Or.inr<|Or.inl<|by simpa using hx⟩) (hb.frame (·∈p++[])),fun h=>by cases h⟩
 ·rw[hs,hr]
  simp only[Value.resultList]
  exact trodAll_mk1<|shut_bool hu true
 ·rw[hs]
  exact trodAll_below hl hb _ _ _ _ hts hA<|fun x hx=>Bp x<|by simpa using hx
 ·rw[hv,hs]
  exact rfl
end
theorem reads_byte{t:TypeId}(hu:P.underlying t=some (.int .u8)):Reads P t UInt8:=fun h=>by
 obtain⟨n,rfl,_,hw⟩:=DataW.trod_int hu h
 have hb:0<=n/\n<=255:=by
  simp[Lit.wf,IntKind.min,IntKind.max,IntKind.signed,IntKind.bits] at hw
  omega
 refine⟨[],UInt8.ofNat n.toNat,rfl,?_⟩
 have e:(UInt8.ofNat n.toNat).toNat=n.toNat:=by
  simp
  omega
 rw[e,Int.toNat_of_nonneg hb.1]
end
end Go.Proofs.YtdhklgjmiamiaaaGreat
