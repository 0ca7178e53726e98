/- Walks and laws, printed by program and by hand: what each function comes to, for all arguments, part 3. -/
import Derived.Test.YtdhklgjmiamiaaaGreatA2
namespace Go.Proofs.YtdhklgjmiamiaaaGreat
open Go.Proofs.Tryz
set_option linter.unusedVariables false
set_option linter.unusedSimpArgs false
set_option maxRecDepth 100000
set_option maxHeartbeats 4000000
open Go.RowKit
open Go.Proofs.Tryz
open Go.Proofs.YtdhklgjmiamiaaaGreat.Tot (tot)
open Go.Proofs.YtdhklgjmiamiaaaGreat.Mark (cnt mrk mkd mkd_mark cnt_mark)
variable{F Fb Fl aD tv tW uv uu tE Am xJ xW xu zF zk:yLN}{VS ab al dV eh eo eB iU qF qM qO qV vw xm:yOA}{b c c' f i j k m n nn q zT:Nat}{cn cs l ai:yLI}{e e2:TypeId}{fr:Bool}{iu aQ z:Int}{ad:yLL}{r:yH}{s:qH}{t u:qG}{v:Value}{w:World}{xs:List Value}{Γ:List Fact}
section
variable{bs os qE qN bt ot qU xk qL : Nat}
theorem l03Before_ok(w:World)(a:yLI)(b:yLI){aa:yOA}{ca:Nat}{Fa:yLN}{cb:Nat}(ha:zP w Fa aa ca a)(hb:zP w Fb ab cb b)(p0:a.length=b.length):Calls Tryz.prog 156 #[Sv aa a.length ca,Sv ab b.length cb] w (Ret (fun v w'=>v=Bv (dec<|ahead a b)) w):=by
 refine en func156 ntmps156 ?_
 have H:=((St.start w).arg hb).arg ha
 have U4:=qR ha
 clear ha hb
 have N:=Fresh.nil w.heap.size
 refine zcr<|sp (Bv false)<|zjcc<|sp (yI 0)<|zjn<|xf<|zD ((fun Z0 Z1=>fun m' ρ w1=>∃(xN:Env) (i:Nat),ρ=upd (upd (upd xN 0<|Sv aa a.length ca) 1<|Sv ab b.length cb) 5 (yI i)/\((i:Int)<=a.length)/\(SameTo a b i)/\m'=(a.length-(i:Int)).toNat/\Fresh w.heap.size []/\St w w1 [] [Z0,Z1]) _ _) ((a.length-(0:Int)).toNat) ⟨_,0,uE3,qf,qx,rfl,N,H⟩ ?_
 clear H N
 rintro m' ρ w2 ⟨xN,i,rfl,i0,i1,rfl,N,H⟩
 refine zcc<|sp (yI i)<|sq 1<|oN rfl<|sq 1<|zjn<|cD rfl (fun h3=>?_)<|fun h3=>?_
 ·refine qZ (t_n<|xU<|xf<|xU<|ji rfl H fun H=>rtl 0 H ?_)
  refine rtp 1 (yI i) H ?_
  obtain⟨b5,o6,rfl⟩:=H.addr 0 rfl qf
  refine tI 2 rfl rfl rfl H ?_
  refine tL 3 rfl rfl (fun _ h=>h.zS 0 rfl i qf) H ?_
  refine rtl 4 H ?_
  refine rtp 5 (yI i) H ?_
  obtain⟨b8,o9,rfl⟩:=H.addr 1 rfl qf
  refine tI 6 rfl rfl rfl H ?_
  refine tL 7 rfl rfl (fun _ h=>h.zS 1 rfl i qf) H ?_
  refine rtl 8 H ?_
  refine xC qh<|t_n<|zX _ rfl (fun aV=>?_)<|fun aV=>?_
  ·replace aV:=bne_iff_ne.1 aV
   refine xU<|ji rfl H fun H=>rtl 0 H ?_
   refine rtp 1 (yI i) H ?_
   refine tI 2 rfl rfl rfl H ?_
   refine tL 3 rfl rfl (fun _ h=>h.zS 0 rfl i qf) H ?_
   refine rtl 4 H ?_
   refine rtp 5 (yI i) H ?_
   refine tI 6 rfl rfl rfl H ?_
   refine tL 7 rfl rfl (fun _ h=>h.zS 1 rfl i qf) H ?_
   refine rtl 8 H ?_
   refine rtl 9 H ?_
   refine xC qh<|t_n<|c_ret<|zr5<|rH1 (Bv<|decide ((a[i]! :Int)<(b[i]!))) H ?_
   rw[show decide (a[i]!<b[i]!)=dec (ahead a b) from dec_eq ⟨fun h=>ahead_yes i1 qf<|of_decide_eq_true h,fun h=>decide_eq_true<|Classical.byContradiction fun h1=>ahead_no i1 h1 ‹_› h⟩]
  replace aV:=xA aV
  refine qZ<|b_n<|t_n<|xX<|sp (yI i)<|sw<|zC i 1 rfl rfl qf<|sq 1<|xZ<|xh (m':=(a.length-((i+1):Int)).toNat) qf ⟨_,i+1,uE3,?_,?_,rfl,N,H⟩
  ·omega
  ·exact i1.succ qg
 refine zx4<|zcr<|sp (Bv false)<|zjr<|rH1 (Bv false) H ?_
 rw[xw<|ahead_same<|show SameTo a b a.length from fun j hj=>i1 j qf]
theorem l03Count_ok(w:World)(all:List yLL){RX:yOA}{call:Nat}{apJ:yLN}(uU:zP w apJ RX call all)(p0:∀j,j<=all.length->((XK all j:Nat):Int)<=2862423051509815793):Calls Tryz.prog 155 #[Sv RX all.length call] w (Ret (fun v w'=>v=yI ((XK all all.length:Nat):Int)) w):=by
 refine en func155 ntmps155 ?_
 have H:=(St.start w).arg uU
 have arR:=qR uU
 clear uU
 have N:=Fresh.nil w.heap.size
 refine zcr<|sp (yI 0)<|zjc<|sp (yI 1)<|zjcc<|sp (yI 0)<|zjn<|xf<|zD ((fun Z0=>fun m' ρ w1=>∃(xN:Env) (n:Int) (i:Nat),ρ=upd (upd (upd xN 0<|Sv RX all.length call) 3<|yI n) 4 (yI i)/\n=((XK all i:Nat):Int)/\((i:Int)<=all.length)/\m'=(all.length-(i:Int)).toNat/\Fresh w.heap.size []/\St w w1 [] [Z0]) _) ((all.length-(0:Int)).toNat) ⟨_,1,0,uE3,(by rfl),qf,rfl,N,H⟩ ?_
 clear H N
 rintro m' ρ w2 ⟨xN,n,i,rfl,rfl,i0,rfl,N,H⟩
 have pm:=prod_mul all i
 have pb:=fun h=>p0 (i+1) h
 refine zcc<|sp (yI i)<|sq 1<|oN rfl<|sq 1<|zjn<|cD rfl (fun h3=>?_)<|fun h3=>?_
 ·refine qZ (t_n<|xU<|xf<|xX<|sq 2<|sp (yI i) ?_)
  obtain⟨b4,o5,rfl⟩:=H.addr 0 rfl qf
  obtain⟨ae7,ce7,Fe7,H⟩:=H.jo 0 rfl i i qf qf qf
  refine oI rfl rfl<|oL rfl (H.zo 1 rfl 0 rfl)<|oN rfl<|sw<|o_mul ((XK all i:Nat):Int) ((all[i]!).length) rfl rfl qf<|sq 1<|xZ<|b_n<|t_n<|xX<|sp (yI i)<|sw<|zC i 1 rfl rfl qf<|sq 1<|xZ<|xh (m':=(all.length-((i+1):Int)).toNat) qf ⟨_,_,i+1,uE3,?_,?_,rfl,N,H.pick [] [2]⟩
  ·exact prod_mul all i
  ·omega
 refine zx4<|zcr<|sq 2<|zjr<|rH1 (yI ((XK all i:Nat):Int)) H ?_
 rw[show i=all.length by omega]
theorem l03Choices_ok(w:World)(s:qH)(t:qG)(hs:jC w bs os (yS s qF qE qO qN))(xe:zP w xu qF qE s.qA)(xE:zP w xW qO qN s.qB)(ht:jC w bt ot (yT t qV qU xm xk qM qL))(xR:zP w zk qV qU t.qK)(zu:zP w zF xm xk t.qQ)(xB:zP w xJ qM qL t.qJ)(p0:vz s)(p1:xK s t):Calls Tryz.prog 106 #[pp bs os,pp bt ot] w (Ret (fun v w'=>∃(iI:yOA) (pJ:Nat) (iB:Nat) (re:List Value) (iP:yLN),v=.tuple #[Sv iI pJ iB,yI ((zK s t).2)]/\Fresh w.heap.size [iP]/\St w w' [rr iI pJ iB 24 1 re] [xG true iP re ((zK s t).1)]) w):=by
 refine en func106 ntmps106 ?_
 have H:=(((((((St.start w).arg xB).arg zu).arg xR).VF ht).arg xE).arg xe).VF hs
 have zV:=qR xe
 have jb:=qR xE
 clear hs xe xE ht xR zu xB
 have N:=Fresh.nil w.heap.size
 have p2:=p0.2.1
 have p3:=p0.1.2.1
 have p4:=p1.1
 have p5:=p1.2.1
 refine zcr<|sq 1<|sp (yI 0)<|zjc<|sq 2<|sw<|zW #[pp bs os,pp bt ot] rfl rfl call154<|en func154 ntmps154 ?_
 refine zcr<|sq 2<|sp (yI 0)<|zjc<|sq 2<|sw<|oc (l03Applicable_ok _ s t (qC (H.get 0 rfl) 0 3) (H.get 1 rfl).1 (H.get 2 rfl).1 (qC (H.get 3 rfl) 0 3) (H.get 4 rfl).1 (H.get 5 rfl).1 (H.get 6 rfl).1 qg qg) ?_
 rintro _ w2 ⟨Jd,rn1,I1,rfl,M,K⟩ _
 replace H:=H.merge K M
 obtain rfl:=H.Xg 0 rfl
 have al:=appl_len s t
 refine sq 1<|zjc<|sw<|ja H underlying170 ti135 fun b7 w8 H=>sq 1<|zjc<|sw<|ja H underlying171 ti29 fun b9 ov H=>sq 1<|zjcc<|sp (yI 0)<|zjn<|xf<|zD ((fun Z0 Z1 Z2 Z3 Z4 Z5 Z6 Z7 Z8 Z9=>fun m' ρ rL=>∃(xN:Env) (c:Nat),ρ=upd (upd (upd (upd (upd (upd xN 0<|pp bs os) 1<|pp bt ot) 7<|Sv Jd ((appl s t).length) I1) 8<|Sv (aa b7 0) 0 0) 9<|Sv (aa b9 0) 0 0) 10 (yI c)/\((c:Int)<=s.qA.length)/\m'=(s.qA.length-(c:Int)).toNat/\Fresh w.heap.size []/\St w rL [Z0,Z1,Z2] [Z3,Z4,Z5,Z6,Z7,Z8,Z9]) _ _ _ _ _ _ _ _ _ _) ((s.qA.length-(0:Int)).toNat) ⟨_,0,uE6,qf,rfl,N,H⟩ ?_
 clear H N
 rintro m' ρ we ⟨xN,c,rfl,i0,rfl,N,H⟩
 refine zcc<|sp (yI c)<|sq 2<|oF rfl<|oL rfl (H.zo 0 rfl 1 rfl)<|oN rfl<|sq 1<|zjn<|cD rfl (fun dS=>?_)<|fun dS=>?_
 ·refine qZ (t_n<|xU<|xf<|zcr<|sq 2<|sp (yI c)<|sw<|zW #[pp bs os,Sv Jd ((appl s t).length) I1,yI c] rfl rfl call189<|en func189 ntmps189 ?_)
  refine zcr<|sq 2<|zjc<|sw<|ja H underlying135 ti3 fun e9 uK H=>sq 1<|zjc<|sw<|ja H underlying29 ti24 fun m1 GW H=>sq 1<|zjcc<|sp (yI 0)<|zjn<|xf ?_
  replace H:=H.boxRowI 1 [] 0
  replace H:=H.boxRow 0 rfl 1 0 rfl qj
  replace H:=H.vP (α:=yLI)
  replace H:=H.unfree 0 rfl
  refine zD ((fun Z0 Z1 Z2 Z3 Z4 Z5 Z6 Z7 Z8 Z9=>fun m' ρ EY=>∃(xN:Env) (cd:yOA) (Vl:Nat) (bZ:Nat) (rules:yLI) (cY:yOA) (cV:Nat) (cX:Nat) (lL:yLL) (dE:List Value) (gz:yLN) (i:Nat),ρ=upd (upd (upd (upd (upd (upd xN 0<|pp bs os) 1<|Sv Jd ((appl s t).length) I1) 2<|yI c) 8<|Sv cd Vl bZ) 9<|Sv cY cV cX) 10 (yI i)/\rules=(cellT s t i c)/\lL=(vY s<|cellT s t i c)/\((i:Int)<=((appl s t).length))/\m'=(((appl s t).length)-(i:Int)).toNat/\Fresh w.heap.size []/\St w EY [rr cY cV cX 24 1 dE,rr cd Vl bZ 3 1<|rules.map<|Value.int .i64,Z0,Z1,Z2] [xG false gz dE lL,Z3,Z4,Z5,Z6,Z7,Z8,Z9]) _ _ _ _ _ _ _ _ _ _) ((((appl s t).length)-(0:Int)).toNat) ⟨_,(aa e9 0),0,0,([]:yLI),(aa m1 0),0,0,([]:yLL),[],[],0,uE6,(by rfl),(by rfl),qf,rfl,N,H.pick (zR 0 5) (0::zR 2 7)⟩ ?_
  clear H N
  rintro m' ρ y6 ⟨xN,cd,Vl,bZ,rules,cY,cV,cX,lL,dE,gz,i,rfl,rfl,rfl,i0,rfl,N,H⟩
  have nQ:=H.jy 1 rfl
  have nr:=H.xQ (α:=yLI) 0 rfl 0 rfl qj
  have tl:=cellT_le s t i c
  have nl:=Q7 s<|cellT s t i c
  refine zcc<|sp (yI i)<|sq 1<|oN rfl<|sq 1<|zjn<|cD rfl (fun wx=>?_)<|fun wx=>?_
  ·refine qZ (t_n<|xU<|xf<|zcr<|sq 1<|sp (yI i) ?_)
   obtain⟨pg,rfl⟩:=H.jR 4 rfl qf
   refine oI rfl rfl<|oL rfl (H.rowBool 4 rfl (iv:=i) (i:=i) qf qf)<|sp (Bv ((appl s t)[i]!)) ?_
   cases WF:((appl s t)[i]!)
   ·refine xY (zR 24 10) (sp (Bv false)<|zjn<|cFr rfl<|qZ<|b_n<|t_n<|xX<|sp (yI i)<|sw<|zC i 1 rfl rfl qf<|sq 1<|xZ<|xh (m':=(((appl s t).length)-((i+1):Int)).toNat) qf ⟨_,_,_,_,_,_,_,_,_,_,_,i+1,uE6,?_,?_,?_,rfl,N,H⟩)
    ·exact XQ<|Qz qf ‹_›
    ·exact congrArg (vY s)<|XQ<|Qz qf ‹_›
    ·omega
   refine qP 23 rfl rfl<|sq 1<|qP 23 rfl rfl<|sq 1<|qP 23 rfl rfl<|oF rfl<|qP 23 rfl rfl<|oL rfl (H.zo 1 rfl 2 rfl)<|qP 23 rfl rfl<|sp (yI i)<|qP 23 rfl rfl ?_
   obtain⟨zw,o24,rfl⟩:=H.addr 3 rfl qf
   obtain⟨H6,J7,ahQ,aca,Yj,Zw,ahI,afs,aht,aav,aax,ZR,aiv,ail,ai3,YT,ahu,abe,H⟩:=H.Qa 3 rfl i i qf qf qf
   refine oI rfl rfl<|qP 23 rfl rfl<|oF rfl<|qP 23 rfl rfl<|oL rfl (H.zo 6 rfl 0 rfl)<|qP 23 rfl rfl<|sp (yI c)<|qP 23 rfl rfl<|sq 2<|zjn<|cE rfl (fun mg=>?_)<|fun mg=>?_
   ·refine zcr (sq 1<|sp (yI i)<|sw<|zl H underlying135 ti3 [yI i] fun rj GZ H=>sw<|zt H 2 rfl 0 rfl underlying135 ti3 rfl qj rfl rfl rfl qw qp qf fun PL PN G6 H=>?_)
    rw[snocI] at H
    refine sq 1<|zjn<|xX<|sq 3<|oF rfl<|oL rfl (H.zo 8 rfl 2 rfl)<|sp (yI i)<|oI rfl rfl<|oF rfl<|oL rfl (H.zo 6 rfl 2 rfl)<|sw<|zl H underlying29 ti24 [Sv H6 (((s.qB[i]!).zJ).length) J7] fun mX Gj H=>sw<|zt H 2 rfl 0 rfl underlying29 ti24 rfl qj rfl rfl rfl qw qp qf fun a35 c36 Jk H=>?_
    replace H:=H.yh 7 rfl 0 rfl
    refine sq 1<|xZ<|b_n<|t_n<|xX<|sp (yI i)<|sw<|zC i 1 rfl rfl qf<|sq 1<|xZ<|xh (m':=(((appl s t).length)-((i+1):Int)).toNat) qf ⟨_,_,_,_,_,_,_,_,_,_,_,i+1,uE6,?_,?_,?_,rfl,N,H.pick (zR 2 5) (0::zR 9 7)⟩
    ·exact cellT_yes (Xa qf ‹_›) ‹_›
    ·exact needs_yes (Xa qf ‹_›) ‹_›
    ·omega
   refine qZ<|b_n<|t_n<|xX<|sp (yI i)<|sw<|zC i 1 rfl rfl qf<|sq 1<|xZ<|xh (m':=(((appl s t).length)-((i+1):Int)).toNat) qf ⟨_,_,_,_,_,_,_,_,_,_,_,i+1,uE6,?_,?_,?_,rfl,N,H.pick (zR 0 5)<|zR 7 8⟩
   ·exact Xl ‹_›
   ·exact congrArg (vY s)<|Xl ‹_›
   ·omega
  refine zx4<|zcr<|sq 4<|zjr<|ret2 (Sv cd Vl bZ) (Sv cY cV cX) rfl rfl rfl ⟨_,rfl,?_⟩
  obtain rfl:i=s.qB.length:=by omega
  rw[show cellT s t s.qB.length c=vW s t c from rfl] at H nQ nr
  refine sq 5<|zjc<|sq 1<|oN rfl<|sp (Bv<|decide ((Vl:Int)>0))<|sp (Bv<|decide ((Vl:Int)>0)) ?_
  cases Bm:(decide ((Vl:Int)>0))
  ·replace Bm:=of_decide_eq_false Bm
   refine xY (zR 43 9)<|sp (Bv false)<|zjn<|cFr rfl<|qZ<|b_n<|t_n<|xX<|sp (yI c)<|sw<|zC c 1 rfl rfl qf<|sq 1<|xZ<|xh (m':=(s.qA.length-((c+1):Int)).toNat) qf ⟨_,c+1,uE6,?_,rfl,N,H.pick [2,3,4]<|zR 1 7⟩
   ·omega
  replace Bm:=of_decide_eq_true Bm
  refine qP 42 rfl rfl<|sq 1<|qP 42 rfl rfl<|sq 1<|qP 42 rfl rfl<|oF rfl<|qP 42 rfl rfl<|oL rfl (H.zo 4 rfl 1 rfl)<|qP 42 rfl rfl<|sp (yI c)<|qP 42 rfl rfl ?_
  obtain⟨b39,o40,rfl⟩:=H.addr 6 rfl qf
  obtain⟨auc,az7,ay8,H⟩:=H.jo 6 rfl c c qf qf qf
  refine oI rfl rfl<|qP 42 rfl rfl<|oL rfl (H.zo 1 rfl 0 rfl)<|qP 42 rfl rfl ?_
  have sm:=jk (p1.2.2.2.2 c qf).1
  refine sw<|oq (Vz _ (t.qQ[c]!) (H.get 0 rfl).1<|by assumption) H fun KQ H=>qP 42 rfl rfl<|sp (Bv<|decide ((Xr (t.qQ[c]!):Int)>16))<|sp (Bv<|decide ((Xr (t.qQ[c]!):Int)>16))<|zjn<|cD rfl (fun pT=>?_)<|fun pT=>?_
  ·refine zcr (sq 4<|sp (yI 3)<|zjr<|zr5<|ret3 (Sv (aa b7 0) 0 0) (Sv (aa b9 0) 0 0) (yI 3) rfl rfl rfl rfl ⟨_,rfl,?_⟩)
   replace H:=H.erases [4,1,0]
   dsimp only[zU,List.eraseIdx] at H
   refine sq 3<|sp (yI 3)<|sq 2<|sp (yI 3)<|zjcc<|sp (yI 3)<|sp (Bv true)<|zjn<|cTr rfl<|zcr<|sw<|ja H underlying29 ti24 fun Uh Wc H=>sp (yI 3)<|sq 1<|sp (yI 3)<|zjr<|t_r ?_
   replace H:=H.boxRow 0 rfl 1 0 rfl qj
   replace H:=H.vP (α:=yLI)
   refine ret2 (Sv (aa Uh 0) 0 0) (yI 3) rfl rfl rfl ⟨_,rfl,?_,H.base⟩
   rw[cho_3<|.inl<|bad_sum (c:=c) qf qf qf]
   exact⟨(aa Uh 0),0,0,[],[],rfl,N.emp,H.pick [0] [0]⟩
  refine qZ<|b_n<|t_n<|xX<|sp (yI c)<|sw<|zC c 1 rfl rfl qf<|sq 1<|xZ<|xh (m':=(s.qA.length-((c+1):Int)).toNat) qf ⟨_,c+1,uE6,?_,rfl,N,H.pick [2,3,4]<|zR 3 7⟩
  ·omega
 refine zx4<|zcc<|sp (yI 0)<|zjn<|xf ?_
 replace H:=H.boxRow 1 rfl 1 0 rfl qj
 replace H:=H.vP (α:=yLI)
 replace H:=H.boxRow 0 rfl 1 0 rfl qj
 replace H:=H.vP (α:=yLL)
 refine zD ((fun Z0 Z1 Z2 Z3 Z4 Z5 Z6 Z7=>fun m' ρ Lc=>∃(xN:Env) (cd:yOA) (Vl:Nat) (bZ:Nat) (rules:yLL) (wW:List Value) (gC:yLN) (pP:yOA) (hY:Nat) (nc:Nat) (all:List yLL) (Kc:List Value) (oi:yLN) (aZ:Nat),ρ=upd (upd (upd (upd (upd (upd xN 0<|pp bs os) 1<|pp bt ot) 7<|Sv Jd ((appl s t).length) I1) 8<|Sv cd Vl bZ) 9<|Sv pP hY nc) 13 (yI aZ)/\rules=(xP s t aZ)/\all=(zI s t aZ)/\((aZ:Int)<=s.qA.length)/\(GoodP s t aZ)/\m'=(s.qA.length-(aZ:Int)).toNat/\Fresh w.heap.size [gC,oi]/\St w Lc [rr pP hY nc 29 1 Kc,rr cd Vl bZ 135 1 wW,Z0] [xG true gC wW rules,xG true oi Kc all,Z1,Z2,Z3,Z4,Z5,Z6,Z7]) _ _ _ _ _ _ _ _) ((s.qA.length-(0:Int)).toNat) ⟨_,(aa b7 0),0,0,([]:yLL),[],[],(aa b9 0),0,0,([]:List yLL),[],[],0,uE6,(by rfl),(by rfl),qf,qx,rfl,N.emp.emp,H⟩ ?_
 clear H N
 rintro m' ρ OV ⟨xN,cd,Vl,bZ,rules,wW,gC,pP,hY,nc,all,Kc,oi,aZ,rfl,rfl,rfl,i0,gp,rfl,N,H⟩
 have nQ:=H.xQ (α:=yLI) 1 rfl 0 rfl qj
 have anl:=H.xQ (α:=yLL) 0 rfl 1 rfl qj
 have rl:=rules_le s t aZ
 have pl:=packsL_le s t aZ
 refine zcc<|sq 3<|oF rfl<|oL rfl (H.zo 2 rfl 1 rfl)<|oN rfl<|sq 1<|zjn<|cD rfl (fun h50=>?_)<|fun h50=>?_
 ·refine qZ (t_n<|xU<|xf<|zcr<|sq 3<|sw<|zW #[pp bs os,Sv Jd ((appl s t).length) I1,yI aZ] rfl rfl call189<|en func189 ntmps189 ?_)
  refine zcr<|sq 2<|zjc<|sw<|ja H underlying135 ti3 fun KA w52 H=>sq 1<|zjc<|sw<|ja H underlying29 ti24 fun Rd WP H=>sq 1<|zjcc<|sp (yI 0)<|zjn<|xf ?_
  replace H:=H.boxRowI 1 [] 0
  replace H:=H.boxRow 0 rfl 1 0 rfl qj
  replace H:=H.vP (α:=yLI)
  replace H:=H.unfree 0 rfl
  refine zD ((fun Z0 Z1 Z2 Z3 Z4 Z5 Z6 Z7 Z8 Z9 bG bX=>fun m' ρ UR=>∃(xN:Env) (iM:yOA) (fc:Nat) (iF:Nat) (xt:yLI) (cY:yOA) (cV:Nat) (cX:Nat) (lL:yLL) (dE:List Value) (gz:yLN) (i:Nat),ρ=upd (upd (upd (upd (upd (upd xN 0<|pp bs os) 1<|Sv Jd ((appl s t).length) I1) 2<|yI aZ) 8<|Sv iM fc iF) 9<|Sv cY cV cX) 10 (yI i)/\xt=(cellT s t i aZ)/\lL=(vY s<|cellT s t i aZ)/\((i:Int)<=((appl s t).length))/\m'=(((appl s t).length)-(i:Int)).toNat/\Fresh w.heap.size [gC,oi]/\St w UR [rr cY cV cX 24 1 dE,rr iM fc iF 3 1<|xt.map<|Value.int .i64,Z0,Z1,Z2] [xG false gz dE lL,Z3,Z4,Z5,Z6,Z7,Z8,Z9,bG,bX]) _ _ _ _ _ _ _ _ _ _ _ _) ((((appl s t).length)-(0:Int)).toNat) ⟨_,(aa KA 0),0,0,([]:yLI),(aa Rd 0),0,0,([]:yLL),[],[],0,uE6,(by rfl),(by rfl),qf,rfl,N,H.pick (zR 0 5) (0::zR 2 9)⟩ ?_
  clear H N
  rintro m' ρ G3 ⟨xN,iM,fc,iF,xt,cY,cV,cX,lL,dE,gz,i,rfl,rfl,rfl,i0,rfl,N,H⟩
  have nQ:=H.jy 1 rfl
  have nr:=H.xQ (α:=yLI) 0 rfl 0 rfl qj
  have tl:=cellT_le s t i aZ
  have nl:=Q7 s<|cellT s t i aZ
  refine zcc<|sp (yI i)<|sq 1<|oN rfl<|sq 1<|zjn<|cD rfl (fun KH=>?_)<|fun KH=>?_
  ·refine qZ (t_n<|xU<|xf<|zcr<|sq 1<|sp (yI i) ?_)
   obtain⟨b58,rfl⟩:=H.jR 4 rfl qf
   refine oI rfl rfl<|oL rfl (H.rowBool 4 rfl (iv:=i) (i:=i) qf qf)<|sp (Bv ((appl s t)[i]!)) ?_
   cases h59:((appl s t)[i]!)
   ·refine xY (zR 24 10) (sp (Bv false)<|zjn<|cFr rfl<|qZ<|b_n<|t_n<|xX<|sp (yI i)<|sw<|zC i 1 rfl rfl qf<|sq 1<|xZ<|xh (m':=(((appl s t).length)-((i+1):Int)).toNat) qf ⟨_,_,_,_,_,_,_,_,_,_,_,i+1,uE6,?_,?_,?_,rfl,N,H⟩)
    ·exact XQ<|Qz qf ‹_›
    ·exact congrArg (vY s)<|XQ<|Qz qf ‹_›
    ·omega
   refine qP 23 rfl rfl<|sq 1<|qP 23 rfl rfl<|sq 1<|qP 23 rfl rfl<|oF rfl<|qP 23 rfl rfl<|oL rfl (H.zo 3 rfl 2 rfl)<|qP 23 rfl rfl<|sp (yI i)<|qP 23 rfl rfl ?_
   obtain⟨GO,Ls,rfl⟩:=H.addr 5 rfl qf
   obtain⟨HX,Hz,afe,acE,aaO,adP,acZ,aa9,af0,adj,ado,acz,aix,ain,aij,YC,aad,ahR,H⟩:=H.Qa 5 rfl i i qf qf qf
   refine oI rfl rfl<|qP 23 rfl rfl<|oF rfl<|qP 23 rfl rfl<|oL rfl (H.zo 6 rfl 0 rfl)<|qP 23 rfl rfl<|sq 1<|qP 23 rfl rfl<|sq 2<|zjn<|cE rfl (fun wh=>?_)<|fun wh=>?_
   ·refine zcr (sq 1<|sp (yI i)<|sw<|zl H underlying135 ti3 [yI i] fun BE Hl H=>sw<|zt H 2 rfl 0 rfl underlying135 ti3 rfl qj rfl rfl rfl qw qp qf fun a67 c68 KF H=>?_)
    rw[snocI] at H
    refine sq 1<|zjn<|xX<|sq 3<|oF rfl<|oL rfl (H.zo 10 rfl 2 rfl)<|sp (yI i)<|oI rfl rfl<|oF rfl<|oL rfl (H.zo 6 rfl 2 rfl)<|sw<|zl H underlying29 ti24 [Sv HX (((s.qB[i]!).zJ).length) Hz] fun OE LL H=>sw<|zt H 2 rfl 0 rfl underlying29 ti24 rfl qj rfl rfl rfl qw qp qf fun a72 c73 w74 H=>?_
    replace H:=H.yh 7 rfl 0 rfl
    refine sq 1<|xZ<|b_n<|t_n<|xX<|sp (yI i)<|sw<|zC i 1 rfl rfl qf<|sq 1<|xZ<|xh (m':=(((appl s t).length)-((i+1):Int)).toNat) qf ⟨_,_,_,_,_,_,_,_,_,_,_,i+1,uE6,?_,?_,?_,rfl,N,H.pick (zR 2 5) (0::zR 9 9)⟩
    ·exact cellT_yes (Xa qf ‹_›) ‹_›
    ·exact needs_yes (Xa qf ‹_›) ‹_›
    ·omega
   refine qZ<|b_n<|t_n<|xX<|sp (yI i)<|sw<|zC i 1 rfl rfl qf<|sq 1<|xZ<|xh (m':=(((appl s t).length)-((i+1):Int)).toNat) qf ⟨_,_,_,_,_,_,_,_,_,_,_,i+1,uE6,?_,?_,?_,rfl,N,H.pick (zR 0 5)<|zR 7 10⟩
   ·exact Xl ‹_›
   ·exact congrArg (vY s)<|Xl ‹_›
   ·omega
  refine zx4<|zcr<|sq 4<|zjr<|ret2 (Sv iM fc iF) (Sv cY cV cX) rfl rfl rfl ⟨_,rfl,?_⟩
  obtain rfl:i=s.qB.length:=by omega
  rw[show cellT s t s.qB.length aZ=vW s t aZ from rfl] at H nQ nr
  refine sq 5<|zjcc<|sq 1<|oN rfl<|sp (Bv ((fc:Int) == 0))<|zjn<|cE rfl (fun BR=>?_)<|fun BR=>?_
  ·refine VR (t_x<|b_x<|t_n<|xX<|sq 1<|sw<|zC aZ 1 rfl rfl qf<|sq 1<|xZ<|xh (m':=(s.qA.length-((aZ+1):Int)).toNat) qf ⟨_,_,_,_,_,_,_,_,_,_,_,_,_,aZ+1,uE6,?_,?_,?_,?_,rfl,N,H.pick [2,3,4]<|zR 1 9⟩)
   ·exact rules_no qf
   ·exact packsL_no qf
   ·omega
   ·exact gp.succ<|by exact .inl qf
  refine qZ<|t_n<|zcr<|sq 2<|oF rfl<|oL rfl (H.zo 6 rfl 1 rfl)<|sq 1 ?_
  obtain⟨ER,o77,rfl⟩:=H.addr 8 rfl qf
  obtain⟨aAq,aw8,auU,H⟩:=H.jo 8 rfl aZ aZ qf qf qf
  refine oI rfl rfl<|oL rfl (H.zo 1 rfl 0 rfl)<|sq 1 ?_
  obtain⟨SN,my,Dw⟩:=H.QL (α:=yLI) 0 rfl 2 rfl qj
  have cp:=cell_pack p0 p1 (c:=aZ) qf
  have R1:=H.base.size
  have SF:=H.ltN (L:=[gC,oi]) [3,4]
  refine sw<|oc (Qu (by rw[←my])<|l01All_ok _ (t.qQ[aZ]!) (vY s<|vW s t aZ) (H.get 0 rfl).1 (my▸Dw) qg) ?_
  rintro _ KD ⟨aaq,asl,afn,asA,Y5,rfl,M,K⟩ _
  replace N:=N.merge R1 SF M
  replace H:=H.merge K M
  obtain rfl:=H.xQ (α:=yLI) 0 rfl 0 rfl qj
  refine sq 5<|zjcc<|sq 1<|sp (Bv (((y5 (t.qQ[aZ]!)<|vY s<|vW s t aZ).2:Int) != 0))<|zjn<|zX (((y5 (t.qQ[aZ]!)<|vY s<|vW s t aZ).2:Int) != 0) rfl (fun y2=>?_)<|fun y2=>?_
  ·replace y2:=bne_iff_ne.1 y2
   refine zcr<|sq 6<|zjr<|t_r<|zr5<|ret3 (Sv cd Vl bZ) (Sv pP hY nc) (yI ((y5 (t.qQ[aZ]!)<|vY s<|vW s t aZ).2)) rfl rfl rfl rfl ⟨_,rfl,?_⟩
   replace H:=H.erases [5,2,1,0]
   dsimp only[zU,List.eraseIdx] at H
   refine sq 7<|zjcc<|sq 1<|sp (Bv (((y5 (t.qQ[aZ]!)<|vY s<|vW s t aZ).2:Int) != 0))<|zjn<|zX (((y5 (t.qQ[aZ]!)<|vY s<|vW s t aZ).2:Int) != 0) rfl (fun CS=>?_)<|fun h=>absurd (xA h) y2
   replace CS:=bne_iff_ne.1 CS
   refine zcr<|sw<|ja H underlying29 ti24 fun R4 w92 H=>sq 3<|zjr<|t_r ?_
   replace H:=H.boxRow 0 rfl 1 0 rfl qj
   replace H:=H.vP (α:=yLI)
   refine ret2 (Sv (aa R4 0) 0 0) (yI ((y5 (t.qQ[aZ]!)<|vY s<|vW s t aZ).2)) rfl rfl rfl ⟨_,rfl,?_,H.base⟩
   rw[cho_code (bad_code (c:=aZ) qf qf ‹_›) ‹_›]
   exact⟨(aa R4 0),0,0,[],[],rfl,(N.emp.pick [0]),H.pick [0] [0]⟩
  replace y2:=xA y2
  refine qZ<|t_n<|zcr<|sq 2<|sw<|zl H underlying170 ti135 [Sv iM fc iF] fun GM L8 H=>?_
  obtain⟨Kv,N,MF,H⟩:=H.zQ 3 rfl N<|H.vX [0,4,5]
  refine sw<|zt H 5 rfl 0 rfl underlying170 ti135 rfl qj rfl rfl rfl qw qp qf fun a95 c96 NP H=>?_
  replace H:=H.yh 5 rfl 0 rfl
  replace N:Fresh w.heap.size [(gC++Kv),Y5,oi]:=(N.pick [2,0,1,3]).join
  refine sq 1<|zjn<|xX<|sq 2<|sw<|zl H underlying171 ti29 [Sv aaq (((y5 (t.qQ[aZ]!)<|vY s<|vW s t aZ).1).length) afn] fun afA LO H=>?_
  have H0:=H
  obtain⟨Kf,AD,Yg,H⟩:=H.yC (α:=yLI) 2 rfl 2 rfl qj
  replace N:Fresh w.heap.size [Kf,(gC++Kv),oi]:=Fresh.ice (N.pick [1,0,2]) H0 2 AD.1 AD.2<|H0.vX [0,7]
  clear H0
  refine sw<|zt H 5 rfl 0 rfl underlying171 ti29 rfl qj rfl rfl rfl qw qp qf fun alj alR zv H=>?_
  replace H:=H.yh 8 rfl 0 rfl
  replace N:Fresh w.heap.size [(oi++Kf),(gC++Kv)]:=(N.pick [2,0,1]).join
  refine sq 1<|xZ<|b_n<|t_n<|xX<|sq 1<|sw<|zC aZ 1 rfl rfl qf<|sq 1<|xZ<|xh (m':=(s.qA.length-((aZ+1):Int)).toNat) qf ⟨_,_,_,_,_,_,_,_,_,_,_,_,_,aZ+1,uE6,?_,?_,?_,?_,rfl,(N.pick [1,0]),H.pick [5,6,7] (2::0::zR 10 7)⟩
  ·exact rules_yes qf
  ·exact packsL_yes qf
  ·omega
  ·exact gp.succ<|by exact .inr<|show (y5 _ _).2=0 from ‹_›
 refine zx4<|zcr<|sq 4<|sp (yI 0)<|zjr<|ret3 (Sv cd Vl bZ) (Sv pP hY nc) (yI 0) rfl rfl rfl rfl ⟨_,rfl,?_⟩
 replace H:=H.erases [2]
 dsimp only[zU,List.eraseIdx] at H
 obtain rfl:aZ=s.qA.length:=by omega
 have kb:=prod_bd p0 p1 (k:=s.qA.length) qf gp
 have kn:=packsL_ne p0 p1 (k:=s.qA.length) qf gp
 refine sq 3<|sp (yI 0)<|sq 2<|sp (yI 0)<|zjcc<|sp (yI 0)<|sp (Bv false)<|zjn<|cFr rfl<|qZ<|t_n<|zcc<|sq 1 ?_
 obtain⟨Ym,JH,anh⟩:=H.QL (α:=yLL) 0 rfl 1 rfl qj
 refine sw<|oq (Qu (by rw[←JH])<|l03Count_ok _ (zI s t s.qA.length) (JH▸anh) qg) H fun II H=>sp (Bv<|decide ((((XK (zI s t s.qA.length) (zI s t s.qA.length).length:Nat):Int):Int)>300))<|zjn<|cD rfl (fun apb=>?_)<|fun apb=>?_
 ·refine zcr (sw<|ja H underlying29 ti24 fun As oe H=>sq 1<|sp (yI 3)<|zjr<|t_r ?_)
  replace H:=H.boxRow 0 rfl 1 0 rfl qj
  replace H:=H.vP (α:=yLI)
  refine ret2 (Sv (aa As 0) 0 0) (yI 3) rfl rfl rfl ⟨_,rfl,?_,H.base⟩
  rw[cho_3<|.inr qf]
  exact⟨(aa As 0),0,0,[],[],rfl,(N.emp.pick [0]),H.pick [0] [0]⟩
 have kc:¬XK (zI s t s.qA.length) (zI s t s.qA.length).length>300:=by omega
 refine qZ<|t_n<|zcr<|sq 2<|oF rfl<|oL rfl (H.zo 2 rfl 2 rfl)<|oN rfl<|sw<|zq H underlying24 ti2 s.qB.length rfl rfl qf qf qf fun Gt Tk H=>sw<|zl H underlying29 ti24 [Sv (aa Gt 0) s.qB.length s.qB.length] fun wS afw H=>sq 1<|zjcc<|sp (yI 0)<|zjn<|xf ?_
 have H0:=H
 obtain⟨yi,OP,Kp,H⟩:=H.yC (α:=yLI) 3 rfl 0 rfl qj
 replace N:Fresh w.heap.size [yi,oi]:=Fresh.ice N H0 3 OP.1 OP.2<|H0.vX [1]
 clear H0
 have H0:=H
 obtain⟨nL,Ob,Ay,H⟩:=H.yC (α:=yLL) 2 rfl 2 rfl qj
 replace N:Fresh w.heap.size [nL,yi]:=Fresh.ice (N.pick [1,0]) H0 2 Ob.1 Ob.2<|H0.vX [0]
 clear H0
 replace H:=H.boxRow 0 rfl 1 1 rfl qj
 replace H:=H.vP (α:=yLI)
 obtain⟨RI,N,JU,H⟩:=H.zQ 1 rfl N<|H.vX [1,2]
 replace H:=H.VX true 0 rfl 1 rfl qm
 replace N:Fresh w.heap.size [(RI++[]),nL,yi]:=(N.emp.pick [1,0,2,3]).join
 refine zD ((fun Z0 Z1=>fun m' ρ H7=>∃(xN:Env) (jZ:yOA) (vV:Nat) (jQ:Nat) (out:yLL) (Xf:List Value) (y8:yLN) (i:Nat),ρ=upd (upd (upd (upd xN 6<|Sv cd Vl bZ) 7<|Sv pP hY nc) 9<|Sv jZ vV jQ) 10 (yI i)/\out=(Qm s.qB.length (xP s t s.qA.length) (zI s t s.qA.length) i)/\((i:Int)<=hY)/\m'=(hY-(i:Int)).toNat/\Fresh w.heap.size [nL,yi,y8]/\St w H7 [rr jZ vV jQ 24 1 Xf] [xG true y8 Xf out,Z0,Z1]) _ _) ((hY-(0:Int)).toNat) ⟨_,(aa wS 0),1,1,[(List.replicate s.qB.length (0:Int))],[Sv (aa Gt 0) s.qB.length s.qB.length],(RI++[]),0,uE4,(by rfl),qf,rfl,(N.pick [1,2,0]),H.pick [0] [0,3,4]⟩ ?_
 clear H N
 rintro m' ρ RO ⟨xN,jZ,vV,jQ,out,Xf,y8,i,rfl,rfl,i0,rfl,N,H⟩
 have bQ:=H.xQ (α:=yLI) 0 rfl 0 rfl qj
 refine zcc<|sp (yI i)<|sq 1<|oN rfl<|sq 1<|zjn<|cD rfl (fun SE=>?_)<|fun SE=>?_
 ·have ga:=G_le (n:=s.qB.length) (rs:=(xP s t s.qA.length)) (i:=i) kn kc qf
  obtain⟨gb,gc⟩:=cell_few (s:=s) (t:=t) (n:=s.qA.length) (i:=i) p0 qf
  refine qZ<|t_n<|xU<|xf<|zcr<|sw<|ja H underlying29 ti24 fun ld LZ H=>sq 1<|zjcc<|sp (yI 0)<|zjn<|xf ?_
  replace H:=H.boxRow 0 rfl 1 0 rfl qj
  replace H:=H.vP (α:=yLI)
  refine zD ((fun Z0 Z1 Z2 Z3=>fun m' ρ FW=>∃(xN:Env) (dB:yOA) (dN:Nat) (dR:Nat) (next:yLL) (dQ:List Value) (c6:yLN) (k:Nat),ρ=upd (upd (upd (upd (upd (upd xN 6<|Sv cd Vl bZ) 7<|Sv pP hY nc) 9<|Sv jZ vV jQ) 10<|yI i) 11<|Sv dB dN dR) 12 (yI k)/\next=(nextK (Qm s.qB.length (xP s t s.qA.length) (zI s t s.qA.length) i) ((xP s t s.qA.length)[i]!) ((zI s t s.qA.length)[i]!) k)/\((k:Int)<=vV)/\m'=(vV-(k:Int)).toNat/\Fresh w.heap.size [nL,yi,y8,c6]/\St w FW [rr dB dN dR 24 1 dQ,Z0] [xG true c6 dQ next,Z1,Z2,Z3]) _ _ _ _) ((vV-(0:Int)).toNat) ⟨_,(aa ld 0),0,0,([]:yLL),[],[],0,uE6,(by rfl),qf,rfl,(N.emp.pick [1,2,3,0]),H⟩ ?_
  clear H N
  rintro m' ρ A8 ⟨xN,dB,dN,dR,next,dQ,c6,k,rfl,rfl,i0,rfl,N,H⟩
  refine zcc<|sp (yI k)<|sq 1<|oN rfl<|sq 1<|zjn<|cD rfl (fun RD=>?_)<|fun RD=>?_
  ·refine qZ (t_n<|xU<|xf<|zcr<|sp (yI 0)<|zjn<|xf<|zD ((fun Z0 Z1 Z2 Z3=>fun m' ρ CW=>∃(xN:Env) (VH:yOA) (XN:Nat) (VC:Nat) (fW:yLL) (cx:List Value) (QX:yLN) (x:Nat),ρ=upd (upd (upd (upd (upd (upd (upd xN 6<|Sv cd Vl bZ) 7<|Sv pP hY nc) 9<|Sv jZ vV jQ) 10<|yI i) 11<|Sv VH XN VC) 12<|yI k) 13 (yI x)/\fW=(nextX (Qm s.qB.length (xP s t s.qA.length) (zI s t s.qA.length) i) ((xP s t s.qA.length)[i]!) ((zI s t s.qA.length)[i]!) k x)/\((x:Int)<=(((zI s t s.qA.length)[i]!).length))/\m'=((((zI s t s.qA.length)[i]!).length)-(x:Int)).toNat/\Fresh w.heap.size [nL,yi,y8,QX]/\St w CW [rr VH XN VC 24 1 cx,Z0] [xG true QX cx fW,Z1,Z2,Z3]) _ _ _ _) (((((zI s t s.qA.length)[i]!).length)-(0:Int)).toNat) ⟨_,dB,dN,dR,(nextK (Qm s.qB.length (xP s t s.qA.length) (zI s t s.qA.length) i) ((xP s t s.qA.length)[i]!) ((zI s t s.qA.length)[i]!) k),dQ,c6,0,uE7,(by exact nextX_zero _ _ _ _),qf,rfl,N,H⟩ ?_)
   clear H N
   rintro m' ρ ZB ⟨xN,VH,XN,VC,fW,cx,QX,x,rfl,rfl,i0,rfl,N,H⟩
   have rN:=H.xQ (α:=yLI) 0 rfl 0 rfl qj
   refine zcc<|sp (yI x)<|sq 1<|sp (yI i) ?_
   obtain⟨S9,amE,rfl⟩:=H.addr 2 rfl qf
   obtain⟨aso,aqm,aqS,H⟩:=H.jo 2 rfl i i qf qf qf
   refine oI rfl rfl<|oL rfl (H.zo 1 rfl 0 rfl)<|oN rfl<|sq 1<|zjn<|cD rfl (fun ami=>?_)<|fun ami=>?_
   ·have nx:=next_le (n:=s.qB.length) (rs:=(xP s t s.qA.length)) (i:=i) (k:=k) (x:=x) kn kc qf qf qf
    have g1:=prodG_at (n:=s.qB.length) (rs:=(xP s t s.qA.length)) (all:=(zI s t s.qA.length)) (i:=i) (k:=k) qf
    have g2:=pack_at (s:=s) (t:=t) (n:=s.qA.length) (i:=i) (x:=x) qf qf
    refine qZ<|t_n<|xU<|xf<|zcr<|sq 1<|sp (yI k) ?_
    obtain⟨Uy,rfl⟩:=H.jR 1 rfl qf
    refine oI rfl rfl ?_
    obtain⟨axn,aAw,axr,ayg,adr,aeU,arF,H⟩:=H.rowElemX 1 rfl 3 rfl (iv:=k) k qf qf
    refine oL rfl (H.VI 1 rfl aeU)<|sw<|oc (XX _ ((Qm s.qB.length (xP s t s.qA.length) (zI s t s.qA.length) i)[k]!) (H.get 0 rfl).1 qg) ?_
    rintro avz adn ajl aor
    replace H:=H.zO aor ajl
    obtain⟨Sn,TF,rfl,aqp,aqd⟩:=H.yc 0 rfl
    refine sq 1<|zjcc<|sp (yI 0)<|zjn<|xf<|zD ((fun Z0 Z1 Z2 Z3 Z4 Z5 Z6 Z7=>fun m' ρ Ai=>∃(xN:Env) (r:Nat) (own:yLI),ρ=upd (upd (upd (upd (upd (upd (upd (upd (upd xN 6<|Sv cd Vl bZ) 7<|Sv (aa S9 amE) hY nc) 9<|Sv (aa Uy 0) vV jQ) 10<|yI i) 11<|Sv VH XN VC) 12<|yI k) 13<|yI x) 14<|Sv Sn (((Qm s.qB.length (xP s t s.qA.length) (zI s t s.qA.length) i)[k]!).length) TF) 15 (yI r)/\own=(setTo ((Qm s.qB.length (xP s t s.qA.length) (zI s t s.qA.length) i)[k]!) ((xP s t s.qA.length)[i]!) (((zI s t s.qA.length)[i]!)[x]!) r)/\((r:Int)<=(((xP s t s.qA.length)[i]!).length))/\m'=((((xP s t s.qA.length)[i]!).length)-(r:Int)).toNat/\Fresh w.heap.size [nL,yi,y8,QX]/\St w Ai [rr Sn (((Qm s.qB.length (xP s t s.qA.length) (zI s t s.qA.length) i)[k]!).length) TF 2 1<|own.map<|Value.int .i64,Z0,Z1] [Z2,Z3,Z4,Z5,Z6,Z7]) _ _ _ _ _ _ _ _) (((((xP s t s.qA.length)[i]!).length)-(0:Int)).toNat) ⟨_,0,((Qm s.qB.length (xP s t s.qA.length) (zI s t s.qA.length) i)[k]!),uE9,(by rfl),qf,rfl,N,H.pick [0,1,2]<|zR 1 6⟩ ?_
    clear H N
    rintro m' ρ HQ ⟨xN,r,own,rfl,rfl,i0,rfl,N,H⟩
    have tB:=H.jy 0 rfl
    refine zcc<|sp (yI r)<|sq 1<|sp (yI i) ?_
    obtain⟨Ck,aAL,rfl⟩:=H.addr 5 rfl qf
    obtain⟨aqs,as9,aru,H⟩:=H.jo 5 rfl i i qf qf qf
    refine oI rfl rfl<|oL rfl (H.zo 1 rfl 0 rfl)<|oN rfl<|sq 1<|zjn<|cD rfl (fun anG=>?_)<|fun anG=>?_
    ·obtain⟨g3,g4⟩:=choice_at (s:=s) (t:=t) (n:=s.qA.length) (i:=i) (r:=r) qf qf
     refine qZ<|t_n<|xU<|xf<|Qd rfl H [1,2] fun H=>?_
     have S:=H.jF [1,2]<|zR 0 8
     refine rtl 0 S ?_
     refine rtl 1 S ?_
     refine rtp 2 (yI i) S ?_
     refine tI 3 rfl rfl rfl S ?_
     refine tL 4 rfl rfl (fun _ h=>h.zo 1 rfl 0 rfl) S ?_
     refine rtp 5 (yI r) S ?_
     obtain⟨aeO,ajv,rfl⟩:=H.addr 0 rfl qf
     have S:=H.jF [1,2]<|zR 0 8
     refine tI 6 rfl rfl rfl S ?_
     refine tL 7 rfl rfl (fun _ h=>h.zS 0 rfl r qf) S ?_
     refine rtl 8 S ?_
     refine rtp 9 (yI i) S ?_
     refine tI 10 rfl rfl rfl S ?_
     refine tL 11 rfl rfl (fun _ h=>h.zo 3 rfl 0 rfl) S ?_
     refine rtp 12 (yI x) S ?_
     obtain⟨axk,aur,rfl⟩:=H.addr 2 rfl qf
     obtain⟨adX,ZU,aqL,H⟩:=H.jo 2 rfl x x qf qf qf
     have S:=H.jF [1,2]<|zR 2 8
     refine tI 13 rfl rfl rfl S ?_
     refine rtp 15 (yI r) S ?_
     refine ro 14 rfl<|zB (Sv adX ((((zI s t s.qA.length)[i]!)[x]!).length) ZU) isAgg24 rfl (H.zo 1 rfl 0 rfl)<|⟨H.pick [1,2]<|zR 2 8,?_⟩
     obtain⟨pD,am6,rfl⟩:=H.addr 0 rfl qf
     refine tI 16 rfl rfl rfl (H.pick [1,2]<|zR 2 8)<|ro 17 rfl<|zB (yI ((((zI s t s.qA.length)[i]!)[x]!)[r]!)) isAgg2 rfl (H.zS 0 rfl r qf)<|⟨H.pick [1,2]<|zR 2 8,?_⟩
     obtain⟨lx,rfl⟩:=H.jR 0 rfl qf
     refine tI 18 rfl rfl rfl (H.pick [1,2]<|zR 2 8)<|ro 19 rfl<|Qe H 0 rfl ((((zI s t s.qA.length)[i]!)[x]!)[r]!) sizeOf2 rfl rfl (i:=((((xP s t s.qA.length)[i]!)[r]!).toNat)) qf qf fun ML H=>⟨H.pick [1,2]<|zR 2 8,(xC qh<|b_n<|t_n<|xX<|sp (yI r)<|sw<|zC r 1 rfl rfl qf<|sq 1<|xZ<|xh (m':=((((xP s t s.qA.length)[i]!).length)-((r+1):Int)).toNat) qf ⟨_,r+1,_,uE9,?_,?_,rfl,N,H.pick [0,1,2]<|zR 4 6⟩)⟩
     ·rfl
     ·omega
    refine zx4<|xX<|sq 2<|sw<|zl H underlying29 ti24 [Sv Sn (((Qm s.qB.length (xP s t s.qA.length) (zI s t s.qA.length) i)[k]!).length) TF] fun Lt Fe H=>?_
    obtain⟨amq,N,atv,H⟩:=H.zQ 1 rfl N<|H.vX [6,7,5,4]
    refine sw<|zt H 2 rfl 0 rfl underlying29 ti24 rfl qj rfl rfl rfl qw qp qf fun akh akX Lp H=>?_
    replace H:=H.yh 5 rfl 0 rfl
    replace N:Fresh w.heap.size [(QX++amq),nL,yi,y8]:=(N.pick [4,0,1,2,3]).join
    refine sq 1<|xZ<|b_n<|t_n<|xX<|sp (yI x)<|sw<|zC x 1 rfl rfl qf<|sq 1<|xZ<|xh (m':=((((zI s t s.qA.length)[i]!).length)-((x+1):Int)).toNat) qf ⟨_,_,_,_,_,_,_,x+1,uE7,?_,?_,rfl,(N.pick [1,2,3,0]),H.pick [2,3] [0,7,8,9]⟩
    ·exact nextX_succ qf<|by rw[show r=((xP s t s.qA.length)[i]!).length by omega];rfl
    ·omega
   refine VR<|t_x<|t_x<|b_x<|b_n<|t_n<|xX<|sp (yI k)<|sw<|zC k 1 rfl rfl qf<|sq 1<|xZ<|xh (m':=(vV-((k+1):Int)).toNat) qf ⟨_,_,_,_,_,_,_,k+1,uE6,?_,?_,rfl,N,H.pick [0,1]<|zR 2 4⟩
   ·exact nextX_end qf qf
   ·omega
  refine zx4<|xX<|sq 2<|xZ<|b_n<|t_n<|xX<|sp (yI i)<|sw<|zC i 1 rfl rfl qf<|sq 1<|xZ<|xh (m':=(hY-((i+1):Int)).toNat) qf ⟨_,_,_,_,_,_,_,i+1,uE4,?_,?_,rfl,(N.pick [0,1,3]),H.pick [0] [0,2,3]⟩
  ·rw[show k=(Qm s.qB.length (xP s t s.qA.length) (zI s t s.qA.length) i).length by omega];rfl
  ·omega
 refine zx4<|zcc<|sp (yI 1)<|zjn<|xf ?_
 have on:0<(Qm s.qB.length (xP s t s.qA.length) (zI s t s.qA.length) i).length:=by rw[XF,show i=(zI s t s.qA.length).length by omega];exact prod_mono kn (Nat.zero_le _)<|Nat.le_refl _
 have on2:=G_le (n:=s.qB.length) (rs:=(xP s t s.qA.length)) (i:=i) kn kc qf
 refine zD (fun m' ρ M1=>∃(xN:Env) (az:Nat) (bL:yLL) (cW:List Value) (Xw:yLN),ρ=upd (upd xN 9<|Sv jZ vV jQ) 16 (yI az)/\((az:Int)<=vV)/\((Qm s.qB.length (xP s t s.qA.length) (zI s t s.qA.length) (zI s t s.qA.length).length).Perm bL)/\(∀a b,a<b->b<az->¬ahead (bL[b]!) (bL[a]!))/\m'=(vV-(az:Int)).toNat/\Fresh w.heap.size [Xw]/\St w M1 [rr jZ vV jQ 24 1 cW] [xG true Xw cW bL]) ((vV-(1:Int)).toNat) ⟨_,1,(Qm s.qB.length (xP s t s.qA.length) (zI s t s.qA.length) i),Xf,y8,uE2,qf,(by rw[show i=(zI s t s.qA.length).length by omega]),(by exact fun a b h1 h2=>by omega),rfl,(N.pick [2]),H.pick [0] [0]⟩ ?_
 clear H N
 rintro m' ρ acl ⟨xN,az,bL,cW,Xw,rfl,i0,o1,o2,rfl,N,H⟩
 have bQ:=H.xQ (α:=yLI) 0 rfl 0 rfl qj
 refine zcc<|sq 2<|oN rfl<|sq 1<|zjn<|cD rfl (fun alP=>?_)<|fun alP=>?_
 ·refine qZ (t_n<|xU<|xf<|zcr<|sq 2<|zjn<|xf<|zD (fun m' ρ UB=>∃(xN:Env) (k:Int) (lO:yLL) (se:List Value) (ti:yLN),ρ=upd (upd (upd xN 9<|Sv jZ vV jQ) 16<|yI az) 17 (yI k)/\((Qm s.qB.length (xP s t s.qA.length) (zI s t s.qA.length) (zI s t s.qA.length).length).Perm lO)/\(InsTo lO az k.toNat)/\(0<=k/\k<=az)/\m'=((k:Int)).toNat/\Fresh w.heap.size [ti]/\St w UB [rr jZ vV jQ 24 1 se] [xG true ti se lO]) (((az:Int)).toNat) ⟨_,az,bL,cW,Xw,uE3,ql,(by exact InsTo.start o2),qf,rfl,N,H⟩ ?_)
  clear H N
  rintro m' ρ amV ⟨xN,k,lO,se,ti,rfl,o3,o4,o5,rfl,N,H⟩
  have bQ:=H.xQ (α:=yLI) 0 rfl 0 rfl qj
  refine xU<|xU<|ji rfl H fun H=>rtp 0 (yI k) H ?_
  refine rtp 1 (Bv<|decide ((k:Int)>0)) H ?_
  refine rtp 2 (Bv<|decide ((k:Int)>0)) H ?_
  cases yb:(decide ((k:Int)>0))
  ·replace yb:=of_decide_eq_false yb
   refine vJ (zR 3 10) 10 (H)<|rtp 13 (Bv false) H ?_
   refine xC qh<|t_n<|cFr rfl<|VR<|t_x<|t_x<|b_x<|b_n<|t_n<|xX<|sq 1<|sw<|zC az 1 rfl rfl qf<|sq 1<|xZ<|xh (m':=(vV-((az+1):Int)).toNat) qf ⟨_,az+1,_,_,_,uE2,?_,?_,?_,rfl,N,H⟩
   ·omega
   ·assumption
   ·exact o4.stop (perm_rows o3) qf qf<|by exact .inl qf
  replace yb:=of_decide_eq_true yb
  refine rgl 3 110 H ?_
  refine rgp 4 (yI k) 110 H ?_
  obtain⟨ahe,rfl⟩:=H.jR 0 rfl qf
  refine gI 5 rfl rfl rfl H ?_
  obtain⟨aAe,awt,alJ,ayf,ac3,IL,aqv,H⟩:=H.rowElemX 0 rfl 0 rfl (iv:=k) k.toNat qf qf
  have S:=H.jF [0] [1]
  refine gL 6 rfl rfl (fun _ h=>h.VI 0 rfl IL) S ?_
  refine rgl 7 110 S ?_
  refine rgp 8 (yI k) 110 S ?_
  refine rg 9 _ 110 (y_sub k 1 rfl rfl qf) S ?_
  refine gI 10 rfl rfl rfl S ?_
  obtain⟨auW,awP,aAQ,azi,Ji,abR,asL,H⟩:=H.rowElemX 0 rfl 1 rfl (iv:=k-1) ((k-1).toNat) qf qf
  refine gL 11 rfl rfl (fun _ h=>h.VI 0 rfl abR) (H.pick [0] [2])<|zY [12] qh qm<|X4 rfl (e:=110) rfl rfl ?_ zZ
  have g5:=perm_rows o3
  have g6:=g5 k.toNat qf
  have g7:=g5 (k-1).toNat qf
  refine oq (l03Before_ok _ (lO[k.toNat]!) (lO[(k-1).toNat]!) (H.get 1 rfl).1 (H.get 0 rfl).1 qg) H fun auq H=>⟨H.pick [0] [2],(rtl 13 (H.pick [0] [2]) ?_)⟩
  refine xC qh<|t_n<|cP rfl (fun apZ=>?_)<|fun apZ=>?_
  ·refine qZ (t_n<|xU<|xf<|zcr<|sq 1<|sp (yI k)<|oI rfl rfl ?_)
   obtain⟨aoq,an0,nJ,aws,awM,afC,aa2,H⟩:=H.rowElemX 0 rfl 2 rfl (iv:=k) k.toNat qf qf
   refine oL rfl (H.VI 0 rfl afC)<|sq 1<|zjc<|sq 1<|sp (yI k)<|sq 1<|sp (yI k)<|sw<|o_sub k 1 rfl rfl qf<|oI rfl rfl ?_
   obtain⟨apP,ajD,awc,axf,ays,abt,abd,H⟩:=H.rowElemX 0 rfl 3 rfl (iv:=k-1) ((k-1).toNat) qf qf
   refine oL rfl (H.VI 0 rfl abt)<|oI rfl rfl<|sw<|V6 H 0 rfl (Sv apP ((lO[(k-1).toNat]!).length) ajD) sizeOf24 rfl rfl rfl qf fun aw2 H=>zjn<|xX<|sq 1<|sp (yI k)<|sw<|o_sub k 1 rfl rfl qf<|sq 1<|oI rfl rfl<|sw<|V6 H 0 rfl (Sv aoq ((lO[k.toNat]!).length) an0) sizeOf24 rfl rfl rfl qf fun IJ H=>?_
   obtain⟨ahr,adU,H⟩:=H.swapR 4 rfl (k:=(k:Int).toNat) (i:=(k-1:Int).toNat) qf qf qf abd aa2
   replace N:Fresh w.heap.size [ahr]:=Fresh.perm N adU
   refine xZ<|b_n<|t_n<|xX<|sp (yI k)<|sw<|o_sub k 1 rfl rfl qf<|sq 1<|xZ<|xh (m':=(((k-1):Int)).toNat) qf ⟨_,_,_,_,_,uE3,?_,?_,?_,rfl,N,H.pick [0] [0]⟩
   ·exact perm_swap o3 qf qf
   ·rw[show (k-1).toNat=k.toNat-1 by omega];exact o4.down (perm_rows o3) qf qf qf<|by rw[show k.toNat-1=(k-1).toNat by omega];assumption
   ·omega
  refine VR<|t_x<|t_x<|b_x<|b_n<|t_n<|xX<|sq 1<|sw<|zC az 1 rfl rfl qf<|sq 1<|xZ<|xh (m':=(vV-((az+1):Int)).toNat) qf ⟨_,az+1,_,_,_,uE2,?_,?_,?_,rfl,N,H.pick [0] [2]⟩
  ·omega
  ·assumption
  ·exact o4.stop (perm_rows o3) qf qf<|by exact .inr<|by rw[show k.toNat-1=(k-1).toNat by omega];assumption
 refine zx4<|zcr<|sq 2<|sp (yI 0)<|zjr<|ret2 (Sv jZ vV jQ) (yI 0) rfl rfl rfl ⟨_,rfl,?_,H.base⟩
 rw[cho_0 gp kc o1<|in_order qf o2]
 exact⟨jZ,vV,jQ,cW,Xw,rfl,N,H.pick [0] [0]⟩
theorem l03Step_ok(w:World)(s:qH)(t:qG)(counts:yLI){aP:yOA}{aK:Nat}{bS:yLN}(hs:jC w bs os (yS s qF qE qO qN))(xe:zP w xu qF qE s.qA)(xE:zP w xW qO qN s.qB)(ht:jC w bt ot (yT t qV qU xm xk qM qL))(xR:zP w zk qV qU t.qK)(zu:zP w zF xm xk t.qQ)(xB:zP w xJ qM qL t.qJ)(cg:zP w bS aP aK counts)(p0:vz s)(p1:xK s t)(p2:CntOk s counts):Calls Tryz.prog 157 #[pp bs os,pp bt ot,Sv aP counts.length aK] w (Ret (fun v w'=>∃(cJ:yOA) (cw:Nat) (cU:Nat) (dI:yOA) (dP:Nat) (dD:Nat) (dK:List Value) (dL:yLN) (Vj:yOA) (Vb:Nat) (Vf:Nat),v=.tuple #[.agg #[Sv cJ cw cU,Sv dI dP dD,Sv Vj Vb Vf],yI ((zA s t counts).2)]/\Fresh w.heap.size [dL]/\St w w' [rr cJ cw cU 4 1 ((((zA s t counts).1).qK).map<|Value.bool),rr dI dP dD 24 1 dK,rr Vj Vb Vf 2 1 ((((zA s t counts).1).qJ).map<|Value.int .i64)] [xG true dL dK (((zA s t counts).1).qQ)]) w):=by
 refine en func157 ntmps157 ?_
 have H:=((((((((St.start w).arg cg).arg xB).arg zu).arg xR).VF ht).arg xE).arg xe).VF hs
 have jb:=qR xE
 have yR:=qR zu
 have jv:=qR xB
 clear hs xe xE ht xR zu xB cg
 have N:=Fresh.nil w.heap.size
 have p3:=p0.2.1
 have p6:=p2.1
 have p7:=p1.2.1
 have p8:=kinds_le p0
 have p9:=p0.1.2.1
 have p11:jK s=s.qA.length:=rfl
 have Bw:=p1.1
 have p15:=p0.1
 have p16:=p0.1.1
 obtain⟨q7,q8,q9,Bz⟩:=p1.sizes p0.1
 have Uj:=fun k hk=>Nat.le_trans (Bz k hk) (by decide:8<=1000000)
 refine zcr<|sw<|xg H ti31 [yN,yN,yN] fun b1 w2 H=>sp (yI 0)<|zjc<|sq 3 ?_
 have sz6:=H.base.size
 refine sw<|oc (l03Rest_ok _ s t counts (qC (H.get 0 rfl) 0 3) (H.get 1 rfl).1 (H.get 2 rfl).1 (qC (H.get 3 rfl) 0 3) (H.get 4 rfl).1 (H.get 5 rfl).1 (H.get 6 rfl).1 (H.get 7 rfl).1 qg qg qg) ?_
 rintro _ w4 ⟨AU,axI,oQ,apE,ahy,rfl,M,K⟩ _
 replace N:=N.merge sz6 qm M
 replace H:=H.merge K M
 obtain rfl:=H.xQ (α:=yLI) 0 rfl 0 rfl qj
 refine sq 5<|zjcc<|sq 2<|zjn<|cQ rfl (fun h9=>?_)<|fun h9=>?_
 ·refine zcr (sw<|vg [yN,yN,yN] []<|sw<|xx H 1 [yN,yN,yN] sizeOf31 fun ov H=>sp (yI 4)<|zjr<|t_r ?_)
  replace H:=H.nilRowB 4
  replace H:=H.nilRow 24 1
  replace H:=H.vP (α:=yLI)
  replace H:=H.nilRowI 2
  refine XC H 4 rfl (yI 4) rfl isAgg31 sizeOf31 rfl rfl ⟨_,rfl,?_,H.base⟩
  rw[stepBy_no ‹_›]
  exact⟨none,0,0,none,0,0,[],[],none,0,0,rfl,(N.emp.pick [0]),H.pick [2,1,0] [0]⟩
 have st:=stop_none (n:=counts.length) (P:=BadAt s t counts) (‹IsCh s t counts›).1
 have r1:=restR_len (s:=s) (t:=t) (counts:=counts)<|X6 (BadAt s t counts) counts.length
 refine qZ<|t_n<|zcr<|sq 1 ?_
 have als:=H.base.size
 have apy:=H.ltN (L:=[ahy]) [0]
 refine sw<|oc (l02Own_ok _ t (qC (H.get 4 rfl) 0 3) (H.get 5 rfl).1 (H.get 6 rfl).1 (H.get 7 rfl).1 qg qg qg qg) ?_
 rintro _ we ⟨Vh,WW,Ve,Ab,aci,AZ,AI,QB,mH,Sb,mv,rfl,M,K⟩ _
 replace N:=N.merge als apy M
 replace H:=H.merge K M
 obtain rfl:=H.Xg 0 rfl
 obtain rfl:=H.xQ (α:=yLI) 1 rfl 0 rfl qj
 obtain rfl:=H.jy 2 rfl
 refine sw<|xg H ti31 [yN,yN,yN] fun gO tr H=>sw<|xx H 0 (yT t Vh Ve Ab AZ mH mv) sizeOf31 fun G4 H=>zjc<|sq 1<|oF rfl<|sw<|xn H 0 [Sv Vh t.qK.length Ve,Sv AU ((yB s t counts<|X6 (BadAt s t counts) counts.length).length) oQ,Sv mH t.qJ.length mv] sizeOf29 fun GP H=>zjcc<|sp (yI 0)<|zjn<|xf<|zD ((fun Z0 Z1 Z2 Z3 Z4 Z5 Z6 Z7 Z8 Z9 bG bX=>fun m' ρ Cz=>∃(xN:Env) (i:Nat) (Q4:yOA) (QZ:Nat) (Q3:Nat) (cK:yLI) (ai:yLL) (bO:List Value) (co:yLN),ρ=upd (upd (upd (upd (upd (upd xN 0<|pp bs os) 1<|pp bt ot) 2<|Sv aP counts.length aK) 6<|pp b1 0) 10<|pp gO 0) 11 (yI i)/\((i:Int)<=counts.length)/\(Ent (s.qA.length+1) (yE s) (fun p q=>base0 s t p q+needS s counts s.qB.length p q+putS s t counts i p q) (20000000+6000000*i)<|ai++[cK])/\(ai.length=s.qA.length)/\m'=(counts.length-(i:Int)).toNat/\Fresh w.heap.size [QB,co]/\St w Cz [.box gO [Sv Vh t.qK.length Ve,Sv AU ((yB s t counts<|X6 (BadAt s t counts) counts.length).length) oQ,Sv Q4 QZ Q3] 31,Z0,Z1,rr Q4 QZ Q3 2 1<|cK.map<|Value.int .i64,rr AU ((yB s t counts<|X6 (BadAt s t counts) counts.length).length) oQ 24 1 bO,Z2] [Z3,xG true co bO ai,Z4,Z5,Z6,Z7,Z8,Z9,bG,bX]) _ _ _ _ _ _ _ _ _ _ _ _) ((counts.length-(0:Int)).toNat) ⟨_,0,mH,t.qJ.length,mv,t.qJ,yB s t counts<|X6 (BadAt s t counts) counts.length,apE,ahy,uE6,qf,(by rw[st,p6];exact(rest_ent p0 p1 p2).to (fun _ _=>rfl) qf),qf,rfl,N,H⟩ ?_
 clear H N
 rintro m' ρ Ks ⟨xN,i,Q4,QZ,Q3,cK,ai,bO,co,rfl,i0,ph,ao0,rfl,N,H⟩
 have Kx:=H.jy 3 rfl
 have nM:=H.xQ (α:=yLI) 4 rfl 1 rfl qj
 refine zcc<|sp (yI i)<|sq 1<|oN rfl<|sq 1<|zjn<|cD rfl (fun x6=>?_)<|fun x6=>?_
 ·have q:=p0.rule (i:=i) qf
  have qc:=q.1
  have qk:=q.cell
  have Pk:=q.2.2.2.2.1
  have P8:=q.2.2.2.2.2.2.2.1
  have Jp:=q.2.2.2.2.2.2.2.2.1
  have ln1:=Pk.len
  have ln2:=P8.len
  have ln3:=Jp.len
  have p10:=p2.bd (i:=i) qf
  have qn:=q.2.2.2.1
  refine qZ<|t_n<|xU<|xf<|zcr<|sq 2<|oF rfl<|oL rfl (H.zo 2 rfl 2 rfl)<|sp (yI i) ?_
  obtain⟨yn,Nq,rfl⟩:=H.addr 4 rfl qf
  obtain⟨XU,QS,cT,QW,QU,cq,QV,QT,ct,tH,tK,zE,VO,VM,dG,Xo,Xm,cG,H⟩:=H.Qa 4 rfl i i qf qf qf
  refine oI rfl rfl<|sq 1<|zjcc<|sq 1<|sp (yI i) ?_
  obtain⟨RP,o31,rfl⟩:=H.addr 16 rfl qf
  refine oI rfl rfl<|oL rfl (H.zS 16 rfl i qf)<|sp (Bv ((counts[i]! :Int) == 0))<|zjn<|cE rfl (fun AS=>?_)<|fun AS=>?_
  ·refine VR (t_x<|b_x<|t_n<|xX<|sp (yI i)<|sw<|zC i 1 rfl rfl qf<|sq 1<|xZ<|xh (m':=(counts.length-((i+1):Int)).toNat) qf ⟨_,i+1,_,_,_,_,_,_,_,uE6,?_,?_,?_,rfl,N,H.pick (zR 0 6)<|zR 7 10⟩)
   ·omega
   ·exact ph.to (fun p q=>by simp only[putS_skip (s:=s) (t:=t) (counts:=counts) (i:=i) ‹_›]) qf
   ·omega
  refine qZ<|t_n<|xU<|Qd rfl H [0,1,2,3,5] fun H=>?_
  have S:=H.jF [0,1,2,3,5]<|zR 0 17
  refine tF 0 rfl rfl S ?_
  refine tL 1 rfl rfl (fun _ h=>h.cell 0 rfl rfl) S ?_
  refine rtl 2 S ?_
  refine rtl 3 S ?_
  refine tF 4 rfl rfl S ?_
  refine tL 5 rfl rfl (fun _ h=>h.zo 6 rfl 0 rfl) S ?_
  refine tF 6 rfl rfl S ?_
  refine tL 7 rfl rfl (fun _ h=>h.cell 0 rfl rfl) S ?_
  refine rtl 8 S ?_
  refine rtl 9 S ?_
  refine tF 10 rfl rfl S ?_
  refine tL 11 rfl rfl (fun _ h=>h.zo 6 rfl 0 rfl) S ?_
  obtain⟨CL,rfl⟩:=H.jR 4 rfl qf
  have S:=H.jF [0,1,2,3,5]<|zR 0 17
  refine tI 12 rfl rfl rfl S ?_
  refine rtl 14 S ?_
  refine rtl 15 S ?_
  refine tF 16 rfl rfl S ?_
  refine tL 17 rfl rfl (fun _ h=>h.zo 6 rfl 5 rfl) S ?_
  refine rtl 18 S ?_
  refine rtp 19 (yI i) S ?_
  refine tI 20 rfl rfl rfl S ?_
  refine tL 21 rfl rfl (fun _ h=>h.zS 16 rfl i qf) S ?_
  refine ro 13 rfl ?_
  obtain⟨a36,c37,kJ,s39,Bo,H⟩:=H.jS 4 rfl 8 rfl (iv:=(s.qB[i]!).qY) (((s.qB[i]!).qY).toNat) qf qf
  refine zB (Sv a36 ((ai[((s.qB[i]!).qY).toNat]!).length) c37) isAgg24 rfl (Bo)<|⟨H.pick [0,1,2,3,5]<|zR 1 17,(ro 22 rfl ?_)⟩
  obtain⟨u1,u2⟩:=Ent.rowL ph (c:=((s.qB[i]!).qY).toNat) qf qf qf qf
  have u4:=(by exact P8.Qb qf:SmallT ((s.qB[i]!).jJ) (counts[i]!))
  refine oc (X3 _ (ai[((s.qB[i]!).qY).toNat]!) ((s.qB[i]!).jJ) (counts[i]!) (H.get 0 rfl).1 (H.get 4 rfl).1 qg qg qg) ?_
  rintro v46 JC r46 x45
  replace H:=H.zO x45 r46
  obtain⟨a47,W5,rfl,avs,ayO⟩:=H.yc 0 rfl
  refine⟨H.pick [1,2,3,4,6]<|zR 1 17,(tI 23 rfl rfl rfl (H.pick [1,2,3,4,6]<|zR 1 17) ?_)⟩
  refine ro 24 rfl ?_
  obtain⟨G52,N,apN,H⟩:=H.zQ 0 rfl N<|H.vX [8,9]
  refine yu true H 5 rfl 10 rfl (Sv a47 ((jX (ai[((s.qB[i]!).qY).toNat]!) ((s.qB[i]!).jJ)<|counts[i]!).length) W5) 0 rfl rfl sizeOf24 rfl rfl (i:=(((s.qB[i]!).qY).toNat)) qf qf qm fun w51 ak3 F55 ajK H=>?_
  replace N:Fresh w.heap.size [F55,QB]:=(N.pick [2,0,1]).repl ajK
  refine⟨H.pick [1,2,3,4,6]<|zR 3 17,(xC qh<|t_n<|zcc<|sq 2<|oF rfl<|oL rfl (H.zo 9 rfl 0 rfl)<|sp (Bv (((s.qB[i]!).qY:Int) == 0))<|zjn<|cE rfl (fun KH=>?_)<|fun KH=>?_)⟩
  ·obtain⟨abH,Cm⟩:∃z,z=(ai.set (((s.qB[i]!).qY).toNat) (jX (ai[((s.qB[i]!).qY).toNat]!) ((s.qB[i]!).jJ) (counts[i]!))):=⟨_,rfl⟩
   rw[←Cm] at H
   have xD:=Ent.addL (D:=1000000) ph Cm qf qf (by exact P8.mul qf) qf
   have akk:abH.length=s.qA.length:=by rw[Cm,List.length_set];omega
   refine Qd rfl H (0::zR 2 5) fun H=>?_
   have S:=H.jF (0::zR 2 5)<|zR 0 20
   refine tF 0 rfl rfl S ?_
   refine rtl 2 S ?_
   refine rtl 3 S ?_
   refine tF 4 rfl rfl S ?_
   refine tL 5 rfl rfl (fun _ h=>h.zo 9 rfl 6 rfl) S ?_
   refine rtl 6 S ?_
   refine rtp 7 (yI i) S ?_
   refine tI 8 rfl rfl rfl S ?_
   refine tL 9 rfl rfl (fun _ h=>h.zS 19 rfl i qf) S ?_
   refine ro 1 rfl<|zB (Sv Q4 QZ Q3) isAgg24 rfl (H.cell 1 rfl rfl)<|⟨H.pick (0::zR 2 5)<|zR 0 20,(ro 10 rfl ?_)⟩
   obtain⟨G60,Hf,h62⟩:=H.XB 4 rfl
   obtain⟨u1,u2⟩:=Ent.rowN xD qf qf qf
   have u4:=(by exact Jp.Qb qf:SmallT ((s.qB[i]!).Qq) (counts[i]!))
   refine oc (Qu (by rw[←Hf])<|X3 _ cK ((s.qB[i]!).Qq) (counts[i]!) (Hf▸h62) (H.get 7 rfl).1 qg qg qg) ?_
   rintro v68 Hl r68 x67
   replace H:=H.zO x67 r68
   obtain⟨a69,c70,rfl,amD,ajS⟩:=H.yc 0 rfl
   refine⟨H.pick (1::zR 3 5)<|zR 0 20,(tF 11 rfl rfl (H.pick (1::zR 3 5)<|zR 0 20) ?_)⟩
   refine ro 12 rfl<|xn H 2 [Sv Vh t.qK.length Ve,Sv (aa CL 0) ((yB s t counts<|X6 (BadAt s t counts) counts.length).length) oQ,Sv a69 ((jX cK ((s.qB[i]!).Qq)<|counts[i]!).length) c70] sizeOf24 fun N5 H=>⟨H.pick (1::zR 3 5)<|zR 0 20,(xC qh<|t_n<|zcr<|sp (yI 0)<|zjn<|xf ?_)⟩
   replace xD:=Ent.addN (D:=1000000) (a':=jX cK ((s.qB[i]!).Qq)<|counts[i]!) xD rfl qf (by exact Jp.mul qf) qf
   have fK:=xD
   refine zD ((fun Z0 Z1 Z2 Z3 Z4 Z5 Z6 Z7 Z8 Z9 bG bX eZ i8 mb oX EW JG MI S4 SI Z21=>fun m' ρ w74=>∃(xN:Env) (k:Nat) (ax:yLL) (jw:List Value) (zM:yLN),ρ=upd (upd (upd (upd (upd (upd (upd (upd xN 0<|pp bs os) 1<|pp bt ot) 2<|Sv (aa RP o31) counts.length aK) 6<|pp b1 0) 10<|pp gO 0) 11<|yI i) 12<|pp yn<|Nq+(i:Int).toNat*9) 14 (yI k)/\((k:Int)<=(((s.qB[i]!).xF).length))/\(Ent (s.qA.length+1) (yE s) (fun p q=>base0 s t p q+needS s counts s.qB.length p q+putS s t counts i p q+at' p (s.qB[i]!).qY.toNat (counts[i]!*((s.qB[i]!).jJ)[q]!)+at' p (outPl s t<|s.qB[i]!) (counts[i]!*((s.qB[i]!).Qq)[q]!)+intoF (s.qB[i]!) (counts[i]!) k p q) (22000000+6000000*i+1000000*k)<|ax++[jX cK ((s.qB[i]!).Qq)<|counts[i]!])/\(ax.length=s.qA.length)/\m'=((((s.qB[i]!).xF).length)-(k:Int)).toNat/\Fresh w.heap.size [QB,zM]/\St w w74 [Z0,Z1,Z2,Z3,Z4,rr (aa CL 0) ((yB s t counts<|X6 (BadAt s t counts) counts.length).length) oQ 24 1 jw,Z5] [xG true zM jw ax,Z6,Z7,Z8,Z9,bG,bX,eZ,i8,mb,oX,EW,JG,MI,S4,SI,Z21]) _ _ _ _ _ _ _ _ _ _ _ _ _ _ _ _ _ _ _ _ _ _) (((((s.qB[i]!).xF).length)-(0:Int)).toNat) ⟨_,0,abH,ak3,F55,uE8,qf,(by exact fK.to (fun p q=>by(simp only[intoF,outPl_root (s:=s) (t:=t) (r:=s.qB[i]!) ‹_›,jK];omega)) qf),qf,rfl,(N.pick [1,0]),H.pick (0::zR 2 6) (0::3::4::5::6::7::8::9::10::zR 12 8)⟩ ?_
   clear H N
   rintro m' ρ V2 ⟨xN,k,ax,jw,zM,rfl,i0,dv,CZ,rfl,N,H⟩
   refine zcc<|sp (yI k)<|sq 2<|oF rfl<|oL rfl (H.zo 7 rfl 7 rfl)<|oN rfl<|sq 1<|zjn<|cD rfl (fun Lw=>?_)<|fun Lw=>?_
   ·have qi:=q.2.2.2.2.2.2.2.2.2.2 k qf
    have qi1:=qi.1
    have Ct:=qi.2.2.1
    have ln4:=Ct.len
    refine qZ<|t_n<|xU<|xf<|zcr<|sq 2<|oF rfl<|oL rfl (H.zo 7 rfl 7 rfl)<|sp (yI k) ?_
    obtain⟨Bt,o78,rfl⟩:=H.addr 6 rfl qf
    obtain⟨aik,aiG,aiW,H⟩:=H.Qr 6 rfl k k qf qf qf
    refine oI rfl rfl<|oF rfl<|oL rfl (H.zo 1 rfl 0 rfl)<|sq 1<|zjn<|Qd rfl H [0,1,2,3,4,6] fun H=>?_
    have S:=H.jF [0,1,2,3,4,6]<|zR 0 19
    refine tF 0 rfl rfl S ?_
    refine tL 1 rfl rfl (fun _ h=>h.cell 1 rfl rfl) S ?_
    refine rtl 2 S ?_
    refine tF 3 rfl rfl S ?_
    refine tL 4 rfl rfl (fun _ h=>h.cell 1 rfl rfl) S ?_
    refine rtl 5 S ?_
    refine tI 6 rfl rfl rfl S ?_
    refine rtl 8 S ?_
    refine rtl 9 S ?_
    refine tF 10 rfl rfl S ?_
    refine tL 11 rfl rfl (fun _ h=>h.zo 9 rfl 7 rfl) S ?_
    refine rtp 12 (yI k) S ?_
    refine tI 13 rfl rfl rfl S ?_
    refine tF 14 rfl rfl S ?_
    refine tL 15 rfl rfl (fun _ h=>h.zo 1 rfl 1 rfl) S ?_
    refine rtl 16 S ?_
    refine rtp 17 (yI i) S ?_
    refine tI 18 rfl rfl rfl S ?_
    refine tL 19 rfl rfl (fun _ h=>h.zS 18 rfl i qf) S ?_
    refine ro 7 rfl ?_
    obtain⟨WA,Vn,G84,s85,mY,H⟩:=H.jS 5 rfl 2 rfl (iv:=(((s.qB[i]!).xF)[k]!).qY) (((((s.qB[i]!).xF)[k]!).qY).toNat) qf qf
    refine zB (Sv WA ((ax[((((s.qB[i]!).xF)[k]!).qY).toNat]!).length) Vn) isAgg24 rfl (mY)<|⟨H.pick [0,1,2,3,4,6]<|zR 1 19,(ro 20 rfl ?_)⟩
    obtain⟨u1,u2⟩:=Ent.rowL dv (c:=((((s.qB[i]!).xF)[k]!).qY).toNat) qf qf qf qf
    have u4:=(by exact Ct.Qb qf:SmallT ((((s.qB[i]!).xF)[k]!).Xq) (counts[i]!))
    refine oc (X3 _ (ax[((((s.qB[i]!).xF)[k]!).qY).toNat]!) ((((s.qB[i]!).xF)[k]!).Xq) (counts[i]!) (H.get 0 rfl).1 (H.get 1 rfl).1 qg qg qg) ?_
    rintro v92 KV r92 x91
    replace H:=H.zO x91 r92
    obtain⟨a93,c94,rfl,avI,azF⟩:=H.yc 0 rfl
    refine⟨H.pick [1,2,3,4,5,7]<|zR 1 19,(tI 21 rfl rfl rfl (H.pick [1,2,3,4,5,7]<|zR 1 19) ?_)⟩
    refine ro 22 rfl ?_
    obtain⟨Kv,N,MF,H⟩:=H.zQ 0 rfl N<|H.vX [11,3]
    refine yu true H 6 rfl 4 rfl (Sv a93 ((jX (ax[((((s.qB[i]!).xF)[k]!).qY).toNat]!) ((((s.qB[i]!).xF)[k]!).Xq)<|counts[i]!).length) c94) 0 rfl rfl sizeOf24 rfl rfl (i:=(((((s.qB[i]!).xF)[k]!).qY).toNat)) qf qf qm fun NP asP amH aao H=>?_
    replace N:Fresh w.heap.size [amH,QB]:=(N.pick [2,0,1]).repl aao
    refine⟨H.pick [1,2,3,4,5,7]<|zR 3 19,(xC qh<|b_n<|t_n<|xX<|sp (yI k)<|sw<|zC k 1 rfl rfl qf<|sq 1<|xZ ?_)⟩
    obtain⟨agd,yr⟩:∃z,z=(ax.set (((((s.qB[i]!).xF)[k]!).qY).toNat) (jX (ax[((((s.qB[i]!).xF)[k]!).qY).toNat]!) ((((s.qB[i]!).xF)[k]!).Xq) (counts[i]!))):=⟨_,rfl⟩
    rw[←yr] at H
    have Mi:=Ent.addL (D:=1000000) dv yr qf qf (by exact Ct.mul qf) qf
    have ajb:agd.length=s.qA.length:=by rw[yr,List.length_set];omega
    have fK:=Mi
    refine xh (m':=((((s.qB[i]!).xF).length)-((k+1):Int)).toNat) qf ⟨_,k+1,_,_,_,uE8,?_,?_,?_,rfl,(N.pick [1,0]),H.pick (zR 1 7) (0::zR 6 16)⟩
    ·omega
    ·exact fK.to (fun p q=>by simp only[intoF];omega) qf
    ·omega
   refine VR<|t_x<|t_x<|b_x<|b_n<|t_n<|xX<|sp (yI i)<|sw<|zC i 1 rfl rfl qf<|sq 1<|xZ<|xh (m':=(counts.length-((i+1):Int)).toNat) qf ⟨_,i+1,_,_,_,_,_,_,_,uE6,?_,?_,?_,rfl,N,H.pick [1,2,3,0,5,6] (8::0::zR 9 8)⟩
   ·omega
   ·exact dv.to (fun p q=>by rw[show k=((s.qB[i]!).xF).length by omega];simp only[putS,putF];omega) qf
   ·omega
  obtain⟨ws,ym⟩:∃z,z=(ai.set (((s.qB[i]!).qY).toNat) (jX (ai[((s.qB[i]!).qY).toNat]!) ((s.qB[i]!).jJ) (counts[i]!))):=⟨_,rfl⟩
  rw[←ym] at H
  have C6:=Ent.addL (D:=1000000) ph ym qf qf (by exact P8.mul qf) qf
  have aiM:ws.length=s.qA.length:=by rw[ym,List.length_set];omega
  refine zcr<|sq 4<|oF rfl<|oL rfl (H.zo 9 rfl 0 rfl)<|sw<|oq (l02Parent_ok _ s t ((s.qB[i]!).qY) (qC (H.get 12 rfl) 0 3) (H.get 13 rfl).1 (H.get 14 rfl).1 (qC (H.get 15 rfl) 0 3) (H.get 16 rfl).1 (H.get 17 rfl).1 (H.get 18 rfl).1 ql ql ql) H fun Gi H=>?_
  have pin:=Vk (s:=s) (t:=t) (c:=((s.qB[i]!).qY)) p0.1 p1.2.2.1 qf qf
  refine sq 1<|zjn<|Qd rfl H [0,1,2,3,4,6] fun H=>?_
  have S:=H.jF [0,1,2,3,4,6]<|zR 0 20
  refine tF 0 rfl rfl S ?_
  refine tL 1 rfl rfl (fun _ h=>h.cell 1 rfl rfl) S ?_
  refine rtl 2 S ?_
  refine tF 3 rfl rfl S ?_
  refine tL 4 rfl rfl (fun _ h=>h.cell 1 rfl rfl) S ?_
  refine rtl 5 S ?_
  refine tI 6 rfl rfl rfl S ?_
  refine rtl 8 S ?_
  refine rtl 9 S ?_
  refine tF 10 rfl rfl S ?_
  refine tL 11 rfl rfl (fun _ h=>h.zo 9 rfl 6 rfl) S ?_
  refine rtl 12 S ?_
  refine rtp 13 (yI i) S ?_
  refine tI 14 rfl rfl rfl S ?_
  refine tL 15 rfl rfl (fun _ h=>h.zS 19 rfl i qf) S ?_
  refine ro 7 rfl ?_
  obtain⟨ahd,ahB,Tv,ao1,RZ,H⟩:=H.jS 5 rfl 0 rfl (iv:=x9 s t ((s.qB[i]!).qY)) ((x9 s t ((s.qB[i]!).qY)).toNat) qf qf
  refine zB (Sv ahd ((ws[(x9 s t ((s.qB[i]!).qY)).toNat]!).length) ahB) isAgg24 rfl (RZ)<|⟨H.pick [0,1,2,3,4,6]<|zR 1 20,(ro 16 rfl ?_)⟩
  obtain⟨u1,u2⟩:=Ent.rowL C6 (c:=(x9 s t ((s.qB[i]!).qY)).toNat) qf qf qf qf
  have u4:=(by exact Jp.Qb qf:SmallT ((s.qB[i]!).Qq) (counts[i]!))
  refine oc (X3 _ (ws[(x9 s t ((s.qB[i]!).qY)).toNat]!) ((s.qB[i]!).Qq) (counts[i]!) (H.get 0 rfl).1 (H.get 8 rfl).1 qg qg qg) ?_
  rintro axc oe anW am9
  replace H:=H.zO am9 anW
  obtain⟨AL,Ap,rfl,arM,ar2⟩:=H.yc 0 rfl
  refine⟨H.pick [1,2,3,4,5,7]<|zR 1 20,(tI 17 rfl rfl rfl (H.pick [1,2,3,4,5,7]<|zR 1 20) ?_)⟩
  refine ro 18 rfl ?_
  obtain⟨nL,N,Ay,H⟩:=H.zQ 0 rfl N<|H.vX [1,11]
  refine yu true H 6 rfl 2 rfl (Sv AL ((jX (ws[(x9 s t ((s.qB[i]!).qY)).toNat]!) ((s.qB[i]!).Qq)<|counts[i]!).length) Ap) 0 rfl rfl sizeOf24 rfl rfl (i:=((x9 s t ((s.qB[i]!).qY)).toNat)) qf qf qm fun EM adq afW aaF H=>?_
  replace N:Fresh w.heap.size [afW,QB]:=(N.pick [1,0,2]).repl aaF
  refine⟨H.pick [1,2,3,4,5,7]<|zR 3 20,(xC qh<|t_n<|zcr<|sp (yI 0)<|zjn<|xf ?_)⟩
  obtain⟨Ol,wK⟩:∃z,z=(ws.set ((x9 s t ((s.qB[i]!).qY)).toNat) (jX (ws[(x9 s t ((s.qB[i]!).qY)).toNat]!) ((s.qB[i]!).Qq) (counts[i]!))):=⟨_,rfl⟩
  rw[←wK] at H
  have Ll:=Ent.addL (D:=1000000) C6 wK qf qf (by exact Jp.mul qf) qf
  have aje:Ol.length=s.qA.length:=by rw[wK,List.length_set];omega
  have fK:=Ll
  refine zD ((fun Z0 Z1 Z2 Z3 Z4 Z5 Z6 Z7 Z8 Z9 bG bX eZ i8 mb oX EW JG MI S4 SI=>fun m' ρ RO=>∃(xN:Env) (k:Nat) (ax:yLL) (jw:List Value) (zM:yLN),ρ=upd (upd (upd (upd (upd (upd (upd (upd xN 0<|pp bs os) 1<|pp bt ot) 2<|Sv (aa RP o31) counts.length aK) 6<|pp b1 0) 10<|pp gO 0) 11<|yI i) 12<|pp yn<|Nq+(i:Int).toNat*9) 14 (yI k)/\((k:Int)<=(((s.qB[i]!).xF).length))/\(Ent (s.qA.length+1) (yE s) (fun p q=>base0 s t p q+needS s counts s.qB.length p q+putS s t counts i p q+at' p (s.qB[i]!).qY.toNat (counts[i]!*((s.qB[i]!).jJ)[q]!)+at' p (outPl s t<|s.qB[i]!) (counts[i]!*((s.qB[i]!).Qq)[q]!)+intoF (s.qB[i]!) (counts[i]!) k p q) (22000000+6000000*i+1000000*k)<|ax++[cK])/\(ax.length=s.qA.length)/\m'=((((s.qB[i]!).xF).length)-(k:Int)).toNat/\Fresh w.heap.size [QB,zM]/\St w RO [Z0,Z1,Z2,Z3,rr (aa CL 0) ((yB s t counts<|X6 (BadAt s t counts) counts.length).length) oQ 24 1 jw,Z4] [xG true zM jw ax,Z5,Z6,Z7,Z8,Z9,bG,bX,eZ,i8,mb,oX,EW,JG,MI,S4,SI]) _ _ _ _ _ _ _ _ _ _ _ _ _ _ _ _ _ _ _ _ _) (((((s.qB[i]!).xF).length)-(0:Int)).toNat) ⟨_,0,Ol,adq,afW,uE8,qf,(by exact fK.to (fun p q=>by(simp only[intoF,outPl_up (s:=s) (t:=t) (r:=s.qB[i]!) ‹_›];omega)) qf),qf,rfl,(N.pick [1,0]),H.pick (zR 2 6) (0::6::7::8::9::10::11::12::13::zR 15 8)⟩ ?_
  clear H N
  rintro m' ρ MU ⟨xN,k,ax,jw,zM,rfl,i0,dv,CZ,rfl,N,H⟩
  refine zcc<|sp (yI k)<|sq 2<|oF rfl<|oL rfl (H.zo 7 rfl 7 rfl)<|oN rfl<|sq 1<|zjn<|cD rfl (fun al4=>?_)<|fun al4=>?_
  ·have qi:=q.2.2.2.2.2.2.2.2.2.2 k qf
   have qi1:=qi.1
   have Ct:=qi.2.2.1
   have ln4:=Ct.len
   refine qZ<|t_n<|xU<|xf<|zcr<|sq 2<|oF rfl<|oL rfl (H.zo 7 rfl 7 rfl)<|sp (yI k) ?_
   obtain⟨gt,awl,rfl⟩:=H.addr 6 rfl qf
   obtain⟨aeQ,adv,abS,H⟩:=H.Qr 6 rfl k k qf qf qf
   refine oI rfl rfl<|oF rfl<|oL rfl (H.zo 1 rfl 0 rfl)<|sq 1<|zjn<|Qd rfl H [0,1,2,3,5] fun H=>?_
   have S:=H.jF [0,1,2,3,5]<|zR 0 19
   refine tF 0 rfl rfl S ?_
   refine tL 1 rfl rfl (fun _ h=>h.cell 0 rfl rfl) S ?_
   refine rtl 2 S ?_
   refine tF 3 rfl rfl S ?_
   refine tL 4 rfl rfl (fun _ h=>h.cell 0 rfl rfl) S ?_
   refine rtl 5 S ?_
   refine tI 6 rfl rfl rfl S ?_
   refine rtl 8 S ?_
   refine rtl 9 S ?_
   refine tF 10 rfl rfl S ?_
   refine tL 11 rfl rfl (fun _ h=>h.zo 9 rfl 7 rfl) S ?_
   refine rtp 12 (yI k) S ?_
   refine tI 13 rfl rfl rfl S ?_
   refine tF 14 rfl rfl S ?_
   refine tL 15 rfl rfl (fun _ h=>h.zo 1 rfl 1 rfl) S ?_
   refine rtl 16 S ?_
   refine rtp 17 (yI i) S ?_
   refine tI 18 rfl rfl rfl S ?_
   refine tL 19 rfl rfl (fun _ h=>h.zS 18 rfl i qf) S ?_
   refine ro 7 rfl ?_
   obtain⟨Hm,IA,ayn,avR,anv,H⟩:=H.jS 4 rfl 2 rfl (iv:=(((s.qB[i]!).xF)[k]!).qY) (((((s.qB[i]!).xF)[k]!).qY).toNat) qf qf
   refine zB (Sv Hm ((ax[((((s.qB[i]!).xF)[k]!).qY).toNat]!).length) IA) isAgg24 rfl (anv)<|⟨H.pick [0,1,2,3,5]<|zR 1 19,(ro 20 rfl ?_)⟩
   obtain⟨u1,u2⟩:=Ent.rowL dv (c:=((((s.qB[i]!).xF)[k]!).qY).toNat) qf qf qf qf
   have u4:=(by exact Ct.Qb qf:SmallT ((((s.qB[i]!).xF)[k]!).Xq) (counts[i]!))
   refine oc (X3 _ (ax[((((s.qB[i]!).xF)[k]!).qY).toNat]!) ((((s.qB[i]!).xF)[k]!).Xq) (counts[i]!) (H.get 0 rfl).1 (H.get 1 rfl).1 qg qg qg) ?_
   rintro auY GI apB akB
   replace H:=H.zO akB apB
   obtain⟨anI,ao2,rfl,asV,asz⟩:=H.yc 0 rfl
   refine⟨H.pick [1,2,3,4,6]<|zR 1 19,(tI 21 rfl rfl rfl (H.pick [1,2,3,4,6]<|zR 1 19) ?_)⟩
   refine ro 22 rfl ?_
   obtain⟨av9,N,arC,H⟩:=H.zQ 0 rfl N<|H.vX [11,3]
   refine yu true H 5 rfl 4 rfl (Sv anI ((jX (ax[((((s.qB[i]!).xF)[k]!).qY).toNat]!) ((((s.qB[i]!).xF)[k]!).Xq)<|counts[i]!).length) ao2) 0 rfl rfl sizeOf24 rfl rfl (i:=(((((s.qB[i]!).xF)[k]!).qY).toNat)) qf qf qm fun Fr arP apo aaV H=>?_
   replace N:Fresh w.heap.size [apo,QB]:=(N.pick [2,0,1]).repl aaV
   refine⟨H.pick [1,2,3,4,6]<|zR 3 19,(xC qh<|b_n<|t_n<|xX<|sp (yI k)<|sw<|zC k 1 rfl rfl qf<|sq 1<|xZ ?_)⟩
   obtain⟨abq,yq⟩:∃z,z=(ax.set (((((s.qB[i]!).xF)[k]!).qY).toNat) (jX (ax[((((s.qB[i]!).xF)[k]!).qY).toNat]!) ((((s.qB[i]!).xF)[k]!).Xq) (counts[i]!))):=⟨_,rfl⟩
   rw[←yq] at H
   have M3:=Ent.addL (D:=1000000) dv yq qf qf (by exact Ct.mul qf) qf
   have ais:abq.length=s.qA.length:=by rw[yq,List.length_set];omega
   have fK:=M3
   refine xh (m':=((((s.qB[i]!).xF).length)-((k+1):Int)).toNat) qf ⟨_,k+1,_,_,_,uE8,?_,?_,?_,rfl,(N.pick [1,0]),H.pick (zR 1 6) (0::zR 6 16)⟩
   ·omega
   ·exact fK.to (fun p q=>by simp only[intoF];omega) qf
   ·omega
  refine VR<|t_x<|t_x<|b_x<|b_n<|t_n<|xX<|sp (yI i)<|sw<|zC i 1 rfl rfl qf<|sq 1<|xZ<|xh (m':=(counts.length-((i+1):Int)).toNat) qf ⟨_,i+1,_,_,_,_,_,_,_,uE6,?_,?_,?_,rfl,N,H.pick (zR 0 6) (8::0::zR 9 8)⟩
  ·omega
  ·exact dv.to (fun p q=>by rw[show k=((s.qB[i]!).xF).length by omega];simp only[putS,putF];omega) qf
  ·omega
 refine zx4<|zcc<|sq 2<|oF rfl<|oL rfl (H.zo 2 rfl 1 rfl)<|oN rfl<|sw<|o_sub s.qA.length 1 rfl rfl qf<|sq 1<|zjn<|xf ?_
 obtain rfl:i=s.qB.length:=by omega
 have hl:=stepped_live (counts:=counts) p1 (ph.to (g:=fun p k=>base0 s t p k+allS s t counts s.qB.length p k) (fun p k=>by rw[allS_eq];omega)<|Int.le_refl _) qf
 obtain⟨s1,s2⟩:=step_tab2 qf ph
 subst s1 s2
 refine zD ((fun Z0 Z1 Z2 Z3 Z4 Z5 Z6 Z7 Z8=>fun m' ρ BN=>∃(xN:Env) (c:Int) (dX:List Bool) (ax:yLL) (jw:List Value) (zM:yLN) (j:Nat),ρ=upd (upd (upd (upd (upd xN 0<|pp bs os) 2<|Sv aP counts.length aK) 6<|pp b1 0) 10<|pp gO 0) 16 (yI c)/\dX=(zi s counts (zn s t counts) j).qK/\ax=(zi s counts (zn s t counts) j).qQ/\(c=(s.qA.length:Int)-1-j)/\(j+1<=s.qA.length)/\m'=(c:Int).toNat/\Fresh w.heap.size [QB,zM]/\St w BN [Z0,rr Vh t.qK.length Ve 4 1<|dX.map<|Value.bool,Z1,Z2,rr AU ((yB s t counts<|X6 (BadAt s t counts) counts.length).length) oQ 24 1 jw,Z3] [Z4,xG true zM jw ax,Z5,Z6,Z7,Z8]) _ _ _ _ _ _ _ _ _) (((s.qA.length-1):Int).toNat) ⟨_,s.qA.length-1,t.qK,(zn s t counts).qQ,bO,co,0,uE5,(by rfl),(by rfl),qf,qf,rfl,N,H.pick (zR 0 6) [0,1,2,3,4,9]⟩ ?_
 clear H N
 rintro m' ρ GE ⟨xN,c,dX,ax,jw,zM,j,rfl,rfl,rfl,ic,jc,rfl,N,H⟩
 have wN:=H.Xg 1 rfl
 have V8:=H.xQ (α:=yLI) 4 rfl 1 rfl qj
 have L:=meltDown_live (counts:=counts) p0 hl j qf
 have L1:=L.alive
 have L2:=L.root
 rw[←QG s counts (zn s t counts) j] at H
 refine zcc<|sp (yI c)<|sp (Bv<|decide ((c:Int)>0))<|zjn<|cD rfl (fun akl=>?_)<|fun akl=>?_
 ·have cin:CellIn s c:=⟨by omega,by omega⟩
  refine qZ<|t_n<|xU<|xf<|zcr<|sp (Bv false)<|zjcc<|sp (yI 0)<|zjn<|xf<|zD ((fun Z0 Z1 Z2 Z3 Z4 Z5 Z6 Z7 Z8 Z9 bG bX=>fun m' ρ HQ=>∃(xN:Env) (melts:Bool) (az:Nat),ρ=upd (upd (upd (upd (upd (upd (upd xN 0<|pp bs os) 2<|Sv aP counts.length aK) 6<|pp b1 0) 10<|pp gO 0) 16<|yI c) 17<|Bv melts) 18 (yI az)/\melts=dec (Xv s counts c az)/\((az:Int)<=counts.length)/\m'=(counts.length-(az:Int)).toNat/\Fresh w.heap.size [QB,zM]/\St w HQ [Z0,Z1,Z2,Z3,Z4,Z5] [Z6,Z7,Z8,Z9,bG,bX]) _ _ _ _ _ _ _ _ _ _ _ _) ((counts.length-(0:Int)).toNat) ⟨_,false,0,uE7,(by exact(xw<|melts_zero _ _ _).symm),qf,rfl,N,H⟩ ?_
  clear H N
  rintro m' ρ TA ⟨xN,melts,az,rfl,rfl,i0,rfl,N,H⟩
  refine zcc<|sq 2<|oN rfl<|sq 1<|zjn<|cD rfl (fun ad2=>?_)<|fun ad2=>?_
  ·refine qZ (t_n<|xU<|xf<|xX<|sp (Bv<|dec<|Xv s counts c az)<|sp (Bv<|dec<|Xv s counts c az) ?_)
   cases h166:((dec (Xv s counts c az)))
   ·refine qP 172 rfl rfl (sq 1<|qP 172 rfl rfl<|sq 1<|qP 172 rfl rfl ?_)
    obtain⟨ny,avZ,rfl⟩:=H.addr 5 rfl qf
    refine oI rfl rfl<|qP 172 rfl rfl<|oL rfl (H.zS 5 rfl az qf)<|qP 172 rfl rfl<|sp (Bv<|decide ((counts[az]! :Int)>0))<|qP 172 rfl rfl<|sp (Bv<|decide ((counts[az]! :Int)>0)) ?_
    cases wU:(decide ((counts[az]! :Int)>0))
    ·replace wU:=of_decide_eq_false wU
     refine xY (zR 179 8)<|qP 172 rfl rfl<|sp (Bv false)<|qP 172 rfl rfl<|sp (Bv false)<|xY (zR 189 10)<|qP 172 rfl rfl<|sp (Bv false)<|sp (Bv false)<|sp (Bv false)<|xZ<|b_n<|t_n<|xX<|sq 1<|sw<|zC az 1 rfl rfl qf<|sq 1<|xZ<|xh (m':=(counts.length-((az+1):Int)).toNat) qf ⟨_,_,az+1,uE7,?_,?_,rfl,N,H⟩
     ·exact melts_2 ‹_› qf
     ·omega
    replace wU:=of_decide_eq_true wU
    refine qP 178 rfl rfl<|sq 1<|qP 178 rfl rfl<|sq 1<|qP 178 rfl rfl<|oF rfl<|qP 178 rfl rfl<|oL rfl (H.zo 2 rfl 2 rfl)<|qP 178 rfl rfl<|sq 1<|qP 178 rfl rfl ?_
    obtain⟨TQ,ayb,rfl⟩:=H.addr 4 rfl qf
    obtain⟨WD,Ww,WT,Wp,Wl,UK,WH,U3,WX,Wr,Wj,US,afh,ah9,afy,Wd,WE,Wz,H⟩:=H.Qa 4 rfl az az qf qf qf
    refine oI rfl rfl<|qP 178 rfl rfl<|oF rfl<|qP 178 rfl rfl<|oL rfl (H.zo 6 rfl 8 rfl)<|qP 172 rfl rfl<|sp (Bv ((s.qB[az]!).jY))<|qP 172 rfl rfl<|sp (Bv ((s.qB[az]!).jY)) ?_
    cases h175:((s.qB[az]!).jY)
    ·rw[h175] at H
     refine xY (zR 189 10)<|qP 172 rfl rfl<|sp (Bv false)<|sp (Bv false)<|sp (Bv false)<|xZ<|b_n<|t_n<|xX<|sq 1<|sw<|zC az 1 rfl rfl qf<|sq 1<|xZ<|xh (m':=(counts.length-((az+1):Int)).toNat) qf ⟨_,_,az+1,uE7,?_,?_,rfl,N,H.pick (zR 0 6)<|zR 7 6⟩
     ·exact melts_3 ‹_› ‹_›
     ·omega
    rw[h175] at H
    refine qP 188 rfl rfl<|sq 1<|qP 188 rfl rfl<|sq 1<|qP 188 rfl rfl<|oF rfl<|qP 188 rfl rfl<|oL rfl (H.zo 9 rfl 2 rfl)<|qP 188 rfl rfl<|sq 1<|qP 188 rfl rfl<|oI rfl rfl<|qP 188 rfl rfl<|oF rfl<|qP 188 rfl rfl<|oL rfl (H.zo 6 rfl 0 rfl)<|qP 188 rfl rfl<|sp (yI c)<|qP 188 rfl rfl<|sq 1<|qP 172 rfl rfl<|sq 3<|xZ<|b_n<|t_n<|xX<|sq 1<|sw<|zC az 1 rfl rfl qf<|sq 1<|xZ<|xh (m':=(counts.length-((az+1):Int)).toNat) qf ⟨_,_,az+1,uE7,?_,?_,rfl,N,H.pick (zR 0 6)<|zR 7 6⟩
    ·exact melts_4 ‹_› qf ‹_›
    ·omega
   refine xY (zR 173 27)<|sp (Bv true)<|sp (Bv true)<|xZ<|b_n<|t_n<|xX<|sq 1<|sw<|zC az 1 rfl rfl qf<|sq 1<|xZ<|xh (m':=(counts.length-((az+1):Int)).toNat) qf ⟨_,_,az+1,uE7,?_,?_,rfl,N,H⟩
   ·exact melts_1 ‹_›
   ·omega
  refine zx4<|zcr<|sp (Bv<|dec<|Xv s counts c az)<|zjn<|zX _ rfl (fun Sc=>?_)<|fun Sc=>?_
  ·refine xX (sq 1<|sp (yI c)<|sw<|zW #[pp bs os,pp gO 0,yI c] rfl rfl call194<|en func194 ntmps194 ?_)
   refine zcr<|sq 2<|sp (yI c) ?_
   obtain⟨azx,Ov,apj⟩:=H.rowIsB 1 rfl
   obtain⟨aA6,PZ,ank⟩:=H.QL (α:=yLI) 4 rfl 1 rfl qj
   obtain⟨av8,Nv,akN⟩:=H.XB 3 rfl
   refine sw<|oq (l02Parent_ok _ s (zi s counts (zn s t counts) j) c (qC (H.get 2 rfl) 0 3) (H.get 3 rfl).1 (H.get 4 rfl).1 (by have hz:=(qC (H.cells 0 rfl) 0 3);rw[Ov,PZ,Nv] at hz;exact hz) (Ov▸apj) (PZ▸ank) (Nv▸akN) ql ql ql) H fun Lp H=>?_
   have pin:=Vk (s:=s) (t:=(zi s counts (zn s t counts) j)) (c:=c) p0.1 L2 qf qf
   refine sq 1<|zjn<|xU ?_
   obtain⟨Li,rfl⟩:=H.jR 4 rfl qf
   refine VD (fun ρ agM=>∃(xN:Env) (Hj:List Value) (Tt:yLN),ρ=upd (upd (upd xN 0<|pp bs os) 1<|pp gO 0) 2 (yI c)/\Fresh w.heap.size [Tt,QB]/\St w agM [.box gO [Sv Vh t.qK.length Ve,Sv (aa Li 0) ((yB s t counts<|X6 (BadAt s t counts) counts.length).length) oQ,Sv Q4 QZ Q3] 31,rr Vh t.qK.length Ve 4 1 (((zi s counts (zn s t counts) j).qK).map<|Value.bool),rr Ab t.qQ.length AZ 24 1 AI,rr Q4 QZ Q3 2 1 (((zi s counts (zn s t counts) j).qJ).map<|Value.int .i64),rr (aa Li 0) ((yB s t counts<|X6 (BadAt s t counts) counts.length).length) oQ 24 1 Hj,.box b1 [yN,yN,yN] 31] [xG true Tt Hj (((zi s counts (zn s t counts) j).qQ).set ((x9 s (zi s counts (zn s t counts) j) c).toNat)<|jX (((zi s counts (zn s t counts) j).qQ)[(x9 s (zi s counts (zn s t counts) j) c).toNat]!) (((zi s counts (zn s t counts) j).qQ)[c.toNat]!) 1),xG true QB AI t.qQ,atF bs os<|yS s qF qE qO qN,sF false xu qF qE s.qA,sF false xW qO qN s.qB,sF false bS aP aK counts]) ?_ ?_
   ·refine Qd rfl H [0,1,2,3,5] fun H=>?_
    have S:=H.jF [0,1,2,3,5]<|zR 0 6
    refine rtl 0 S ?_
    refine rtl 1 S ?_
    refine tF 2 rfl rfl S ?_
    refine tL 3 rfl rfl (fun _ h=>h.cell 0 rfl rfl) S ?_
    refine rtl 4 S ?_
    refine rtl 5 S ?_
    refine rtl 6 S ?_
    refine tF 7 rfl rfl S ?_
    refine tL 8 rfl rfl (fun _ h=>h.cell 0 rfl rfl) S ?_
    refine rtl 9 S ?_
    refine tI 10 rfl rfl rfl S ?_
    refine rtl 12 S ?_
    refine rtl 13 S ?_
    refine tF 14 rfl rfl S ?_
    refine tL 15 rfl rfl (fun _ h=>h.cell 0 rfl rfl) S ?_
    refine rtp 16 (yI c) S ?_
    refine tI 17 rfl rfl rfl S ?_
    refine zY [11,18] qh qm<|vG rfl ?_<|vG rfl ?_ zZ
    ·obtain⟨apC,alI,anp,avp,aoC,H⟩:=H.jS 4 rfl 1 rfl (iv:=x9 s (zi s counts (zn s t counts) j) c) ((x9 s (zi s counts (zn s t counts) j) c).toNat) qf qf
     refine zB (Sv apC ((((zi s counts (zn s t counts) j).qQ)[(x9 s (zi s counts (zn s t counts) j) c).toNat]!).length) alI) isAgg24 rfl (aoC)<|⟨H.pick [0,1,2,3,5]<|zR 1 6,(ro 18 rfl ?_)⟩
     obtain⟨aoQ,alC,aw0,azt,apS,H⟩:=H.jS 4 rfl 2 rfl (iv:=c) c.toNat qf qf
     refine zB (Sv aoQ ((((zi s counts (zn s t counts) j).qQ)[c.toNat]!).length) alC) isAgg24 rfl (apS)<|⟨H.pick [0,1,2,3,5]<|zR 2 6,(ro 19 rfl ?_)⟩
     obtain⟨u1,u2,u4⟩:=L.rows p0 (bnd_le qf) (p:=(x9 s (zi s counts (zn s t counts) j) c).toNat) (c:=c.toNat) qf qf
     refine oc (X3 _ (((zi s counts (zn s t counts) j).qQ)[(x9 s (zi s counts (zn s t counts) j) c).toNat]!) (((zi s counts (zn s t counts) j).qQ)[c.toNat]!) 1 (H.get 1 rfl).1 (H.get 0 rfl).1 qg qg qg) ?_
     rintro az2 aoX aku ans
     replace H:=H.zO ans aku
     obtain⟨ane,aoH,rfl,arB,at3⟩:=H.yc 0 rfl
     refine⟨H.pick [1,2,3,4,6]<|zR 2 6,(tI 20 rfl rfl rfl (H.pick [1,2,3,4,6]<|zR 2 6) ?_)⟩
     refine ro 21 rfl ?_
     obtain⟨alm,N,asv,H⟩:=H.zQ 0 rfl N<|H.vX [2,3]
     refine yu true H 5 rfl 4 rfl (Sv ane ((jX (((zi s counts (zn s t counts) j).qQ)[(x9 s (zi s counts (zn s t counts) j) c).toNat]!) (((zi s counts (zn s t counts) j).qQ)[c.toNat]!) 1).length) aoH) 0 rfl rfl sizeOf24 rfl rfl (i:=((x9 s (zi s counts (zn s t counts) j) c).toNat)) qf qf qm fun GD ad0 afZ afu H=>?_
     replace N:Fresh w.heap.size [afZ,QB]:=(N.pick [2,0,1]).repl afu
     refine⟨H.pick [1,2,3,4,6]<|zR 4 6,(xC qh ((meet ⟨_,ad0,afZ,uE3,N,H.pick (zR 1 6) [0,4,6,7,8,9]⟩)))⟩
    obtain⟨an3,amh,uO,ay0,alQ,H⟩:=H.jS 4 rfl 1 rfl (iv:=c) c.toNat qf qf
    refine zB (Sv an3 ((((zi s counts (zn s t counts) j).qQ)[c.toNat]!).length) amh) isAgg24 rfl (alQ)<|⟨H.pick [0,1,2,3,5]<|zR 1 6,(ro 11 rfl ?_)⟩
    obtain⟨amk,aoV,auf,awq,alA,H⟩:=H.jS 4 rfl 2 rfl (iv:=x9 s (zi s counts (zn s t counts) j) c) ((x9 s (zi s counts (zn s t counts) j) c).toNat) qf qf
    refine zB (Sv amk ((((zi s counts (zn s t counts) j).qQ)[(x9 s (zi s counts (zn s t counts) j) c).toNat]!).length) aoV) isAgg24 rfl (alA)<|⟨H.pick [0,1,2,3,5]<|zR 2 6,(ro 19 rfl ?_)⟩
    obtain⟨u1,u2,u4⟩:=L.rows p0 (bnd_le qf) (p:=(x9 s (zi s counts (zn s t counts) j) c).toNat) (c:=c.toNat) qf qf
    refine oc (X3 _ (((zi s counts (zn s t counts) j).qQ)[(x9 s (zi s counts (zn s t counts) j) c).toNat]!) (((zi s counts (zn s t counts) j).qQ)[c.toNat]!) 1 (H.get 0 rfl).1 (H.get 1 rfl).1 qg qg qg) ?_
    rintro aA8 ajq apG aon
    replace H:=H.zO aon apG
    obtain⟨apF,alb,rfl,atX,asa⟩:=H.yc 0 rfl
    refine⟨H.pick [1,2,3,4,6]<|zR 2 6,(tI 20 rfl rfl rfl (H.pick [1,2,3,4,6]<|zR 2 6) ?_)⟩
    refine ro 21 rfl ?_
    obtain⟨uL,N,ahO,H⟩:=H.zQ 0 rfl N<|H.vX [2,3]
    refine yu true H 5 rfl 4 rfl (Sv apF ((jX (((zi s counts (zn s t counts) j).qQ)[(x9 s (zi s counts (zn s t counts) j) c).toNat]!) (((zi s counts (zn s t counts) j).qQ)[c.toNat]!) 1).length) alb) 0 rfl rfl sizeOf24 rfl rfl (i:=((x9 s (zi s counts (zn s t counts) j) c).toNat)) qf qf qm fun JM XS abf aeG H=>?_
    replace N:Fresh w.heap.size [abf,QB]:=(N.pick [2,0,1]).repl aeG
    refine⟨H.pick [1,2,3,4,6]<|zR 4 6,(xC qh ((meet ⟨_,XS,abf,uE3,N,H.pick (zR 1 6) [0,4,6,7,8,9]⟩)))⟩
   clear H N
   rintro ρ acx ⟨xN,Hj,Tt,rfl,N,H⟩
   refine t_n<|xU<|Qd rfl H [0,1,2,3,5] fun H=>?_
   have S:=H.jF [0,1,2,3,5]<|zR 0 6
   refine rtl 0 S ?_
   refine rtl 1 S ?_
   refine tF 2 rfl rfl S ?_
   refine tL 3 rfl rfl (fun _ h=>h.cell 0 rfl rfl) S ?_
   refine rtp 4 (yI c) S ?_
   refine rtl 5 S ?_
   refine rtl 6 S ?_
   refine tF 7 rfl rfl S ?_
   refine tL 8 rfl rfl (fun _ h=>h.zo 2 rfl 0 rfl) S ?_
   refine ro 9 rfl<|zq H underlying24 ti2 s.zf.toNat rfl rfl qf qf qf fun aoL azK H=>⟨H.pick [1,2,3,4,6]<|zR 0 6,(tI 10 rfl rfl rfl (H.pick [1,2,3,4,6]<|zR 0 6) ?_)⟩
   refine ro 11 rfl ?_
   obtain⟨avx,N,arN,H⟩:=H.zQ 0 rfl N<|H.vX [0,1]
   refine yu true H 5 rfl 1 rfl (Sv (aa aoL 0) s.zf.toNat s.zf.toNat) 0 rfl rfl sizeOf24 rfl rfl (i:=c.toNat) qf qf qm fun Ue att apA Yv H=>?_
   replace N:Fresh w.heap.size [apA,QB]:=(N.pick [1,0,2]).repl Yv
   refine⟨H.pick [1,2,3,4,6]<|zR 2 6,(xC qh<|t_n<|xX<|sq 2<|oF rfl<|oL rfl (H.cell 1 rfl rfl)<|sp (yI c) ?_)⟩
   obtain⟨Y2,rfl⟩:=H.jR 2 rfl qf
   refine oI rfl rfl<|sw<|QJ H 2 rfl false sizeOf4 rfl rfl (i:=c.toNat) qf qf fun apQ H=>xZ<|ret0 rfl ⟨_,rfl,?_⟩
   replace H:=H.erases [0]
   dsimp only[zU,List.eraseIdx] at H
   refine xZ<|b_n<|t_n<|xX<|sp (yI c)<|sw<|o_sub c 1 rfl rfl qf<|sq 1<|xZ ?_
   rw[QG] at H
   refine xh (m':=((c-1):Int).toNat) qf ⟨_,_,_,_,_,_,j+1,uE5,?_,?_,?_,?_,rfl,(N.pick [1,0]),H.pick (zR 0 6) [3,0,4,5,6,7]⟩
   ·(rw[QR (c:=c) (i:=az) ‹_› qf ic];rfl)
   ·(rw[QR (c:=c) (i:=az) ‹_› qf ic];rfl)
   ·omega
   ·omega
  refine qZ<|b_n<|t_n<|xX<|sp (yI c)<|sw<|o_sub c 1 rfl rfl qf<|sq 1<|xZ ?_
  rw[QG] at H
  refine xh (m':=((c-1):Int).toNat) qf ⟨_,_,_,_,_,_,j+1,uE5,?_,?_,?_,?_,rfl,N,H⟩
  ·rw[meltDown_no' (c:=c) (i:=az) ‹_› qf ic]
  ·rw[meltDown_no' (c:=c) (i:=az) ‹_› qf ic]
  ·omega
  ·omega
 refine zx4<|zcr<|sq 1<|sw<|zW #[pp bs os,pp gO 0] rfl rfl call195<|en func195 ntmps195 ?_
 refine zcr<|sw<|xg H ti31 [yN,yN,yN] fun auO agH H=>sp (yI 0)<|zjcc<|sq 2 ?_
 obtain⟨av7,Nn,anj⟩:=H.rowIsB 2 rfl
 obtain⟨aAc,NA,alh⟩:=H.QL (α:=yLI) 5 rfl 1 rfl qj
 obtain⟨awG,NR,aoG⟩:=H.XB 4 rfl
 refine sw<|oq (l02State_ok _ s (zi s counts (zn s t counts) j) (qC (H.get 2 rfl) 0 3) (H.get 3 rfl).1 (H.get 4 rfl).1 (by have hz:=(qC (H.cells 1 rfl) 0 3);rw[Nn,NA,NR] at hz;exact hz) (Nn▸anj) (NA▸alh) (NR▸aoG)<|by assumption) H fun au9 H=>sq 1<|zjn<|cQ rfl (fun anY=>?_)<|fun anY=>?_
 ·refine zcr (sw<|vg [yN,yN,yN] []<|sw<|xx H 0 [yN,yN,yN] sizeOf31 fun ahi H=>sp (yI 3)<|zjr<|t_r<|XC H 0 rfl (yI 3) rfl isAgg31 sizeOf31 rfl rfl ⟨_,rfl,?_⟩)
  replace H:=H.erases [0]
  dsimp only[zU,List.eraseIdx] at H
  refine sq 1<|sp (yI 3)<|sw<|xx H 5 [yN,yN,yN] sizeOf31 fun SS H=>sp (yI 3)<|zjr ?_
  replace H:=H.nilRowB 4
  replace H:=H.nilRow 24 1
  replace H:=H.vP (α:=yLI)
  replace H:=H.nilRowI 2
  refine XC H 8 rfl (yI 3) rfl isAgg31 sizeOf31 rfl rfl ⟨_,rfl,?_,H.base⟩
  rw[stepBy_yes ‹_›,stepRes,show jK s-1=j by omega,told_no ‹_›]
  exact⟨none,0,0,none,0,0,[],[],none,0,0,rfl,(N.emp.pick [0]),H.pick [2,1,0] [0]⟩
 refine qZ<|t_n<|zcr<|sq 2<|sw<|xy [Sv Vh t.qK.length Ve,Sv AU ((yB s t counts<|X6 (BadAt s t counts) counts.length).length) oQ,Sv Q4 QZ Q3] isAgg31 sizeOf31 rfl (qC (H.cells 1 rfl) 0 3)<|sw<|xx H 0 [Sv Vh t.qK.length Ve,Sv AU ((yB s t counts<|X6 (BadAt s t counts) counts.length).length) oQ,Sv Q4 QZ Q3] sizeOf31 fun avi H=>sp (yI 0)<|zjr<|XC H 0 rfl (yI 0) rfl isAgg31 sizeOf31 rfl rfl ⟨_,rfl,?_⟩
 replace H:=H.erases [0]
 dsimp only[zU,List.eraseIdx] at H
 refine sq 1<|sp (yI 0)<|sw<|xx H 5 [Sv Vh t.qK.length Ve,Sv AU ((yB s t counts<|X6 (BadAt s t counts) counts.length).length) oQ,Sv Q4 QZ Q3] sizeOf31 fun R9 H=>sp (yI 0)<|zjr<|XC H 5 rfl (yI 0) rfl isAgg31 sizeOf31 rfl rfl ⟨_,rfl,?_,H.base⟩
 rw[stepBy_yes ‹_›,stepRes,show jK s-1=j by omega,told_yes ‹_›]
 exact⟨Vh,t.qK.length,Ve,AU,(yB s t counts<|X6 (BadAt s t counts) counts.length).length,oQ,jw,zM,Q4,QZ,Q3,rfl,(N.pick [1]),H.pick [1,4,3] [1]⟩
end
section
def minus(k:Nat):yLI:=(List.range 6).map fun j=>if j<k then -1 else 0
theorem minus_len(k:Nat):(minus k).length=6:=by simp[minus]
theorem minus_get(h:j<6):(minus k)[j]! =if j<k then -1 else 0:=by
 rw[getElem!_pos (minus k) j<|by rw[minus_len];exact h];simp[minus]
theorem minus_set(h:k<6):(minus k).set k (-1)=minus (k+1):=by
 refine ext_get (by simp[minus_len]) fun p hp=>?_
 rw[List.length_set,minus_len] at hp
 rw[getset<|by rw[minus_len];exact h,minus_get hp,minus_get hp]
 by_cases e:p=k
 ·rw[if_pos e,if_pos qf]
 ·rw[if_neg e]
  by_cases h1:p<k
  ·rw[if_pos h1,if_pos qf]
  ·rw[if_neg h1,if_neg qf]
theorem minus_six(h:k=6)(s:qH)(t:qG):minus k=bests s t (-1) 6 0:=by
 subst h
 rw[←bests_zero];rfl
theorem appl_yes(hk:k=s.qB.length)(hi:i<s.qB.length)(hz:z<=(s.qB[i]!).yK)(hc:(s.qB[i]!).qY.toNat<n)(h1:(s.qB[i]!).yK=(bests s t z n k)[(s.qB[i]!).qY.toNat]!)(h2:EnOk s t (s.qB[i]!)):Appl s t i:=by
 rw[bests_get hc,hk] at h1
 exact(appl_iff hi hz).2 ⟨h2,h1⟩
theorem appl_no(hk:k=s.qB.length)(hi:i<s.qB.length)(hz:z<=(s.qB[i]!).yK)(hc:(s.qB[i]!).qY.toNat<n)(h1:(s.qB[i]!).yK≠(bests s t z n k)[(s.qB[i]!).qY.toNat]!):¬Appl s t i:=fun h=>by
 rw[bests_get hc,hk] at h1
 exact h1 ((appl_iff hi hz).1 h).2
theorem Qy:(appls s t).length=0<->Halted s t:=by
 constructor
 ·intro h j hj ha
  have:(j:Int)∈appls s t:=mem_applL.2 ⟨Int.natCast_nonneg j,by simpa using hj,by simpa using ha⟩
  rw[List.length_eq_zero_iff.1 h] at this;cases this
 ·intro h
  rw[List.length_eq_zero_iff]
  apply List.eq_nil_iff_forall_not_mem.2
  intro x hx
  obtain⟨h0,h1,h2⟩:=mem_applL.1 hx
  exact h _ h1 h2
theorem outPl_in(hs:yP s)(h:0<=x9 s t r.qY):outPl s t r=(x9 s t r.qY).toNat:=by
 refine outPl_up fun e=>?_
 rw[e,parentNow_root hs] at h;omega
theorem outPl_out(hs:yP s)(h0:t.qK[0]! =true)(hc:CellIn s r.qY)(h:¬0<=x9 s t r.qY):outPl s t r=s.qA.length:=by
 refine outPl_root ?_
 rcases Int.lt_or_eq_of_le hc.1 with h1|h1
 ·exact absurd (Vk hs h0 h1 hc.2).1 h
 ·exact h1.symm
theorem parentNow_lt(hs:yP s)(h0:t.qK[0]! =true){c:Int}(hc:CellIn s c):x9 s t c<=(s.qA.length:Int)-1:=by
 rcases Int.lt_or_eq_of_le hc.1 with h1|h1
 ·have:=Vk hs h0 h1 hc.2;have:=hc.2;omega
 ·rw[←h1,parentNow_root hs];have:=hs.2.1;omega
theorem stepBy_ok{counts:yLI}(h:(zA s t counts).2=0):xK s (zA s t counts).1:=by
 by_cases hc:IsCh s t counts
 ·rw[stepBy_yes hc] at h ⊢
  unfold stepRes at h ⊢
  by_cases ho:xK s (zi s counts (zn s t counts)<|jK s-1)
  ·rw[told_yes ho];exact ho
  ·rw[told_no ho] at h;cases h
 ·rw[stepBy_no hc] at h;cases h
theorem appls_at'(hm:(Yb s t m).length=q)(hn:m<=s.qB.length)(hq:q<(appls s t).length):
 0<=(appls s t)[q]! /\m<=((appls s t)[q]!).toNat/\((appls s t)[q]!).toNat<s.qB.length/\Appl s t ((appls s t)[q]!).toNat/\(∀j,m<=j->j<((appls s t)[q]!).toNat->¬Appl s t j)/\(Yb s t (((appls s t)[q]!).toNat+1)).length=q+1:=by
 obtain⟨i,h1,h2,h3,h4,h5,h6⟩:=appls_at hm hn hq
 rw[h1]
 exact⟨Int.natCast_nonneg i,h2,h3,h4,h5,h6⟩
theorem firstR_step(h1:m<=j)(hj:j<s.qB.length)(ha:Appl s t j)(h4:∀i,m<=i->i<j->¬Appl s t i){x:Int}(hx:x=jd (s.qB[j]!).zJ ((yM s t m)[(s.qB[j]!).qY.toNat]!)):
 (yM s t m).set (s.qB[j]!).qY.toNat (jX ((yM s t m)[(s.qB[j]!).qY.toNat]!) (s.qB[j]!).zJ (-x))=yM s t (j+1):=by
 rw[hx,←firstR_same h1 h4,firstR_yes ha]
theorem firstC_step(h1:m<=j)(ha:Appl s t j)(h4:∀i,m<=i->i<j->¬Appl s t i):jd (s.qB[j]!).zJ ((yM s t m)[(s.qB[j]!).qY.toNat]!)=firstC s t j:=by
 rw[firstC_yes ha,firstR_same h1 h4]
theorem meltsL_1{counts:yLI}(h0:0<=(s.qB[k]!).qY)(h:(s.qB[k]!).qY.toNat<n)(h1:(QP s counts n k)[(s.qB[k]!).qY.toNat]! =true):(QP s counts n k).set (s.qB[k]!).qY.toNat true=QP s counts n (k+1):=
 meltsL_set h0 h ⟨fun _=>.inl h1,fun _=>rfl⟩
theorem meltsL_2{counts:yLI}(h0:0<=(s.qB[k]!).qY)(h:(s.qB[k]!).qY.toNat<n)(h1:(QP s counts n k)[(s.qB[k]!).qY.toNat]! =false)(h2:¬counts[k]!>0):(QP s counts n k).set (s.qB[k]!).qY.toNat false=QP s counts n (k+1):=
 meltsL_set h0 h ⟨fun h=>(by cases h),fun h=>h.elim (fun h=>(ft h h1).elim) fun h=>(h2 h.1).elim⟩
theorem meltsL_3{counts:yLI}(h0:0<=(s.qB[k]!).qY)(h:(s.qB[k]!).qY.toNat<n)(h1:(QP s counts n k)[(s.qB[k]!).qY.toNat]! =false)(h2:counts[k]!>0):(QP s counts n k).set (s.qB[k]!).qY.toNat (s.qB[k]!).jY=QP s counts n (k+1):=
 meltsL_set h0 h ⟨fun h=>.inr ⟨h2,h⟩,fun h=>h.elim (fun h=>(ft h h1).elim) fun h=>h.2⟩
theorem meltDown_yesL{counts:yLI}{c:Int}(h:(QP s counts n i)[c.toNat]! =true)(hn:c.toNat<n)(h0:0<=c)(hi:i=s.qB.length)(hc:c=(jK s:Int)-1-j):zi s counts u (j+1)=melted s (zi s counts u j) c:=by
 rw[meltsL_get hn,show ((c.toNat:Nat):Int)=c by omega] at h
 exact QR h hi hc
theorem meltDown_noL{counts:yLI}{c:Int}(h:(QP s counts n i)[c.toNat]! =false)(hn:c.toNat<n)(h0:0<=c)(hi:i=s.qB.length)(hc:c=(jK s:Int)-1-j):zi s counts u (j+1)=zi s counts u j:=by
 rw[meltsL_get hn,show ((c.toNat:Nat):Int)=c by omega] at h
 exact meltDown_no' h hi hc
theorem copy_pre{K:Nat}{f:Nat->Nat->Int}{B:Int}{b:yLL}{al:List Bool}(h:Ent (n+1) K f B b)(hK:K<=8)(hn:n<=6)(ha:al.length=n):
 (⟨al,b.take n,b[n]!⟩:qG).qK.length<=1000000/\(⟨al,b.take n,b[n]!⟩:qG).qJ.length<=1000000/\(⟨al,b.take n,b[n]!⟩:qG).qQ.length<=1000000∧
  ∀j,j<(⟨al,b.take n,b[n]!⟩:qG).qQ.length->((⟨al,b.take n,b[n]!⟩:qG).qQ[j]!).length<=1000000:=by
 have hl:(b.take n).length=n:=by rw[List.length_take,h.sh.1];omega
 have hr:=h.sh.2 n qf
 refine⟨?_,?_,?_,fun j hj=>?_⟩
 ·show al.length<=1000000;omega
 ·show (b[n]!).length<=1000000;omega
 ·show (b.take n).length<=1000000;omega
 ·have hj:j<(b.take n).length:=hj
  show ((b.take n)[j]!).length<=1000000
  rw[getElem!_pos (b.take n) j hj,List.getElem_take,←getElem!_pos b j<|by rw[h.sh.1];omega]
  have:=(h.sh.2 j qf).1;omega
open Classical in
noncomputable def runGo(s:qH):Nat->Int->qG->qG×Int×Int
 |0,iu,u=>(u,iu,0)
 |f+1,iu,u=>if Halted s u then (u,iu,0) else if (zA s u<|yA s u).2≠0 then (default,0,(zA s u<|yA s u).2) else runGo s f (iu+1) (zA s u<|yA s u).1
theorem runGo_halt(h:Halted s u):runGo s f iu u=(u,iu,0):=by
 cases f with
 |zero=>rfl
 |succ f=>rw[runGo,if_pos h]
theorem runGo_end(h:f=0):runGo s f iu u=(u,iu,0):=by subst h;rfl
theorem runGo_bad(hf:0<f)(h:¬Halted s u)(h1:(zA s u<|yA s u).2≠0):runGo s f iu u=(default,0,(zA s u<|yA s u).2):=by
 obtain⟨g,rfl⟩:∃g,f=g+1:=⟨f-1,by omega⟩
 rw[runGo,if_neg h,if_pos h1]
theorem runGo_go{g:Nat}(hf:f=g+1)(h:¬Halted s u)(h1:(zA s u<|yA s u).2=0):runGo s f iu u=runGo s g (iu+1) (zA s u<|yA s u).1:=by
 subst hf
 rw[runGo,if_neg h,if_neg<|by simp[h1]]
open Classical in
noncomputable def QH(s:qH)(t:qG)(aQ:Int):qG×Int×Int:=
 if ¬(vz s/\xK s t) then (default,0,1) else if ¬(0<=aQ/\aQ<=200) then (default,0,2) else runGo s aQ.toNat 0 t
theorem run_1(h:¬(vz s/\xK s t)):QH s t aQ=(default,0,1):=by rw[QH,if_pos h]
theorem run_2(h:vz s/\xK s t)(h1:¬(0<=aQ/\aQ<=200)):QH s t aQ=(default,0,2):=by rw[QH,if_neg<|by simpa using h,if_pos h1]
theorem run_0(h:vz s/\xK s t)(h1:0<=aQ/\aQ<=200):QH s t aQ=runGo s aQ.toNat 0 t:=by rw[QH,if_neg<|by simpa using h,if_neg<|by simpa using h1]
end
section
variable{qE qN eC dZ eu eD hU VP qU xk qL cl : Nat}
theorem isShell_ok(w:World)(s:qH)(xe:zP w xu qF qE s.qA)(xE:zP w xW qO qN s.qB):Calls Tryz.prog 142 #[.agg #[yI s.zf,Sv qF s.qA.length qE,Sv qO s.qB.length qN]] w (Ret (fun v w'=>v=Bv (dec<|yP s)) w):=by
 refine en func142 ntmps142 ?_
 have H:=((St.start w).arg xE).arg xe
 have zV:=qR xe
 clear xe xE
 have N:=Fresh.nil w.heap.size
 refine zcr<|sw<|zN H (yS s qF qE qO qN) fun b1 w2 H=>sp (Bv false)<|zjcc<|oF rfl<|oL rfl (H.cell 0 rfl rfl)<|sw<|oq (Xe w2 s.zf 1 8) H fun w3 H=>sp (Bv (!(inR s.zf 1 8)))<|sp (Bv (!(inR s.zf 1 8))) ?_
 cases h5:(!(inR s.zf 1 8))
 ·replace h5:=xO h5
  replace h5:=Q8.1 h5
  refine qP 9 rfl rfl<|oF rfl<|qP 9 rfl rfl<|oL rfl (H.cell 0 rfl rfl)<|qP 9 rfl rfl<|sw<|oq (sizeI_ok _ s.qA (H.get 0 rfl).1) H fun w6 H=>qP 9 rfl rfl<|sw<|oq (Xe w6 (s.qA.length:Int) 1 6) H fun w8 H=>qP 9 rfl rfl<|sp (Bv (!(inR (s.qA.length:Int) 1 6)))<|sp (Bv (!(inR (s.qA.length:Int) 1 6)))<|sp (Bv (!(inR (s.qA.length:Int) 1 6))) ?_
  cases bx:(!(inR (s.qA.length:Int) 1 6))
  ·replace bx:=xO bx
   replace bx:=Q8.1 bx
   refine qP 16 rfl rfl<|oF rfl<|qP 16 rfl rfl<|oL rfl (H.cell 0 rfl rfl)<|qP 16 rfl rfl ?_
   obtain⟨oO,Yw,rfl⟩:=H.addr 0 rfl qf
   refine oI rfl rfl<|qP 16 rfl rfl<|oL rfl (H.zS 0 rfl 0 qf)<|qP 16 rfl rfl<|sp (Bv ((s.qA[0]! :Int) != (-1)))<|sp (Bv ((s.qA[0]! :Int) != (-1)))<|zjn<|zX ((s.qA[0]! :Int) != (-1)) rfl (fun eE=>?_)<|fun eE=>?_
   ·replace eE:=bne_iff_ne.1 eE
    refine zcr<|sp (Bv false)<|zjr<|t_r<|rH1 (Bv false) H ?_
    rw[xw (fun h=>by obtain⟨h1,h2,h3,h4⟩:=h;omega)]
   replace eE:=xA eE
   refine qZ<|t_n<|zcc<|oF rfl<|oL rfl (H.cell 0 rfl rfl)<|sw<|o_tail H 0 rfl 1 underlying24 ti2 rfl qf fun a15 G16 ajI H=>?_
   have ayX:(s.qA.drop 1).length=s.qA.length-1:=List.length_drop
   refine oN rfl<|sp (yI 0)<|zjn<|xf<|zD ((fun Z0 Z1 Z2 Z3=>fun m' ρ y6=>∃(xN:Env) (c:Nat),ρ=upd (upd (upd xN 25<|Sv a15 ((s.qA.drop 1).length)<|qE-1) 26<|yI ((s.qA.drop 1).length)) 27 (yI c)/\((c:Int)<=((s.qA.drop 1).length))/\(FrameTo s<|c+1)/\m'=(((s.qA.drop 1).length)-(c:Int)).toNat/\Fresh w.heap.size []/\St w y6 [Z0] [Z1,Z2,Z3]) _ _ _ _) ((((s.qA.drop 1).length)-(0:Int)).toNat) ⟨_,0,uE3,qf,(by exact FrameTo.one s),rfl,N,H⟩ ?_
   clear H N
   rintro m' ρ tr ⟨xN,c,rfl,i0,i1,rfl,N,H⟩
   have dg:=drop_get (l:=s.qA) (k:=c)
   refine zcr<|sq 1<|zjn<|xU<|cD rfl (fun rD=>?_)<|fun rD=>?_
   ·refine qZ (t_n<|xU<|xf<|zcr<|sp (yI c) ?_)
    obtain⟨fj,Wn,rfl⟩:=H.addr 0 rfl qf
    refine oI rfl rfl<|oL rfl (H.zS 0 rfl c qf)<|sp (yI c)<|sq 1<|zjc<|sq 1<|sp (yI c)<|sw<|oq (Xe tr ((s.qA.drop 1)[c]!) 0 c) H fun Ce H=>sq 1<|zjn<|zX _ rfl (fun mg=>?_)<|fun mg=>?_
    ·replace mg:=x8 mg
     replace mg:=XG mg
     refine zcr<|sp (Bv false)<|zjr<|zr5<|rH1 (Bv false) H ?_
     rw[xw (fun h=>by obtain⟨h1,h2,h3,h4⟩:=h;(have:=h4 (c+1) qf qf;rw[←dg qf] at this;omega))]
    replace mg:=xO mg
    replace mg:=Q8.1 mg
    refine qZ<|b_n<|t_n<|xX<|sw<|zC c 1 rfl rfl qf<|sq 1<|xZ<|xh (m':=(((s.qA.drop 1).length)-((c+1):Int)).toNat) qf ⟨_,c+1,uE3,?_,?_,rfl,N,H⟩
    ·omega
    ·exact i1.succ<|by rw[←dg qf];omega
   refine zx4<|zcr<|sp (Bv true)<|zjr<|rH1 (Bv true) H ?_
   rw[jP ⟨by omega,by omega,by omega,(show s.qA.length=c+1 by omega)▸i1⟩]
  replace bx:=x8 bx
  replace bx:=XG bx
  refine xY (zR 17 5)<|sp (Bv true)<|zjn<|cTr rfl<|zcr<|sp (Bv false)<|zjr<|t_r<|rH1 (Bv false) H ?_
  rw[xw (fun h=>by obtain⟨h1,h2,h3,h4⟩:=h;omega)]
 replace h5:=x8 h5
 replace h5:=XG h5
 refine xY (zR 10 5)<|sp (Bv true)<|sp (Bv true)<|xY (zR 17 5)<|sp (Bv true)<|zjn<|cTr rfl<|zcr<|sp (Bv false)<|zjr<|t_r<|rH1 (Bv false) H ?_
 rw[xw (fun h=>by obtain⟨h1,h2,h3,h4⟩:=h;omega)]
theorem isCell_ok(w:World)(s:qH)(c:Int)(xe:zP w xu qF qE s.qA)(xE:zP w xW qO qN s.qB):Calls Tryz.prog 184 #[.agg #[yI s.zf,Sv qF s.qA.length qE,Sv qO s.qB.length qN],yI c] w (Ret (fun v w'=>v=Bv (inR c 0 ((s.qA.length:Int)-1))) w):=by
 refine en func184 ntmps184 ?_
 have H:=((St.start w).arg xE).arg xe
 have zV:=qR xe
 clear xe xE
 refine zcr<|sw<|zN H (yS s qF qE qO qN) fun b1 w2 H=>sp (Bv false)<|zjc<|sp (yI c)<|oF rfl<|oL rfl (H.cell 0 rfl rfl)<|sw<|oq (sizeI_ok _ s.qA (H.get 0 rfl).1) H fun w3 H=>sw<|o_sub (s.qA.length:Int) 1 rfl rfl qf<|sw<|oq (Xe w3 c 0 ((s.qA.length:Int)-1)) H fun w5 H=>sq 1<|zjr<|rH1 (Bv<|inR c 0 ((s.qA.length:Int)-1)) H ?_
 rfl
theorem lies_ok(w:World)(s:qH)(c:Int)(within:Int)(xe:zP w xu qF qE s.qA)(xE:zP w xW qO qN s.qB)(p0:yP s)(p1:CellIn s c):Calls Tryz.prog 185 #[.agg #[yI s.zf,Sv qF s.qA.length qE,Sv qO s.qB.length qN],yI c,yI within] w (Ret (fun v w'=>v=Bv (dec<|Lies s.qA within c)) w):=by
 refine en func185 ntmps185 ?_
 have H:=((St.start w).arg xE).arg xe
 have zV:=qR xe
 clear xe xE
 have N:=Fresh.nil w.heap.size
 have p2:=p0.step p1.1 p1.2
 refine zcr<|sw<|zN H (yS s qF qE qO qN) fun b1 w2 H=>sp (Bv false)<|zjcc<|oF rfl<|oL rfl (H.cell 0 rfl rfl)<|sp (yI c) ?_
 obtain⟨b3,o4,rfl⟩:=H.addr 0 rfl qf
 refine oI rfl rfl<|oL rfl (H.elemInt 0 rfl c qf qf)<|sq 1<|zjn<|xf<|zD ((fun Z0 Z1 Z2=>fun m' ρ w6=>∃(xN:Env) (aZ:Int),ρ=upd (upd (upd xN 1<|yI aZ) 2<|yI within) 3 (pp b1 0)/\(-1<=aZ/\aZ<=(s.qA.length:Int)-1)/\(Lies s.qA within c<->0<=aZ/\(aZ=within\/Lies s.qA within aZ))/\m'=(aZ+1).toNat/\Fresh w.heap.size []/\St w w6 [Z0] [Z1,Z2]) _ _ _) (((s.qA[c.toNat]!)+1).toNat) ⟨_,s.qA[c.toNat]!,uE3,qf,(by exact lies_up p0 p1),rfl,N,H⟩ ?_
 clear H N
 rintro m' ρ w7 ⟨xN,aZ,rfl,i0,i1,rfl,N,H⟩
 have up:=fun h=>p0.step (c:=aZ) h i0.2
 refine zcc<|sq 1<|sp (Bv<|decide ((aZ:Int)>=0))<|zjn<|cD rfl (fun h8=>?_)<|fun h8=>?_
 ·refine qZ (t_n<|xU<|xf<|zcr<|sq 3<|zjn<|cE rfl (fun h9=>?_)<|fun h9=>?_)
  ·refine zcr (sp (Bv true)<|zjr<|zr5<|rH1 (Bv true) H ?_)
   rw[jP<|i1.2 ⟨by omega,.inl ‹_›⟩]
  refine qZ<|b_n<|t_n<|xX<|oF rfl<|oL rfl (H.cell 0 rfl rfl)<|sq 1<|oI rfl rfl<|oL rfl (H.elemInt 0 rfl aZ qf qf)<|sq 1<|xZ ?_
  have up1:=up qf
  refine xh (m':=((s.qA[aZ.toNat]!)+1).toNat) qf ⟨_,_,uE3,?_,?_,rfl,N,H⟩
  ·omega
  ·exact i1.trans ⟨fun h=>(lies_up p0 ⟨by omega,by omega⟩).1<|h.2.resolve_left ‹_›,fun h=>⟨by omega,.inr ((lies_up p0 ⟨by omega,by omega⟩).2 h)⟩⟩
 refine zx4<|zcr<|sp (Bv false)<|zjr<|rH1 (Bv false) H ?_
 rw[xw (fun h=>by have:=(i1.1 h).1;omega)]
theorem isRule_ok(w:World)(s:qH)(r:yH)(xe:zP w xu qF qE s.qA)(xE:zP w xW qO qN s.qB)(eR:zP w tE eB eC r.zJ)(fC:zP w tv dV dZ r.jB)(f8:zP w uu eo eu r.jD)(fm:zP w tW eh eD r.jJ)(lF:zP w Am iU hU r.Qq)(dw:zP w uv VS VP r.xF)(p0:yP s):Calls Tryz.prog 143 #[.agg #[yI s.zf,Sv qF s.qA.length qE,Sv qO s.qB.length qN],.agg #[yI r.qY,yI r.yK,Sv eB r.zJ.length eC,Sv dV r.jB.length dZ,Sv eo r.jD.length eu,Sv eh r.jJ.length eD,Sv iU r.Qq.length hU,Sv VS r.xF.length VP,Bv r.jY]] w (Ret (fun v w'=>v=Bv (dec<|RuleOk s r)) w):=by
 refine en func143 ntmps143 ?_
 have H:=((((((((St.start w).arg dw).arg lF).arg fm).arg f8).arg fC).arg eR).arg xE).arg xe
 have xa:=qR dw
 clear xe xE eR fC f8 fm lF dw
 have N:=Fresh.nil w.heap.size
 refine zcr<|sw<|zN H (yS s qF qE qO qN) fun b1 w2 H=>sw<|zN H [yI r.qY,yI r.yK,Sv eB r.zJ.length eC,Sv dV r.jB.length dZ,Sv eo r.jD.length eu,Sv eh r.jJ.length eD,Sv iU r.Qq.length hU,Sv VS r.xF.length VP,Bv r.jY] fun b3 w4 H=>sp (Bv false)<|zjcc<|sw<|xy (yS s qF qE qO qN) isAgg27 sizeOf27 rfl (qC (H.cells 1 rfl) 0 3)<|oF rfl<|oL rfl (H.cell 0 rfl rfl)<|sw<|oq (isCell_ok _ s r.qY (H.get 0 rfl).1 (H.get 1 rfl).1) H fun w6 H=>sp (Bv (!(inR r.qY 0 ((s.qA.length:Int)-1))))<|sp (Bv (!(inR r.qY 0 ((s.qA.length:Int)-1)))) ?_
 cases h8:(!(inR r.qY 0 ((s.qA.length:Int)-1)))
 ·replace h8:=xO h8
  replace h8:=Q8.1 h8
  refine qP 14 rfl rfl<|oF rfl<|qP 14 rfl rfl<|oL rfl (H.cell 0 rfl rfl)<|qP 14 rfl rfl<|sw<|oq (Xe w6 r.yK 0 9) H fun w9 H=>qP 14 rfl rfl<|sp (Bv (!(inR r.yK 0 9)))<|sp (Bv (!(inR r.yK 0 9)))<|sp (Bv (!(inR r.yK 0 9))) ?_
  cases aV:(!(inR r.yK 0 9))
  ·replace aV:=xO aV
   replace aV:=Q8.1 aV
   refine qP 20 rfl rfl<|oF rfl<|qP 20 rfl rfl<|oL rfl (H.cell 0 rfl rfl)<|qP 20 rfl rfl<|sp (Bv r.jY) ?_
   cases cZ:(r.jY)
   ·rw[cZ] at H
    refine xY [24,25,26]<|qP 20 rfl rfl<|sp (Bv false)<|sp (Bv false)<|sp (Bv false)<|qP 29 rfl rfl<|oF rfl<|qP 29 rfl rfl<|oL rfl (H.cell 0 rfl rfl)<|qP 29 rfl rfl<|oN rfl<|qP 29 rfl rfl<|sp (Bv<|decide ((r.xF.length:Int)>3))<|sp (Bv<|decide ((r.xF.length:Int)>3))<|zjn<|cD rfl (fun dS=>?_)<|fun dS=>?_
    ·refine zcr (sp (Bv false)<|zjr<|t_r<|rH1 (Bv false) H ?_)
     rw[xw (fun h=>by obtain⟨h1,h2,h3,h4,h5,h6,h7,h8,h9,bx,aV⟩:=h;omega)]
    refine qZ<|t_n<|zcc<|oF rfl<|oL rfl (H.cell 0 rfl rfl)<|oF rfl<|oL rfl (H.cell 0 rfl rfl)<|oF rfl<|oL rfl (H.cell 0 rfl rfl)<|oF rfl<|oL rfl (H.cell 0 rfl rfl)<|oF rfl<|oL rfl (H.cell 0 rfl rfl)<|sw<|o_buildF H underlying29 ti24 [Sv eB r.zJ.length eC,Sv dV r.jB.length dZ,Sv eo r.jD.length eu,Sv eh r.jJ.length eD,Sv iU r.Qq.length hU] rfl (by simp[Value.cells]) rfl qj qj fun e9 uK H=>oN rfl<|sp (yI 0)<|zjn<|xf ?_
    replace H:=H.boxRow 0 rfl 1 5 rfl qj
    replace H:=H.vP (α:=yLI)
    replace H:=H.VX false 7 rfl 0 rfl qm
    replace H:=H.VX false 7 rfl 0 rfl qm
    replace H:=H.VX false 7 rfl 0 rfl qm
    replace H:=H.VX false 7 rfl 0 rfl qm
    replace H:=H.VX false 7 rfl 0 rfl qm
    refine zD ((fun Z0 Z1 Z2 Z3 Z4 Z5 Z6 Z7 Z8 Z9 bG bX=>fun m' ρ KX=>∃(xN:Env) (k:Nat),ρ=upd (upd (upd (upd (upd xN 2<|pp b1 0) 3<|pp b3 0) 45<|Sv (aa e9 0) 5 5) 46<|yI 5) 47 (yI k)/\((k:Int)<=5)/\(∀j,j<k->jm s.zf ([r.zJ,r.jB,r.jD,r.jJ,r.Qq][j]!))/\m'=(5-(k:Int)).toNat/\Fresh w.heap.size []/\St w KX [Z0,Z1,Z2] [Z3,Z4,Z5,Z6,Z7,Z8,Z9,bG,bX]) _ _ _ _ _ _ _ _ _ _ _ _) ((5-(0:Int)).toNat) ⟨_,0,uE5,qf,(by intro j hj;omega),rfl,N,H.pick [0,1,2] (0::zR 6 8)⟩ ?_
    clear H N
    rintro m' ρ GW ⟨xN,k,rfl,i0,i1,rfl,N,H⟩
    refine zcr<|sp (Bv<|decide ((k:Int)<5))<|zjn<|xU<|cD rfl (fun g8=>?_)<|fun g8=>?_
    ·refine qZ (t_n<|xU<|xf<|zcr<|oI rfl rfl ?_)
     obtain⟨a19,c20,G21,s22,Wu,H⟩:=H.jS 0 rfl 0 rfl (iv:=k) k qf qf
     refine oL rfl (Wu)<|sq 1<|zjc<|oF rfl<|oL rfl (H.cell 2 rfl rfl)<|sq 1<|sw<|oq (V5 _ s.zf ([r.zJ,r.jB,r.jD,r.jJ,r.Qq][k]!) (H.get 0 rfl).1) H fun Ks H=>sq 1<|zjn<|cQ rfl (fun RB=>?_)<|fun RB=>?_
     ·refine zcr (sp (Bv false)<|zjr<|zr5<|rH1 (Bv false) H ?_)
      rw[xw (fun h=>by obtain⟨h1,h2,h3,h4,h5,h6,h7,h8,h9,bx,aV⟩:=h;(refine absurd ?_ ‹¬jm _ _›;rcases(show k=0\/k=1\/k=2\/k=3\/k=4 by omega) with e|e|e|e|e <;> subst e <;> assumption))]
     refine qZ<|b_n<|t_n<|xX<|sw<|zC k 1 rfl rfl qf<|sq 1<|xZ<|xh (m':=(5-((k+1):Int)).toNat) qf ⟨_,k+1,uE5,?_,?_,rfl,N,H.pick [0,1,2]<|zR 1 9⟩
     ·omega
     ·intro j hj;by_cases e:j=k;(subst e;assumption);exact i1 j qf
    refine zx4<|zcc<|oF rfl<|oL rfl (H.cell 1 rfl rfl)<|oN rfl<|sp (yI 0)<|zjn<|xf ?_
    have n1:jm s.zf r.zJ:=i1 0 qf
    have n2:jm s.zf r.jB:=i1 1 qf
    have n3:jm s.zf r.jD:=i1 2 qf
    have n4:jm s.zf r.jJ:=i1 3 qf
    have n5:jm s.zf r.Qq:=i1 4 qf
    refine zD ((fun Z0 Z1 Z2 Z3 Z4 Z5 Z6 Z7 Z8 Z9 bG bX=>fun m' ρ BA=>∃(xN:Env) (i:Nat),ρ=upd (upd (upd (upd (upd xN 2<|pp b1 0) 3<|pp b3 0) 58<|Sv VS r.xF.length VP) 59<|yI r.xF.length) 60 (yI i)/\((i:Int)<=r.xF.length)/\(IntosTo s r i)/\m'=(r.xF.length-(i:Int)).toNat/\Fresh w.heap.size []/\St w BA [Z0,Z1,Z2] [Z3,Z4,Z5,Z6,Z7,Z8,Z9,bG,bX]) _ _ _ _ _ _ _ _ _ _ _ _) ((r.xF.length-(0:Int)).toNat) ⟨_,0,uE5,qf,qx,rfl,N,H⟩ ?_
    clear H N
    rintro m' ρ PE ⟨xN,i,rfl,i0,i2,rfl,N,H⟩
    refine zcr<|sq 1<|zjn<|xU<|cD rfl (fun Pi=>?_)<|fun Pi=>?_
    ·refine qZ (t_n<|xU<|xf<|zcr<|sp (yI i) ?_)
     obtain⟨RP,o31,rfl⟩:=H.addr 8 rfl qf
     obtain⟨wV,wX,L4,H⟩:=H.Qr 8 rfl i i qf qf qf
     refine oI rfl rfl<|sw<|xy [yI ((r.xF[i]!).qY),Sv wV (((r.xF[i]!).Xq).length) wX] isAgg128 sizeOf128 rfl (qC (H.get 1 rfl) 0 2)<|sw<|xg H ti128 [yI 0,yN] fun mV Ao H=>sp (yI i)<|sw<|xx H 0 [yI ((r.xF[i]!).qY),Sv wV (((r.xF[i]!).Xq).length) wX] sizeOf128 fun Gy H=>zjn<|xU<|ji rfl H fun H=>rt 0 _ (yF (cs:=(yS s qF qE qO qN)) isAgg27 sizeOf27 rfl<|fun _ h=>qC (h.cells 3 rfl) 0 3) H ?_
     refine tF 1 rfl rfl H ?_
     refine tL 2 rfl rfl (fun _ h=>h.cell 0 rfl rfl) H ?_
     refine ro 3 rfl<|oq (isCell_ok _ s ((r.xF[i]!).qY) (H.get 3 rfl).1 (H.get 4 rfl).1) H fun BG H=>⟨H,(rtp 4 (Bv (!(inR ((r.xF[i]!).qY) 0 ((s.qA.length:Int)-1)))) H ?_)⟩
     refine rtp 5 (Bv (!(inR ((r.xF[i]!).qY) 0 ((s.qA.length:Int)-1)))) H ?_
     cases CY:(!(inR ((r.xF[i]!).qY) 0 ((s.qA.length:Int)-1)))
     ·replace CY:=xO CY
      replace CY:=Q8.1 CY
      refine rg 6 _ 70 (yF (cs:=(yS s qF qE qO qN)) isAgg27 sizeOf27 rfl<|fun _ h=>qC (h.cells 3 rfl) 0 3) H ?_
      refine gF 7 rfl rfl H ?_
      refine gL 8 rfl rfl (fun _ h=>h.cell 0 rfl rfl) H ?_
      refine gF 9 rfl rfl H ?_
      refine gL 10 rfl rfl (fun _ h=>h.cell 2 rfl rfl) H ?_
      refine zY [11] qh qm<|X4 rfl (e:=70) rfl rfl (oq (lies_ok _ s ((r.xF[i]!).qY) r.qY (H.get 3 rfl).1 (H.get 4 rfl).1 qg qg) H fun KQ H=>⟨H,(rgp 12 (Bv (!(dec<|Lies s.qA r.qY ((r.xF[i]!).qY)))) 70 H ?_)⟩) zZ
      refine rtp 13 (Bv (!(dec<|Lies s.qA r.qY ((r.xF[i]!).qY)))) H ?_
      refine rtp 14 (Bv (!(dec<|Lies s.qA r.qY ((r.xF[i]!).qY)))) H ?_
      cases pT:(!(dec (Lies s.qA r.qY ((r.xF[i]!).qY))))
      ·replace pT:=xO pT
       replace pT:=Qc pT
       refine gF 15 rfl rfl H ?_
       refine gL 16 rfl rfl (fun _ h=>h.cell 3 rfl rfl) H ?_
       refine gF 17 rfl rfl H ?_
       refine gL 18 rfl rfl (fun _ h=>h.cell 0 rfl rfl) H ?_
       refine zY [19] qh qm<|X4 rfl (e:=79) rfl rfl (oq (V5 _ s.zf ((r.xF[i]!).Xq) (H.get 0 rfl).1) H fun Dz H=>⟨H,(rgp 20 (Bv (!(dec<|jm s.zf ((r.xF[i]!).Xq)))) 79 H ?_)⟩) zZ
       refine rtp 21 (Bv (!(dec<|jm s.zf ((r.xF[i]!).Xq)))) H ?_
       refine rtp 22 (Bv (!(dec<|jm s.zf ((r.xF[i]!).Xq)))) H ?_
       cases wu:(!(dec (jm s.zf ((r.xF[i]!).Xq))))
       ·replace wu:=xO wu
        replace wu:=Qc wu
        refine gF 23 rfl rfl H ?_
        refine gL 24 rfl rfl (fun _ h=>h.cell 0 rfl rfl) H ?_
        refine zY [25] qh qm<|X4 rfl (e:=87) rfl rfl ?_ zZ
        have sm:Small ((r.xF[i]!).Xq):=jk<|by assumption
        refine oq (VE _ ((r.xF[i]!).Xq) (H.get 0 rfl).1<|by assumption) H fun OV H=>⟨H,(rgp 26 (Bv ((Xr ((r.xF[i]!).Xq):Int) == 0)) 87 H ?_)⟩
        refine rtp 27 (Bv ((Xr ((r.xF[i]!).Xq):Int) == 0)) H ?_
        refine rtp 28 (Bv ((Xr ((r.xF[i]!).Xq):Int) == 0)) H ?_
        cases BV:((Xr ((r.xF[i]!).Xq):Int) == 0)
        ·replace BV:=ne_of_beq_false BV
         refine rgp 29 (yI i) 93 H ?_
         refine rgp 30 (Bv<|decide ((i:Int)>0)) 93 H ?_
         refine rgp 31 (Bv<|decide ((i:Int)>0)) 93 H ?_
         cases Cq:(decide ((i:Int)>0))
         ·replace Cq:=of_decide_eq_false Cq
          refine vJ (zR 32 10) 10 (H)<|rgp 42 (Bv false) 93 H ?_
          refine rtp 43 (Bv false) H ?_
          refine xC qh<|t_n<|cFr rfl<|qZ<|b_n<|t_n<|xX<|sw<|zC i 1 rfl rfl qf<|sq 1<|xZ<|xh (m':=(r.xF.length-((i+1):Int)).toNat) qf ⟨_,i+1,uE5,?_,?_,rfl,N,H.pick [1,2,3]<|zR 2 9⟩
          ·omega
          ·exact i2.succ ⟨‹_›,‹_›,‹_›,‹_›,fun hk=>by omega⟩
         replace Cq:=of_decide_eq_true Cq
         refine gF 32 rfl rfl H ?_
         refine gL 33 rfl rfl (fun _ h=>h.cell 0 rfl rfl) H ?_
         refine gF 34 rfl rfl H ?_
         refine gL 35 rfl rfl (fun _ h=>h.cell 2 rfl rfl) H ?_
         refine rgp 36 (yI i) 96 H ?_
         refine rg 37 _ 96 (y_sub i 1 rfl rfl qf) H ?_
         obtain⟨ajd,ajf,aii,H⟩:=H.Qr 10 rfl (i-1) (i-1) qf qf qf
         have S:=H.jF (zR 0 4)<|zR 2 11
         refine gI 38 rfl rfl rfl S ?_
         refine gF 39 rfl rfl S ?_
         refine zY [40] qh qm<|X4 rfl (e:=96) rfl rfl (zB (yI ((r.xF[i-1]!).qY)) isAgg2 rfl (H.zo 1 rfl 0 rfl)<|⟨H.pick (zR 0 4)<|zR 2 11,?_⟩) zZ
         have S:=H.jF (zR 0 4)<|zR 2 11
         refine rgl 41 96 S ?_
         refine rgl 42 93 S ?_
         refine rtl 43 S ?_
         refine xC qh<|t_n<|cD rfl (fun YZ=>?_)<|fun YZ=>?_
         ·refine zcr (sp (Bv false)<|zjr<|zr5<|rH1 (Bv false) H ?_)
          rw[xw (fun h=>by obtain⟨h1,h2,h3,h4,h5,h6,h7,h8,h9,bx,aV⟩:=h;(obtain⟨q1,q2,q3,q4,q5⟩:=aV i qf;omega))]
         refine qZ<|b_n<|t_n<|xX<|sw<|zC i 1 rfl rfl qf<|sq 1<|xZ<|xh (m':=(r.xF.length-((i+1):Int)).toNat) qf ⟨_,i+1,uE5,?_,?_,rfl,N,H.pick [1,2,3]<|zR 4 9⟩
         ·omega
         ·exact i2.succ ⟨‹_›,‹_›,‹_›,‹_›,fun hk=>by omega⟩
        replace BV:=eq_of_beq BV
        refine vJ (zR 29 14) 14 (H)<|rtp 43 (Bv true) H ?_
        refine xC qh<|t_n<|cTr rfl<|zcr<|sp (Bv false)<|zjr<|zr5<|rH1 (Bv false) H ?_
        rw[xw (fun h=>by obtain⟨h1,h2,h3,h4,h5,h6,h7,h8,h9,bx,aV⟩:=h;(obtain⟨q1,q2,q3,q4,q5⟩:=aV i qf;contradiction))]
       replace wu:=x8 wu
       replace wu:=vF wu
       refine vJ (zR 23 4) 4 (H)<|rtp 27 (Bv true) H ?_
       refine rtp 28 (Bv true) H ?_
       refine vJ (zR 29 14) 14 (H)<|rtp 43 (Bv true) H ?_
       refine xC qh<|t_n<|cTr rfl<|zcr<|sp (Bv false)<|zjr<|zr5<|rH1 (Bv false) H ?_
       rw[xw (fun h=>by obtain⟨h1,h2,h3,h4,h5,h6,h7,h8,h9,bx,aV⟩:=h;(obtain⟨q1,q2,q3,q4,q5⟩:=aV i qf;contradiction))]
      replace pT:=x8 pT
      replace pT:=vF pT
      refine vJ (zR 15 6) 6 (H)<|rtp 21 (Bv true) H ?_
      refine rtp 22 (Bv true) H ?_
      refine vJ (zR 23 4) 4 (H)<|rtp 27 (Bv true) H ?_
      refine rtp 28 (Bv true) H ?_
      refine vJ (zR 29 14) 14 (H)<|rtp 43 (Bv true) H ?_
      refine xC qh<|t_n<|cTr rfl<|zcr<|sp (Bv false)<|zjr<|zr5<|rH1 (Bv false) H ?_
      rw[xw (fun h=>by obtain⟨h1,h2,h3,h4,h5,h6,h7,h8,h9,bx,aV⟩:=h;(obtain⟨q1,q2,q3,q4,q5⟩:=aV i qf;contradiction))]
     replace CY:=x8 CY
     replace CY:=XG CY
     refine vJ (zR 6 7) 7 (H)<|rtp 13 (Bv true) H ?_
     refine rtp 14 (Bv true) H ?_
     refine vJ (zR 15 6) 6 (H)<|rtp 21 (Bv true) H ?_
     refine rtp 22 (Bv true) H ?_
     refine vJ (zR 23 4) 4 (H)<|rtp 27 (Bv true) H ?_
     refine rtp 28 (Bv true) H ?_
     refine vJ (zR 29 14) 14 (H)<|rtp 43 (Bv true) H ?_
     refine xC qh<|t_n<|cTr rfl<|zcr<|sp (Bv false)<|zjr<|zr5<|rH1 (Bv false) H ?_
     rw[xw (fun h=>by obtain⟨h1,h2,h3,h4,h5,h6,h7,h8,h9,bx,aV⟩:=h;(obtain⟨q1,q2,q3,q4,q5⟩:=aV i qf;contradiction))]
    refine zx4<|zcr<|oF rfl<|oL rfl (H.cell 1 rfl rfl) ?_
    have sm:Small r.zJ:=jk<|by assumption
    refine sw<|oq (VE _ r.zJ (H.get 3 rfl).1<|by assumption) H fun UR H=>sp (Bv<|decide ((Xr r.zJ:Int)>0))<|sp (Bv<|decide ((Xr r.zJ:Int)>0))<|zjr<|rH1 (Bv<|decide ((Xr r.zJ:Int)>0)) H<|congrArg Value.bool<|dec_eq ?_
    rw[decide_eq_true_iff]
    exact⟨fun h=>⟨by omega,by omega,by simp_all,by omega,n1,n2,n3,n4,n5,by omega,(show i=r.xF.length by omega)▸i2⟩,fun h=>by have:=h.2.2.2.2.2.2.2.2.2.1;have:=sum_nonneg n1.1;omega⟩
   rw[cZ] at H
   refine qP 23 rfl rfl<|oF rfl<|qP 23 rfl rfl<|oL rfl (H.cell 0 rfl rfl)<|qP 23 rfl rfl<|sp (Bv ((r.qY:Int) == 0))<|qP 20 rfl rfl<|sp (Bv ((r.qY:Int) == 0))<|sp (Bv ((r.qY:Int) == 0))<|sp (Bv ((r.qY:Int) == 0)) ?_
   cases KH:((r.qY:Int) == 0)
   ·replace KH:=ne_of_beq_false KH
    refine qP 29 rfl rfl<|oF rfl<|qP 29 rfl rfl<|oL rfl (H.cell 0 rfl rfl)<|qP 29 rfl rfl<|oN rfl<|qP 29 rfl rfl<|sp (Bv<|decide ((r.xF.length:Int)>3))<|sp (Bv<|decide ((r.xF.length:Int)>3))<|zjn<|cD rfl (fun mi=>?_)<|fun mi=>?_
    ·refine zcr (sp (Bv false)<|zjr<|t_r<|rH1 (Bv false) H ?_)
     rw[xw (fun h=>by obtain⟨h1,h2,h3,h4,h5,h6,h7,h8,h9,bx,aV⟩:=h;omega)]
    refine qZ<|t_n<|zcc<|oF rfl<|oL rfl (H.cell 0 rfl rfl)<|oF rfl<|oL rfl (H.cell 0 rfl rfl)<|oF rfl<|oL rfl (H.cell 0 rfl rfl)<|oF rfl<|oL rfl (H.cell 0 rfl rfl)<|oF rfl<|oL rfl (H.cell 0 rfl rfl)<|sw<|o_buildF H underlying29 ti24 [Sv eB r.zJ.length eC,Sv dV r.jB.length dZ,Sv eo r.jD.length eu,Sv eh r.jJ.length eD,Sv iU r.Qq.length hU] rfl (by simp[Value.cells]) rfl qj qj fun b59 Sj H=>oN rfl<|sp (yI 0)<|zjn<|xf ?_
    replace H:=H.boxRow 0 rfl 1 5 rfl qj
    replace H:=H.vP (α:=yLI)
    replace H:=H.VX false 7 rfl 0 rfl qm
    replace H:=H.VX false 7 rfl 0 rfl qm
    replace H:=H.VX false 7 rfl 0 rfl qm
    replace H:=H.VX false 7 rfl 0 rfl qm
    replace H:=H.VX false 7 rfl 0 rfl qm
    refine zD ((fun Z0 Z1 Z2 Z3 Z4 Z5 Z6 Z7 Z8 Z9 bG bX=>fun m' ρ Sq=>∃(xN:Env) (k:Nat),ρ=upd (upd (upd (upd (upd xN 2<|pp b1 0) 3<|pp b3 0) 45<|Sv (aa b59 0) 5 5) 46<|yI 5) 47 (yI k)/\((k:Int)<=5)/\(∀j,j<k->jm s.zf ([r.zJ,r.jB,r.jD,r.jJ,r.Qq][j]!))/\m'=(5-(k:Int)).toNat/\Fresh w.heap.size []/\St w Sq [Z0,Z1,Z2] [Z3,Z4,Z5,Z6,Z7,Z8,Z9,bG,bX]) _ _ _ _ _ _ _ _ _ _ _ _) ((5-(0:Int)).toNat) ⟨_,0,uE5,qf,(by intro j hj;omega),rfl,N,H.pick [0,1,2] (0::zR 6 8)⟩ ?_
    clear H N
    rintro m' ρ GT ⟨xN,k,rfl,i0,i1,rfl,N,H⟩
    refine zcr<|sp (Bv<|decide ((k:Int)<5))<|zjn<|xU<|cD rfl (fun h63=>?_)<|fun h63=>?_
    ·refine qZ (t_n<|xU<|xf<|zcr<|oI rfl rfl ?_)
     obtain⟨a64,c65,G66,s67,Ld,H⟩:=H.jS 0 rfl 0 rfl (iv:=k) k qf qf
     refine oL rfl (Ld)<|sq 1<|zjc<|oF rfl<|oL rfl (H.cell 2 rfl rfl)<|sq 1<|sw<|oq (V5 _ s.zf ([r.zJ,r.jB,r.jD,r.jJ,r.Qq][k]!) (H.get 0 rfl).1) H fun KF H=>sq 1<|zjn<|cQ rfl (fun h71=>?_)<|fun h71=>?_
     ·refine zcr (sp (Bv false)<|zjr<|zr5<|rH1 (Bv false) H ?_)
      rw[xw (fun h=>by obtain⟨h1,h2,h3,h4,h5,h6,h7,h8,h9,bx,aV⟩:=h;(refine absurd ?_ ‹¬jm _ _›;rcases(show k=0\/k=1\/k=2\/k=3\/k=4 by omega) with e|e|e|e|e <;> subst e <;> assumption))]
     refine qZ<|b_n<|t_n<|xX<|sw<|zC k 1 rfl rfl qf<|sq 1<|xZ<|xh (m':=(5-((k+1):Int)).toNat) qf ⟨_,k+1,uE5,?_,?_,rfl,N,H.pick [0,1,2]<|zR 1 9⟩
     ·omega
     ·intro j hj;by_cases e:j=k;(subst e;assumption);exact i1 j qf
    refine zx4<|zcc<|oF rfl<|oL rfl (H.cell 1 rfl rfl)<|oN rfl<|sp (yI 0)<|zjn<|xf ?_
    have n1:jm s.zf r.zJ:=i1 0 qf
    have n2:jm s.zf r.jB:=i1 1 qf
    have n3:jm s.zf r.jD:=i1 2 qf
    have n4:jm s.zf r.jJ:=i1 3 qf
    have n5:jm s.zf r.Qq:=i1 4 qf
    refine zD ((fun Z0 Z1 Z2 Z3 Z4 Z5 Z6 Z7 Z8 Z9 bG bX=>fun m' ρ I4=>∃(xN:Env) (i:Nat),ρ=upd (upd (upd (upd (upd xN 2<|pp b1 0) 3<|pp b3 0) 58<|Sv VS r.xF.length VP) 59<|yI r.xF.length) 60 (yI i)/\((i:Int)<=r.xF.length)/\(IntosTo s r i)/\m'=(r.xF.length-(i:Int)).toNat/\Fresh w.heap.size []/\St w I4 [Z0,Z1,Z2] [Z3,Z4,Z5,Z6,Z7,Z8,Z9,bG,bX]) _ _ _ _ _ _ _ _ _ _ _ _) ((r.xF.length-(0:Int)).toNat) ⟨_,0,uE5,qf,qx,rfl,N,H⟩ ?_
    clear H N
    rintro m' ρ N5 ⟨xN,i,rfl,i0,i2,rfl,N,H⟩
    refine zcr<|sq 1<|zjn<|xU<|cD rfl (fun Ow=>?_)<|fun Ow=>?_
    ·refine qZ (t_n<|xU<|xf<|zcr<|sp (yI i) ?_)
     obtain⟨b75,o76,rfl⟩:=H.addr 8 rfl qf
     obtain⟨Du,Dg,aiX,H⟩:=H.Qr 8 rfl i i qf qf qf
     refine oI rfl rfl<|sw<|xy [yI ((r.xF[i]!).qY),Sv Du (((r.xF[i]!).Xq).length) Dg] isAgg128 sizeOf128 rfl (qC (H.get 1 rfl) 0 2)<|sw<|xg H ti128 [yI 0,yN] fun sY TX H=>sp (yI i)<|sw<|xx H 0 [yI ((r.xF[i]!).qY),Sv Du (((r.xF[i]!).Xq).length) Dg] sizeOf128 fun w81 H=>zjn<|xU<|ji rfl H fun H=>rt 0 _ (yF (cs:=(yS s qF qE qO qN)) isAgg27 sizeOf27 rfl<|fun _ h=>qC (h.cells 3 rfl) 0 3) H ?_
     refine tF 1 rfl rfl H ?_
     refine tL 2 rfl rfl (fun _ h=>h.cell 0 rfl rfl) H ?_
     refine ro 3 rfl<|oq (isCell_ok _ s ((r.xF[i]!).qY) (H.get 3 rfl).1 (H.get 4 rfl).1) H fun KD H=>⟨H,(rtp 4 (Bv (!(inR ((r.xF[i]!).qY) 0 ((s.qA.length:Int)-1)))) H ?_)⟩
     refine rtp 5 (Bv (!(inR ((r.xF[i]!).qY) 0 ((s.qA.length:Int)-1)))) H ?_
     cases mY:(!(inR ((r.xF[i]!).qY) 0 ((s.qA.length:Int)-1)))
     ·replace mY:=xO mY
      replace mY:=Q8.1 mY
      refine rg 6 _ 70 (yF (cs:=(yS s qF qE qO qN)) isAgg27 sizeOf27 rfl<|fun _ h=>qC (h.cells 3 rfl) 0 3) H ?_
      refine gF 7 rfl rfl H ?_
      refine gL 8 rfl rfl (fun _ h=>h.cell 0 rfl rfl) H ?_
      refine gF 9 rfl rfl H ?_
      refine gL 10 rfl rfl (fun _ h=>h.cell 2 rfl rfl) H ?_
      refine zY [11] qh qm<|X4 rfl (e:=70) rfl rfl (oq (lies_ok _ s ((r.xF[i]!).qY) r.qY (H.get 3 rfl).1 (H.get 4 rfl).1 qg qg) H fun OM H=>⟨H,(rgp 12 (Bv (!(dec<|Lies s.qA r.qY ((r.xF[i]!).qY)))) 70 H ?_)⟩) zZ
      refine rtp 13 (Bv (!(dec<|Lies s.qA r.qY ((r.xF[i]!).qY)))) H ?_
      refine rtp 14 (Bv (!(dec<|Lies s.qA r.qY ((r.xF[i]!).qY)))) H ?_
      cases CS:(!(dec (Lies s.qA r.qY ((r.xF[i]!).qY))))
      ·replace CS:=xO CS
       replace CS:=Qc CS
       refine gF 15 rfl rfl H ?_
       refine gL 16 rfl rfl (fun _ h=>h.cell 3 rfl rfl) H ?_
       refine gF 17 rfl rfl H ?_
       refine gL 18 rfl rfl (fun _ h=>h.cell 0 rfl rfl) H ?_
       refine zY [19] qh qm<|X4 rfl (e:=79) rfl rfl (oq (V5 _ s.zf ((r.xF[i]!).Xq) (H.get 0 rfl).1) H fun MV H=>⟨H,(rgp 20 (Bv (!(dec<|jm s.zf ((r.xF[i]!).Xq)))) 79 H ?_)⟩) zZ
       refine rtp 21 (Bv (!(dec<|jm s.zf ((r.xF[i]!).Xq)))) H ?_
       refine rtp 22 (Bv (!(dec<|jm s.zf ((r.xF[i]!).Xq)))) H ?_
       cases KM:(!(dec (jm s.zf ((r.xF[i]!).Xq))))
       ·replace KM:=xO KM
        replace KM:=Qc KM
        refine gF 23 rfl rfl H ?_
        refine gL 24 rfl rfl (fun _ h=>h.cell 0 rfl rfl) H ?_
        refine zY [25] qh qm<|X4 rfl (e:=87) rfl rfl ?_ zZ
        have sm:Small ((r.xF[i]!).Xq):=jk<|by assumption
        refine oq (VE _ ((r.xF[i]!).Xq) (H.get 0 rfl).1<|by assumption) H fun L8 H=>⟨H,(rgp 26 (Bv ((Xr ((r.xF[i]!).Xq):Int) == 0)) 87 H ?_)⟩
        refine rtp 27 (Bv ((Xr ((r.xF[i]!).Xq):Int) == 0)) H ?_
        refine rtp 28 (Bv ((Xr ((r.xF[i]!).Xq):Int) == 0)) H ?_
        cases U7:((Xr ((r.xF[i]!).Xq):Int) == 0)
        ·replace U7:=ne_of_beq_false U7
         refine rgp 29 (yI i) 93 H ?_
         refine rgp 30 (Bv<|decide ((i:Int)>0)) 93 H ?_
         refine rgp 31 (Bv<|decide ((i:Int)>0)) 93 H ?_
         cases h97:(decide ((i:Int)>0))
         ·replace h97:=of_decide_eq_false h97
          refine vJ (zR 32 10) 10 (H)<|rgp 42 (Bv false) 93 H ?_
          refine rtp 43 (Bv false) H ?_
          refine xC qh<|t_n<|cFr rfl<|qZ<|b_n<|t_n<|xX<|sw<|zC i 1 rfl rfl qf<|sq 1<|xZ<|xh (m':=(r.xF.length-((i+1):Int)).toNat) qf ⟨_,i+1,uE5,?_,?_,rfl,N,H.pick [1,2,3]<|zR 2 9⟩
          ·omega
          ·exact i2.succ ⟨‹_›,‹_›,‹_›,‹_›,fun hk=>by omega⟩
         replace h97:=of_decide_eq_true h97
         refine gF 32 rfl rfl H ?_
         refine gL 33 rfl rfl (fun _ h=>h.cell 0 rfl rfl) H ?_
         refine gF 34 rfl rfl H ?_
         refine gL 35 rfl rfl (fun _ h=>h.cell 2 rfl rfl) H ?_
         refine rgp 36 (yI i) 96 H ?_
         refine rg 37 _ 96 (y_sub i 1 rfl rfl qf) H ?_
         obtain⟨ai9,aiL,ait,H⟩:=H.Qr 10 rfl (i-1) (i-1) qf qf qf
         have S:=H.jF (zR 0 4)<|zR 2 11
         refine gI 38 rfl rfl rfl S ?_
         refine gF 39 rfl rfl S ?_
         refine zY [40] qh qm<|X4 rfl (e:=96) rfl rfl (zB (yI ((r.xF[i-1]!).qY)) isAgg2 rfl (H.zo 1 rfl 0 rfl)<|⟨H.pick (zR 0 4)<|zR 2 11,?_⟩) zZ
         have S:=H.jF (zR 0 4)<|zR 2 11
         refine rgl 41 96 S ?_
         refine rgl 42 93 S ?_
         refine rtl 43 S ?_
         refine xC qh<|t_n<|cD rfl (fun h99=>?_)<|fun h99=>?_
         ·refine zcr (sp (Bv false)<|zjr<|zr5<|rH1 (Bv false) H ?_)
          rw[xw (fun h=>by obtain⟨h1,h2,h3,h4,h5,h6,h7,h8,h9,bx,aV⟩:=h;(obtain⟨q1,q2,q3,q4,q5⟩:=aV i qf;omega))]
         refine qZ<|b_n<|t_n<|xX<|sw<|zC i 1 rfl rfl qf<|sq 1<|xZ<|xh (m':=(r.xF.length-((i+1):Int)).toNat) qf ⟨_,i+1,uE5,?_,?_,rfl,N,H.pick [1,2,3]<|zR 4 9⟩
         ·omega
         ·exact i2.succ ⟨‹_›,‹_›,‹_›,‹_›,fun hk=>by omega⟩
        replace U7:=eq_of_beq U7
        refine vJ (zR 29 14) 14 (H)<|rtp 43 (Bv true) H ?_
        refine xC qh<|t_n<|cTr rfl<|zcr<|sp (Bv false)<|zjr<|zr5<|rH1 (Bv false) H ?_
        rw[xw (fun h=>by obtain⟨h1,h2,h3,h4,h5,h6,h7,h8,h9,bx,aV⟩:=h;(obtain⟨q1,q2,q3,q4,q5⟩:=aV i qf;contradiction))]
       replace KM:=x8 KM
       replace KM:=vF KM
       refine vJ (zR 23 4) 4 (H)<|rtp 27 (Bv true) H ?_
       refine rtp 28 (Bv true) H ?_
       refine vJ (zR 29 14) 14 (H)<|rtp 43 (Bv true) H ?_
       refine xC qh<|t_n<|cTr rfl<|zcr<|sp (Bv false)<|zjr<|zr5<|rH1 (Bv false) H ?_
       rw[xw (fun h=>by obtain⟨h1,h2,h3,h4,h5,h6,h7,h8,h9,bx,aV⟩:=h;(obtain⟨q1,q2,q3,q4,q5⟩:=aV i qf;contradiction))]
      replace CS:=x8 CS
      replace CS:=vF CS
      refine vJ (zR 15 6) 6 (H)<|rtp 21 (Bv true) H ?_
      refine rtp 22 (Bv true) H ?_
      refine vJ (zR 23 4) 4 (H)<|rtp 27 (Bv true) H ?_
      refine rtp 28 (Bv true) H ?_
      refine vJ (zR 29 14) 14 (H)<|rtp 43 (Bv true) H ?_
      refine xC qh<|t_n<|cTr rfl<|zcr<|sp (Bv false)<|zjr<|zr5<|rH1 (Bv false) H ?_
      rw[xw (fun h=>by obtain⟨h1,h2,h3,h4,h5,h6,h7,h8,h9,bx,aV⟩:=h;(obtain⟨q1,q2,q3,q4,q5⟩:=aV i qf;contradiction))]
     replace mY:=x8 mY
     replace mY:=XG mY
     refine vJ (zR 6 7) 7 (H)<|rtp 13 (Bv true) H ?_
     refine rtp 14 (Bv true) H ?_
     refine vJ (zR 15 6) 6 (H)<|rtp 21 (Bv true) H ?_
     refine rtp 22 (Bv true) H ?_
     refine vJ (zR 23 4) 4 (H)<|rtp 27 (Bv true) H ?_
     refine rtp 28 (Bv true) H ?_
     refine vJ (zR 29 14) 14 (H)<|rtp 43 (Bv true) H ?_
     refine xC qh<|t_n<|cTr rfl<|zcr<|sp (Bv false)<|zjr<|zr5<|rH1 (Bv false) H ?_
     rw[xw (fun h=>by obtain⟨h1,h2,h3,h4,h5,h6,h7,h8,h9,bx,aV⟩:=h;(obtain⟨q1,q2,q3,q4,q5⟩:=aV i qf;contradiction))]
    refine zx4<|zcr<|oF rfl<|oL rfl (H.cell 1 rfl rfl) ?_
    have sm:Small r.zJ:=jk<|by assumption
    refine sw<|oq (VE _ r.zJ (H.get 3 rfl).1<|by assumption) H fun HK H=>sp (Bv<|decide ((Xr r.zJ:Int)>0))<|sp (Bv<|decide ((Xr r.zJ:Int)>0))<|zjr<|rH1 (Bv<|decide ((Xr r.zJ:Int)>0)) H<|congrArg Value.bool<|dec_eq ?_
    rw[decide_eq_true_iff]
    exact⟨fun h=>⟨by omega,by omega,by simp_all,by omega,n1,n2,n3,n4,n5,by omega,(show i=r.xF.length by omega)▸i2⟩,fun h=>by have:=h.2.2.2.2.2.2.2.2.2.1;have:=sum_nonneg n1.1;omega⟩
   replace KH:=eq_of_beq KH
   refine xY (zR 30 4)<|sp (Bv true)<|zjn<|cTr rfl<|zcr<|sp (Bv false)<|zjr<|t_r<|rH1 (Bv false) H ?_
   rw[xw (fun h=>by obtain⟨h1,h2,h3,h4,h5,h6,h7,h8,h9,bx,aV⟩:=h;exact h3 ⟨‹_›,‹_›⟩)]
  replace aV:=x8 aV
  replace aV:=XG aV
  refine xY (zR 21 7)<|sp (Bv true)<|sp (Bv true)<|xY (zR 30 4)<|sp (Bv true)<|zjn<|cTr rfl<|zcr<|sp (Bv false)<|zjr<|t_r<|rH1 (Bv false) H ?_
  rw[xw (fun h=>by obtain⟨h1,h2,h3,h4,h5,h6,h7,h8,h9,bx,aV⟩:=h;contradiction)]
 replace h8:=x8 h8
 replace h8:=XG h8
 refine xY (zR 15 4)<|sp (Bv true)<|sp (Bv true)<|xY (zR 21 7)<|sp (Bv true)<|sp (Bv true)<|xY (zR 30 4)<|sp (Bv true)<|zjn<|cTr rfl<|zcr<|sp (Bv false)<|zjr<|t_r<|rH1 (Bv false) H ?_
 rw[xw (fun h=>by obtain⟨h1,h2,h3,h4,h5,h6,h7,h8,h9,bx,aV⟩:=h;contradiction)]
theorem validSystem_ok(w:World)(s:qH)(xe:zP w xu qF qE s.qA)(xE:zP w xW qO qN s.qB):Calls Tryz.prog 90 #[.agg #[yI s.zf,Sv qF s.qA.length qE,Sv qO s.qB.length qN]] w (Ret (fun v w'=>v=Bv (dec<|vz s)) w):=by
 refine en func90 ntmps90 ?_
 have H:=((St.start w).arg xE).arg xe
 have zV:=qR xe
 have jb:=qR xE
 clear xe xE
 have N:=Fresh.nil w.heap.size
 have p1:=fun h:yP s=>h.2.1
 refine zcr<|sw<|zN H (yS s qF qE qO qN) fun b1 w2 H=>sp (Bv false)<|zjcc<|sw<|xy (yS s qF qE qO qN) isAgg27 sizeOf27 rfl (qC (H.cells 0 rfl) 0 3)<|sw<|oq (isShell_ok _ s (H.get 0 rfl).1 (H.get 1 rfl).1) H fun w4 H=>sp (Bv (!(dec<|yP s)))<|sp (Bv (!(dec<|yP s))) ?_
 cases h6:(!(dec (yP s)))
 ·replace h6:=xO h6
  replace h6:=Qc h6
  refine qP 9 rfl rfl<|oF rfl<|qP 9 rfl rfl<|oL rfl (H.cell 0 rfl rfl)<|qP 9 rfl rfl<|oN rfl<|qP 9 rfl rfl<|sp (Bv<|decide ((s.qB.length:Int)>16))<|sp (Bv<|decide ((s.qB.length:Int)>16))<|zjn<|cD rfl (fun h7=>?_)<|fun h7=>?_
  ·refine zcr (sp (Bv false)<|zjr<|t_r<|rH1 (Bv false) H ?_)
   rw[xw (fun h=>by obtain⟨h1,h2,h3⟩:=h;omega)]
  refine qZ<|t_n<|zcr<|sw<|vg [yI 0,yI 0,yI 0,yI 0,yI 0,yI 0] []<|sw<|xg H ti162 [yI 0,yI 0,yI 0,yI 0,yI 0,yI 0] fun b8 w9 H=>sw<|xx H 0 [yI 0,yI 0,yI 0,yI 0,yI 0,yI 0] sizeOf162 fun ov H=>zjcc<|oF rfl<|oL rfl (H.cell 1 rfl rfl)<|oN rfl<|sp (yI 0)<|zjn<|xf ?_
  have p2:=p1 ‹_›
  refine zD ((fun Z0 Z1 Z2=>fun m' ρ rL=>∃(xN:Env) (k:Nat) (many:yLI),ρ=upd (upd (upd (upd (upd xN 1<|pp b1 0) 3<|pp b8 0) 17<|Sv qO s.qB.length qN) 18<|yI s.qB.length) 19 (yI k)/\many=counts6 s k/\((k:Int)<=s.qB.length)/\(RulesTo s k)/\m'=(s.qB.length-(k:Int)).toNat/\Fresh w.heap.size []/\St w rL [.box b8 (many.map<|Value.int .i64) 162,Z0] [Z1,Z2]) _ _ _) ((s.qB.length-(0:Int)).toNat) ⟨_,0,[0,0,0,0,0,0],uE5,(by exact counts6_zero s),qf,qx,rfl,N,H⟩ ?_
  clear H N
  rintro m' ρ we ⟨xN,k,many,rfl,rfl,i0,i1,rfl,N,H⟩
  refine zcr<|sq 1<|zjn<|xU<|cD rfl (fun dS=>?_)<|fun dS=>?_
  ·refine qZ (t_n<|xU<|xf<|zcr ?_)
   obtain⟨e9,o15,rfl⟩:=H.addr 1 rfl qf
   obtain⟨sX,uw,agn,sW,uz,Y1,tw,tG,aeS,uf,uE,ade,xT,x5,ai7,uc,sG,adA,H⟩:=H.Qa 1 rfl k k qf qf qf
   refine oI rfl rfl<|sw<|xy [yI ((s.qB[k]!).qY),yI ((s.qB[k]!).yK),Sv sX (((s.qB[k]!).zJ).length) uw,Sv sW (((s.qB[k]!).jB).length) uz,Sv tw (((s.qB[k]!).jD).length) tG,Sv uf (((s.qB[k]!).jJ).length) uE,Sv xT (((s.qB[k]!).Qq).length) x5,Sv uc (((s.qB[k]!).xF).length) sG,Bv ((s.qB[k]!).jY)] isAgg70 sizeOf70 rfl (qC (H.get 6 rfl) 0 9)<|sw<|xg H ti70 [yI 0,yI 0,yN,yN,yN,yN,yN,yN,Bv false] fun Gn y6 H=>sw<|xx H 0 [yI ((s.qB[k]!).qY),yI ((s.qB[k]!).yK),Sv sX (((s.qB[k]!).zJ).length) uw,Sv sW (((s.qB[k]!).jB).length) uz,Sv tw (((s.qB[k]!).jD).length) tG,Sv uf (((s.qB[k]!).jJ).length) uE,Sv xT (((s.qB[k]!).Qq).length) x5,Sv uc (((s.qB[k]!).xF).length) sG,Bv ((s.qB[k]!).jY)] sizeOf70 fun tr H=>(zjcc<|sw<|xy [yI s.zf,Sv qF s.qA.length qE,Sv (aa e9 o15) s.qB.length qN] isAgg27 sizeOf27 rfl (qC (H.cells 2 rfl) 0 3)<|sw<|xy [yI ((s.qB[k]!).qY),yI ((s.qB[k]!).yK),Sv sX (((s.qB[k]!).zJ).length) uw,Sv sW (((s.qB[k]!).jB).length) uz,Sv tw (((s.qB[k]!).jD).length) tG,Sv uf (((s.qB[k]!).jJ).length) uE,Sv xT (((s.qB[k]!).Qq).length) x5,Sv uc (((s.qB[k]!).xF).length) sG,Bv ((s.qB[k]!).jY)] isAgg70 sizeOf70 rfl (qC (H.cells 0 rfl) 0 9)<|sw<|oq (isRule_ok _ s (s.qB[k]!) (H.get 7 rfl).1 (H.get 8 rfl).1 (H.get 0 rfl).1 (H.get 1 rfl).1 (H.get 2 rfl).1 (H.get 3 rfl).1 (H.get 4 rfl).1 (H.get 5 rfl).1 qg) H fun GP H=>?_)
   have q:=fun h:RuleOk s (s.qB[k]!)=>(show 0<=(s.qB[k]!).qY/\(s.qB[k]!).qY<=5 from⟨h.1.1,by have:=h.1.2;omega⟩)
   refine sq 1<|zjn<|cQ rfl (fun mU=>?_)<|fun mU=>?_
   ·refine zcr (sp (Bv false)<|zjr<|t_r<|zr5<|rH1 (Bv false) H ?_)
    rw[xw (fun h=>by obtain⟨h1,h2,h3⟩:=h;(obtain⟨r1,r2⟩:=h3 k qf;contradiction))]
   obtain⟨q1,q2⟩:=q ‹_›
   have q3:=Ya (s:=s) (k:=k) q1 q2
   have q4:=ofCell_bd s.qB (s.qB[k]!).qY k
   refine qZ<|t_n<|zcr<|oF rfl<|oL rfl (H.cell 0 rfl rfl)<|sw<|o_idxArr ((s.qB[k]!).qY) underlying162 ti3 rfl rfl qf qf<|oL rfl (H.cell 1 rfl<|ints_at (iv:=(s.qB[k]!).qY) (i:=(((s.qB[k]!).qY).toNat)) qf<|by simp only[List.length_set,List.length_cons,List.length_nil,counts6_len];omega)<|sw<|zC ((counts6 s k)[((s.qB[k]!).qY).toNat]!) 1 rfl rfl qf<|sw<|o_idxArr ((s.qB[k]!).qY) underlying162 ti3 rfl rfl qf qf<|sw<|o_storeArr H 1 rfl (((counts6 s k)[((s.qB[k]!).qY).toNat]!)+1) sizeOf3 rfl rfl (i:=(((s.qB[k]!).qY).toNat)) qf (by simp only[List.length_set,List.length_cons,List.length_nil,counts6_len];omega) fun Ce H=>?_
   rw[counts6_succ q1 q2] at H
   refine zjc<|oF rfl<|oL rfl (H.cell 0 rfl rfl)<|sw<|o_idxArr ((s.qB[k]!).qY) underlying162 ti3 rfl rfl qf qf<|oL rfl (H.cell 1 rfl<|ints_at (iv:=(s.qB[k]!).qY) (i:=(((s.qB[k]!).qY).toNat)) qf<|by simp only[List.length_set,List.length_cons,List.length_nil,counts6_len];omega)<|sp (Bv<|decide (((counts6 s<|k+1)[((s.qB[k]!).qY).toNat]! :Int)>8))<|zjn<|cD rfl (fun RB=>?_)<|fun RB=>?_
   ·refine zcr (sp (Bv false)<|zjr<|zr5<|rH1 (Bv false) H ?_)
    rw[xw (fun h=>by obtain⟨h1,h2,h3⟩:=h;(obtain⟨r1,r2⟩:=h3 k qf;(have:=Ya (s:=s) (k:=k+1) q1 q2;omega)))]
   refine qZ<|b_n<|t_n<|xX<|sw<|zC k 1 rfl rfl qf<|sq 1<|xZ<|xh (m':=(s.qB.length-((k+1):Int)).toNat) qf ⟨_,k+1,_,uE5,?_,?_,?_,rfl,N,H.pick [1,2] [7,8]⟩
   ·rfl
   ·omega
   ·exact i1.succ ‹_› (by have:=Ya (s:=s) (k:=k+1) q1 q2;omega)
  refine zx4<|zcr<|sp (Bv true)<|zjr<|rH1 (Bv true) H ?_
  rw[jP ⟨by assumption,by omega,(show s.qB.length=k by omega)▸i1⟩]
 replace h6:=x8 h6
 replace h6:=vF h6
 refine xY (zR 10 4)<|sp (Bv true)<|zjn<|cTr rfl<|zcr<|sp (Bv false)<|zjr<|t_r<|rH1 (Bv false) H ?_
 rw[xw (fun h=>by obtain⟨h1,h2,h3⟩:=h;contradiction)]
theorem QA(w:World)(s:qH)(t:qG)(xe:zP w xu qF qE s.qA)(xE:zP w xW qO qN s.qB)(xR:zP w zk qV qU t.qK)(zu:zP w zF xm xk t.qQ)(xB:zP w xJ qM qL t.qJ):Calls Tryz.prog 51 #[.agg #[yI s.zf,Sv qF s.qA.length qE,Sv qO s.qB.length qN],.agg #[Sv qV t.qK.length qU,Sv xm t.qQ.length xk,Sv qM t.qJ.length qL]] w (Ret (fun v w'=>v=Bv (dec<|vz s/\xK s t)) w):=by
 refine en func51 ntmps51 ?_
 have H:=(((((St.start w).arg xB).arg zu).arg xR).arg xE).arg xe
 have zV:=qR xe
 clear xe xE xR zu xB
 have N:=Fresh.nil w.heap.size
 refine zcr<|sw<|zN H (yS s qF qE qO qN) fun b1 w2 H=>sw<|zN H (yT t qV qU xm xk qM qL) fun b3 w4 H=>sp (Bv false)<|zjcc<|sw<|xy (yS s qF qE qO qN) isAgg27 sizeOf27 rfl (qC (H.cells 1 rfl) 0 3)<|sw<|oq (validSystem_ok _ s (H.get 0 rfl).1 (H.get 1 rfl).1) H fun w6 H=>sp (Bv (!(dec<|vz s)))<|sp (Bv (!(dec<|vz s))) ?_
 cases h8:(!(dec (vz s)))
 ·replace h8:=xO h8
  replace h8:=Qc h8
  have z1:=(‹vz s›:vz s).1.2.1
  refine qP 10 rfl rfl<|oF rfl<|qP 10 rfl rfl<|oL rfl (H.cell 0 rfl rfl)<|qP 10 rfl rfl<|oN rfl<|qP 10 rfl rfl<|oF rfl<|qP 10 rfl rfl<|oL rfl (H.cell 1 rfl rfl)<|qP 10 rfl rfl<|oN rfl<|qP 10 rfl rfl<|sp (Bv ((t.qK.length:Int) != s.qA.length))<|sp (Bv ((t.qK.length:Int) != s.qA.length))<|sp (Bv ((t.qK.length:Int) != s.qA.length)) ?_
  cases h9:((t.qK.length:Int) != s.qA.length)
  ·replace h9:=xA h9
   refine qP 19 rfl rfl<|oF rfl<|qP 19 rfl rfl<|oL rfl (H.cell 0 rfl rfl)<|qP 19 rfl rfl<|oN rfl<|qP 19 rfl rfl<|oF rfl<|qP 19 rfl rfl<|oL rfl (H.cell 1 rfl rfl)<|qP 19 rfl rfl<|oN rfl<|qP 19 rfl rfl<|sp (Bv ((t.qQ.length:Int) != s.qA.length))<|sp (Bv ((t.qQ.length:Int) != s.qA.length))<|sp (Bv ((t.qQ.length:Int) != s.qA.length)) ?_
   cases bx:((t.qQ.length:Int) != s.qA.length)
   ·replace bx:=xA bx
    refine qP 28 rfl rfl<|oF rfl<|qP 28 rfl rfl<|oL rfl (H.cell 0 rfl rfl)<|qP 28 rfl rfl ?_
    obtain⟨oO,Yw,rfl⟩:=H.addr 2 rfl qf
    refine oI rfl rfl<|qP 28 rfl rfl<|oL rfl (H.elemBoolN 2 rfl 0 qf)<|qP 28 rfl rfl<|sp (Bv (!(t.qK[0]!)))<|sp (Bv (!(t.qK[0]!)))<|sp (Bv (!(t.qK[0]!))) ?_
    cases eE:(!(t.qK[0]!))
    ·replace eE:=xO eE
     refine qP 35 rfl rfl<|oF rfl<|qP 35 rfl rfl<|oL rfl (H.cell 1 rfl rfl)<|qP 35 rfl rfl<|oF rfl<|qP 35 rfl rfl<|oL rfl (H.cell 0 rfl rfl)<|qP 35 rfl rfl<|sw<|oq (V5 _ s.zf t.qJ (H.get 4 rfl).1) H fun uK H=>qP 35 rfl rfl<|sq 2<|zjn<|cQ rfl (fun Cr=>?_)<|fun Cr=>?_
     ·refine zcr (sp (Bv false)<|zjr<|t_r<|rH1 (Bv false) H ?_)
      rw[xw (fun h=>by obtain⟨h0,h1,h2,h3,h4,h5⟩:=h;contradiction)]
     refine qZ<|t_n<|zcc<|oF rfl<|oL rfl (H.cell 0 rfl rfl)<|oN rfl<|sp (yI 0)<|zjn<|xf<|zD ((fun Z0 Z1 Z2 Z3 Z4 Z5 Z6=>fun m' ρ EY=>∃(xN:Env) (c:Nat),ρ=upd (upd (upd (upd (upd xN 2<|pp b1 0) 3<|pp b3 0) 44<|Sv xm t.qQ.length xk) 45<|yI t.qQ.length) 46 (yI c)/\((c:Int)<=t.qQ.length)/\(BagsTo s t c)/\m'=(t.qQ.length-(c:Int)).toNat/\Fresh w.heap.size []/\St w EY [Z0,Z1] [Z2,Z3,Z4,Z5,Z6]) _ _ _ _ _ _ _) ((t.qQ.length-(0:Int)).toNat) ⟨_,0,uE5,qf,qx,rfl,N,H⟩ ?_
     clear H N
     rintro m' ρ y6 ⟨xN,c,rfl,i0,i1,rfl,N,H⟩
     refine zcr<|sq 1<|zjn<|xU<|cD rfl (fun wx=>?_)<|fun wx=>?_
     ·refine qZ (t_n<|xU<|xf<|zcr<|sp (yI c) ?_)
      obtain⟨pg,o22,rfl⟩:=H.addr 3 rfl qf
      obtain⟨am2,aml,amB,H⟩:=H.jo 3 rfl c c qf qf qf
      refine oI rfl rfl<|oL rfl (H.zo 1 rfl 0 rfl)<|sp (yI c)<|sq 1<|zjc<|oF rfl<|oL rfl (H.cell 1 rfl rfl)<|sq 1<|sw<|oq (V5 _ s.zf (t.qQ[c]!) (H.get 0 rfl).1) H fun Ce H=>sp (Bv (!(dec<|jm s.zf<|t.qQ[c]!)))<|sp (Bv (!(dec<|jm s.zf<|t.qQ[c]!))) ?_
      cases mg:(!(dec (jm s.zf (t.qQ[c]!))))
      ·replace mg:=xO mg
       replace mg:=Qc mg
       refine qP 56 rfl rfl<|oF rfl<|qP 56 rfl rfl<|oL rfl (H.cell 0 rfl rfl)<|qP 56 rfl rfl<|sp (yI c)<|qP 56 rfl rfl<|oI rfl rfl<|qP 56 rfl rfl<|oL rfl (H.elemBoolN 4 rfl c qf)<|qP 56 rfl rfl<|sp (Bv (!(t.qK[c]!)))<|qP 56 rfl rfl<|sp (Bv (!(t.qK[c]!))) ?_
       cases GY:(!(t.qK[c]!))
       ·replace GY:=xO GY
        refine xY [64,65,66]<|qP 56 rfl rfl<|sp (Bv false)<|sp (Bv false)<|zjn<|cFr rfl<|qZ<|b_n<|t_n<|xX<|sw<|zC c 1 rfl rfl qf<|sq 1<|xZ<|xh (m':=(t.qQ.length-((c+1):Int)).toNat) qf ⟨_,c+1,uE5,?_,?_,rfl,N,H.pick [0,1]<|zR 2 5⟩
        ·omega
        ·exact i1.succ ‹_› (fun hk=>by simp_all)
       replace GY:=x8 GY
       refine qP 63 rfl rfl<|sq 1<|qP 63 rfl rfl<|sw<|oq (VE _ (t.qQ[c]!) (H.get 0 rfl).1<|by exact jk ql) H fun GZ H=>qP 63 rfl rfl<|sp (Bv<|decide ((Xr (t.qQ[c]!):Int)>0))<|qP 56 rfl rfl<|sp (Bv<|decide ((Xr (t.qQ[c]!):Int)>0))<|sp (Bv<|decide ((Xr (t.qQ[c]!):Int)>0))<|zjn<|cD rfl (fun WS=>?_)<|fun WS=>?_
       ·refine zcr (sp (Bv false)<|zjr<|zr5<|rH1 (Bv false) H ?_)
        rw[xw (fun h=>by obtain⟨h0,h1,h2,h3,h4,h5⟩:=h;(obtain⟨q1,q2⟩:=h5 c qf;(have:=q2 ql;omega)))]
       refine qZ<|b_n<|t_n<|xX<|sw<|zC c 1 rfl rfl qf<|sq 1<|xZ<|xh (m':=(t.qQ.length-((c+1):Int)).toNat) qf ⟨_,c+1,uE5,?_,?_,rfl,N,H.pick [0,1]<|zR 2 5⟩
       ·omega
       ·exact i1.succ ‹_› (fun hk=>by omega)
      replace mg:=x8 mg
      replace mg:=vF mg
      refine xY (zR 57 11)<|sp (Bv true)<|zjn<|cTr rfl<|zcr<|sp (Bv false)<|zjr<|zr5<|rH1 (Bv false) H ?_
      rw[xw (fun h=>by obtain⟨h0,h1,h2,h3,h4,h5⟩:=h;(obtain⟨q1,q2⟩:=h5 c qf;contradiction))]
     refine zx4<|zcr<|sp (Bv true)<|zjr<|rH1 (Bv true) H ?_
     rw[jP ⟨by assumption,by omega,by omega,by assumption,by assumption,(show t.qQ.length=c by omega)▸i1⟩]
    replace eE:=x8 eE
    refine xY (zR 36 6)<|sp (Bv true)<|zjn<|cTr rfl<|zcr<|sp (Bv false)<|zjr<|t_r<|rH1 (Bv false) H ?_
    rw[xw (fun h=>by obtain⟨h0,h1,h2,h3,h4,h5⟩:=h;(simp_all;done))]
   replace bx:=bne_iff_ne.1 bx
   refine xY (zR 29 5)<|sp (Bv true)<|sp (Bv true)<|xY (zR 36 6)<|sp (Bv true)<|zjn<|cTr rfl<|zcr<|sp (Bv false)<|zjr<|t_r<|rH1 (Bv false) H ?_
   rw[xw (fun h=>by obtain⟨h0,h1,h2,h3,h4,h5⟩:=h;omega)]
  replace h9:=bne_iff_ne.1 h9
  refine xY (zR 20 7)<|sp (Bv true)<|sp (Bv true)<|xY (zR 29 5)<|sp (Bv true)<|sp (Bv true)<|xY (zR 36 6)<|sp (Bv true)<|zjn<|cTr rfl<|zcr<|sp (Bv false)<|zjr<|t_r<|rH1 (Bv false) H ?_
  rw[xw (fun h=>by obtain⟨h0,h1,h2,h3,h4,h5⟩:=h;omega)]
 replace h8:=x8 h8
 replace h8:=vF h8
 refine xY (zR 11 7)<|sp (Bv true)<|sp (Bv true)<|xY (zR 20 7)<|sp (Bv true)<|sp (Bv true)<|xY (zR 29 5)<|sp (Bv true)<|sp (Bv true)<|xY (zR 36 6)<|sp (Bv true)<|zjn<|cTr rfl<|zcr<|sp (Bv false)<|zjr<|t_r<|rH1 (Bv false) H ?_
 rw[xw (fun h=>by obtain⟨h0,h1,h2,h3,h4,h5⟩:=h;contradiction)]
theorem parentNow_ok(w:World)(s:qH)(t:qG)(c:Int)(xe:zP w xu qF qE s.qA)(xE:zP w xW qO qN s.qB)(xR:zP w zk qV qU t.qK)(zu:zP w zF xm xk t.qQ)(xB:zP w xJ qM qL t.qJ)(p0:yP s)(p1:CellIn s c)(p2:t.qK.length=s.qA.length):Calls Tryz.prog 167 #[.agg #[yI s.zf,Sv qF s.qA.length qE,Sv qO s.qB.length qN],.agg #[Sv qV t.qK.length qU,Sv xm t.qQ.length xk,Sv qM t.qJ.length qL],yI c] w (Ret (fun v w'=>v=yI (x9 s t c)) w):=by
 refine en func167 ntmps167 ?_
 have H:=(((((St.start w).arg xB).arg zu).arg xR).arg xE).arg xe
 have zV:=qR xe
 clear xe xE xR zu xB
 have N:=Fresh.nil w.heap.size
 have p3:=p0.step p1.1 p1.2
 refine zcr<|sw<|zN H (yS s qF qE qO qN) fun b1 w2 H=>sw<|zN H (yT t qV qU xm xk qM qL) fun b3 w4 H=>sp (yI 0)<|zjc<|oF rfl<|oL rfl (H.cell 1 rfl rfl)<|sp (yI c) ?_
 obtain⟨b5,o6,rfl⟩:=H.addr 0 rfl qf
 refine oI rfl rfl<|oL rfl (H.elemInt 0 rfl c qf qf)<|sq 1<|zjn<|xU<|xf<|zD ((fun Z0 Z1 Z2 Z3 Z4 Z5 Z6=>fun m' ρ w8=>∃(xN:Env) (p:Int) (n:Nat),ρ=upd (upd (upd xN 3<|pp b1 0) 4<|pp b3 0) 7 (yI p)/\(-1<=p/\p<=(s.qA.length:Int)-1)/\(p<n)/\(x9 s t c=climb s.qA t.qK n p)/\m'=(p+1).toNat/\Fresh w.heap.size []/\St w w8 [Z0,Z1] [Z2,Z3,Z4,Z5,Z6]) _ _ _ _ _ _ _) (((s.qA[c.toNat]!)+1).toNat) ⟨_,s.qA[c.toNat]!,s.qA.length,uE3,qf,qf,(by rfl),rfl,N,H⟩ ?_
 clear H N
 rintro m' ρ w9 ⟨xN,p,n,rfl,i0,i1,i2,rfl,N,H⟩
 have up:=fun h=>p0.step (c:=p) h i0.2
 refine zcc<|sp (yI p)<|sp (Bv<|decide ((p:Int)>=0))<|sp (Bv<|decide ((p:Int)>=0)) ?_
 cases bx:(decide ((p:Int)>=0))
 ·replace bx:=of_decide_eq_false bx
  refine xY (zR 16 6)<|sp (Bv false)<|zjn<|cFr rfl<|zx4<|zcr<|sp (yI p)<|sp (yI p)<|zjr<|rH1 (yI p) H ?_
  rw[i2,climb_end<|by omega]
 replace bx:=of_decide_eq_true bx
 refine qP 15 rfl rfl<|oF rfl<|qP 15 rfl rfl<|oL rfl (H.cell 0 rfl rfl)<|qP 15 rfl rfl<|sp (yI p)<|qP 15 rfl rfl ?_
 obtain⟨oO,Yw,rfl⟩:=H.addr 2 rfl qf
 refine oI rfl rfl<|qP 15 rfl rfl<|oL rfl (H.elemBool 2 rfl p qf qf)<|qP 15 rfl rfl<|sq 2<|zjn<|zX _ rfl (fun eE=>?_)<|fun eE=>?_
 ·replace eE:=x8 eE
  refine qZ<|t_n<|xf<|xX<|oF rfl<|oL rfl (H.cell 1 rfl rfl)<|sp (yI p)<|oI rfl rfl<|oL rfl (H.elemInt 0 rfl p qf qf)<|sq 1<|xZ<|b_n ?_
  have up1:=up qf
  refine xh (m':=((s.qA[p.toNat]!)+1).toNat) qf ⟨_,_,n-1,uE3,?_,?_,?_,rfl,N,H⟩
  ·omega
  ·omega
  ·exact i2.trans<|climb_go qf qf ‹_›
 replace eE:=xO eE
 refine zx4<|zcr<|sp (yI p)<|sp (yI p)<|zjr<|rH1 (yI p) H ?_
 rw[i2,climb_end<|by simp_all]
theorem Q9(w:World)(t:qG)(xR:zP w zk qV qU t.qK)(zu:zP w zF xm xk t.qQ)(xB:zP w xJ qM qL t.qJ)(p0:t.qK.length<=1000000)(p1:t.qJ.length<=1000000)(p2:t.qQ.length<=1000000)(p3:∀j,j<t.qQ.length->(t.qQ[j]!).length<=1000000):Calls Tryz.prog 71 #[.agg #[Sv qV t.qK.length qU,Sv xm t.qQ.length xk,Sv qM t.qJ.length qL]] w (Ret (fun v w'=>∃(m7:yOA) (np:Nat) (nI:Nat) (ss:yOA) (uF:Nat) (ul:Nat) (sE:List Value) (tC:yLN) (ly:yOA) (kQ:Nat) (kL:Nat),v=.agg #[Sv m7 np nI,Sv ss uF ul,Sv ly kQ kL]/\Fresh w.heap.size [tC]/\St w w' [rr m7 np nI 4 1<|t.qK.map<|Value.bool,rr ss uF ul 24 1 sE,rr ly kQ kL 2 1<|t.qJ.map<|Value.int .i64] [xG true tC sE t.qQ]) w):=by
 refine en func71 ntmps71 ?_
 have H:=(((St.start w).arg xB).arg zu).arg xR
 clear xR zu xB
 have N:=Fresh.nil w.heap.size
 refine zcr<|sw<|zN H (yT t qV qU xm xk qM qL) fun b1 w2 H=>sw<|xg H ti31 [yN,yN,yN] fun b3 w4 H=>zjn<|xU<|VD (fun ρ ov=>∃(xN:Env) (b5:Nat) (yW:yOA) (y0:Nat) (a8:yOA) (c9:Nat),ρ=upd (upd (upd xN 1<|pp b1 0) 2<|pp b3 0) 3 (pp b5 0)/\Fresh w.heap.size []/\St w ov [.box b5 [Sv yW t.qK.length y0,yN,Sv a8 t.qJ.length c9] 31,rr a8 t.qJ.length c9 2 1<|t.qJ.map<|Value.int .i64,rr yW t.qK.length y0 4 1<|t.qK.map<|Value.bool,.box b3 [yN,yN,yN] 31,.box b1 (yT t qV qU xm xk qM qL) 31] [sF false zk qV qU t.qK,sF false zF xm xk t.qQ,sF false xJ qM qL t.qJ]) ?_ ?_
 ·refine ji rfl H fun H=>tF 0 rfl rfl H ?_
  refine tL 1 rfl rfl (fun _ h=>h.cell 1 rfl rfl) H ?_
  refine tF 3 rfl rfl H ?_
  refine tL 4 rfl rfl (fun _ h=>h.cell 1 rfl rfl) H ?_
  refine zY [2,7] qh qm<|vG rfl ?_<|vG rfl ?_ zZ
  ·refine oc (cloneB_ok _ t.qK (H.get 0 rfl).1 qg) ?_
   rintro _ xp ⟨md,Yx,mh,rfl,M,K⟩ _
   replace H:=H.merge K M
   obtain rfl:=H.Xg 0 rfl
   refine⟨H.pick [1,2] [0,1,2],(zY [5,7] qh qm<|vG rfl ?_<|vG rfl ?_ zZ)⟩
   ·refine oc (cloneI_ok _ t.qJ (H.get 2 rfl).1 qg) ?_
    rintro v23 G4 r23 x22
    replace H:=H.zO x22 r23
    obtain⟨a24,A3,rfl,aoD,ams⟩:=H.yc 0 rfl
    refine⟨H.pick [2,3] [0,1,2],(zY [6,7] qh qm<|vG rfl ?_<|vG rfl ?_ zZ)⟩
    ·refine vg [Sv md t.qK.length mh,yN,Sv a24 t.qJ.length A3] [(0,Sv md t.qK.length mh),(2,Sv a24 t.qJ.length A3)]<|⟨H.pick [2,3] [0,1,2],(ro 7 rfl<|xg H ti31 [yN,yN,yN] fun rj GZ H=>⟨H.pick [3,4] [0,1,2],(ro 8 rfl<|xx H 0 [Sv md t.qK.length mh,yN,Sv a24 t.qJ.length A3] sizeOf31 fun BB H=>⟨H.pick [3,4] [0,1,2],(xC qh ((meet ⟨_,rj,md,mh,a24,A3,uE3,N,H⟩)))⟩)⟩)⟩
    refine xg H ti31 [yN,yN,yN] fun BD G6 H=>⟨H.pick [3,4] [0,1,2],(ro 6 rfl<|vg [Sv md t.qK.length mh,yN,Sv a24 t.qJ.length A3] [(0,Sv md t.qK.length mh),(2,Sv a24 t.qJ.length A3)]<|⟨H.pick [3,4] [0,1,2],(ro 8 rfl<|xx H 0 [Sv md t.qK.length mh,yN,Sv a24 t.qJ.length A3] sizeOf31 fun Ml H=>⟨H.pick [3,4] [0,1,2],(xC qh ((meet ⟨_,BD,md,mh,a24,A3,uE3,N,H⟩)))⟩)⟩)⟩
   refine xg H ti31 [yN,yN,yN] fun mV Ao H=>⟨H.pick [2,3] [0,1,2],(ro 5 rfl ?_)⟩
   refine oc (cloneI_ok _ t.qJ (H.get 2 rfl).1 qg) ?_
   rintro v41 BG r41 x40
   replace H:=H.zO x40 r41
   obtain⟨KB,KJ,rfl,ape,aj2⟩:=H.yc 0 rfl
   refine⟨H.pick [3,4] [0,1,2],(ro 6 rfl<|vg [Sv md t.qK.length mh,yN,Sv KB t.qJ.length KJ] [(0,Sv md t.qK.length mh),(2,Sv KB t.qJ.length KJ)]<|⟨H.pick [3,4] [0,1,2],(ro 8 rfl<|xx H 1 [Sv md t.qK.length mh,yN,Sv KB t.qJ.length KJ] sizeOf31 fun Dz H=>⟨H.pick [3,4] [0,1,2],(xC qh ((meet ⟨_,mV,md,mh,KB,KJ,uE3,N,H.pick [1,0,2,3,4] [0,1,2]⟩)))⟩)⟩)⟩
  refine xg H ti31 [yN,yN,yN] fun GS Lc H=>⟨H.pick [1,2] [0,1,2],(ro 2 rfl ?_)⟩
  refine oc (cloneB_ok _ t.qK (H.get 0 rfl).1 qg) ?_
  rintro _ Pt ⟨LR,ax7,uI,rfl,M,K⟩ _
  replace H:=H.merge K M
  obtain rfl:=H.Xg 0 rfl
  refine⟨H.pick [2,3] [0,1,2],(ro 5 rfl ?_)⟩
  refine oc (cloneI_ok _ t.qJ (H.get 2 rfl).1 qg) ?_
  rintro v60 Ny r60 x59
  replace H:=H.zO x59 r60
  obtain⟨L0,L9,rfl,amp,ap5⟩:=H.yc 0 rfl
  refine⟨H.pick [3,4] [0,1,2],(ro 6 rfl<|vg [Sv LR t.qK.length uI,yN,Sv L0 t.qJ.length L9] [(0,Sv LR t.qK.length uI),(2,Sv L0 t.qJ.length L9)]<|⟨H.pick [3,4] [0,1,2],(ro 8 rfl<|xx H 2 [Sv LR t.qK.length uI,yN,Sv L0 t.qJ.length L9] sizeOf31 fun LE H=>⟨H.pick [3,4] [0,1,2],(xC qh ((meet ⟨_,GS,LR,uI,L0,L9,uE3,N,H.pick [2,0,1,3,4] [0,1,2]⟩)))⟩)⟩)⟩
 clear H N
 rintro ρ Hl ⟨xN,b5,yW,y0,a8,c9,rfl,N,H⟩
 refine t_n<|zcc<|oF rfl<|oL rfl (H.cell 4 rfl rfl)<|oN rfl<|sp (yI 0)<|zjn<|xf ?_
 replace H:=H.nilRow 24 1
 replace H:=H.vP (α:=yLI)
 refine zD ((fun Z0 Z1 Z2 Z3 Z4 Z5 Z6=>fun m' ρ w67=>∃(xN:Env) (k:Nat) (yY:yOA) (jA:Nat) (yX:Nat) (ax:yLL) (jw:List Value) (zM:yLN),ρ=upd (upd (upd (upd (upd xN 2<|pp b3 0) 3<|pp b5 0) 14<|Sv xm t.qQ.length xk) 15<|yI t.qQ.length) 16 (yI k)/\ax=t.qQ.take k/\((k:Int)<=t.qQ.length)/\m'=(t.qQ.length-(k:Int)).toNat/\Fresh w.heap.size [zM]/\St w w67 [rr yY jA yX 24 1 jw,.box b5 [Sv yW t.qK.length y0,Sv yY jA yX,Sv a8 t.qJ.length c9] 31,Z0,Z1,Z2,Z3] [xG true zM jw ax,Z4,Z5,Z6]) _ _ _ _ _ _ _) ((t.qQ.length-(0:Int)).toNat) ⟨_,0,none,0,0,([]:yLL),[],[],uE5,(by rfl),qf,rfl,N.emp,H⟩ ?_
 clear H N
 rintro m' ρ Sr ⟨xN,k,yY,jA,yX,ax,jw,zM,rfl,rfl,i0,rfl,N,H⟩
 have V8:=H.xQ (α:=yLI) 0 rfl 0 rfl qj
 have p4:=p3 k
 rw[List.length_take_of_le qf] at V8
 refine zcr<|sq 1<|zjn<|xU<|cD rfl (fun h69=>?_)<|fun h69=>?_
 ·refine qZ (t_n<|xU<|xf<|zcr ?_)
  obtain⟨OE,o71,rfl⟩:=H.addr 2 rfl qf
  obtain⟨ac6,ahU,amn,H⟩:=H.jo 2 rfl k k qf qf qf
  refine oI rfl rfl<|oL rfl (H.zo 1 rfl 0 rfl)<|sq 1<|zjn<|VD (fun ρ NB=>∃(xN:Env) (a74:yOA) (c75:Nat) (a76:yOA) (ZD:Nat) (G78:yLN),ρ=upd (upd (upd (upd (upd xN 2<|pp b3 0) 3<|pp b5 0) 14<|Sv (aa OE o71) t.qQ.length xk) 15<|yI t.qQ.length) 16 (yI k)/\Fresh w.heap.size [(zM++G78)]/\St w NB [rr a74 (jA+1) c75 24 1<|jw++[Sv a76 ((t.qQ[k]!).length) ZD],.box b5 [Sv yW t.qK.length y0,Sv a74 (jA+1) c75,Sv a8 t.qJ.length c9] 31,rr a8 t.qJ.length c9 2 1<|t.qJ.map<|Value.int .i64,rr yW t.qK.length y0 4 1<|t.qK.map<|Value.bool,.box b3 [yN,yN,yN] 31,.box b1 [Sv qV t.qK.length qU,Sv (aa OE o71) t.qQ.length xk,Sv qM t.qJ.length qL] 31] [xG true (zM++G78) (jw++[Sv a76 ((t.qQ[k]!).length) ZD]) ((t.qQ.take k)++[(t.qQ[k]!)]),sF true G78 a76 ZD<|t.qQ[k]!,sF false amn ac6 ahU<|t.qQ[k]!,atF OE (o71+(k:Int).toNat*1) [Sv ac6 ((t.qQ[k]!).length) ahU],sF false zk qV qU t.qK,sF false zF (aa OE o71) xk t.qQ,sF false xJ qM qL t.qJ]) ?_ ?_
  ·refine Qd rfl H (zR 2 4) fun H=>?_
   have S:=H.jF (zR 2 4)<|zR 0 6
   refine tF 0 rfl rfl S ?_
   refine rtl 2 S ?_
   refine zY [1,3] qh qm<|vG rfl ?_<|vG rfl ?_ zZ
   ·refine zB (Sv yY jA yX) isAgg29 rfl (H.cell 1 rfl rfl) (⟨H.pick (zR 2 4)<|zR 0 6,(ro 3 rfl ?_)⟩)
    refine oc (cloneI_ok _ (t.qQ[k]!) (H.get 0 rfl).1 qg) ?_
    rintro v86 KD r86 x85
    replace H:=H.zO x85 r86
    obtain⟨a87,c88,rfl,auR,ayP⟩:=H.yc 0 rfl
    refine⟨H.pick (zR 3 4)<|zR 0 6,(ro 4 rfl<|zl H underlying29 ti24 [Sv a87 ((t.qQ[k]!).length) c88] fun R4 w92 H=>⟨H.pick (zR 4 4)<|zR 0 6,(ro 5 rfl ?_)⟩)⟩
    obtain⟨JB,N,aoK,H⟩:=H.zQ 1 rfl N<|H.vX [2]
    refine zt H 2 rfl 0 rfl underlying29 ti24 rfl qj rfl rfl rfl qw qp qf fun a93 c94 w95 H=>?_
    replace H:=H.yh 3 rfl 0 rfl
    replace N:Fresh w.heap.size [(zM++JB)]:=(N.pick [1,0]).join
    refine⟨H.pick (zR 4 4)<|zR 2 6,(tF 6 rfl rfl (H.pick (zR 4 4)<|zR 2 6) ?_)⟩
    refine ro 7 rfl<|xn H 3 [Sv yW t.qK.length y0,Sv a93 (jA+1) c94,Sv a8 t.qJ.length c9] sizeOf29 fun S5 H=>⟨H.pick (zR 4 4)<|zR 2 6,(xC qh ((meet ⟨_,a93,c94,a87,c88,JB,uE5,N,H.pick (zR 2 6) [0,1,2,3,5,6,7]⟩)))⟩
   refine oc (cloneI_ok _ (t.qQ[k]!) (H.get 0 rfl).1 qg) ?_
   rintro ayN xc apn anT
   replace H:=H.zO anT apn
   obtain⟨Lx,MZ,rfl,arS,as7⟩:=H.yc 0 rfl
   refine⟨H.pick (zR 3 4)<|zR 0 6,(zY [1,4] qh qm<|vG rfl ?_<|vG rfl ?_ zZ)⟩
   ·refine zB (Sv yY jA yX) isAgg29 rfl (H.cell 2 rfl rfl) (⟨H.pick (zR 3 4)<|zR 0 6,(ro 4 rfl<|zl H underlying29 ti24 [Sv Lx ((t.qQ[k]!).length) MZ] fun rz Tp H=>⟨H.pick (zR 4 4)<|zR 0 6,(ro 5 rfl ?_)⟩)⟩)
    obtain⟨acr,N,asJ,H⟩:=H.zQ 1 rfl N<|H.vX [2]
    refine zt H 2 rfl 0 rfl underlying29 ti24 rfl qj rfl rfl rfl qw qp qf fun J6 JJ Aw H=>?_
    replace H:=H.yh 3 rfl 0 rfl
    replace N:Fresh w.heap.size [(zM++acr)]:=(N.pick [1,0]).join
    refine⟨H.pick (zR 4 4)<|zR 2 6,(tF 6 rfl rfl (H.pick (zR 4 4)<|zR 2 6) ?_)⟩
    refine ro 7 rfl<|xn H 3 [Sv yW t.qK.length y0,Sv J6 (jA+1) JJ,Sv a8 t.qJ.length c9] sizeOf29 fun oe H=>⟨H.pick (zR 4 4)<|zR 2 6,(xC qh ((meet ⟨_,J6,JJ,Lx,MZ,acr,uE5,N,H.pick (zR 2 6) [0,1,2,3,5,6,7]⟩)))⟩
   refine zl H underlying29 ti24 [Sv Lx ((t.qQ[k]!).length) MZ] fun Gt Tk H=>⟨H.pick (zR 4 4)<|zR 0 6,(ro 1 rfl<|zB (Sv yY jA yX) isAgg29 rfl (H.cell 3 rfl rfl)<|⟨H.pick (zR 4 4)<|zR 0 6,(ro 5 rfl ?_)⟩)⟩
   obtain⟨Rw,N,atR,H⟩:=H.zQ 1 rfl N<|H.vX [2]
   refine zt H 2 rfl 0 rfl underlying29 ti24 rfl qj rfl rfl rfl qw qp qf fun AL Ap Fg H=>?_
   replace H:=H.yh 3 rfl 0 rfl
   replace N:Fresh w.heap.size [(zM++Rw)]:=(N.pick [1,0]).join
   refine⟨H.pick (zR 4 4)<|zR 2 6,(tF 6 rfl rfl (H.pick (zR 4 4)<|zR 2 6) ?_)⟩
   refine ro 7 rfl<|xn H 3 [Sv yW t.qK.length y0,Sv AL (jA+1) Ap,Sv a8 t.qJ.length c9] sizeOf29 fun GB H=>⟨H.pick (zR 4 4)<|zR 2 6,(xC qh ((meet ⟨_,AL,Ap,Lx,MZ,Rw,uE5,N,H.pick (zR 2 6) [0,1,2,3,5,6,7]⟩)))⟩
  clear H N
  rintro ρ J3 ⟨xN,a74,c75,a76,ZD,G78,rfl,N,H⟩
  refine b_n<|t_n<|xX<|sw<|zC k 1 rfl rfl qf<|sq 1<|xZ<|xh (m':=(t.qQ.length-((k+1):Int)).toNat) qf ⟨_,k+1,_,_,_,_,_,_,uE5,?_,?_,rfl,N,H.pick (zR 0 6) [0,4,5,6]⟩
  ·exact take_snoc qf
  ·omega
 refine zx4<|zcr<|sw<|xy [Sv yW t.qK.length y0,Sv yY jA yX,Sv a8 t.qJ.length c9] isAgg31 sizeOf31 rfl (qC (H.cells 1 rfl) 0 3)<|sw<|xx H 4 [Sv yW t.qK.length y0,Sv yY jA yX,Sv a8 t.qJ.length c9] sizeOf31 fun FM H=>zjr<|retC H 4 rfl rfl isAgg31 sizeOf31 rfl ⟨_,rfl,?_,H.base⟩
 obtain rfl:k=t.qQ.length:=by omega
 rw[List.take_length] at H
 exact⟨yW,t.qK.length,y0,yY,jA,yX,jw,zM,a8,t.qJ.length,c9,rfl,N,H.pick [3,0,2] [0]⟩
theorem isEnabled_ok(w:World)(s:qH)(t:qG)(r:yH)(xe:zP w xu qF qE s.qA)(xE:zP w xW qO qN s.qB)(xR:zP w zk qV qU t.qK)(zu:zP w zF xm xk t.qQ)(xB:zP w xJ qM qL t.qJ)(eR:zP w tE eB eC r.zJ)(fC:zP w tv dV dZ r.jB)(f8:zP w uu eo eu r.jD)(fm:zP w tW eh eD r.jJ)(lF:zP w Am iU hU r.Qq)(dw:zP w uv VS VP r.xF)(p0:vz s)(p1:xK s t)(p2:RuleOk s r):Calls Tryz.prog 125 #[.agg #[yI s.zf,Sv qF s.qA.length qE,Sv qO s.qB.length qN],.agg #[Sv qV t.qK.length qU,Sv xm t.qQ.length xk,Sv qM t.qJ.length qL],.agg #[yI r.qY,yI r.yK,Sv eB r.zJ.length eC,Sv dV r.jB.length dZ,Sv eo r.jD.length eu,Sv eh r.jJ.length eD,Sv iU r.Qq.length hU,Sv VS r.xF.length VP,Bv r.jY]] w (Ret (fun v w'=>v=Bv (dec<|EnOk s t r)) w):=by
 refine en func125 ntmps125 ?_
 have H:=(((((((((((St.start w).arg dw).arg lF).arg fm).arg f8).arg fC).arg eR).arg xB).arg zu).arg xR).arg xE).arg xe
 have yR:=qR zu
 have aio:=qR eR
 have xa:=qR dw
 clear xe xE xR zu xB eR fC f8 fm lF dw
 have N:=Fresh.nil w.heap.size
 have p3:=p2.1
 have p4:=p1.1
 have p5:=p1.2.1
 have p6:=(p1.bagLen (k:=r.qY.toNat) qf).len
 have p7:=p2.2.2.2.2.1.len
 have p8:=p2.2.2.2.2.2.1.len
 have p9:=p2.2.2.2.2.2.2.1.len
 have p10:=jk p2.2.2.2.2.2.2.1
 have p11:=p0.1
 have Bw:=p2.2.2.2.2.2.2.2.2.2.2
 have p13:=kinds_le p0
 refine zcr<|sw<|zN H (yS s qF qE qO qN) fun b1 w2 H=>sw<|zN H (yT t qV qU xm xk qM qL) fun b3 w4 H=>sw<|zN H [yI r.qY,yI r.yK,Sv eB r.zJ.length eC,Sv dV r.jB.length dZ,Sv eo r.jD.length eu,Sv eh r.jJ.length eD,Sv iU r.Qq.length hU,Sv VS r.xF.length VP,Bv r.jY] fun b5 w6 H=>sp (Bv false)<|zjcc<|oF rfl<|oL rfl (H.cell 1 rfl rfl)<|oF rfl<|oL rfl (H.cell 0 rfl rfl) ?_
 obtain⟨b7,o8,rfl⟩:=H.addr 2 rfl qf
 refine oI rfl rfl<|oL rfl (H.elemBool 2 rfl r.qY qf qf)<|sq 1<|zjn<|zX _ rfl (fun bx=>?_)<|fun bx=>?_
 ·replace bx:=x8 bx
  refine zcr<|sp (Bv false)<|zjr<|t_r<|rH1 (Bv false) H ?_
  rw[xw (fun h=>by obtain⟨h1,h2,h3,h4,h5⟩:=h;exact ft h1 ‹_›)]
 replace bx:=xO bx
 refine qZ<|t_n<|zcr<|oF rfl<|oL rfl (H.cell 1 rfl rfl)<|oF rfl<|oL rfl (H.cell 0 rfl rfl) ?_
 obtain⟨oO,Yw,rfl⟩:=H.addr 3 rfl qf
 obtain⟨aw3,awg,azL,H⟩:=H.jo 3 rfl r.qY r.qY.toNat qf qf qf
 refine oI rfl rfl<|oL rfl (H.zo 1 rfl 0 rfl)<|sq 1<|zjcc<|oF rfl<|oL rfl (H.cell 0 rfl rfl)<|sq 1<|sw<|oq (V7 _ r.zJ (t.qQ[r.qY.toNat]!) (H.get 7 rfl).1 (H.get 0 rfl).1 qg qg) H fun uK H=>sp (Bv (!(within r.zJ<|t.qQ[r.qY.toNat]!)))<|sp (Bv (!(within r.zJ<|t.qQ[r.qY.toNat]!))) ?_
 cases Cr:(!(within r.zJ (t.qQ[r.qY.toNat]!)))
 ·replace Cr:=xO Cr
  refine qP 26 rfl rfl<|oF rfl<|qP 26 rfl rfl<|oL rfl (H.cell 0 rfl rfl)<|qP 26 rfl rfl<|sq 1<|qP 26 rfl rfl<|sw<|oq (V7 _ r.jB (t.qQ[r.qY.toNat]!) (H.get 8 rfl).1 (H.get 0 rfl).1 qg qg) H fun EY H=>qP 26 rfl rfl<|sp (Bv (!(within r.jB<|t.qQ[r.qY.toNat]!)))<|sp (Bv (!(within r.jB<|t.qQ[r.qY.toNat]!)))<|sp (Bv (!(within r.jB<|t.qQ[r.qY.toNat]!))) ?_
  cases wx:(!(within r.jB (t.qQ[r.qY.toNat]!)))
  ·replace wx:=xO wx
   refine qP 33 rfl rfl<|oF rfl<|qP 33 rfl rfl<|oL rfl (H.cell 0 rfl rfl)<|qP 33 rfl rfl<|sw<|oq (VE _ r.jD (H.get 9 rfl).1<|by assumption) H fun G4 H=>qP 33 rfl rfl<|sp (Bv<|decide ((Xr r.jD:Int)>0))<|qP 33 rfl rfl<|sp (Bv<|decide ((Xr r.jD:Int)>0)) ?_
   cases Wu:(decide ((Xr r.jD:Int)>0))
   ·replace Wu:=of_decide_eq_false Wu
    refine xY (zR 39 4)<|qP 33 rfl rfl<|sp (Bv false)<|sp (Bv false)<|zjn<|cFr rfl<|qZ<|t_n<|zcr<|oF rfl<|oL rfl (H.cell 0 rfl rfl)<|sp (.func (.func 166) #[] #[pp b3 0,pp b1 0,pp b5 0])<|sw<|zW #[Sv VS r.xF.length VP,.func (.func 166) #[] #[pp b3 0,pp b1 0,pp b5 0]] rfl rfl call165<|en func165 ntmps165 ?_
    refine zcr<|sp (Bv false)<|zjc<|sq 1<|sp (.func (.func 166) #[] #[pp b3 0,pp b1 0,pp b5 0])<|sw<|zW #[Sv VS r.xF.length VP,.func (.func 166) #[] #[pp b3 0,pp b1 0,pp b5 0]] rfl rfl call198<|en func198 ntmps198 ?_
    refine zcr<|sp (yI 0)<|zjcc<|sq 1<|oN rfl<|sp (yI 0)<|zjn<|xf<|zD ((fun Z0 Z1 Z2 Z3 Z4 Z5 Z6 Z7 Z8 Z9 bG bX eZ i8 mb oX=>fun m' ρ Ks=>∃(xN:Env) (i:Nat),ρ=upd (upd (upd (upd xN 0<|Sv VS r.xF.length VP) 1<|.func (.func 166) #[] #[pp b3 0,pp b1 0,pp b5 0]) 7<|yI r.xF.length) 8 (yI i)/\((i:Int)<=r.xF.length)/\(IntoUp s t r i)/\m'=(r.xF.length-(i:Int)).toNat/\Fresh w.heap.size []/\St w Ks [Z0,Z1,Z2] [Z3,Z4,Z5,Z6,Z7,Z8,Z9,bG,bX,eZ,i8,mb,oX]) _ _ _ _ _ _ _ _ _ _ _ _ _ _ _ _) ((r.xF.length-(0:Int)).toNat) ⟨_,0,uE4,qf,qx,rfl,N,H⟩ ?_
    clear H N
    rintro m' ρ Ce ⟨xN,i,rfl,i0,i1,rfl,N,H⟩
    refine zcr<|sq 1<|zjn<|xU<|cD rfl (fun RB=>?_)<|fun RB=>?_
    ·have q:=(Bw i qf).1
     have q1:=q.1
     refine qZ<|t_n<|xU<|xf<|zcr<|sp (yI i)<|sp (yI i)<|zjc<|sp (.func (.func 166) #[] #[pp b3 0,pp b1 0,pp b5 0])<|sq 1<|sp (yI i) ?_
     obtain⟨b27,o28,rfl⟩:=H.addr 12 rfl qf
     obtain⟨xS,wQ,aim,H⟩:=H.Qr 12 rfl i i qf qf qf
     refine oI rfl rfl<|sw<|xy [yI ((r.xF[i]!).qY),Sv xS (((r.xF[i]!).Xq).length) wQ] isAgg128 sizeOf128 rfl (qC (H.get 1 rfl) 0 2)<|sw<|zW #[.agg #[yI ((r.xF[i]!).qY),Sv xS (((r.xF[i]!).Xq).length) wQ],pp b3 0,pp b1 0,pp b5 0] rfl rfl call166<|en func166 ntmps166 ?_
     refine zcr<|sw<|zN H [yI ((r.xF[i]!).qY),Sv xS (((r.xF[i]!).Xq).length) wQ] fun BD G6 H=>sp (Bv false)<|zjn<|xU<|ji rfl H fun H=>tF 0 rfl rfl H ?_
     refine tL 1 rfl rfl (fun _ h=>h.cell 2 rfl rfl) H ?_
     refine tF 2 rfl rfl H ?_
     refine tL 3 rfl rfl (fun _ h=>h.cell 0 rfl rfl) H ?_
     refine tI 4 rfl rfl rfl H ?_
     refine tL 5 rfl rfl (fun _ h=>h.elemBool 6 rfl ((r.xF[i]!).qY) qf qf) H ?_
     refine rtp 6 (Bv (!(t.qK[((r.xF[i]!).qY).toNat]!))) H ?_
     refine rtp 7 (Bv (!(t.qK[((r.xF[i]!).qY).toNat]!))) H ?_
     cases h34:(!(t.qK[((r.xF[i]!).qY).toNat]!))
     ·replace h34:=xO h34
      refine rg 8 _ 13 (yF (cs:=(yS s qF qE qO qN)) isAgg27 sizeOf27 rfl<|fun _ h=>qC (h.cells 3 rfl) 0 3) H ?_
      refine rg 9 _ 13 (yF (cs:=[Sv (aa b7 o8) t.qK.length qU,Sv (aa oO Yw) t.qQ.length xk,Sv qM t.qJ.length qL]) isAgg31 sizeOf31 rfl<|fun _ h=>qC (h.cells 2 rfl) 0 3) H ?_
      refine gF 10 rfl rfl H ?_
      refine gL 11 rfl rfl (fun _ h=>h.cell 0 rfl rfl) H ?_
      refine gF 13 rfl rfl H ?_
      refine gL 14 rfl rfl (fun _ h=>h.cell 1 rfl rfl) H ?_
      refine zY [12] qh qm<|X4 rfl (e:=13) rfl rfl (oq (parentNow_ok _ s t ((r.xF[i]!).qY) (H.get 4 rfl).1 (H.get 5 rfl).1 (H.get 6 rfl).1 (H.get 7 rfl).1 (H.get 8 rfl).1 qg qg qg) H fun Gy H=>⟨H,(rgl 15 13 H ?_)⟩) zZ
      refine rtl 16 H ?_
      refine rtl 17 H ?_
      refine xC qh<|t_n<|c_ret<|ret1 (Bv ((x9 s t ((r.xF[i]!).qY):Int) != r.qY)) rfl rfl ⟨_,rfl,?_⟩
      replace H:=H.erases [0]
      dsimp only[zU,List.eraseIdx] at H
      refine zjn<|zX _ rfl (fun Bm=>?_)<|fun Bm=>?_
      ·replace Bm:=bne_iff_ne.1 Bm
       refine zcr<|sp (yI i)<|sp (yI i)<|zjr<|zr5<|ret1 (yI i) rfl rfl ⟨_,rfl,(sw<|o_pure (Bv true) (by show some (Value.bool<|decide ((i:Int)>=0))=some (Value.bool true);rw[decide_eq_true qf])<|sp (Bv true)<|zjr<|ret1 (Bv true) rfl rfl ⟨_,rfl,(sp (Bv false)<|sp (Bv false)<|zjr<|rH1 (Bv false) H ?_)⟩)⟩
       rw[xw (fun h=>by obtain⟨h1,h2,h3,h4,h5⟩:=h;(obtain⟨q1,q2⟩:=h5 i qf;exact absurd q2 ‹_›))]
      replace Bm:=xA Bm
      refine qZ<|b_n<|t_n<|xX<|sw<|zC i 1 rfl rfl qf<|sq 1<|xZ<|xh (m':=(r.xF.length-((i+1):Int)).toNat) qf ⟨_,i+1,uE4,?_,?_,rfl,N,H.pick [0,1,2]<|zR 2 13⟩
      ·omega
      ·exact i1.succ ‹_› ‹_›
     replace h34:=x8 h34
     refine vJ (zR 8 8) 8 (H)<|rtp 16 (Bv true) H ?_
     refine rtp 17 (Bv true) H ?_
     refine xC qh<|t_n<|c_ret<|ret1 (Bv true) rfl rfl ⟨_,rfl,?_⟩
     replace H:=H.erases [0]
     dsimp only[zU,List.eraseIdx] at H
     refine zjn<|cTr rfl<|zcr<|sp (yI i)<|sp (yI i)<|zjr<|zr5<|ret1 (yI i) rfl rfl ⟨_,rfl,(sw<|o_pure (Bv true) (by show some (Value.bool<|decide ((i:Int)>=0))=some (Value.bool true);rw[decide_eq_true qf])<|sp (Bv true)<|zjr<|ret1 (Bv true) rfl rfl ⟨_,rfl,(sp (Bv false)<|sp (Bv false)<|zjr<|rH1 (Bv false) H ?_)⟩)⟩
     rw[xw (fun h=>by obtain⟨h1,h2,h3,h4,h5⟩:=h;(obtain⟨q1,q2⟩:=h5 i qf;exact ft q1 ‹_›))]
    refine zx4<|zcr<|sq 1<|zjr<|ret1 (yI (-1)) rfl rfl ⟨_,rfl,(sp (Bv false)<|sp (Bv false)<|zjr<|ret1 (Bv false) rfl rfl ⟨_,rfl,(sp (Bv true)<|sp (Bv true)<|zjr<|rH1 (Bv true) H ?_)⟩)⟩
    rw[jP ⟨by assumption,by assumption,by assumption,fun⟨u,v⟩=>by omega,(show i=r.xF.length by omega)▸i1⟩]
   replace Wu:=of_decide_eq_true Wu
   refine qP 38 rfl rfl<|oF rfl<|qP 38 rfl rfl<|oL rfl (H.cell 0 rfl rfl)<|qP 38 rfl rfl<|sq 1<|qP 38 rfl rfl<|sw<|oq (V7 _ r.jD (t.qQ[r.qY.toNat]!) (H.get 9 rfl).1 (H.get 0 rfl).1 qg qg) H fun BG H=>qP 33 rfl rfl<|sq 2<|zjn<|zX _ rfl (fun CY=>?_)<|fun CY=>?_
   ·refine zcr (sp (Bv false)<|zjr<|t_r<|rH1 (Bv false) H ?_)
    rw[xw (fun h=>by obtain⟨h1,h2,h3,h4,h5⟩:=h;exact h4 ⟨‹_›,‹_›⟩)]
   refine qZ<|t_n<|zcr<|oF rfl<|oL rfl (H.cell 0 rfl rfl)<|sp (.func (.func 166) #[] #[pp b3 0,pp b1 0,pp b5 0])<|sw<|zW #[Sv VS r.xF.length VP,.func (.func 166) #[] #[pp b3 0,pp b1 0,pp b5 0]] rfl rfl call165<|en func165 ntmps165 ?_
   refine zcr<|sp (Bv false)<|zjc<|sq 1<|sp (.func (.func 166) #[] #[pp b3 0,pp b1 0,pp b5 0])<|sw<|zW #[Sv VS r.xF.length VP,.func (.func 166) #[] #[pp b3 0,pp b1 0,pp b5 0]] rfl rfl call198<|en func198 ntmps198 ?_
   refine zcr<|sp (yI 0)<|zjcc<|sq 1<|oN rfl<|sp (yI 0)<|zjn<|xf<|zD ((fun Z0 Z1 Z2 Z3 Z4 Z5 Z6 Z7 Z8 Z9 bG bX eZ i8 mb oX=>fun m' ρ KE=>∃(xN:Env) (i:Nat),ρ=upd (upd (upd (upd xN 0<|Sv VS r.xF.length VP) 1<|.func (.func 166) #[] #[pp b3 0,pp b1 0,pp b5 0]) 7<|yI r.xF.length) 8 (yI i)/\((i:Int)<=r.xF.length)/\(IntoUp s t r i)/\m'=(r.xF.length-(i:Int)).toNat/\Fresh w.heap.size []/\St w KE [Z0,Z1,Z2] [Z3,Z4,Z5,Z6,Z7,Z8,Z9,bG,bX,eZ,i8,mb,oX]) _ _ _ _ _ _ _ _ _ _ _ _ _ _ _ _) ((r.xF.length-(0:Int)).toNat) ⟨_,0,uE4,qf,qx,rfl,N,H⟩ ?_
   clear H N
   rintro m' ρ KQ ⟨xN,i,rfl,i0,i1,rfl,N,H⟩
   refine zcr<|sq 1<|zjn<|xU<|cD rfl (fun h44=>?_)<|fun h44=>?_
   ·have q:=(Bw i qf).1
    have q1:=q.1
    refine qZ<|t_n<|xU<|xf<|zcr<|sp (yI i)<|sp (yI i)<|zjc<|sp (.func (.func 166) #[] #[pp b3 0,pp b1 0,pp b5 0])<|sq 1<|sp (yI i) ?_
    obtain⟨KC,o46,rfl⟩:=H.addr 12 rfl qf
    obtain⟨xo,wP,ajj,H⟩:=H.Qr 12 rfl i i qf qf qf
    refine oI rfl rfl<|sw<|xy [yI ((r.xF[i]!).qY),Sv xo (((r.xF[i]!).Xq).length) wP] isAgg128 sizeOf128 rfl (qC (H.get 1 rfl) 0 2)<|sw<|zW #[.agg #[yI ((r.xF[i]!).qY),Sv xo (((r.xF[i]!).Xq).length) wP],pp b3 0,pp b1 0,pp b5 0] rfl rfl call166<|en func166 ntmps166 ?_
    refine zcr<|sw<|zN H [yI ((r.xF[i]!).qY),Sv xo (((r.xF[i]!).Xq).length) wP] fun Lq Pt H=>sp (Bv false)<|zjn<|xU<|ji rfl H fun H=>tF 0 rfl rfl H ?_
    refine tL 1 rfl rfl (fun _ h=>h.cell 2 rfl rfl) H ?_
    refine tF 2 rfl rfl H ?_
    refine tL 3 rfl rfl (fun _ h=>h.cell 0 rfl rfl) H ?_
    refine tI 4 rfl rfl rfl H ?_
    refine tL 5 rfl rfl (fun _ h=>h.elemBool 6 rfl ((r.xF[i]!).qY) qf qf) H ?_
    refine rtp 6 (Bv (!(t.qK[((r.xF[i]!).qY).toNat]!))) H ?_
    refine rtp 7 (Bv (!(t.qK[((r.xF[i]!).qY).toNat]!))) H ?_
    cases Cq:(!(t.qK[((r.xF[i]!).qY).toNat]!))
    ·replace Cq:=xO Cq
     refine rg 8 _ 13 (yF (cs:=(yS s qF qE qO qN)) isAgg27 sizeOf27 rfl<|fun _ h=>qC (h.cells 3 rfl) 0 3) H ?_
     refine rg 9 _ 13 (yF (cs:=[Sv (aa b7 o8) t.qK.length qU,Sv (aa oO Yw) t.qQ.length xk,Sv qM t.qJ.length qL]) isAgg31 sizeOf31 rfl<|fun _ h=>qC (h.cells 2 rfl) 0 3) H ?_
     refine gF 10 rfl rfl H ?_
     refine gL 11 rfl rfl (fun _ h=>h.cell 0 rfl rfl) H ?_
     refine gF 13 rfl rfl H ?_
     refine gL 14 rfl rfl (fun _ h=>h.cell 1 rfl rfl) H ?_
     refine zY [12] qh qm<|X4 rfl (e:=13) rfl rfl (oq (parentNow_ok _ s t ((r.xF[i]!).qY) (H.get 4 rfl).1 (H.get 5 rfl).1 (H.get 6 rfl).1 (H.get 7 rfl).1 (H.get 8 rfl).1 qg qg qg) H fun WP H=>⟨H,(rgl 15 13 H ?_)⟩) zZ
     refine rtl 16 H ?_
     refine rtl 17 H ?_
     refine xC qh<|t_n<|c_ret<|ret1 (Bv ((x9 s t ((r.xF[i]!).qY):Int) != r.qY)) rfl rfl ⟨_,rfl,?_⟩
     replace H:=H.erases [0]
     dsimp only[zU,List.eraseIdx] at H
     refine zjn<|zX _ rfl (fun Br=>?_)<|fun Br=>?_
     ·replace Br:=bne_iff_ne.1 Br
      refine zcr<|sp (yI i)<|sp (yI i)<|zjr<|zr5<|ret1 (yI i) rfl rfl ⟨_,rfl,(sw<|o_pure (Bv true) (by show some (Value.bool<|decide ((i:Int)>=0))=some (Value.bool true);rw[decide_eq_true qf])<|sp (Bv true)<|zjr<|ret1 (Bv true) rfl rfl ⟨_,rfl,(sp (Bv false)<|sp (Bv false)<|zjr<|rH1 (Bv false) H ?_)⟩)⟩
      rw[xw (fun h=>by obtain⟨h1,h2,h3,h4,h5⟩:=h;(obtain⟨q1,q2⟩:=h5 i qf;exact absurd q2 ‹_›))]
     replace Br:=xA Br
     refine qZ<|b_n<|t_n<|xX<|sw<|zC i 1 rfl rfl qf<|sq 1<|xZ<|xh (m':=(r.xF.length-((i+1):Int)).toNat) qf ⟨_,i+1,uE4,?_,?_,rfl,N,H.pick [0,1,2]<|zR 2 13⟩
     ·omega
     ·exact i1.succ ‹_› ‹_›
    replace Cq:=x8 Cq
    refine vJ (zR 8 8) 8 (H)<|rtp 16 (Bv true) H ?_
    refine rtp 17 (Bv true) H ?_
    refine xC qh<|t_n<|c_ret<|ret1 (Bv true) rfl rfl ⟨_,rfl,?_⟩
    replace H:=H.erases [0]
    dsimp only[zU,List.eraseIdx] at H
    refine zjn<|cTr rfl<|zcr<|sp (yI i)<|sp (yI i)<|zjr<|zr5<|ret1 (yI i) rfl rfl ⟨_,rfl,(sw<|o_pure (Bv true) (by show some (Value.bool<|decide ((i:Int)>=0))=some (Value.bool true);rw[decide_eq_true qf])<|sp (Bv true)<|zjr<|ret1 (Bv true) rfl rfl ⟨_,rfl,(sp (Bv false)<|sp (Bv false)<|zjr<|rH1 (Bv false) H ?_)⟩)⟩
    rw[xw (fun h=>by obtain⟨h1,h2,h3,h4,h5⟩:=h;(obtain⟨q1,q2⟩:=h5 i qf;exact ft q1 ‹_›))]
   refine zx4<|zcr<|sq 1<|zjr<|ret1 (yI (-1)) rfl rfl ⟨_,rfl,(sp (Bv false)<|sp (Bv false)<|zjr<|ret1 (Bv false) rfl rfl ⟨_,rfl,(sp (Bv true)<|sp (Bv true)<|zjr<|rH1 (Bv true) H ?_)⟩)⟩
   rw[jP ⟨by assumption,by assumption,by assumption,fun⟨u,v⟩=>by exact ft v ‹_›,(show i=r.xF.length by omega)▸i1⟩]
  replace wx:=x8 wx
  refine xY (zR 34 10)<|sp (Bv true)<|zjn<|cTr rfl<|zcr<|sp (Bv false)<|zjr<|t_r<|rH1 (Bv false) H ?_
  rw[xw (fun h=>by obtain⟨h1,h2,h3,h4,h5⟩:=h;exact ft h3 ‹_›)]
 replace Cr:=x8 Cr
 refine xY (zR 27 5)<|sp (Bv true)<|sp (Bv true)<|xY (zR 34 10)<|sp (Bv true)<|zjn<|cTr rfl<|zcr<|sp (Bv false)<|zjr<|t_r<|rH1 (Bv false) H ?_
 rw[xw (fun h=>by obtain⟨h1,h2,h3,h4,h5⟩:=h;exact ft h2 ‹_›)]
theorem cloneSS_ok(w:World)(l:yLL)(hl:zP w Fl al cl l)(p0:l.length<=1000000):Calls Tryz.prog 126 #[Sv al l.length cl] w (Ret (fun v w'=>∃(ra:yOA) (rn:Nat) (rc:Nat) (rx:List Value) (rF:yLN),v=Sv ra rn rc/\(∀b∈rF,b∈Fl)/\St w w' [rr ra rn rc 24 1 rx] [xG false rF rx l]) w):=by
 refine en func126 ntmps126 ?_
 have H:=(St.start w).arg hl
 have y4:=qR hl
 clear hl
 refine zcr<|sq 1<|zjcc<|sq 1<|sw<|o_eqnil underlying29 al l.length cl rfl<|zjn<|zX _ rfl (fun h1=>?_)<|fun h1=>?_
 ·refine zcr (sq 1<|zjr<|t_r ?_)
  replace H:=H.nilRow 24 1
  replace H:=H.vP (α:=yLI)
  refine rH1 yN H ?_
  obtain rfl:=H.nilOf 1 rfl ‹_›
  replace H:=H.unfree 0 rfl
  exact⟨none,0,0,[],[],rfl,(by intro b hb;(simp at hb;done)),H.pick [0] [0]⟩
 refine qZ<|t_n<|zcr<|sw<|ja H underlying29 ti24 fun b2 w3 H=>sq 1 ?_
 replace H:=H.boxRow 0 rfl 1 0 rfl qj
 replace H:=H.vP (α:=yLI)
 refine sw<|o_appendFR H 0 rfl 1 rfl underlying29 ti24 rfl qj rfl rfl qp qf fun a4 c5 w6 us7 G8 H hG9=>?_
 replace H:=H.repsCat false 1 rfl 0 rfl qm
 refine sq 1<|zjr<|rH1 (Sv a4 (0+l.length) c5) H<|⟨a4,0+l.length,c5,[]++us7,([]++G8),rfl,(by intro b hb;exact hG9 b<|by simpa using hb),H.pick [0] [0]⟩
theorem timesIn_ok(w:World)(l:yLI)(m:yLI){am:yOA}{cm:Nat}{Fm:yLN}(hl:zP w Fl al cl l)(hm:zP w Fm am cm m)(p0:l.length<=m.length)(p2:∀q,q<l.length->0<=m[q]! /\m[q]! <=1000):Calls Tryz.prog 139 #[Sv al l.length cl,Sv am m.length cm] w (Ret (fun v w'=>v=yI (jd l m)) w):=by
 refine en func139 ntmps139 ?_
 have H:=((St.start w).arg hm).arg hl
 have y4:=qR hl
 have nhm:=qR hm
 clear hl hm
 have N:=Fresh.nil w.heap.size
 refine zcr<|sp (yI 0)<|zjc<|sq 1<|zjcc<|sq 1<|oN rfl<|sp (yI 0)<|zjn<|xf<|zD ((fun Z0 Z1=>fun m' ρ w1=>∃(xN:Env) (most:Int) (k:Nat),ρ=upd (upd (upd (upd (upd xN 1<|Sv am m.length cm) 5<|yI most) 8<|Sv al l.length cl) 9<|yI l.length) 10 (yI k)/\most=Qv l m k/\((k:Int)<=l.length)/\m'=(l.length-(k:Int)).toNat/\Fresh w.heap.size []/\St w w1 [] [Z0,Z1]) _ _) ((l.length-(0:Int)).toNat) ⟨_,1000,0,uE5,(by rfl),qf,rfl,N,H⟩ ?_
 clear H N
 rintro m' ρ w2 ⟨xN,most,k,rfl,rfl,i0,rfl,N,H⟩
 refine zcr<|sq 1<|zjn<|xU<|cD rfl (fun h3=>?_)<|fun h3=>?_
 ·refine qZ (t_n<|xU<|xf<|zcr<|sp (yI k) ?_)
  obtain⟨b4,o5,rfl⟩:=H.addr 0 rfl qf
  refine oI rfl rfl<|oL rfl (H.zS 0 rfl k qf)<|sp (yI k)<|sq 1<|zjc<|sq 1<|sp (Bv<|decide ((l[k]! :Int)>0))<|zjn<|cD rfl (fun h7=>?_)<|fun h7=>?_
  ·refine xX (sq 2<|sp (yI k) ?_)
   obtain⟨b8,o9,rfl⟩:=H.addr 1 rfl qf
   refine oI rfl rfl<|oL rfl (H.zS 1 rfl k qf)<|sq 1<|sw<|o_quo (m[k]!) (l[k]!) rfl rfl (by(have:=p2 k qf;omega)) (by(have:=p2 k qf;omega))<|sw<|o_min (Qv l m k) ((m[k]!) / (l[k]!)) rfl rfl<|sq 1<|xZ<|b_n<|t_n<|xX<|sw<|zC k 1 rfl rfl (by(have:=p2 k qf;omega))<|sq 1<|xZ<|xh (m':=(l.length-((k+1):Int)).toNat) qf ⟨_,_,k+1,uE5,?_,?_,rfl,N,H⟩
   ·exact(timesTo_pos qf).symm
   ·omega
  refine qZ<|b_n<|t_n<|xX<|sw<|zC k 1 rfl rfl (by(have:=p2 k qf;omega))<|sq 1<|xZ<|xh (m':=(l.length-((k+1):Int)).toNat) qf ⟨_,_,k+1,uE5,?_,?_,rfl,N,H⟩
  ·exact(timesTo_skip qf).symm
  ·omega
 refine zx4<|zcr<|sq 2<|zjr<|rH1 (yI<|Qv l m k) H ?_
 obtain rfl:k=l.length:=by omega
 rfl
theorem Xn(w:World)(s:qH)(t:qG)(xe:zP w xu qF qE s.qA)(xE:zP w xW qO qN s.qB)(xR:zP w zk qV qU t.qK)(zu:zP w zF xm xk t.qQ)(xB:zP w xJ qM qL t.qJ)(p0:vz s)(p1:xK s t):Calls Tryz.prog 73 #[.agg #[yI s.zf,Sv qF s.qA.length qE,Sv qO s.qB.length qN],.agg #[Sv qV t.qK.length qU,Sv xm t.qQ.length xk,Sv qM t.qJ.length qL]] w (Ret (fun v w'=>∃(ra:yOA) (rn:Nat) (rc:Nat),v=Sv ra rn rc/\Fresh w.heap.size []/\St w w' [rr ra rn rc 2 1 ((appls s t).map<|Value.int .i64)] []) w):=by
 refine en func73 ntmps73 ?_
 have H:=(((((St.start w).arg xB).arg zu).arg xR).arg xE).arg xe
 have zV:=qR xe
 have jb:=qR xE
 clear xe xE xR zu xB
 have N:=Fresh.nil w.heap.size
 have p2:=p0.2.1
 have p3:=p0.1.2.1
 refine zcr<|sw<|zN H (yS s qF qE qO qN) fun b1 w2 H=>sw<|zN H (yT t qV qU xm xk qM qL) fun b3 w4 H=>sq 1<|zjc<|sw<|vg [yI 0,yI 0,yI 0,yI 0,yI 0,yI 0] []<|sw<|xg H ti145 [yI 0,yI 0,yI 0,yI 0,yI 0,yI 0] fun b5 w6 H=>(sw<|xx H 0 [yI 0,yI 0,yI 0,yI 0,yI 0,yI 0] sizeOf145 fun w7 H=>zjcc<|sp (yI 0)<|zjn<|xf<|zD ((fun Z0 Z1 Z2 Z3 Z4 Z5 Z6=>fun m' ρ w8=>∃(xN:Env) (c:Nat) (top:yLI),ρ=upd (upd (upd (upd xN 2<|pp b1 0) 3<|pp b3 0) 5<|pp b5 0) 13 (yI c)/\top=minus c/\((c:Int)<=6)/\m'=(6-(c:Int)).toNat/\Fresh w.heap.size []/\St w w8 [.box b5 (top.map<|Value.int .i64) 145,Z0,Z1] [Z2,Z3,Z4,Z5,Z6]) _ _ _ _ _ _ _) ((6-(0:Int)).toNat) ⟨_,0,[0,0,0,0,0,0],uE4,(by rfl),qf,rfl,N,H⟩ ?_)
 clear H N
 rintro m' ρ w9 ⟨xN,c,top,rfl,rfl,i0,rfl,N,H⟩
 refine zcr<|sp (Bv<|decide ((c:Int)<6))<|zjn<|xU<|cD rfl (fun bx=>?_)<|fun bx=>?_
 ·refine qZ (t_n<|xU<|xf<|zcr<|sp (yI c)<|sp (yI c)<|zjn<|xX<|sp (yI c)<|sw<|o_idxArr c underlying145 ti2 rfl rfl qf qf<|sw<|o_storeArr H 0 rfl (-1) sizeOf2 rfl rfl (i:=c) qf (by simp only[List.length_set,List.length_cons,List.length_nil,minus_len,XY];omega) fun rL H=>xZ<|b_n<|t_n<|xX<|sw<|zC c 1 rfl rfl qf<|sq 1<|xZ<|xh (m':=(6-((c+1):Int)).toNat) qf ⟨_,c+1,_,uE4,?_,?_,rfl,N,H⟩)
  ·exact minus_set qf
  ·omega
 refine zx4<|zcc<|oF rfl<|oL rfl (H.cell 2 rfl rfl)<|oN rfl<|sp (yI 0)<|zjn<|xf<|zD ((fun Z0 Z1 Z2 Z3 Z4 Z5 Z6=>fun m' ρ we=>∃(xN:Env) (k:Nat) (Jy:yLI),ρ=upd (upd (upd (upd (upd (upd xN 2<|pp b1 0) 3<|pp b3 0) 5<|pp b5 0) 20<|Sv qO s.qB.length qN) 21<|yI s.qB.length) 22 (yI k)/\Jy=bests s t (-1) 6 k/\((k:Int)<=s.qB.length)/\m'=(s.qB.length-(k:Int)).toNat/\Fresh w.heap.size []/\St w we [.box b5 (Jy.map<|Value.int .i64) 145,Z0,Z1] [Z2,Z3,Z4,Z5,Z6]) _ _ _ _ _ _ _) ((s.qB.length-(0:Int)).toNat) ⟨_,0,(minus c),uE6,(by exact minus_six qf s t),qf,rfl,N,H⟩ ?_
 clear H N
 rintro m' ρ xp ⟨xN,k,Jy,rfl,rfl,i0,rfl,N,H⟩
 refine zcr<|sq 1<|zjn<|xU<|cD rfl (fun eE=>?_)<|fun eE=>?_
 ·have q:=p0.rule (i:=k) qf
  have qc:=q.1
  have q6:(s.qB[k]!).qY.toNat<6:=by omega
  refine qZ<|t_n<|xU<|xf<|zcr ?_
  obtain⟨Fo,o16,rfl⟩:=H.addr 1 rfl qf
  obtain⟨sL,ta,aeD,tQ,rY,afq,sb,tz,aaD,sg,uB,aa8,ye,x3,aic,tS,tM,agz,H⟩:=H.Qa 1 rfl k k qf qf qf
  refine oI rfl rfl<|sw<|xy [yI ((s.qB[k]!).qY),yI ((s.qB[k]!).yK),Sv sL (((s.qB[k]!).zJ).length) ta,Sv tQ (((s.qB[k]!).jB).length) rY,Sv sb (((s.qB[k]!).jD).length) tz,Sv sg (((s.qB[k]!).jJ).length) uB,Sv ye (((s.qB[k]!).Qq).length) x3,Sv tS (((s.qB[k]!).xF).length) tM,Bv ((s.qB[k]!).jY)] isAgg70 sizeOf70 rfl (qC (H.get 6 rfl) 0 9)<|sw<|xg H ti70 [yI 0,yI 0,yN,yN,yN,yN,yN,yN,Bv false] fun gO tr H=>sw<|xx H 0 [yI ((s.qB[k]!).qY),yI ((s.qB[k]!).yK),Sv sL (((s.qB[k]!).zJ).length) ta,Sv tQ (((s.qB[k]!).jB).length) rY,Sv sb (((s.qB[k]!).jD).length) tz,Sv sg (((s.qB[k]!).jJ).length) uB,Sv ye (((s.qB[k]!).Qq).length) x3,Sv tS (((s.qB[k]!).xF).length) tM,Bv ((s.qB[k]!).jY)] sizeOf70 fun G4 H=>(zjc<|sw<|xy [yI s.zf,Sv qF s.qA.length qE,Sv (aa Fo o16) s.qB.length qN] isAgg27 sizeOf27 rfl (qC (H.cells 3 rfl) 0 3)<|sw<|xy (yT t qV qU xm xk qM qL) isAgg31 sizeOf31 rfl (qC (H.cells 2 rfl) 0 3)<|sw<|xy [yI ((s.qB[k]!).qY),yI ((s.qB[k]!).yK),Sv sL (((s.qB[k]!).zJ).length) ta,Sv tQ (((s.qB[k]!).jB).length) rY,Sv sb (((s.qB[k]!).jD).length) tz,Sv sg (((s.qB[k]!).jJ).length) uB,Sv ye (((s.qB[k]!).Qq).length) x3,Sv tS (((s.qB[k]!).xF).length) tM,Bv ((s.qB[k]!).jY)] isAgg70 sizeOf70 rfl (qC (H.cells 0 rfl) 0 9)<|sw<|oq (isEnabled_ok _ s t (s.qB[k]!) (H.get 7 rfl).1 (H.get 8 rfl).1 (H.get 9 rfl).1 (H.get 10 rfl).1 (H.get 11 rfl).1 (H.get 0 rfl).1 (H.get 1 rfl).1 (H.get 2 rfl).1 (H.get 3 rfl).1 (H.get 4 rfl).1 (H.get 5 rfl).1 qg qg qg) H fun Cz H=>zjn<|cP rfl (fun x6=>?_)<|fun x6=>?_)
  ·refine Qd rfl H [0,2,3] fun H=>?_
   have S:=H.jF [0,2,3]<|zR 0 12
   refine tF 0 rfl rfl S ?_
   refine tL 1 rfl rfl (fun _ h=>h.cell 0 rfl rfl) S ?_
   refine tF 2 rfl rfl S ?_
   refine tL 3 rfl rfl (fun _ h=>h.cell 0 rfl rfl) S ?_
   refine rt 4 _ (y_idxArr b5 (0) 6 ((s.qB[k]!).qY) underlying145 ti2 rfl rfl qf qf) S ?_
   refine tF 6 rfl rfl S ?_
   refine tL 7 rfl rfl (fun _ h=>h.cell 0 rfl rfl) S ?_
   refine ro 5 rfl<|zB (yI ((bests s t (-1) 6 k)[((s.qB[k]!).qY).toNat]!)) isAgg2 rfl (H.cell 1 rfl<|ints_at (iv:=(s.qB[k]!).qY) (i:=(((s.qB[k]!).qY).toNat)) qf<|by simp only[List.length_set,List.length_cons,List.length_nil,minus_len,XY];omega)<|⟨H.pick [0,2,3]<|zR 0 12,?_⟩
   have S:=H.jF [0,2,3]<|zR 0 12
   refine rt 8 _ (y_max ((bests s t (-1) 6 k)[((s.qB[k]!).qY).toNat]!) ((s.qB[k]!).yK) rfl rfl) S ?_
   refine rt 9 _ (y_idxArr b5 (0) 6 ((s.qB[k]!).qY) underlying145 ti2 rfl rfl qf qf) S ?_
   refine ro 10 rfl<|o_storeArr H 1 rfl (max ((bests s t (-1) 6 k)[((s.qB[k]!).qY).toNat]!) ((s.qB[k]!).yK)) sizeOf2 rfl rfl (i:=(((s.qB[k]!).qY).toNat)) qf (by simp only[List.length_set,List.length_cons,List.length_nil,minus_len,XY];omega) fun BA H=>⟨H.pick [0,2,3]<|zR 0 12,(xC qh<|b_n<|t_n<|xX<|sw<|zC k 1 rfl rfl qf<|sq 1<|xZ<|xh (m':=(s.qB.length-((k+1):Int)).toNat) qf ⟨_,k+1,_,uE6,?_,?_,rfl,N,H.pick [1,2,3]<|zR 7 5⟩)⟩
   ·exact bests_set ‹_› qf
   ·omega
  refine qZ<|b_n<|t_n<|xX<|sw<|zC k 1 rfl rfl qf<|sq 1<|xZ<|xh (m':=(s.qB.length-((k+1):Int)).toNat) qf ⟨_,k+1,_,uE6,?_,?_,rfl,N,H.pick [1,2,3]<|zR 7 5⟩
  ·exact bests_skip ‹_›
  ·omega
 refine zx4<|zcr<|sw<|ja H underlying24 ti2 fun rj GZ H=>sq 1<|zjcc<|oF rfl<|oL rfl (H.cell 3 rfl rfl)<|oN rfl<|sp (yI 0)<|zjn<|xf ?_
 replace H:=H.boxRowI 0 [] 0
 refine zD ((fun Z0 Z1 Z2 Z3 Z4 Z5 Z6 Z7=>fun m' ρ BB=>∃(xN:Env) (jZ:yOA) (vV:Nat) (jQ:Nat) (out:yLI) (i:Nat),ρ=upd (upd (upd (upd (upd (upd (upd xN 2<|pp b1 0) 3<|pp b3 0) 5<|pp b5 0) 9<|Sv jZ vV jQ) 43<|Sv qO s.qB.length qN) 44<|yI s.qB.length) 45 (yI i)/\out=Yb s t i/\((i:Int)<=s.qB.length)/\m'=(s.qB.length-(i:Int)).toNat/\Fresh w.heap.size []/\St w BB [rr jZ vV jQ 2 1<|out.map<|Value.int .i64,Z0,Z1,Z2] [Z3,Z4,Z5,Z6,Z7]) _ _ _ _ _ _ _ _) ((s.qB.length-(0:Int)).toNat) ⟨_,(aa rj 0),0,0,([]:yLI),0,uE7,(by rfl),qf,rfl,N,H⟩ ?_
 clear H N
 rintro m' ρ UZ ⟨xN,jZ,vV,jQ,out,i,rfl,rfl,i0,rfl,N,H⟩
 have bQ:=H.jy 0 rfl
 have ll:=applL_le s t i
 refine zcr<|sq 1<|zjn<|xU<|cD rfl (fun LV=>?_)<|fun LV=>?_
 ·have q:=p0.rule (i:=i) qf
  have qc:=q.1
  have qr:=q.2.1
  have q6:(s.qB[i]!).qY.toNat<6:=by omega
  refine qZ<|t_n<|xU<|xf<|zcr<|sp (yI i) ?_
  obtain⟨mX,o34,rfl⟩:=H.addr 1 rfl qf
  obtain⟨no,nj,Jb,m9,m2,Iw,nU,m4,HI,m8,n0,Ig,rP,rM,MG,nV,nf,JP,H⟩:=H.Qa 1 rfl i i qf qf qf
  refine oI rfl rfl<|sw<|xy [yI ((s.qB[i]!).qY),yI ((s.qB[i]!).yK),Sv no (((s.qB[i]!).zJ).length) nj,Sv m9 (((s.qB[i]!).jB).length) m2,Sv nU (((s.qB[i]!).jD).length) m4,Sv m8 (((s.qB[i]!).jJ).length) n0,Sv rP (((s.qB[i]!).Qq).length) rM,Sv nV (((s.qB[i]!).xF).length) nf,Bv ((s.qB[i]!).jY)] isAgg70 sizeOf70 rfl (qC (H.get 6 rfl) 0 9)<|sw<|xg H ti70 [yI 0,yI 0,yN,yN,yN,yN,yN,yN,Bv false] fun GQ Jz H=>sp (yI i)<|sw<|xx H 0 [yI ((s.qB[i]!).qY),yI ((s.qB[i]!).yK),Sv no (((s.qB[i]!).zJ).length) nj,Sv m9 (((s.qB[i]!).jB).length) m2,Sv nU (((s.qB[i]!).jD).length) m4,Sv m8 (((s.qB[i]!).jJ).length) n0,Sv rP (((s.qB[i]!).Qq).length) rM,Sv nV (((s.qB[i]!).xF).length) nf,Bv ((s.qB[i]!).jY)] sizeOf70 fun BG H=>zjn<|xU<|ji rfl H fun H=>tF 0 rfl rfl H ?_
  refine tL 1 rfl rfl (fun _ h=>h.cell 0 rfl rfl) H ?_
  refine tF 2 rfl rfl H ?_
  refine tL 3 rfl rfl (fun _ h=>h.cell 0 rfl rfl) H ?_
  refine rt 4 _ (y_idxArr b5 (0) 6 ((s.qB[i]!).qY) underlying145 ti2 rfl rfl qf qf) H ?_
  refine tL 5 rfl rfl (fun _ h=>h.cell 2 rfl<|ints_at (iv:=(s.qB[i]!).qY) (i:=(((s.qB[i]!).qY).toNat)) qf<|by simp only[List.length_set,List.length_cons,List.length_nil,minus_len,XY];omega) H ?_
  refine rtp 6 (Bv (((s.qB[i]!).yK:Int) == ((bests s t (-1) 6 k)[((s.qB[i]!).qY).toNat]!))) H ?_
  refine rtp 7 (Bv (((s.qB[i]!).yK:Int) == ((bests s t (-1) 6 k)[((s.qB[i]!).qY).toNat]!))) H ?_
  cases CY:(((s.qB[i]!).yK:Int) == ((bests s t (-1) 6 k)[((s.qB[i]!).qY).toNat]!))
  ·replace CY:=ne_of_beq_false CY
   refine vJ (zR 8 4) 4 (H)<|rtp 12 (Bv false) H ?_
   refine xC qh<|t_n<|cFr rfl<|qZ<|b_n<|t_n<|xX<|sw<|zC i 1 rfl rfl qf<|sq 1<|xZ<|xh (m':=(s.qB.length-((i+1):Int)).toNat) qf ⟨_,_,_,_,_,i+1,uE7,?_,?_,rfl,N,H.pick (zR 1 4)<|zR 7 5⟩
   ·exact applL_no<|appl_no (n:=6) (z:= -1) (k:=k) qf qf qf q6 ‹_›
   ·omega
  replace CY:=eq_of_beq CY
  refine rg 8 _ 57 (yF (cs:=[yI s.zf,Sv qF s.qA.length qE,Sv (aa mX o34) s.qB.length qN]) isAgg27 sizeOf27 rfl<|fun _ h=>qC (h.cells 4 rfl) 0 3) H ?_
  refine rg 9 _ 57 (yF (cs:=(yT t qV qU xm xk qM qL)) isAgg31 sizeOf31 rfl<|fun _ h=>qC (h.cells 3 rfl) 0 3) H ?_
  refine rg 10 _ 57 (yF (cs:=[yI ((s.qB[i]!).qY),yI ((s.qB[i]!).yK),Sv no (((s.qB[i]!).zJ).length) nj,Sv m9 (((s.qB[i]!).jB).length) m2,Sv nU (((s.qB[i]!).jD).length) m4,Sv m8 (((s.qB[i]!).jJ).length) n0,Sv rP (((s.qB[i]!).Qq).length) rM,Sv nV (((s.qB[i]!).xF).length) nf,Bv ((s.qB[i]!).jY)]) isAgg70 sizeOf70 rfl<|fun _ h=>qC (h.cells 0 rfl) 0 9) H ?_
  refine zY [11] qh qm<|X4 rfl (e:=57) rfl rfl (oq (isEnabled_ok _ s t (s.qB[i]!) (H.get 7 rfl).1 (H.get 8 rfl).1 (H.get 9 rfl).1 (H.get 10 rfl).1 (H.get 11 rfl).1 (H.get 0 rfl).1 (H.get 1 rfl).1 (H.get 2 rfl).1 (H.get 3 rfl).1 (H.get 4 rfl).1 (H.get 5 rfl).1 qg qg qg) H fun KQ H=>⟨H,(rtl 12 H ?_)⟩) zZ
  refine xC qh<|t_n<|cP rfl (fun pT=>?_)<|fun pT=>?_
  ·refine xX (sq 1<|sp (yI i)<|sw<|zl H underlying24 ti2 [yI i] fun Uh Wc H=>sw<|zt H 2 rfl 0 rfl underlying24 ti2 rfl qj rfl rfl rfl qw qp qf fun a48 c49 Pt H=>?_)
   rw[snocI] at H
   refine sq 1<|xZ<|b_n<|t_n<|xX<|sw<|zC i 1 rfl rfl qf<|sq 1<|xZ<|xh (m':=(s.qB.length-((i+1):Int)).toNat) qf ⟨_,_,_,_,_,i+1,uE7,?_,?_,rfl,N,H.pick (zR 2 4)<|zR 7 5⟩
   ·exact VT<|appl_yes (n:=6) (z:= -1) (k:=k) qf qf qf q6 ‹_› ‹_›
   ·omega
  refine qZ<|b_n<|t_n<|xX<|sw<|zC i 1 rfl rfl qf<|sq 1<|xZ<|xh (m':=(s.qB.length-((i+1):Int)).toNat) qf ⟨_,_,_,_,_,i+1,uE7,?_,?_,rfl,N,H.pick (zR 1 4)<|zR 7 5⟩
  ·exact applL_no<|fun h=>‹¬EnOk _ _ _› h.1
  ·omega
 refine zx4<|zcr<|sq 2<|zjr<|rH1 (Sv jZ vV jQ) H ?_
 obtain rfl:i=s.qB.length:=by omega
 exact⟨jZ,vV,jQ,rfl,N,H.pick [0] []⟩
end
section
structure OwnI(e:TypeId) where
 l:yLI
instance (e:TypeId):Inhabited (OwnI e):=⟨⟨[]⟩⟩
def OwnAt(e:TypeId)(w:World)(F:yLN)(v:Value)(l:yLI):Prop:=
 (v=Sv none 0 0/\l=[]/\F=[])\/∃g ed ee,v=Sv (some ⟨g,0,none⟩) l.length ed/\F=[g]/\w.heap[g]? =some (.cells ee e (0,0))/\l.length<=ed/\ed<=maxLen/\ee.size=ed/\ee.toList.take l.length=l.map (Value.int .i64)
theorem OwnAt.slice(h:OwnAt e w F v l):∃a c,v=Sv a l.length c:=by
 rcases h with ⟨rfl,rfl,_⟩|⟨g,ed,ee,rfl,_⟩
 ·exact⟨none,0,rfl⟩
 ·exact⟨_,_,rfl⟩
instance (e:TypeId):qX (OwnI e) where
 size:=1
 rep:=fun w F cs x=>∃v,cs=[v]/\OwnAt e w F v x.l
 len:=by rintro w F cs x ⟨v,rfl,_⟩;rfl
 one:=by
  rintro w F cs x ⟨v,rfl,h⟩ u hu
  simp only[List.mem_singleton] at hu
  subst hu
  obtain⟨a,c,rfl⟩:=h.slice
  rfl
 lt:=by
  rintro w F cs x ⟨v,rfl,h⟩ b hb
  rcases h with ⟨_,_,rfl⟩|⟨g,ed,ee,_,rfl,hg,_⟩
  ·simp at hb
  ·obtain rfl:=List.mem_singleton.1 hb
   exact(Array.getElem?_eq_some_iff.1 hg).1
 stay:=by
  rintro w w' F cs x ⟨v,rfl,h⟩ hs
  refine⟨v,rfl,?_⟩
  rcases h with h|⟨g,ed,ee,h1,rfl,hg,h2⟩
  ·exact Or.inl h
  ·exact Or.inr ⟨g,ed,ee,h1,rfl,(hs g qm).trans hg,h2⟩
theorem OwnAt.rep(h:OwnAt e w F v l):qX.rep w F [v] l:=by
 rcases h with ⟨rfl,rfl,rfl⟩|⟨g,ed,ee,rfl,rfl,hg,h1,h2,h3,h4⟩
 ·exact⟨none,0,rfl,by simp,Or.inl ⟨rfl,rfl⟩⟩
 ·refine⟨_,ed,rfl,by unfold maxLen at h2;omega,Or.inr ⟨g,0,[],_,rfl,rfl,(Array.getElem?_eq_some_iff.1 hg).1,reps_of_ints w l,?_⟩⟩
  intro i u hi
  rw[Nat.zero_add,World.cell?,hg]
  rw[←h4,List.getElem?_take] at hi
  split at hi
  ·simpa using hi
  ·cases hi
theorem reps_ofOwn{e:TypeId}{w:World}:∀ {F:yLN} {xs:List Value} {l:List (OwnI e)},reps w F xs l->reps w F xs (l.map OwnI.l)
 |_,_,[],h=>h
 |_,_,x::l,⟨F1,F2,c1,c2,hF,hv,⟨v,hc,h1⟩,h2⟩=>⟨F1,F2,c1,c2,hF,hv,hc▸h1.rep,reps_ofOwn h2⟩
section
variable{W0 w : World}{ps : List Prv}{Γ : List Fact}
theorem St.ofOwn(H:St W0 w ps Γ)(j:Nat){l:List (OwnI e)}(hf:Γ[j]? =some (xG fr F xs l)):St W0 w ps (xG fr F xs (l.map OwnI.l)::Γ):=
 H.jO j hf _ ⟨reps_ofOwn (H.get j hf).1,(H.get j hf).2⟩ fun _ h=>h
theorem St.rowCountO(H:St W0 w ps Γ)(k:Nat)(hp:ps[k]? =some (.row v e2 1 nn xs))(j:Nat){l:List (OwnI e)}(hf:Γ[j]? =some (xG fr F xs l)):nn=l.length:=
 H.xQ (α:=OwnI e) k hp j hf (show 0<qX.size (OwnI e) from Nat.one_pos)
theorem St.openI(H:St W0 w ps Γ)(k:Nat)(hp:ps[k]? =some (.row (Sv (some ⟨b,0,none⟩) nn c') e2 1 nn xs))(j:Nat){l:List (OwnI e)}(hf:Γ[j]? =some (xG true F xs l))
 {L:List yLN} (N:Fresh W0.heap.size (F::L)) {iv:Int} (c:Nat) (hi:iv.toNat=c) (hc:c<nn) (Γ':List Fact) (hΓ:∀f∈Γ',f∈Γ/\∀x∈f.F,x∉F):
 ∃a m F',w.cell? ⟨b,0+iv.toNat*1,none⟩=some (Sv a (l[c]!).l.length m)/\Fresh W0.heap.size (F'::L)∧
  St W0 w (.row (Sv a (l[c]!).l.length m) e 1 (l[c]!).l.length ((l[c]!).l.map<|Value.int .i64)::ps) (xG true F' (xs.set c<|Sv none 0 0) (l.set c ⟨[]⟩)::Γ'):=by
 subst hi
 have hn:nn=l.length:=H.rowCountO k hp j hf
 have jj:=H.rowLen k hp
 have hF:=(H.facts _<|List.mem_of_getElem? hf).2
 obtain⟨F1,Fk,F2,v1,cs,v2,UH,hxe,Me,hl2,⟨u,rfl,hu⟩,hr1,On⟩:=reps_get (H.get j hf).1 iv.toNat qf
 have LS :v1.length=iv.toNat:=by rw[Me];exact Nat.mul_one _
 obtain⟨a,m,rfl⟩:=hu.slice
 have el:l[iv.toNat]! =l[iv.toNat]:=getElem!_pos l _ qf
 have hxc:xs[iv.toNat]? =some (Sv a (l[iv.toNat]).l.length m):=by
  refine(congrArg (fun z:List Value=>z[iv.toNat]?) hxe).trans ?_
  show (v1++[_]++v2)[iv.toNat]? =_
  rw[List.append_assoc,List.getElem?_append_right qf]
  simp[LS]
 have rE:xs.set iv.toNat (Sv none 0 0)=v1++[Sv none 0 0]++v2:=by
  rw[hxe,List.append_assoc,List.set_append_right _ _ qf]
  simp[LS]
 have ZA:l.set iv.toNat (⟨[]⟩:OwnI e)=l.take iv.toNat++((⟨[]⟩:OwnI e)::l.drop (iv.toNat+1)):=by
  rw[List.set_eq_take_append_cons_drop,if_pos qf]
 have aeF:reps w (F1++F2) (xs.set iv.toNat<|Sv none 0 0) (l.set iv.toNat ⟨[]⟩):=by
  rw[rE,ZA,List.append_assoc]
  exact Qw hr1 ⟨[],F2,[Sv none 0 0],v2,rfl,rfl,⟨_,rfl,Or.inl ⟨rfl,rfl,rfl⟩⟩,On⟩
 have LK:F.Nodup:=N.nd F qm
 have aJ:∀x∈F1++F2,x∈F:=by
  intro x hx
  rw[UH]
  simp only[List.mem_append] at hx ⊢
  rcases hx with h|h
  ·exact Or.inl<|Or.inl h
  ·exact Or.inr h
 have hkF:∀x∈Fk,x∈F:=fun x hx=>by rw[UH];simp[hx]
 have amz:∀x∈Fk,x∉F1++F2:=by
  intro x hx hx'
  rw[UH] at LK
  have h1:=List.nodup_append.1 LK
  have h2:=List.nodup_append.1 h1.1
  rcases List.mem_append.1 hx' with h|h
  ·exact h2.2.2 x h x hx rfl
  ·exact h1.2.2 x (List.mem_append_right _ hx) x h rfl
 refine⟨a,m,F1++F2,?_,N.less aJ<|fun _=>?_,?_⟩
 ·rw[el]
  have:=H.VI k hp hxc
  rw[Nat.zero_add,Nat.mul_one]
  exact this
 ·rw[UH] at LK
  have h1:=List.nodup_append.1 LK
  have h2:=List.nodup_append.1 h1.1
  exact List.nodup_append.2 ⟨h2.1,h1.2.1,fun x hx y hy=>h1.2.2 x (List.mem_append_left _ hx) y hy⟩
 ·rw[el]
  have Bx:∀x,(Value.slice a (l[iv.toNat]).l.length m).ownBlock=some x->Fk=[x]:=by
   intro x hx
   rcases hu with ⟨h,_,_⟩|⟨g,ed,ee,h,hg,_⟩
   ·injection h with h1;subst h1;simp[Value.ownBlock] at hx
   ·injection h with h1;subst h1
    simp only[Value.ownBlock,Option.some.injEq] at hx
    rw[hg,hx]
  have JZ:yO (.row (Sv a (l[iv.toNat]).l.length m) e 1 (l[iv.toNat]).l.length ((l[iv.toNat]).l.map<|Value.int .i64)::ps) 0=(Value.slice a (l[iv.toNat]).l.length m).ownBlock:=rfl
  refine⟨H.base,fun p hp'=>?_,fun i i' x h1 h2=>?_,fun f hf'=>?_⟩
  ·rcases List.mem_cons.1 hp' with rfl|h
   ·refine⟨by simp,?_⟩
    rcases hu with ⟨h,hl,_⟩|⟨g,ed,ee,h,hg,hh,h1,h2,h3,h4⟩
    ·exact Or.inl ⟨h,by rw[hl];rfl⟩
    ·exact Or.inr ⟨g,ed,ee,h,N.ge F qm g<|hkF g<|by simp[hg],hh,h1,h2,by omega,by rw[Nat.mul_one];exact h4⟩
   ·exact H.has p h
  ·cases i with
   |zero=>
    cases i' with
    |zero=>rfl
    |succ i'=>
     rw[JZ] at h1
     have:=Bx x h1
     exact absurd h2 ((hF x<|hkF x<|by simp[this]).2 i')
   |succ i=>
    cases i' with
    |zero=>
     rw[JZ] at h2
     have:=Bx x h2
     exact absurd h1 ((hF x<|hkF x<|by simp[this]).2 i)
    |succ i'=>rw[H.dist i i' x h1 h2]
  ·have D3:∀x,x<w.heap.size->(∀i,yO ps i≠some x)->x∉Fk->∀i,yO (.row (Sv a (l[iv.toNat]).l.length m) e 1 (l[iv.toNat]).l.length ((l[iv.toNat]).l.map<|Value.int .i64)::ps) i≠some x:=by
    intro x _ h2 h3 i
    cases i with
    |zero=>intro h;rw[JZ] at h;exact h3<|by simp[Bx x h]
    |succ i=>exact h2 i
   rcases List.mem_cons.1 hf' with rfl|h
   ·refine⟨⟨aeF,fun _ x hx=>(H.get j hf).2 rfl x<|aJ x hx⟩,fun x hx=>⟨(hF x<|aJ x hx).1,D3 x (hF x<|aJ x hx).1 (hF x<|aJ x hx).2 fun h=>amz x h hx⟩⟩
   ·obtain⟨h1,h2⟩:=hΓ f h
    have h3:=H.facts f h1
    exact⟨h3.1,fun x hx=>⟨(h3.2 x hx).1,D3 x (h3.2 x hx).1 (h3.2 x hx).2 fun h=>h2 x hx<|hkF x h⟩⟩
end
section
variable{P : Program}{Q : Exit -> Act -> World -> Prop}{n : Nat}{ρ : Env}{W0 w : World}{ps : List Prv}{Γ : List Fact}
 {d:Nat} {ty:TypeId} {pos:String} {af:Array Edge} {K:Env->World->Prop}
theorem o_closeI[Dfr]{t:TypeId}{x y:Operand}(H:St W0 w ps Γ)(k:Nat)(hp:ps[k]? =some (.row (Sv (some ⟨b,0,none⟩) nn c') e2 1 nn xs))(i:Nat)(hik:i≠k){z:yLI}
 (hq:ps[i]? =some (.row v e 1 m<|z.map<|Value.int .i64)) (j:Nat) {F:yLN} {l:List (OwnI e)} {c:Nat} (hf:Γ[j]? =some (xG true F (xs.set c<|Sv none 0 0) l)) {L:List yLN} (N:Fresh W0.heap.size (F::L))
 (ha:∀K∈L,∀b∈K,∀i,yO ps i≠some b)
 {iv:Int} (hs:∀w,(Go.sizeOf t).run P w=.ok 1 w) (hx:ev n ρ x=.pointer (some ⟨b,0+iv.toNat*1,none⟩)) (hy:ev n ρ y=v) (hi:iv.toNat=c) (h2:c<nn)
 (kk:∀w' F',Fresh W0.heap.size (F'::L)->St W0 w' ((ps.set i<|.row (Sv none 0 0) 0 1 0 []).set k<|.row (Sv (some ⟨b,0,none⟩) nn c') e2 1 nn<|xs.set c v) (xG true F' (xs.set c v) (l.set c ⟨z⟩)::Γ)->K ρ w'):
 OW P Q ⟨none,.store t x y,ty,pos,af,none⟩ n ρ w K:=by
 subst hi
 have uH:=H.rowLen k hp
 have hll:(xs.set iv.toNat<|Sv none 0 0).length=l.length*1:=X7 (H.get j hf).1
 rw[List.length_set] at hll
 have hF:=(H.facts _<|List.mem_of_getElem? hf).2
 have ho:=(H.has _ (List.mem_of_getElem? hq):w.ownsRow W0.heap.size e 1 v m (z.map<|Value.int .i64))
 have hm:m=z.length:=by have:=ho.1;simp at this;omega
 subst hm
 obtain⟨G,hG,hGb,hGf⟩:∃G,OwnAt e w G v z/\(∀x∈G,yO ps i=some x)/\yf w G:=by
  rcases ho.2 with ⟨rfl,h0⟩|⟨g,ed,ee,rfl,hb,hg,PU,hcm,pn,htake⟩
  ·exact⟨[],Or.inl ⟨rfl,List.eq_nil_of_length_eq_zero h0,rfl⟩,by simp,yf.nil _⟩
  ·refine⟨[g],Or.inr ⟨g,ed,ee,rfl,rfl,hg,PU,hcm,by omega,by rw[Nat.mul_one] at htake;exact htake⟩,fun x hx=>?_,fun x hx=>?_⟩
   ·obtain rfl:=List.mem_singleton.1 hx
    simp[yO,hq,Prv.blk,Value.ownBlock]
   ·obtain rfl:=List.mem_singleton.1 hx
    exact⟨_,_,hg⟩
 have hgn:G.Nodup:=by
  rcases hG with ⟨_,_,rfl⟩|⟨g,ed,ee,_,rfl,_⟩ <;> simp
 have rE:∀(b' i':Nat),yO (ps.set i<|.row (Sv none 0 0) 0 1 0 []) i'=some b' ->i' ≠i/\yO ps i'=some b':=by
  intro b' i' h
  unfold yO at h ⊢
  by_cases hi:i'=i
  ·subst hi
   rw[set_at hq] at h
   simp[Prv.blk,Value.ownBlock] at h
  ·rw[List.getElem?_set_ne<|Ne.symm hi] at h
   exact⟨hi,h⟩
 obtain⟨F',hr,PS,T3⟩:=reps_set (H.get j hf).1 (show qX.rep w G [v] (⟨z⟩:OwnI e) from⟨v,rfl,hG⟩) iv.toNat qf
 have e1:(xs.set iv.toNat<|Sv none 0 0).take (iv.toNat*qX.size (OwnI e))++[v]++(xs.set iv.toNat<|Sv none 0 0).drop (iv.toNat*qX.size (OwnI e)+[v].length)=xs.set iv.toNat v:=by
  show (xs.set iv.toNat<|Sv none 0 0).take (iv.toNat*1)++[v]++(xs.set iv.toNat<|Sv none 0 0).drop (iv.toNat*1+1)=xs.set iv.toNat v
  rw[Nat.mul_one,List.take_set_of_le<|Nat.le_refl _,List.drop_set_of_lt qf,List.set_eq_take_append_cons_drop,if_pos qf]
  simp
 rw[e1] at hr
 have hGF:∀x∈G,x∉F:=fun x hx h=>(hF x h).2 i<|hGb x hx
 have hGL:∀K∈L,∀x∈K,x∉G:=fun K hK x hx h=>ha K hK x hx i<|hGb x h
 have N1:Fresh W0.heap.size (F'::L):=by
  have WC:∀x∈G,W0.heap.size<=x:=fun x hx=>(blkAt_has H<|hGb x hx).1
  refine⟨fun K hK=>?_,fun K hK x hx=>?_,?_⟩
  ·rcases List.mem_cons.1 hK with rfl|h
   ·exact T3 (N.nd F qm) hgn fun x hx h=>hGF x h hx
   ·exact N.nd K<|List.mem_cons_of_mem _ h
  ·rcases List.mem_cons.1 hK with rfl|h
   ·rcases PS x hx with h|h
    ·exact N.ge F qm x h
    ·exact WC x h
   ·exact N.ge K (List.mem_cons_of_mem _ h) x hx
  ·have hd:=List.pairwise_cons.1 N.dj
   refine List.pairwise_cons.2 ⟨fun K hK x hx=>?_,hd.2⟩
   rcases PS x hx with h|h
   ·exact hd.1 K hK x h
   ·exact fun hxK=>hGL K hK x hxK h
 have H1:St W0 w (ps.set i<|.row (Sv none 0 0) 0 1 0 []) (xG true F' (xs.set iv.toNat v) (l.set iv.toNat ⟨z⟩)::Γ):=by
  refine(H.dead i hq).add _ ⟨hr,fun _ x hx=>?_⟩ fun x hx=>?_
  ·rcases PS x hx with h|h
   ·exact(H.get j hf).2 rfl x h
   ·exact hGf x h
  ·rcases PS x hx with h|h
   ·exact⟨(hF x h).1,fun i' ox =>(hF x h).2 i' (rE x i' ox).2⟩
   ·exact⟨(blkAt_has H<|hGb x h).2,fun i' ox =>(rE x i' ox).1<|H.dist i' i x (rE x i' ox).2<|hGb x h⟩
 have hp1:(ps.set i<|.row (Sv none 0 0) 0 1 0 [])[k]? =some (.row (Sv (some ⟨b,0,none⟩) nn c') e2 1 nn xs):=by rw[List.getElem?_set_ne hik];exact hp
 obtain⟨a,cc,hv⟩:=hG.slice
 exact V6 H1 k hp1 v hs hx hy (by rw[hv];rfl) h2 fun w' H'=>kk w' F' N1 H'
end
theorem keepA{B:Nat}{Γ':List Fact}{LA L:List yLN}(A:∀G∈LA,∀b∈G,b<B)(N:Fresh B (F::L))(js:yLN)(he:js.map (fun j=>Γ[j]?)=Γ'.map some)(hF:Γ'.map Fact.F=LA):∀f∈Γ',f∈Γ/\∀x∈f.F,x∉F:=fun f hf=>by
 constructor
 ·have h1:some f∈js.map (fun j=>Γ[j]?):=by rw[he];exact List.mem_map_of_mem hf
  obtain⟨j,_,h2⟩:=List.mem_map.1 h1
  exact List.mem_of_getElem? h2
 ·intro x hx hxF
  have h1:=A f.F (by rw[←hF];exact List.mem_map_of_mem hf) x hx
  have h2:=N.ge F qm x hxF
  omega
end
section
noncomputable def ownL(e:TypeId)(s:qH)(t:qG)(n q:Nat):List (OwnI e):=(List.range n).map fun(c:Nat)=>⟨((appls s t).take q).filter fun x=>decide ((s.qB[x.toNat]!).qY=(c:Int))⟩
theorem ownL_len(e:TypeId)(s:qH)(t:qG)(n q:Nat):(ownL e s t n q).length=n:=by simp[ownL]
theorem ownL_get(h:c<n):(ownL e s t n q)[c]! =⟨((appls s t).take q).filter fun x=>decide ((s.qB[x.toNat]!).qY=(c:Int))⟩:=by
 rw[getElem!_pos (ownL e s t n q) c<|by rw[ownL_len];exact h];simp[ownL]
theorem ownL_zero(e:TypeId)(s:qH)(t:qG)(n:Nat):List.replicate n (⟨[]⟩:OwnI e)=ownL e s t n 0:=by
 refine List.ext_getElem (by simp[ownL]) fun i h1 h2=>by simp[ownL]
theorem ownL_set(hq:q<(appls s t).length)(hc:(s.qB[((appls s t)[q]!).toNat]!).qY.toNat=c)(h0:0<=(s.qB[((appls s t)[q]!).toNat]!).qY)(hn:c<n)
 {l:List (OwnI e)} (hl:l=(ownL e s t n q).set c ⟨((ownL e s t n q)[c]!).l++[(appls s t)[q]!]⟩):l=ownL e s t n (q+1):=by
 subst hl
 refine List.ext_getElem (by simp[ownL]) fun i h1 h2=>?_
 have hi:i<n:=by simpa [ownL] using h1
 rw[←getElem!_pos _ i h1,←getElem!_pos _ i h2,getset<|by rw[ownL_len];exact hn,ownL_get (q:=q+1) hi]
 rw[←take_snoc hq,List.filter_append]
 by_cases e':i=c
 ·subst e'
  rw[if_pos rfl,ownL_get hi,List.filter_cons_of_pos (a:=(appls s t)[q]!)<|decide_eq_true qf,List.filter_nil]
 ·rw[if_neg e',ownL_get hi]
  rw[List.filter_cons_of_neg (a:=(appls s t)[q]!) (fun h=>by have:=of_decide_eq_true h;omega),List.filter_nil,List.append_nil]
theorem ownL_le(h:c<n):((ownL e s t n q)[c]!).l.length<=(appls s t).length:=by
 rw[ownL_get h]
 exact Nat.le_trans (List.length_filter_le _ _)<|by rw[List.length_take];omega
noncomputable def cellsR(s:qH)(t:qG)(n:Nat):yLL:=(List.range n).map<|vW s t
theorem cellsR_len(s:qH)(t:qG)(n:Nat):(cellsR s t n).length=n:=by simp[cellsR]
theorem cellsR_get(h:c<n):(cellsR s t n)[c]! =vW s t c:=by
 rw[getElem!_pos (cellsR s t n) c<|by rw[cellsR_len];exact h];simp[cellsR]
theorem ownL_end(h:(appls s t).length<=q):(ownL e s t n q).map OwnI.l=cellsR s t n:=by
 unfold ownL cellsR
 rw[List.take_of_length_le h,List.map_map]
 rfl
theorem own_bad(hs:vz s)(hq:q<(appls s t).length)(h1:Xr (t.qQ[(s.qB[((appls s t)[q]!).toNat]!).qY.toNat]!)>16):¬GoodP s t s.qA.length:=by
 have hm:(appls s t)[q]! ∈appls s t:=by rw[getElem!_pos _ q hq];exact List.getElem_mem hq
 obtain⟨a,b,d⟩:=mem_applL.1 hm
 have hc:=(hs.rule b).1
 have mZ:=(hs.rule b).cell
 refine bad_sum (c:=(s.qB[((appls s t)[q]!).toNat]!).qY.toNat) mZ (fun h0=>?_) h1
 have:(appls s t)[q]! ∈vW s t (s.qB[((appls s t)[q]!).toNat]!).qY.toNat:=by
  unfold vW cellT
  exact List.mem_filter.2 ⟨hm,decide_eq_true (Int.toNat_of_nonneg hc.1).symm⟩
 rw[List.eq_nil_of_length_eq_zero h0] at this
 simp at this
noncomputable def Vq(s:qH)(t:qG)(k:Nat):List inCellD:=(VK s t k).map fun c=>⟨vW s t c,(cellP s t c).1⟩
theorem cells_len(s:qH)(t:qG)(k:Nat):(Vq s t k).length=(xP s t k).length:=by simp[Vq,xP]
theorem cells_yes(h:¬(vW s t k).length=0):Vq s t k++[⟨vW s t k,(cellP s t k).1⟩]=Vq s t (k+1):=by simp[Vq,live_yes h]
theorem cells_no(h:(vW s t k).length=0):Vq s t k=Vq s t (k+1):=by simp[Vq,live_no h]
theorem cells_at(h:i<(Vq s t k).length):((Vq s t k)[i]!).frules=(xP s t k)[i]! /\((Vq s t k)[i]!).fpackings=(zI s t k)[i]! :=by
 have h1:i<(xP s t k).length:=by rw[←cells_len];exact h
 have h2:i<(zI s t k).length:=by rw[packsL_le];exact h1
 rw[getElem!_pos _ i h,getElem!_pos _ i h1,getElem!_pos _ i h2]
 simp[Vq,xP,zI]
theorem prod_stop{all:List yLL}(h:∀j,j<n->all[j]! ≠[])(hi:i<n){G:yLL}{r:yLI}(hG:G.length=XK all i)(hk:k<=G.length)(h1:(nextK G r (all[i]!) k).length>300):XK all n>300:=by
 rw[nextK_len hk] at h1
 have h2:=prod_mono h (show i+1<=n from hi)<|Nat.le_refl _
 rw[XK,←hG] at h2
 have h3:=Nat.mul_le_mul_right (all[i]!).length hk
 omega
theorem appls_inH(hq:q<(appls s t).length):0<=(appls s t)[q]! /\((appls s t)[q]!).toNat<s.qB.length/\Appl s t ((appls s t)[q]!).toNat:=by
 have hm:(appls s t)[q]! ∈appls s t:=by rw[getElem!_pos _ q hq];exact List.getElem_mem hq
 exact mem_applL.1 hm
theorem bagAny_okH:jm (l.length:Int) l<->XZ l:=⟨fun h=>h.1,fun h=>⟨h,rfl⟩⟩
theorem sumTo_ge{l:yLI}(h:∀k,k<l.length->0<=l[k]!):∀n,n<=l.length->0<=sumTo l n/\∀j,j<n->l[j]! <=sumTo l n
 |0,_=>⟨by simp[sumTo],fun j hj=>by omega⟩
 |n+1,hn=>by
  obtain⟨h1,h2⟩:=sumTo_ge h n qf
  have h3:=h n qf
  rw[sumTo]
  refine⟨by omega,fun j hj=>?_⟩
  by_cases e:j=n
  ·subst e;omega
  ·have:=h2 j qf;omega
theorem VV.bags(h:VV ad ai)(h1:1<=ad.length):
 XZ ai/\ad.length<=8/\∀i,i<ad.length->XZ (ad[i]!)/\(ad[i]!).length=ai.length/\Xr (ad[i]!)≠0:=by
 obtain⟨K,hK,hP,hR,hn⟩:=h
 have bag:∀i,i<ad.length->XZ (ad[i]!)/\(ad[i]!).length=ai.length/\Xr (ad[i]!)≠0:=fun i hi=>by
  obtain⟨hl,hb,j,hj,hp⟩:=hP i hi
  refine⟨⟨fun k hk=>hb k qf,by omega,by omega⟩,by have:=hR.1;omega,?_⟩
  have:=(sumTo_ge (l:=ad[i]!) (fun k hk=>(hb k qf).1) _<|Nat.le_refl _).2 j qf
  unfold Xr;omega
 obtain⟨hl,_,j,hj,_⟩:=hP 0 qf
 exact⟨⟨fun k hk=>hR.2 k (by have:=hR.1;omega),by have:=hR.1;omega,by have:=hR.1;omega⟩,hn,bag⟩
theorem pack_begin{n:Int}(hc:i<cn.length)(h2:cn.take i=cs.take i):(cn.set i n).take (i+1)=cs.take i++[n]:=by
 rw[List.take_add_one,List.take_set_of_le<|Nat.le_refl _,h2,List.getElem?_set_self hc];rfl
theorem pack_keep{c2:yLI}{n:Int}(h:c2.take (i+1)=(cn.set i n).take (i+1))(h2:cn.take i=cs.take i):c2.take i=cs.take i:=by
 have:=congrArg (List.take i) h
 rwa [List.take_take,List.take_take,Nat.min_eq_left qf,List.take_set_of_le<|Nat.le_refl _,h2] at this
theorem pack_stepI{out:yLL}(hf:i+f=ad.length)(hp:i<ad.length)(hc:cn.length=ad.length)(h2:cn.take i=cs.take i)
 (h:(gath out<|begins (cs.take i)<|yZ ad (f-1) i ai n).length<=2000):
 gath (gath out<|begins (cs.take i)<|yZ ad (f-1) i ai n) (begins ((cn.set i (n:Int)).take<|i+1)<|packs ad (ad.length-(i+1)) (i+1)<|jX ai (ad[i]!) (-(n:Int)))=gath out (begins (cs.take i)<|yZ ad (f-1) i ai<|n+1):=by
 rw[pack_begin qf h2,←gath_step h,show ad.length-(i+1)=f-1 by omega]
theorem pack_startI{out:yLL}(h:out.length<=2000):out=gath out (begins (cs.take i)<|yZ ad f i ai 0):=by
 rw[packsTo_zero];exact(gath_nil qf).symm
theorem pack_fullI{out:yLL}(hl:i=ad.length)(hc:cs.length=ad.length)(h:FullOk ad ai)(ho:out.length<=2000):
 gath out (begins (cs.take i)<|packs ad (ad.length-i) i ai)=out++[cs]:=by
 rw[show ad.length-i=0 by omega,packs_full h,begins_one,gath_one ho,List.take_of_length_le qf]
theorem pack_noneI{out:yLL}(hl:i=ad.length)(h:¬FullOk ad ai)(ho:out.length<=2000):
 gath out (begins (cs.take i)<|packs ad (ad.length-i) i ai)=out:=by
 rw[show ad.length-i=0 by omega,packs_none h];exact gath_nil qf
theorem pack_endI{out:yLL}(hf:i+f=ad.length)(hp:i<ad.length)(hn:(n:Int)<=jd (ad[i]!) ai+1)
 (h0:0<=jd (ad[i]!) ai) (h:¬(n:Int)<=jd (ad[i]!) ai\/¬(gath out<|begins (cs.take i)<|yZ ad (f-1) i ai n).length<=2000):
 gath out (begins (cs.take i)<|packs ad (ad.length-i) i ai)=gath out (begins (cs.take i)<|yZ ad (f-1) i ai n):=by
 obtain⟨f,rfl⟩:∃g,f=g+1:=⟨f-1,by omega⟩
 rw[show ad.length-i=f+1 by omega]
 rw[show f+1-1=f from rfl] at h ⊢
 exact(gath_end qf (by rcases h with h|h;(left;omega);(right;omega))).symm
theorem all_bI{b:yLI}(h:¬Xr b>16)(h1:(gath ([]:yLL)<|begins (cs.take 0)<|packs ad (ad.length-0) 0 b).length>2000):y5 b ad=([],3):=by
 rw[show cs.take 0=[] from rfl,begins_nil] at h1
 have h2:(packs ad ad.length 0 b).length>2000:=gath_all.1 h1
 rw[y5,if_neg h,if_pos h2]
theorem all_0I{b:yLI}(h:¬Xr b>16)(h1:¬(gath ([]:yLL)<|begins (cs.take 0)<|packs ad (ad.length-0) 0 b).length>2000):y5 b ad=(gath ([]:yLL)<|begins (cs.take 0)<|packs ad (ad.length-0) 0 b,0):=by
 rw[show cs.take 0=[] from rfl,begins_nil] at h1 ⊢
 have h2:¬(packs ad ad.length 0 b).length>2000:=fun h=>h1<|gath_all.2 h
 rw[y5,if_neg h,if_neg h2,show ad.length-0=ad.length from rfl,gath_few h2]
end
section
variable{cb : Nat}
theorem isBag_ok(w:World)(l:yLI){cl:Nat}(hl:zP w Fl al cl l):Calls Tryz.prog 229 #[Sv al l.length cl] w (Ret (fun v w'=>v=Bv (dec<|XZ l)) w):=by
 refine en func229 ntmps229 ?_
 have H:=(St.start w).arg hl
 clear hl
 refine zcr<|sp (Bv false)<|zjc<|sq 1<|sw<|oq (sizeI_ok _ l (H.get 0 rfl).1) H fun w1 H=>sq 1<|sw<|oq (V5 _ (l.length:Int) l (H.get 0 rfl).1) H fun w3 H=>sq 1<|zjr<|rH1 (Bv<|dec<|jm (l.length:Int) l) H ?_
 rw[dec_congr bagAny_okH]
theorem isFull_ok(w:World)(ai:yLI)(ad:yLL){bB:yOA}{bz:Nat}{dy:yLN}(wr:zP w dy bB bz ai)(bR:zP w aD vw zT ad)(p0:VV ad ai):Calls Tryz.prog 216 #[Sv bB ai.length bz,Sv vw ad.length zT] w (Ret (fun v w'=>v=Bv (dec<|FullOk ad ai)) w):=by
 refine en func216 ntmps216 ?_
 have H:=((St.start w).arg bR).arg wr
 have aj3:=qR wr
 have nu:=qR bR
 clear wr bR
 have N:=Fresh.nil w.heap.size
 refine zcr<|sw<|zN H [Sv bB ai.length bz] fun b1 w2 H=>sp (Bv false)<|zjc<|sq 1<|sp (.func (.func 227) #[] #[pp b1 0])<|sw<|zW #[Sv vw ad.length zT,.func (.func 227) #[] #[pp b1 0]] rfl rfl call97<|en func97 ntmps97 ?_
 refine zcr<|sp (Bv false)<|zjc<|sq 1<|sp (.func (.func 227) #[] #[pp b1 0])<|sw<|zW #[Sv vw ad.length zT,.func (.func 227) #[] #[pp b1 0]] rfl rfl call150<|en func150 ntmps150 ?_
 refine zcr<|sp (yI 0)<|zjcc<|sq 1<|oN rfl<|sp (yI 0)<|zjn<|xf<|zD ((fun Z0 Z1 Z2=>fun m' ρ w3=>∃(xN:Env) (i:Nat),ρ=upd (upd (upd (upd xN 0<|Sv vw ad.length zT) 1<|.func (.func 227) #[] #[pp b1 0]) 7<|yI ad.length) 8 (yI i)/\((i:Int)<=ad.length)/\(FullTo ad ai i)/\m'=(ad.length-(i:Int)).toNat/\Fresh w.heap.size []/\St w w3 [Z0] [Z1,Z2]) _ _ _) ((ad.length-(0:Int)).toNat) ⟨_,0,uE4,qf,(by exact fun j hj=>by omega),rfl,N,H⟩ ?_
 clear H N
 rintro m' ρ w4 ⟨xN,i,rfl,i0,i1,rfl,N,H⟩
 refine zcr<|sq 1<|zjn<|xU<|cD rfl (fun h5=>?_)<|fun h5=>?_
 ·obtain⟨t1,t2,t3,t4,t5⟩:=p0.times (k:=i) qf
  refine qZ<|t_n<|xU<|xf<|zcr<|sp (yI i)<|sp (yI i)<|zjc<|sp (.func (.func 227) #[] #[pp b1 0])<|sq 1<|sp (yI i) ?_
  obtain⟨b6,o7,rfl⟩:=H.addr 1 rfl qf
  obtain⟨ae9,ce9,Fe9,H⟩:=H.jo 1 rfl i i qf qf qf
  refine oI rfl rfl<|oL rfl (H.zo 1 rfl 0 rfl)<|sw<|zW #[Sv ae9 ((ad[i]!).length) ce9,pp b1 0] rfl rfl call227<|en func227 ntmps227 ?_
  refine zcr<|sp (Bv false)<|zjc<|sq 1<|oL rfl (H.cell 0 rfl rfl)<|sw<|oq (V7 _ (ad[i]!) ai (H.get 0 rfl).1 (H.get 2 rfl).1 qg qg) H fun ov H=>sq 1<|zjr<|ret1 (Bv<|within (ad[i]!) ai) rfl rfl ⟨_,rfl,(zjn<|zX _ rfl (fun cZ=>?_)<|fun cZ=>?_)⟩
  ·refine zcr (sp (yI i)<|sp (yI i)<|zjr<|zr5<|ret1 (yI i) rfl rfl ⟨_,rfl,(sw<|o_pure (Bv true) (by show some (Value.bool<|decide ((i:Int)>=0))=some (Value.bool true);rw[decide_eq_true qf])<|sp (Bv true)<|zjr<|ret1 (Bv true) rfl rfl ⟨_,rfl,(sp (Bv false)<|sp (Bv false)<|zjr<|rH1 (Bv false) H ?_)⟩)⟩)
   rw[xw (fun h=>by have:=h i qf;simp_all)]
  refine qZ<|b_n<|t_n<|xX<|sw<|zC i 1 rfl rfl qf<|sq 1<|xZ<|xh (m':=(ad.length-((i+1):Int)).toNat) qf ⟨_,i+1,uE4,?_,?_,rfl,N,H.pick [0] [2,3]⟩
  ·omega
  ·exact i1.succ ‹_›
 refine zx4<|zcr<|sq 1<|zjr<|ret1 (yI (-1)) rfl rfl ⟨_,rfl,(sp (Bv false)<|sp (Bv false)<|zjr<|ret1 (Bv false) rfl rfl ⟨_,rfl,(sp (Bv true)<|sp (Bv true)<|zjr<|rH1 (Bv true) H ?_)⟩)⟩
 rw[jP<|show FullOk ad ai from fun j hj=>i1 j qf]
theorem bagAndParts_ok(w:World)(b:yLI)(ad:yLL)(hb:zP w Fb ab cb b)(bR:zP w aD vw zT ad)(p0:VV ad b)(p1:1<=ad.length):Calls Tryz.prog 223 #[Sv ab b.length cb,Sv vw ad.length zT] w (Ret (fun v w'=>v=yI 0) w):=by
 refine en func223 ntmps223 ?_
 have H:=((St.start w).arg bR).arg hb
 have nu:=qR bR
 clear hb bR
 have N:=Fresh.nil w.heap.size
 obtain⟨pb,pl,pk⟩:=p0.bags p1
 refine zcr<|sp (yI 0)<|zjcc<|sq 1<|sw<|oq (isBag_ok _ b (H.get 0 rfl).1) H fun w2 H=>sq 1<|zjn<|cQ rfl (fun h4=>?_)<|fun h4=>?_
 ·refine zcr (sp (yI 1)<|zjr<|t_r<|rH1 (yI 1) H ?_)
  exfalso;exact ‹¬XZ _› pb
 refine qZ<|t_n<|zcr<|sq 1<|oN rfl<|sq 2<|oN rfl<|sw<|zq H underlying24 ti2 ad.length rfl rfl qf qf qf fun b5 w6 H=>sw<|zW #[yI b.length,Sv vw ad.length zT,Sv (aa b5 0) ad.length ad.length] rfl rfl call230<|en func230 ntmps230 ?_
 refine zcr<|sp (yI 0)<|zjcc<|sq 1<|sw<|zW #[Sv vw ad.length zT,.func (.func 231) #[] #[]] rfl rfl call97<|en func97 ntmps97 ?_
 refine zcr<|sp (Bv false)<|zjc<|sq 1<|sp (.func (.func 231) #[] #[])<|sw<|zW #[Sv vw ad.length zT,.func (.func 231) #[] #[]] rfl rfl call150<|en func150 ntmps150 ?_
 refine zcr<|sp (yI 0)<|zjcc<|sq 1<|oN rfl<|sp (yI 0)<|zjn<|xf<|zD ((fun Z0 Z1 Z2=>fun m' ρ w7=>∃(xN:Env) (i:Nat),ρ=upd (upd (upd (upd xN 0<|Sv vw ad.length zT) 1<|.func (.func 231) #[] #[]) 7<|yI ad.length) 8 (yI i)/\((i:Int)<=ad.length)/\(True)/\m'=(ad.length-(i:Int)).toNat/\Fresh w.heap.size []/\St w w7 [Z0] [Z1,Z2]) _ _ _) ((ad.length-(0:Int)).toNat) ⟨_,0,uE4,qf,(by trivial),rfl,N,H⟩ ?_
 clear H N
 rintro m' ρ w8 ⟨xN,i,rfl,i0,i1,rfl,N,H⟩
 refine zcr<|sq 1<|zjn<|xU<|cD rfl (fun h9=>?_)<|fun h9=>?_
 ·refine qZ (t_n<|xU<|xf<|zcr<|sp (yI i)<|sp (yI i)<|zjc<|sp (.func (.func 231) #[] #[])<|sq 1<|sp (yI i) ?_)
  obtain⟨g9,F7,rfl⟩:=H.addr 1 rfl qf
  obtain⟨Nd,MS,ad1,H⟩:=H.jo 1 rfl i i qf qf qf
  refine oI rfl rfl<|oL rfl (H.zo 1 rfl 0 rfl)<|sw<|zW #[Sv Nd ((ad[i]!).length) MS] rfl rfl call231<|en func231 ntmps231 ?_
  refine zcr<|sp (Bv false)<|zjc<|sq 1<|sw<|oq (isBag_ok _ (ad[i]!) (H.get 0 rfl).1) H fun uK H=>sq 2<|zjr<|ret1 (Bv (!(dec<|XZ<|ad[i]!))) rfl rfl ⟨_,rfl,(zjn<|cQ rfl (fun Cr=>?_)<|fun Cr=>?_)⟩
  ·exact absurd (pk i qf).1 Cr
  refine qZ<|b_n<|t_n<|xX<|sw<|zC i 1 rfl rfl qf<|sq 1<|xZ<|xh (m':=(ad.length-((i+1):Int)).toNat) qf ⟨_,i+1,uE4,?_,?_,rfl,N,H.pick [0] [2,3]⟩
  ·omega
  ·trivial
 refine zx4<|zcr<|sq 1<|zjr<|ret1 (yI (-1)) rfl rfl ⟨_,rfl,(sp (Bv false)<|sp (Bv false)<|zjr<|ret1 (Bv false) rfl rfl ⟨_,rfl,(zjn<|cFr rfl<|qZ<|t_n<|zcc<|sq 1<|oN rfl<|sp (Bv<|decide ((ad.length:Int)>8))<|sp (Bv<|decide ((ad.length:Int)>8)) ?_)⟩)⟩
 cases g8:(decide ((ad.length:Int)>8))
 ·replace g8:=of_decide_eq_false g8
  refine qP 14 rfl rfl<|sq 1<|qP 14 rfl rfl<|oN rfl<|qP 14 rfl rfl<|sq 1<|qP 14 rfl rfl<|oN rfl<|qP 14 rfl rfl<|sq 2<|zjn<|zX _ rfl (fun h=>absurd rfl<|bne_iff_ne.1 h)<|fun CI=>?_
  replace CI:=xA CI
  refine qZ<|t_n<|zcc<|sq 1<|oN rfl<|sp (yI 0)<|zjn<|xf<|zD ((fun Z0 Z1 Z2=>fun m' ρ tr=>∃(xN:Env) (az:Nat),ρ=upd (upd (upd (upd (upd xN 0<|yI b.length) 2<|Sv (aa b5 0) ad.length ad.length) 21<|Sv vw ad.length zT) 22<|yI ad.length) 23 (yI az)/\((az:Int)<=ad.length)/\m'=(ad.length-(az:Int)).toNat/\Fresh w.heap.size []/\St w tr [Z0] [Z1,Z2]) _ _ _) ((ad.length-(0:Int)).toNat) ⟨_,0,uE5,qf,rfl,N,H⟩ ?_
  clear H N
  rintro m' ρ G4 ⟨xN,az,rfl,i0,rfl,N,H⟩
  refine zcr<|sq 1<|zjn<|xU<|cD rfl (fun WF=>?_)<|fun WF=>?_
  ·obtain⟨r1,r2,r3⟩:=pk az qf
   have r4:=Qg r1
   have r5:(List.replicate ad.length (0:Int))[az]! =0:=by rw[getElem!_pos _ az qy];simp
   refine qZ<|t_n<|xU<|xf<|zcr<|sq 1 ?_
   obtain⟨zw,o24,rfl⟩:=H.addr 1 rfl qf
   obtain⟨alr,ano,amP,H⟩:=H.jo 1 rfl az az qf qf qf
   refine oI rfl rfl<|oL rfl (H.zo 1 rfl 0 rfl)<|sq 2<|zjc<|sq 1<|oN rfl<|sq 1<|sp (Bv (((ad[az]!).length:Int) != b.length))<|sp (Bv (((ad[az]!).length:Int) != b.length)) ?_
   cases mg:(((ad[az]!).length:Int) != b.length)
   ·replace mg:=xA mg
    refine qP 32 rfl rfl<|sq 1<|qP 32 rfl rfl<|sw<|oq (VE _ (ad[az]!) (H.get 0 rfl).1<|by assumption) H fun PE H=>qP 32 rfl rfl<|sp (Bv ((Xr (ad[az]!):Int) == 0))<|sp (Bv ((Xr (ad[az]!):Int) == 0))<|sp (Bv ((Xr (ad[az]!):Int) == 0)) ?_
    cases ID:((Xr (ad[az]!):Int) == 0)
    ·replace ID:=ne_of_beq_false ID
     refine qP 37 rfl rfl<|sq 1<|qP 37 rfl rfl<|sq 1<|qP 37 rfl rfl<|oI rfl rfl<|qP 37 rfl rfl<|oL rfl (H.Xb 0 rfl (iv:=az) (i:=az) qf qf)<|qP 37 rfl rfl<|sw<|oq (Xe PE ((List.replicate ad.length (0:Int))[az]!) 0 1000) H fun UZ H=>qP 37 rfl rfl<|sp (Bv (!(inR ((List.replicate ad.length (0:Int))[az]!) 0 1000)))<|sp (Bv (!(inR ((List.replicate ad.length (0:Int))[az]!) 0 1000)))<|zjn<|zX (!(inR ((List.replicate ad.length (0:Int))[az]!) 0 1000)) rfl (fun AS=>?_)<|fun AS=>?_
     ·replace AS:=x8 AS
      replace AS:=XG AS
      refine zcr<|sp (yI 2)<|zjr<|zr5<|ret1 (yI 2) rfl rfl ⟨_,rfl,(sp (yI 2)<|zjr<|rH1 (yI 2) H ?_)⟩
      exfalso;omega
     replace AS:=xO AS
     replace AS:=Q8.1 AS
     refine qZ<|b_n<|t_n<|xX<|sw<|zC az 1 rfl rfl qf<|sq 1<|xZ<|xh (m':=(ad.length-((az+1):Int)).toNat) qf ⟨_,az+1,uE5,?_,rfl,N,H.pick [0] [2,3]⟩
     ·omega
    replace ID:=eq_of_beq ID
    refine xY (zR 38 6)<|sp (Bv true)<|zjn<|cTr rfl<|zcr<|sp (yI 2)<|zjr<|zr5<|ret1 (yI 2) rfl rfl ⟨_,rfl,(sp (yI 2)<|zjr<|rH1 (yI 2) H ?_)⟩
    exfalso;omega
   replace mg:=bne_iff_ne.1 mg
   refine xY [33,34,35]<|sp (Bv true)<|sp (Bv true)<|xY (zR 38 6)<|sp (Bv true)<|zjn<|cTr rfl<|zcr<|sp (yI 2)<|zjr<|zr5<|ret1 (yI 2) rfl rfl ⟨_,rfl,(sp (yI 2)<|zjr<|rH1 (yI 2) H ?_)⟩
   exfalso;omega
  refine zx4<|zcr<|sp (yI 0)<|zjr<|ret1 (yI 0) rfl rfl ⟨_,rfl,(sp (yI 0)<|zjr<|rH1 (yI 0) H ?_)⟩
  rfl
 replace g8:=of_decide_eq_true g8
 refine xY (zR 15 5)<|sp (Bv true)<|zjn<|cTr rfl<|zcr<|sp (yI 2)<|zjr<|t_r<|ret1 (yI 2) rfl rfl ⟨_,rfl,(sp (yI 2)<|zjr<|rH1 (yI 2) H ?_)⟩
 exfalso;omega
def packFrom_ok_S(f:Nat):Prop:=∀ {W0 w:World} {ps:List Prv} {Γ:List Fact} {Ns:List yLN} (i:Nat) (ai:yLI) (ad:yLL) (out:yLL) (cs:yLI) (bB:yOA) (bz:Nat) (dy:yLN) (vw:yOA) (zT:Nat) (aD:yLN) (bp:Nat) (bi:Nat) (bq:Nat) (bo:Nat) (bl:Nat) (bc:Nat) (bf:Nat) (dh:yOA) (li:Nat) (de:Nat) (db:List Value) (aX:yLN) (pw:yOA) (yd:Nat) (nC:Nat) (H:St W0 w ((.box bp [Sv vw ad.length zT] 29)::(.box bi [.func (.func 215) #[] #[pp bq 0]] 126)::(.box bq [Sv vw ad.length zT] 29)::(.box bo [pp bl 0] 235)::(.box bl [Sv dh li de] 237)::(.box bc [Sv pw yd nC] 24)::(.box bf [.func (.func 224) #[] #[pp bp 0,pp bi 0,pp bo 0,pp bc 0,pp bf 0]] 238)::(rr dh li de 24 1 db)::(rr pw yd nC 2 1<|cs.map<|Value.int .i64)::ps) ((sF false dy bB bz ai)::(sF false aD vw zT ad)::(xG true aX db out)::Γ)) (N:Fresh W0.heap.size (aX::Ns)) (K0:Kept Ns Γ) (p0:i+f=ad.length) (p1:VV ad ai) (p2:out.length<=2000) (p3:cs.length=ad.length),Calls Tryz.prog 224 #[yI i,Sv bB ai.length bz,pp bp 0,pp bi 0,pp bo 0,pp bc 0,pp bf 0] w (fun e w'=>∃v,e=.returned v/\∃(SV:yLI) (fL:yOA) (fd:Nat) (fE:Nat) (fq:List Value) (fy:yLN),(SV.length=cs.length)/\(SV.take i=cs.take i)/\v=Bv (dec ((gath out<|begins (cs.take i)<|packs ad (ad.length-i) i ai).length<=2000))/\Fresh W0.heap.size (fy::Ns)/\St W0 w' ((.box bp [Sv vw ad.length zT] 29)::(.box bi [.func (.func 215) #[] #[pp bq 0]] 126)::(.box bq [Sv vw ad.length zT] 29)::(.box bo [pp bl 0] 235)::(.box bl [Sv fL fd fE] 237)::(.box bc [Sv pw yd nC] 24)::(.box bf [.func (.func 224) #[] #[pp bp 0,pp bi 0,pp bo 0,pp bc 0,pp bf 0]] 238)::(rr fL fd fE 24 1 fq)::(rr pw yd nC 2 1<|SV.map<|Value.int .i64)::ps) ((sF false dy bB bz ai)::(sF false aD vw zT ad)::(xG true fy fq<|gath out<|begins (cs.take i)<|packs ad (ad.length-i) i ai)::Γ))
theorem packFrom_ok_step(f:Nat)(IH:∀k,k<f->packFrom_ok_S k){W0:World}{ps:List Prv}{Ns:List yLN}(i:Nat)(ai:yLI)(ad:yLL)(out:yLL)(cs:yLI)(bB:yOA)(bz:Nat)(dy:yLN)(vw:yOA)(zT:Nat)(aD:yLN)(bp:Nat)(bi:Nat)(bq:Nat)(bo:Nat)(bl:Nat)(bc:Nat)(bf:Nat)(dh:yOA)(li:Nat)(de:Nat)(db:List Value)(aX:yLN)(pw:yOA)(yd:Nat)(nC:Nat)(H:St W0 w ((.box bp [Sv vw ad.length zT] 29)::(.box bi [.func (.func 215) #[] #[pp bq 0]] 126)::(.box bq [Sv vw ad.length zT] 29)::(.box bo [pp bl 0] 235)::(.box bl [Sv dh li de] 237)::(.box bc [Sv pw yd nC] 24)::(.box bf [.func (.func 224) #[] #[pp bp 0,pp bi 0,pp bo 0,pp bc 0,pp bf 0]] 238)::(rr dh li de 24 1 db)::(rr pw yd nC 2 1<|cs.map<|Value.int .i64)::ps) ((sF false dy bB bz ai)::(sF false aD vw zT ad)::(xG true aX db out)::Γ))(N:Fresh W0.heap.size (aX::Ns))(K0:Kept Ns Γ)(p0:i+f=ad.length)(p1:VV ad ai)(p2:out.length<=2000)(p3:cs.length=ad.length):Calls Tryz.prog 224 #[yI i,Sv bB ai.length bz,pp bp 0,pp bi 0,pp bo 0,pp bc 0,pp bf 0] w (fun e w'=>∃v,e=.returned v/\∃(SV:yLI) (fL:yOA) (fd:Nat) (fE:Nat) (fq:List Value) (fy:yLN),(SV.length=cs.length)/\(SV.take i=cs.take i)/\v=Bv (dec ((gath out<|begins (cs.take i)<|packs ad (ad.length-i) i ai).length<=2000))/\Fresh W0.heap.size (fy::Ns)/\St W0 w' ((.box bp [Sv vw ad.length zT] 29)::(.box bi [.func (.func 215) #[] #[pp bq 0]] 126)::(.box bq [Sv vw ad.length zT] 29)::(.box bo [pp bl 0] 235)::(.box bl [Sv fL fd fE] 237)::(.box bc [Sv pw yd nC] 24)::(.box bf [.func (.func 224) #[] #[pp bp 0,pp bi 0,pp bo 0,pp bc 0,pp bf 0]] 238)::(rr fL fd fE 24 1 fq)::(rr pw yd nC 2 1<|SV.map<|Value.int .i64)::ps) ((sF false dy bB bz ai)::(sF false aD vw zT ad)::(xG true fy fq<|gath out<|begins (cs.take i)<|packs ad (ad.length-i) i ai)::Γ)):=by
 refine en func224 ntmps224 ?_
 have aj4:=qR (H.get 1 rfl).1
 obtain rfl:=H.xQ (α:=yLI) 7 rfl 2 rfl qj
 obtain rfl:=H.jy 8 rfl
 have p4:=p1.small
 refine zcr<|sp (Bv false)<|zjcc<|sp (yI i)<|oL rfl (H.cell 0 rfl rfl)<|oN rfl<|sq 1<|zjn<|cE rfl (fun h1=>?_)<|fun h1=>?_
 ·refine zcr (oL rfl (H.cell 1 rfl rfl)<|sq 1<|sw<|zW #[Sv bB ai.length bz,pp bq 0] rfl rfl call215<|en func215 ntmps215 ?_)
  refine zcr<|sp (Bv false)<|zjc<|sq 1<|oL rfl (H.cell 2 rfl rfl)<|sw<|oq (isFull_ok _ ai ad (H.get 0 rfl).1 (H.get 1 rfl).1 qg) H fun w3 H=>sq 1<|zjr<|ret1 (Bv<|dec<|FullOk ad ai) rfl rfl ⟨_,rfl,(sp (Bv (!(dec<|FullOk ad ai)))<|sp (Bv (!(dec<|FullOk ad ai))) ?_)⟩
  cases h5:(!(dec (FullOk ad ai)))
  ·replace h5:=xO h5
   replace h5:=Qc h5
   refine qP 19 rfl rfl<|oL rfl (H.cell 3 rfl rfl)<|qP 19 rfl rfl<|oL rfl (H.cell 5 rfl rfl)<|qP 19 rfl rfl<|sw<|zW #[pp bl 0,Sv pw cs.length nC] rfl rfl call225<|en func225 ntmps225 ?_
   refine zcr<|sp (Bv false)<|zjcc<|sq 2<|oF rfl<|oL rfl (H.cell 4 rfl rfl)<|oN rfl<|sp (Bv<|decide ((out.length:Int)>2000))<|zjn<|cD rfl (fun h6=>?_)<|fun h6=>?_
   ·refine zcr (sp (Bv false)<|zjr<|t_r<|ret1 (Bv false) rfl rfl ⟨_,rfl,(sp (Bv false)<|sp (Bv false)<|zjr<|t_r<|ret1 (Bv false) rfl rfl ⟨_,rfl,?_⟩)⟩)
    exfalso;omega
   refine qZ<|t_n<|xU<|VD (fun ρ we=>∃(xN:Env) (a7:yOA) (c8:Nat) (a9:yOA) (Zu:Nat) (WU:yLN),ρ=upd xN 0 (pp bl 0)/\Fresh W0.heap.size ((aX++WU)::Ns)/\St W0 we ((.box bp [Sv vw ad.length zT] 29)::(.box bi [.func (.func 215) #[] #[pp bq 0]] 126)::(.box bq [Sv vw ad.length zT] 29)::(.box bo [pp bl 0] 235)::(.box bl [Sv a7 (out.length+1) c8] 237)::(.box bc [Sv pw cs.length nC] 24)::(.box bf [.func (.func 224) #[] #[pp bp 0,pp bi 0,pp bo 0,pp bc 0,pp bf 0]] 238)::(rr a7 (out.length+1) c8 24 1<|db++[Sv a9 cs.length Zu])::(rr pw cs.length nC 2 1<|cs.map<|Value.int .i64)::ps) ((xG true (aX++WU) (db++[Sv a9 cs.length Zu])<|out++[cs])::(sF true WU a9 Zu cs)::(sF false dy bB bz ai)::(sF false aD vw zT ad)::Γ)) ?_ ?_
   ·refine XT rfl H [0,1,2,3,5,6,8] [0,1,2] fun H=>?_
    have S:=H.jF [0,1,2,3,5,6,8] [0,1,2]
    refine rtl 0 S ?_
    refine rtl 1 S ?_
    refine rtl 2 S ?_
    refine tF 3 rfl rfl S ?_
    refine rtl 5 S ?_
    refine zY [4,6] qh qm<|vG rfl ?_<|vG rfl ?_ zZ
    ·refine zB (Sv dh out.length de) isAgg29 rfl (H.cell 4 rfl rfl) (⟨H.pick [0,1,2,3,5,6,8] [0,1,2],(ro 6 rfl ?_)⟩)
     obtain⟨G14,acC,FC⟩:=H.XB 8 rfl
     refine oc (cloneI_ok _ cs FC qg) ?_
     rintro v22 tr U0 x21
     replace H:=H.zO x21 U0
     obtain⟨a23,c24,rfl,aud,ayx⟩:=H.yc 0 rfl
     refine⟨H.pick [1,2,3,4,6,7,9] [0,1,2],(ro 7 rfl<|zl H underlying29 ti24 [Sv a23 cs.length c24] fun b27 PE H=>⟨H.pick [2,3,4,5,7,8,10] [0,1,2],(ro 8 rfl ?_)⟩)⟩
     obtain⟨G32,N,azr,H⟩:=H.zQ 1 rfl N<|fun F hF b hb=>(List.mem_append.1<|show F∈[aX]++Ns from hF).elim (fun h=>(H.vX (L:=[aX]) [2]) F h b hb) fun h=>H.XI (K0.behind 3 rfl) F h b hb
     dsimp only[List.set] at H
     refine zt H 9 rfl 0 rfl underlying29 ti24 rfl qj rfl rfl rfl qw qp qf fun UM Wm UZ H=>?_
     dsimp only[List.set] at H
     replace H:=H.yh 3 rfl 0 rfl
     replace N:Fresh W0.heap.size ((aX++G32)::Ns):=(N.vU 2 [1,0] qo).join
     refine⟨H.pick [2,3,4,5,7,8,10] [2,3,4],?_⟩
     have S:=H.jF [2,3,4,5,7,8,10] [2,3,4]
     refine rtl 9 S ?_
     refine tF 10 rfl rfl S ?_
     refine ro 11 rfl<|xn H 6 [Sv UM (out.length+1) Wm] sizeOf29 fun Gj H=>?_
     dsimp only[List.set] at H
     refine⟨H.pick [2,3,4,5,7,8,10] [2,3,4],(xC qh ((meet ⟨_,UM,Wm,a23,c24,G32,uE1,N,H.vU 11 5 (zR 2 9) (zR 0 4) qo qo⟩)))⟩
    obtain⟨G35,aAS,By⟩:=H.XB 8 rfl
    refine oc (cloneI_ok _ cs By qg) ?_
    rintro v43 SB r43 x42
    replace H:=H.zO x42 r43
    obtain⟨a44,c45,rfl,axh,ayw⟩:=H.yc 0 rfl
    refine⟨H.pick [1,2,3,4,6,7,9] [0,1,2],(zY [4,7] qh qm<|vG rfl ?_<|vG rfl ?_ zZ)⟩
    ·refine zB (Sv dh out.length de) isAgg29 rfl (H.cell 5 rfl rfl) (⟨H.pick [1,2,3,4,6,7,9] [0,1,2],(ro 7 rfl<|zl H underlying29 ti24 [Sv a44 cs.length c45] fun b48 OV H=>⟨H.pick [2,3,4,5,7,8,10] [0,1,2],(ro 8 rfl ?_)⟩)⟩)
     obtain⟨G53,N,aym,H⟩:=H.zQ 1 rfl N<|fun F hF b hb=>(List.mem_append.1<|show F∈[aX]++Ns from hF).elim (fun h=>(H.vX (L:=[aX]) [2]) F h b hb) fun h=>H.XI (K0.behind 3 rfl) F h b hb
     dsimp only[List.set] at H
     refine zt H 9 rfl 0 rfl underlying29 ti24 rfl qj rfl rfl rfl qw qp qf fun a50 c51 w52 H=>?_
     dsimp only[List.set] at H
     replace H:=H.yh 3 rfl 0 rfl
     replace N:Fresh W0.heap.size ((aX++G53)::Ns):=(N.vU 2 [1,0] qo).join
     refine⟨H.pick [2,3,4,5,7,8,10] [2,3,4],?_⟩
     have S:=H.jF [2,3,4,5,7,8,10] [2,3,4]
     refine rtl 9 S ?_
     refine tF 10 rfl rfl S ?_
     refine ro 11 rfl<|xn H 6 [Sv a50 (out.length+1) c51] sizeOf29 fun UR H=>?_
     dsimp only[List.set] at H
     refine⟨H.pick [2,3,4,5,7,8,10] [2,3,4],(xC qh ((meet ⟨_,a50,c51,a44,c45,G53,uE1,N,H.vU 11 5 (zR 2 9) (zR 0 4) qo qo⟩)))⟩
    refine zl H underlying29 ti24 [Sv a44 cs.length c45] fun Wf Lf H=>⟨H.pick [2,3,4,5,7,8,10] [0,1,2],(ro 4 rfl<|zB (Sv dh out.length de) isAgg29 rfl (H.cell 6 rfl rfl)<|⟨H.pick [2,3,4,5,7,8,10] [0,1,2],(ro 8 rfl ?_)⟩)⟩
    obtain⟨G61,N,Td,H⟩:=H.zQ 1 rfl N<|fun F hF b hb=>(List.mem_append.1<|show F∈[aX]++Ns from hF).elim (fun h=>(H.vX (L:=[aX]) [2]) F h b hb) fun h=>H.XI (K0.behind 3 rfl) F h b hb
    dsimp only[List.set] at H
    refine zt H 9 rfl 0 rfl underlying29 ti24 rfl qj rfl rfl rfl qw qp qf fun a58 c59 Sj H=>?_
    dsimp only[List.set] at H
    replace H:=H.yh 3 rfl 0 rfl
    replace N:Fresh W0.heap.size ((aX++G61)::Ns):=(N.vU 2 [1,0] qo).join
    refine⟨H.pick [2,3,4,5,7,8,10] [2,3,4],?_⟩
    have S:=H.jF [2,3,4,5,7,8,10] [2,3,4]
    refine rtl 9 S ?_
    refine tF 10 rfl rfl S ?_
    refine ro 11 rfl<|xn H 6 [Sv a58 (out.length+1) c59] sizeOf29 fun Wo H=>?_
    dsimp only[List.set] at H
    refine⟨H.pick [2,3,4,5,7,8,10] [2,3,4],(xC qh ((meet ⟨_,a58,c59,a44,c45,G61,uE1,N,H.vU 11 5 (zR 2 9) (zR 0 4) qo qo⟩)))⟩
   clear H N
   rintro ρ w64 ⟨xN,a7,c8,a9,Zu,WU,rfl,N,H⟩
   refine t_n<|zcr<|sq 2<|oF rfl<|oL rfl (H.cell 4 rfl rfl)<|oN rfl<|sp (Bv<|decide ((out.length+1:Int)<=2000))<|sp (Bv<|decide ((out.length+1:Int)<=2000))<|zjr<|ret1 (Bv<|decide ((out.length+1:Int)<=2000)) rfl rfl ⟨_,rfl,(sp (Bv<|decide ((out.length+1:Int)<=2000))<|sp (Bv<|decide ((out.length+1:Int)<=2000))<|zjr<|t_r<|ret1 (Bv<|decide ((out.length+1:Int)<=2000)) rfl rfl ⟨_,rfl,?_⟩)⟩
   rw[pack_fullI qf p3 ‹FullOk _ _› p2,show decide ((out.length+1:Int)<=2000)=dec ((out++[cs]).length<=2000) from dec_eq qy]
   exact⟨cs,a7,out.length+1,c8,db++[Value.slice a9 cs.length Zu],(aX++WU),(by rfl),(by rfl),rfl,N,H.vU 9 4 (zR 0 9) [2,3,0] qo qo⟩
  replace h5:=x8 h5
  replace h5:=vF h5
  refine xY [20,21,22]<|sp (Bv true)<|sp (Bv true)<|zjr<|t_r<|ret1 (Bv true) rfl rfl ⟨_,rfl,?_⟩
  rw[pack_noneI qf ‹_› p2,jP p2]
  exact⟨cs,dh,out.length,de,db,aX,(by rfl),(by rfl),rfl,N,H.vU 9 3 (zR 0 9) [0,1,2] qo qo⟩
 refine qZ<|t_n<|zcc<|sp (yI 0)<|zjn<|xf ?_
 obtain⟨t1,t2,t3,t4,t5,t6⟩:=p1.times (k:=i) qf
 refine zD ((fun Z0 Z1 Z2 Z3 Z4 Z5 Z6 Z7=>fun m' ρ LE=>∃(xN:Env) (n:Nat) (eK:yOA) (eI:Nat) (eM:Nat) (oJ:yLL) (eN:List Value) (XV:yLN) (z7:yLI),ρ=upd (upd (upd (upd (upd (upd xN 0<|yI i) 1<|Sv bB ai.length bz) 2<|pp bp 0) 5<|pp bc 0) 6<|pp bf 0) 10 (yI n)/\oJ=(gath out<|begins (cs.take i)<|yZ ad (f-1) i ai n)/\((n:Int)<=jd (ad[i]!) ai+1)/\(z7.length=ad.length)/\(z7.take i=cs.take i)/\((gath out<|begins (cs.take i)<|yZ ad (f-1) i ai n).length<=2000)/\m'=(jd (ad[i]!) ai+1-(n:Int)).toNat/\Fresh W0.heap.size (XV::Ns)/\St W0 LE (Z0::Z1::Z2::Z3::(.box bl [Sv eK eI eM] 237)::Z4::Z5::(rr eK eI eM 24 1 eN)::(rr pw cs.length nC 2 1<|z7.map<|Value.int .i64)::ps) (Z6::Z7::(xG true XV eN oJ)::Γ)) _ _ _ _ _ _ _ _) ((jd (ad[i]!) ai+1-(0:Int)).toNat) ⟨_,0,dh,out.length,de,out,db,aX,cs,uE6,(by exact pack_startI p2),qf,ql,(by rfl),(by rw[←pack_startI p2];exact p2),rfl,N,H⟩ ?_
 clear H N
 rintro m' ρ Hl ⟨xN,n,eK,eI,eM,oJ,eN,XV,z7,rfl,rfl,i0,j1,j2,j3,rfl,N,H⟩
 refine zcc<|sp (yI n)<|oL rfl (H.cell 0 rfl rfl)<|sp (yI i) ?_
 obtain⟨Kz,o68,rfl⟩:=H.addr 1 rfl qf
 obtain⟨aco,afO,apk,H⟩:=H.jo 1 rfl i i qf qf qf
 refine oI rfl rfl<|oL rfl (H.zo 1 rfl 0 rfl)<|sq 1 ?_
 obtain⟨t1,t2,t3,t4,t5,t6⟩:=p1.times (k:=i) qf
 refine sw<|oq (timesIn_ok _ (ad[i]!) ai (H.get 0 rfl).1 (H.get 2 rfl).1 qg qg) H fun I4 H=>sq 1<|zjn<|cD rfl (fun Ow=>?_)<|fun Ow=>?_
 ·refine qZ (t_n<|xU<|xf<|zcr<|oL rfl (H.cell 5 rfl rfl)<|sp (yI i)<|sp (yI n) ?_)
  obtain⟨b75,rfl⟩:=H.jR 8 rfl qf
  refine oI rfl rfl<|sw<|Qe H 8 rfl n sizeOf2 rfl rfl (i:=i) qf qf fun w76 H=>?_
  dsimp only[List.set] at H
  refine zjn<|xU<|XT rfl H [0,1,2,3,5,6] [0,1,2,3] fun H=>?_
  have S:=H.jF [0,1,2,3,5,6]<|zR 0 4
  refine tL 0 rfl rfl (fun _ h=>h.cell 5 rfl rfl) S ?_
  refine rtp 1 (yI i) S ?_
  refine rt 2 _ (y_add i 1 rfl rfl qf) S ?_
  refine rtl 3 S ?_
  refine tL 4 rfl rfl (fun _ h=>h.cell 0 rfl rfl) S ?_
  refine rtp 5 (yI i) S ?_
  refine tI 6 rfl rfl rfl S ?_
  refine tL 7 rfl rfl (fun _ h=>h.zo 1 rfl 0 rfl) S ?_
  refine rtp 8 (yI n) S ?_
  refine rt 9 _ (y_neg n rfl qf) S ?_
  refine ro 10 rfl ?_
  obtain⟨u1,u2,u3,u4⟩:=p1.plus (k:=i) qf (n:=(n:Int)) qf qf
  refine oc (plus_ok _ ai (ad[i]!) (-n) (H.get 2 rfl).1 (H.get 0 rfl).1 qg qg qg) ?_
  rintro v83 w81 r83 x82
  replace H:=H.zO x82 r83
  obtain⟨a84,c85,rfl,avM,aux⟩:=H.yc 0 rfl
  refine⟨H.pick [1,2,3,4,6,7]<|zR 0 4,(ro 11 rfl ?_)⟩
  obtain⟨Vi,N,ax5,H⟩:=H.zQ 0 rfl N<|fun F hF b hb=>(List.mem_append.1<|show F∈[XV]++Ns from hF).elim (fun h=>(H.vX (L:=[XV]) [4]) F h b hb) fun h=>H.XI (K0.behind 5 rfl) F h b hb
  dsimp only[List.set] at H
  replace H:=H.unfreeI 0 rfl
  have H1:=H.y9 10 7 [1,2,3,4,5,6,7,8,9,0] [0,5,6,0,1,2,3,4] qo qo
  have N1:Fresh _ (XV::Vi::Ns):=(N.vU 2 [1,0] qo)
  have K1:Kept (Ns) ((sF false Vi a84 c85<|jX ai (ad[i]!) (-n))::(sF true Vi a84 c85<|jX ai (ad[i]!) (-n))::(sF false apk aco afO<|ad[i]!)::(atF Kz (o68+(i:Int).toNat*1) [Sv aco ((ad[i]!).length) afO])::(sF false dy bB bz ai)::Γ):=K0.behind 5 rfl
  replace K1:=K1.cons (F:=Vi) 0 rfl rfl
  refine ve #[yI<|i+1,Sv a84 ((jX ai (ad[i]!) (-n)).length) c85,pp bp 0,pp bi 0,pp bo 0,pp bc 0,pp bf 0] rfl rfl call224 (IH (f-1) qf (i+1) (jX ai (ad[i]!) (-n)) ad (gath out<|begins (cs.take i)<|yZ ad (f-1) i ai n) (z7.set i n) a84 c85 Vi (aa Kz o68) zT aD bp bi bq bo bl bc bf eK eI eM eN XV (aa b75 0) cs.length nC H1 N1 K1 qf (by assumption) (by assumption)<|by(rw[List.length_set];exact j1)) ?_
  clear H H1 N1 K1
  rintro _ KV ⟨AM,anC,azw,an1,al0,amr,T2,A0,rfl,N,H⟩
  obtain rfl:=H.xQ (α:=yLI) 7 rfl 2 rfl qj
  refine⟨H.pick [0,1,2,3,5,6] [5,6,7,1],(rtp 12 (Bv (!(dec ((gath (gath out<|begins (cs.take i)<|yZ ad (f-1) i ai n)<|begins ((z7.set i n).take<|i+1)<|packs ad (ad.length-(i+1)) (i+1)<|jX ai (ad[i]!) (-n)).length<=2000)))) (H.pick [0,1,2,3,5,6] [5,6,7,1]) ?_)⟩
  refine xC qh<|t_n<|cQ rfl (fun Ch=>?_)<|fun Ch=>?_
  ·refine zcr (sp (Bv false)<|zjr<|zr5<|ret1 (Bv false) rfl rfl ⟨_,rfl,?_⟩)
   have e1:=pack_stepI (out:=out) p0 qf j1 j2 j3
   have e2:=‹¬(gath (gath _ _) _).length<=2000›
   rw[e1] at e2
   rw[pack_endI (n:=n+1) p0 qf qf qf<|.inr e2,←e1,xw<|by rw[e1];exact e2]
   exact⟨AM,anC,(gath (gath out<|begins (cs.take i)<|yZ ad (f-1) i ai n)<|begins ((z7.set i n).take<|i+1)<|packs ad (ad.length-(i+1)) (i+1)<|jX ai (ad[i]!) (-n)).length,an1,al0,amr,(by(have:=‹_=(List.set _ _ _).length›;rw[List.length_set] at this;omega)),(by exact pack_keep ‹_› j2),rfl,(N.vU 2 [0] qo),H.vU 10 8 (zR 0 9) [7,1,2] qo qo⟩
  refine qZ<|b_n<|t_n<|xX<|sp (yI n)<|sw<|zC n 1 rfl rfl qf<|sq 1<|xZ<|xh (m':=(jd (ad[i]!) ai+1-((n+1):Int)).toNat) qf ⟨_,n+1,_,_,_,_,_,_,_,uE6,?_,?_,?_,?_,?_,rfl,(N.vU 2 [0] qo),H.vU 10 8 (zR 0 9) [7,1,2] qo qo⟩
  ·exact pack_stepI p0 qf j1 j2 j3
  ·omega
  ·have:=‹_=(List.set _ _ _).length›;rw[List.length_set] at this;omega
  ·exact pack_keep ‹_› j2
  ·rw[←pack_stepI p0 qf j1 j2 j3];assumption
 refine zx4<|zcr<|sp (Bv true)<|zjr<|ret1 (Bv true) rfl rfl ⟨_,rfl,?_⟩
 rw[pack_endI (f:=f) (n:=n) p0 qf i0 qf<|.inl qf,jP j3]
 exact⟨z7,eK,eI,eM,eN,XV,(by omega),(by assumption),rfl,N,H.vU 9 5 (zR 0 9) [2,3,4] qo qo⟩
theorem packFrom_ok(f:Nat):packFrom_ok_S f:=Nat.strongRecOn (motive:=packFrom_ok_S) f fun f IH=>by unfold packFrom_ok_S;intros;apply packFrom_ok_step f IH <;> assumption
theorem maxPack_ok(w:World)(b:yLI)(ad:yLL)(hb:zP w Fb ab cb b)(bR:zP w aD vw zT ad)(p0:VV ad b)(p1:1<=ad.length):Calls Tryz.prog 196 #[Sv ab b.length cb,Sv vw ad.length zT] w (Ret (fun v w'=>∃(iI:yOA) (pJ:Nat) (iB:Nat) (re:List Value) (iP:yLN),v=.tuple #[Sv iI pJ iB,yI ((y5 b ad).2)]/\Fresh w.heap.size [iP]/\St w w' [rr iI pJ iB 24 1 re] [xG true iP re ((y5 b ad).1)]) w):=by
 refine en func196 ntmps196 ?_
 have H:=((St.start w).arg bR).arg hb
 have nu:=qR bR
 clear hb bR
 have N:=Fresh.nil w.heap.size
 have p3:=p0.small
 have p4:=p0.smallB
 refine zcr<|sw<|zN H [Sv vw ad.length zT] fun b1 w2 H=>sq 1<|sp (yI 0)<|zjc<|sq 1<|oL rfl (H.cell 0 rfl rfl)<|sp (.func (.func 215) #[] #[pp b1 0])<|sw<|zW #[Sv ab b.length cb,Sv vw ad.length zT,.func (.func 215) #[] #[pp b1 0]] rfl rfl call214<|en func214 ntmps214 ?_
 refine zcr<|sw<|zN H [Sv vw ad.length zT] fun b3 w4 H=>sw<|zN H [.func (.func 215) #[] #[pp b1 0]] fun b5 w6 H=>sq 1<|sp (yI 0)<|zjcc<|sq 1<|oL rfl (H.cell 1 rfl rfl)<|sw<|oq (bagAndParts_ok _ b ad (H.get 0 rfl).1 (H.get 1 rfl).1 qg qg) H fun w8 H=>sp (yI 0)<|zjc<|sp (yI 0)<|sp (Bv false)<|zjn<|cFr rfl<|qZ<|t_n<|zcc<|sq 1<|sw<|oq (VE _ b (H.get 0 rfl).1<|by assumption) H fun ov H=>sp (Bv<|decide ((Xr b:Int)>16))<|zjn<|cD rfl (fun cZ=>?_)<|fun cZ=>?_
 ·refine zcr (sq 1<|sp (yI 3)<|zjr<|t_r<|ret2 yN (yI 3) rfl rfl rfl ⟨_,rfl,?_⟩)
  replace H:=H.erases [1,0]
  dsimp only[zU,List.eraseIdx] at H
  refine sq 1<|sp (yI 3)<|sq 1<|sp (yI 3)<|zjr ?_
  replace H:=H.nilRow 24 1
  replace H:=H.vP (α:=yLI)
  refine ret2 yN (yI 3) rfl rfl rfl ⟨_,rfl,?_,H.base⟩
  rw[all_a ql]
  exact⟨none,0,0,[],[],rfl,N.emp,H.pick [0] [0]⟩
 refine qZ<|t_n<|xU<|VD (fun ρ GW=>∃(xN:Env) (HT:Nat) (e9:Nat) (Fo:Nat) (m1:Nat),ρ=upd (upd (upd (upd (upd xN 0<|Sv ab b.length cb) 4<|pp b3 0) 5<|pp b5 0) 9<|pp HT 0) 10 (pp e9 0)/\Fresh w.heap.size []/\St w GW [.box e9 [Sv (aa Fo 0) ad.length ad.length] 24,.box HT [pp m1 0] 235,rr (aa Fo 0) ad.length ad.length 2 1 ((List.replicate ad.length (0:Int)).map<|Value.int .i64),.box m1 [yN] 237,.box b5 [.func (.func 215) #[] #[pp b1 0]] 126,.box b3 [Sv vw ad.length zT] 29,.box b1 [Sv vw ad.length zT] 29] [sF false Fb ab cb b,sF false aD vw zT ad]) ?_ ?_
 ·refine ji rfl H fun H=>?_
  refine yL (fun ρ Cz=>∃(xN:Env) (gO:Nat) (Kq:Nat) (pg:Nat),ρ=upd (upd (upd (upd (upd (upd (upd xN 0<|Sv ab b.length cb) 4<|pp b3 0) 5<|pp b5 0) 9<|pp Kq 0) 10<|pp pg 0) 22<|pp gO 0) 24 (yI ad.length)/\Fresh w.heap.size []/\St w Cz [.box pg [yN] 24,.box Kq [.pointer none] 235,.box gO [yN] 237,.box b5 [.func (.func 215) #[] #[pp b1 0]] 126,.box b3 [Sv vw ad.length zT] 29,.box b1 [Sv vw ad.length zT] 29] [sF false Fb ab cb b,sF false aD vw zT ad]) 3 #[true,true,true,true,false,true,true,false,false] ?_ fun L22=>?_
  ·rintro ρ Ks ⟨xN,gO,Kq,pg,rfl,N,H⟩
   refine zY [4,7] qh qm<|vG rfl ?_<|vG rfl ?_ zZ
   ·refine zq H underlying24 ti2 ad.length rfl rfl qf qf qf fun Tn BP H=>⟨H.pick [4,5,6] [0,1],(ro 7 rfl<|xn H 2 [pp gO 0] sizeOf235 fun BA H=>⟨H.pick [4,5,6] [0,1],(ro 8 rfl<|xn H 1 [Sv (aa Tn 0) ad.length ad.length] sizeOf24 fun PE H=>⟨H.pick [4,5,6] [0,1],(xC qh ((meet ⟨_,Kq,pg,Tn,gO,uE5,N,H.pick [1,2,0,3,4,5,6] [0,1]⟩)))⟩)⟩)⟩
   refine xn H 1 [pp gO 0] sizeOf235 fun GZ H=>⟨H.pick [3,4,5] [0,1],(ro 4 rfl<|zq H underlying24 ti2 ad.length rfl rfl qf qf qf fun RP UZ H=>⟨H.pick [4,5,6] [0,1],(ro 8 rfl<|xn H 1 [Sv (aa RP 0) ad.length ad.length] sizeOf24 fun G6 H=>⟨H.pick [4,5,6] [0,1],(xC qh ((meet ⟨_,Kq,pg,RP,gO,uE5,N,H.pick [1,2,0,3,4,5,6] [0,1]⟩)))⟩)⟩)⟩
  refine yL (fun ρ Gy=>∃(xN:Env) (mX:Nat) (mV:Nat),ρ=upd (upd (upd (upd (upd xN 0<|Sv ab b.length cb) 4<|pp b3 0) 5<|pp b5 0) 22<|pp mX 0) 25 (Sv (aa mV 0) ad.length ad.length)/\Fresh w.heap.size []/\St w Gy [rr (aa mV 0) ad.length ad.length 2 1 ((List.replicate ad.length (0:Int)).map<|Value.int .i64),.box mX [yN] 237,.box b5 [.func (.func 215) #[] #[pp b1 0]] 126,.box b3 [Sv vw ad.length zT] 29,.box b1 [Sv vw ad.length zT] 29] [sF false Fb ab cb b,sF false aD vw zT ad]) 4 #[true,true,true,true,true,false,false,false,false] ?_ fun L35=>?_
  ·rintro ρ Jk ⟨xN,mX,mV,rfl,N,H⟩
   refine zY [5,6] qh qm<|vG rfl ?_<|vG rfl ?_ zZ
   ·refine xg H ti235 [.pointer none] fun ow BG H=>⟨H.pick [3,4,5] [0,1],(ro 6 rfl<|xg H ti24 [yN] fun RJ SB H=>⟨H.pick [4,5,6] [0,1],(ro 7 rfl<|xn H 1 [pp mX 0] sizeOf235 fun KE H=>⟨H.pick [4,5,6] [0,1],(ro 8 rfl<|xn H 0 [Sv (aa mV 0) ad.length ad.length] sizeOf24 fun KQ H=>⟨H.pick [4,5,6] [0,1],(xC qh ((meet ⟨_,ow,RJ,mV,mX,uE5,N,H⟩)))⟩)⟩)⟩)⟩
   refine xg H ti24 [yN] fun Kg LQ H=>⟨H.pick [3,4,5] [0,1],(ro 5 rfl<|xg H ti235 [.pointer none] fun Uh Wc H=>⟨H.pick [4,5,6] [0,1],(ro 7 rfl<|xn H 0 [pp mX 0] sizeOf235 fun Lc H=>⟨H.pick [4,5,6] [0,1],(ro 8 rfl<|xn H 1 [Sv (aa mV 0) ad.length ad.length] sizeOf24 fun OV H=>⟨H.pick [4,5,6] [0,1],(xC qh ((meet ⟨_,Uh,Kg,mV,mX,uE5,N,H.pick (1::0::zR 2 5) [0,1]⟩)))⟩)⟩)⟩)⟩
  refine yL (fun ρ LJ=>∃(xN:Env) (WG:Nat) (KA:Nat),ρ=upd (upd (upd (upd (upd (upd xN 0<|Sv ab b.length cb) 4<|pp b3 0) 5<|pp b5 0) 9<|pp KA 0) 22<|pp WG 0) 24 (yI ad.length)/\Fresh w.heap.size []/\St w LJ [.box KA [.pointer none] 235,.box WG [yN] 237,.box b5 [.func (.func 215) #[] #[pp b1 0]] 126,.box b3 [Sv vw ad.length zT] 29,.box b1 [Sv vw ad.length zT] 29] [sF false Fb ab cb b,sF false aD vw zT ad]) 4 #[true,true,true,true,false,true,false,false,false] ?_ fun L52=>?_
  ·rintro ρ WP ⟨xN,WG,KA,rfl,N,H⟩
   refine zY [4,6] qh qm<|vG rfl ?_<|vG rfl ?_ zZ
   ·refine zq H underlying24 ti2 ad.length rfl rfl qf qf qf fun b55 G3 H=>⟨H.pick [3,4,5] [0,1],(ro 6 rfl<|xg H ti24 [yN] fun b57 Ny H=>⟨H.pick [4,5,6] [0,1],(ro 7 rfl<|xn H 2 [pp WG 0] sizeOf235 fun N9 H=>⟨H.pick [4,5,6] [0,1],(ro 8 rfl<|xn H 0 [Sv (aa b55 0) ad.length ad.length] sizeOf24 fun Sj H=>⟨H.pick [4,5,6] [0,1],(xC qh ((meet ⟨_,KA,b57,b55,WG,uE5,N,H.pick [0,2,1,3,4,5,6] [0,1]⟩)))⟩)⟩)⟩)⟩
   refine xg H ti24 [yN] fun OA GT H=>⟨H.pick [3,4,5] [0,1],(jq L22 ⟨_,WG,KA,OA,uE7,N,H⟩)⟩
  refine yL (fun ρ Hl=>∃(xN:Env) (Uu:Nat) (LH:Nat),ρ=upd (upd (upd (upd (upd (upd xN 0<|Sv ab b.length cb) 4<|pp b3 0) 5<|pp b5 0) 10<|pp LH 0) 22<|pp Uu 0) 24 (yI ad.length)/\Fresh w.heap.size []/\St w Hl [.box LH [yN] 24,.box Uu [yN] 237,.box b5 [.func (.func 215) #[] #[pp b1 0]] 126,.box b3 [Sv vw ad.length zT] 29,.box b1 [Sv vw ad.length zT] 29] [sF false Fb ab cb b,sF false aD vw zT ad]) 4 #[true,true,true,true,false,false,true,false,false] ?_ fun L65=>?_
  ·rintro ρ w67 ⟨xN,Uu,LH,rfl,N,H⟩
   refine zY [4,5] qh qm<|vG rfl ?_<|vG rfl ?_ zZ
   ·refine zq H underlying24 ti2 ad.length rfl rfl qf qf qf fun b68 KF H=>⟨H.pick [3,4,5] [0,1],(ro 5 rfl<|xg H ti235 [.pointer none] fun OE LL H=>⟨H.pick [4,5,6] [0,1],(ro 7 rfl<|xn H 0 [pp Uu 0] sizeOf235 fun I4 H=>⟨H.pick [4,5,6] [0,1],(ro 8 rfl<|xn H 2 [Sv (aa b68 0) ad.length ad.length] sizeOf24 fun N5 H=>⟨H.pick [4,5,6] [0,1],(xC qh ((meet ⟨_,OE,LH,b68,Uu,uE5,N,H.pick [2,0,1,3,4,5,6] [0,1]⟩)))⟩)⟩)⟩)⟩
   refine xg H ti235 [.pointer none] fun Wx V2 H=>⟨H.pick [3,4,5] [0,1],(jq L22 ⟨_,Uu,Wx,LH,uE7,N,H.pick [1,0,2,3,4,5] [0,1]⟩)⟩
  refine yL (fun ρ NB=>∃(xN:Env) (ER:Nat) (Bt:Nat),ρ=upd (upd (upd (upd (upd (upd xN 0<|Sv ab b.length cb) 4<|pp b3 0) 5<|pp b5 0) 9<|pp Bt 0) 21<|.agg #[yN]) 25 (Sv (aa ER 0) ad.length ad.length)/\Fresh w.heap.size []/\St w NB [.box Bt [.pointer none] 235,rr (aa ER 0) ad.length ad.length 2 1 ((List.replicate ad.length (0:Int)).map<|Value.int .i64),.box b5 [.func (.func 215) #[] #[pp b1 0]] 126,.box b3 [Sv vw ad.length zT] 29,.box b1 [Sv vw ad.length zT] 29] [sF false Fb ab cb b,sF false aD vw zT ad]) 4 #[true,false,true,true,true,true,false,false,false] ?_ fun L78=>?_
  ·rintro ρ TX ⟨xN,ER,Bt,rfl,N,H⟩
   refine zY [1,6] qh qm<|vG rfl ?_<|vG rfl ?_ zZ
   ·refine zN H [yN] fun b81 w82 H=>⟨H.pick [3,4,5] [0,1],(ro 6 rfl<|xg H ti24 [yN] fun Bq KD H=>⟨H.pick [4,5,6] [0,1],(ro 7 rfl<|xn H 2 [pp b81 0] sizeOf235 fun w85 H=>⟨H.pick [4,5,6] [0,1],(ro 8 rfl<|xn H 0 [Sv (aa ER 0) ad.length ad.length] sizeOf24 fun w86 H=>⟨H.pick [4,5,6] [0,1],(xC qh ((meet ⟨_,Bt,Bq,ER,b81,uE5,N,H.pick [0,2,3,1,4,5,6] [0,1]⟩)))⟩)⟩)⟩)⟩
   refine xg H ti24 [yN] fun xr OM H=>⟨H.pick [3,4,5] [0,1],(ro 1 rfl<|zN H [yN] fun Ga KV H=>⟨H.pick [4,5,6] [0,1],(ro 7 rfl<|xn H 2 [pp Ga 0] sizeOf235 fun MV H=>⟨H.pick [4,5,6] [0,1],(ro 8 rfl<|xn H 1 [Sv (aa ER 0) ad.length ad.length] sizeOf24 fun w92 H=>⟨H.pick [4,5,6] [0,1],(xC qh ((meet ⟨_,Bt,xr,ER,Ga,uE5,N,H.pick [1,2,3,0,4,5,6] [0,1]⟩)))⟩)⟩)⟩)⟩
  refine yL (fun ρ WY=>∃(xN:Env) (GM:Nat) (TC:Nat),ρ=upd (upd (upd (upd (upd (upd xN 0<|Sv ab b.length cb) 4<|pp b3 0) 5<|pp b5 0) 10<|pp TC 0) 21<|.agg #[yN]) 25 (Sv (aa GM 0) ad.length ad.length)/\Fresh w.heap.size []/\St w WY [.box TC [yN] 24,rr (aa GM 0) ad.length ad.length 2 1 ((List.replicate ad.length (0:Int)).map<|Value.int .i64),.box b5 [.func (.func 215) #[] #[pp b1 0]] 126,.box b3 [Sv vw ad.length zT] 29,.box b1 [Sv vw ad.length zT] 29] [sF false Fb ab cb b,sF false aD vw zT ad]) 4 #[true,false,true,true,true,false,true,false,false] ?_ fun L95=>?_
  ·rintro ρ NP ⟨xN,GM,TC,rfl,N,H⟩
   refine zY [1,5] qh qm<|vG rfl ?_<|vG rfl ?_ zZ
   ·refine zN H [yN] fun PD Lu H=>⟨H.pick [3,4,5] [0,1],(ro 5 rfl<|xg H ti235 [.pointer none] fun afA LO H=>⟨H.pick [4,5,6] [0,1],(ro 7 rfl<|xn H 0 [pp PD 0] sizeOf235 fun xc H=>⟨H.pick [4,5,6] [0,1],(ro 8 rfl<|xn H 2 [Sv (aa GM 0) ad.length ad.length] sizeOf24 fun Iz H=>⟨H.pick [4,5,6] [0,1],(xC qh ((meet ⟨_,afA,TC,GM,PD,uE5,N,H.pick [2,0,3,1,4,5,6] [0,1]⟩)))⟩)⟩)⟩)⟩
   refine xg H ti235 [.pointer none] fun TS Gi H=>⟨H.pick [3,4,5] [0,1],(ro 1 rfl<|zN H [yN] fun acR aub H=>⟨H.pick [4,5,6] [0,1],(ro 7 rfl<|xn H 1 [pp acR 0] sizeOf235 fun LF H=>⟨H.pick [4,5,6] [0,1],(ro 8 rfl<|xn H 2 [Sv (aa GM 0) ad.length ad.length] sizeOf24 fun Mf H=>⟨H.pick [4,5,6] [0,1],(xC qh ((meet ⟨_,TS,TC,GM,acR,uE5,N,H.pick [2,1,3,0,4,5,6] [0,1]⟩)))⟩)⟩)⟩)⟩
  refine yL (fun ρ Aw=>∃(xN:Env) (FG:Nat) (ya:Nat),ρ=upd (upd (upd (upd (upd (upd (upd xN 0<|Sv ab b.length cb) 4<|pp b3 0) 5<|pp b5 0) 9<|pp FG 0) 10<|pp ya 0) 21<|.agg #[yN]) 24 (yI ad.length)/\Fresh w.heap.size []/\St w Aw [.box ya [yN] 24,.box FG [.pointer none] 235,.box b5 [.func (.func 215) #[] #[pp b1 0]] 126,.box b3 [Sv vw ad.length zT] 29,.box b1 [Sv vw ad.length zT] 29] [sF false Fb ab cb b,sF false aD vw zT ad]) 4 #[true,false,true,true,false,true,true,false,false] ?_ fun TV=>?_
  ·rintro ρ Lz ⟨xN,FG,ya,rfl,N,H⟩
   refine zY [1,4] qh qm<|vG rfl ?_<|vG rfl ?_ zZ
   ·refine zN H [yN] fun As oe H=>⟨H.pick [3,4,5] [0,1],(jq L22 ⟨_,As,FG,ya,uE7,N,H.pick [1,2,0,3,4,5] [0,1]⟩)⟩
   refine zq H underlying24 ti2 ad.length rfl rfl qf qf qf fun Gt Tk H=>⟨H.pick [3,4,5] [0,1],(ro 1 rfl<|zN H [yN] fun wS afw H=>⟨H.pick [4,5,6] [0,1],(ro 7 rfl<|xn H 3 [pp wS 0] sizeOf235 fun Fg H=>⟨H.pick [4,5,6] [0,1],(ro 8 rfl<|xn H 2 [Sv (aa Gt 0) ad.length ad.length] sizeOf24 fun SL H=>⟨H.pick [4,5,6] [0,1],(xC qh ((meet ⟨_,FG,ya,Gt,wS,uE5,N,H.pick [2,3,1,0,4,5,6] [0,1]⟩)))⟩)⟩)⟩)⟩
  refine yL (fun ρ J3=>∃(xN:Env) (E7:Nat),ρ=upd (upd (upd (upd (upd xN 0<|Sv ab b.length cb) 4<|pp b3 0) 5<|pp b5 0) 21<|.agg #[yN]) 25 (Sv (aa E7 0) ad.length ad.length)/\Fresh w.heap.size []/\St w J3 [rr (aa E7 0) ad.length ad.length 2 1 ((List.replicate ad.length (0:Int)).map<|Value.int .i64),.box b5 [.func (.func 215) #[] #[pp b1 0]] 126,.box b3 [Sv vw ad.length zT] 29,.box b1 [Sv vw ad.length zT] 29] [sF false Fb ab cb b,sF false aD vw zT ad]) 5 #[true,false,true,true,true,false,false,false,false] ?_ fun aew=>?_
  ·rintro ρ FM ⟨xN,E7,rfl,N,H⟩
   refine zY [1,5,6] qh qm<|vG rfl ?_<|vG rfl ?_<|vG rfl ?_ zZ
   ·refine zN H [yN] fun aoS Za H=>⟨H.pick [2,3,4] [0,1],(jq L35 ⟨_,aoS,E7,uE5,N,H.pick [1,0,2,3,4] [0,1]⟩)⟩
   ·refine xg H ti235 [.pointer none] fun amY RO H=>⟨H.pick [2,3,4] [0,1],(jq L78 ⟨_,E7,amY,uE6,N,H⟩)⟩
   refine xg H ti24 [yN] fun gS Zk H=>⟨H.pick [2,3,4] [0,1],(jq L95 ⟨_,E7,gS,uE6,N,H⟩)⟩
  refine yL (fun ρ A8=>∃(xN:Env) (gt:Nat),ρ=upd (upd (upd (upd (upd (upd xN 0<|Sv ab b.length cb) 4<|pp b3 0) 5<|pp b5 0) 9<|pp gt 0) 21<|.agg #[yN]) 24 (yI ad.length)/\Fresh w.heap.size []/\St w A8 [.box gt [.pointer none] 235,.box b5 [.func (.func 215) #[] #[pp b1 0]] 126,.box b3 [Sv vw ad.length zT] 29,.box b1 [Sv vw ad.length zT] 29] [sF false Fb ab cb b,sF false aD vw zT ad]) 5 #[true,false,true,true,false,true,false,false,false] ?_ fun agu=>?_
  ·rintro ρ agV ⟨xN,gt,rfl,N,H⟩
   refine zY [1,4,6] qh qm<|vG rfl ?_<|vG rfl ?_<|vG rfl ?_ zZ
   ·refine zN H [yN] fun pd ZB H=>⟨H.pick [2,3,4] [0,1],(jq L52 ⟨_,pd,gt,uE6,N,H.pick [1,0,2,3,4] [0,1]⟩)⟩
   ·refine zq H underlying24 ti2 ad.length rfl rfl qf qf qf fun S9 CN H=>⟨H.pick [2,3,4] [0,1],(jq L78 ⟨_,S9,gt,uE6,N,H.pick [1,0,2,3,4] [0,1]⟩)⟩
   refine xg H ti24 [yN] fun oG aa5 H=>⟨H.pick [2,3,4] [0,1],(jq TV ⟨_,gt,oG,uE7,N,H⟩)⟩
  refine yL (fun ρ FQ=>∃(xN:Env) (FY:Nat),ρ=upd (upd (upd (upd (upd (upd xN 0<|Sv ab b.length cb) 4<|pp b3 0) 5<|pp b5 0) 10<|pp FY 0) 21<|.agg #[yN]) 24 (yI ad.length)/\Fresh w.heap.size []/\St w FQ [.box FY [yN] 24,.box b5 [.func (.func 215) #[] #[pp b1 0]] 126,.box b3 [Sv vw ad.length zT] 29,.box b1 [Sv vw ad.length zT] 29] [sF false Fb ab cb b,sF false aD vw zT ad]) 5 #[true,false,true,true,false,false,true,false,false] ?_ fun GH=>?_
  ·rintro ρ GI ⟨xN,FY,rfl,N,H⟩
   refine zY [1,4,5] qh qm<|vG rfl ?_<|vG rfl ?_<|vG rfl ?_ zZ
   ·refine zN H [yN] fun mQ Kk H=>⟨H.pick [2,3,4] [0,1],(jq L65 ⟨_,mQ,FY,uE6,N,H.pick [1,0,2,3,4] [0,1]⟩)⟩
   ·refine zq H underlying24 ti2 ad.length rfl rfl qf qf qf fun aj8 R7 H=>⟨H.pick [2,3,4] [0,1],(jq L95 ⟨_,aj8,FY,uE6,N,H.pick [1,0,2,3,4] [0,1]⟩)⟩
   refine xg H ti235 [.pointer none] fun jN Mb H=>⟨H.pick [2,3,4] [0,1],(jq TV ⟨_,jN,FY,uE7,N,H.pick [1,0,2,3,4] [0,1]⟩)⟩
  refine yL (fun ρ EN=>∃(xN:Env) (B3:Nat) (CG:Nat),ρ=upd (upd (upd (upd (upd xN 0<|Sv ab b.length cb) 4<|pp b3 0) 5<|pp b5 0) 9<|pp CG 0) 25 (Sv (aa B3 0) ad.length ad.length)/\Fresh w.heap.size []/\St w EN [.box CG [.pointer none] 235,rr (aa B3 0) ad.length ad.length 2 1 ((List.replicate ad.length (0:Int)).map<|Value.int .i64),.box b5 [.func (.func 215) #[] #[pp b1 0]] 126,.box b3 [Sv vw ad.length zT] 29,.box b1 [Sv vw ad.length zT] 29] [sF false Fb ab cb b,sF false aD vw zT ad]) 5 #[false,false,true,true,true,true,false,false,false] ?_ fun ago=>?_
  ·rintro ρ B2 ⟨xN,B3,CG,rfl,N,H⟩
   refine zY [0,6] qh qm<|vG rfl ?_<|vG rfl ?_ zZ
   ·refine vg [yN] []<|⟨H.pick [2,3,4] [0,1],(jq L78 ⟨_,B3,CG,uE6,N,H⟩)⟩
   refine xg H ti24 [yN] fun Sm KY H=>⟨H.pick [3,4,5] [0,1],(ro 0 rfl<|vg [yN] []<|⟨H.pick [3,4,5] [0,1],(ro 1 rfl<|zN H [yN] fun acc GE H=>⟨H.pick [4,5,6] [0,1],(ro 7 rfl<|xn H 2 [pp acc 0] sizeOf235 fun Ai H=>⟨H.pick [4,5,6] [0,1],(ro 8 rfl<|xn H 1 [Sv (aa B3 0) ad.length ad.length] sizeOf24 fun HQ H=>⟨H.pick [4,5,6] [0,1],(xC qh ((meet ⟨_,CG,Sm,B3,acc,uE5,N,H.pick [1,2,3,0,4,5,6] [0,1]⟩)))⟩)⟩)⟩)⟩)⟩
  refine yL (fun ρ aaS=>∃(xN:Env) (Ck:Nat) (Iu:Nat),ρ=upd (upd (upd (upd (upd xN 0<|Sv ab b.length cb) 4<|pp b3 0) 5<|pp b5 0) 10<|pp Iu 0) 25 (Sv (aa Ck 0) ad.length ad.length)/\Fresh w.heap.size []/\St w aaS [.box Iu [yN] 24,rr (aa Ck 0) ad.length ad.length 2 1 ((List.replicate ad.length (0:Int)).map<|Value.int .i64),.box b5 [.func (.func 215) #[] #[pp b1 0]] 126,.box b3 [Sv vw ad.length zT] 29,.box b1 [Sv vw ad.length zT] 29] [sF false Fb ab cb b,sF false aD vw zT ad]) 5 #[false,false,true,true,true,false,true,false,false] ?_ fun acG=>?_
  ·rintro ρ ZM ⟨xN,Ck,Iu,rfl,N,H⟩
   refine zY [0,5] qh qm<|vG rfl ?_<|vG rfl ?_ zZ
   ·refine vg [yN] []<|⟨H.pick [2,3,4] [0,1],(jq L95 ⟨_,Ck,Iu,uE6,N,H⟩)⟩
   refine xg H ti235 [.pointer none] fun ajs LN H=>⟨H.pick [3,4,5] [0,1],(ro 0 rfl<|vg [yN] []<|⟨H.pick [3,4,5] [0,1],(ro 1 rfl<|zN H [yN] fun TQ ajy H=>⟨H.pick [4,5,6] [0,1],(ro 7 rfl<|xn H 1 [pp TQ 0] sizeOf235 fun Ma H=>⟨H.pick [4,5,6] [0,1],(ro 8 rfl<|xn H 2 [Sv (aa Ck 0) ad.length ad.length] sizeOf24 fun Uz H=>⟨H.pick [4,5,6] [0,1],(xC qh ((meet ⟨_,ajs,Iu,Ck,TQ,uE5,N,H.pick [2,1,3,0,4,5,6] [0,1]⟩)))⟩)⟩)⟩)⟩)⟩
  refine yL (fun ρ ZH=>∃(xN:Env) (HR:Nat) (Ha:Nat),ρ=upd (upd (upd (upd (upd (upd xN 0<|Sv ab b.length cb) 4<|pp b3 0) 5<|pp b5 0) 9<|pp HR 0) 10<|pp Ha 0) 24 (yI ad.length)/\Fresh w.heap.size []/\St w ZH [.box Ha [yN] 24,.box HR [.pointer none] 235,.box b5 [.func (.func 215) #[] #[pp b1 0]] 126,.box b3 [Sv vw ad.length zT] 29,.box b1 [Sv vw ad.length zT] 29] [sF false Fb ab cb b,sF false aD vw zT ad]) 5 #[false,false,true,true,false,true,true,false,false] ?_ fun aeI=>?_
  ·rintro ρ STz ⟨xN,HR,Ha,rfl,N,H⟩
   refine zY [0,4] qh qm<|vG rfl ?_<|vG rfl ?_ zZ
   ·refine vg [yN] []<|⟨H.pick [2,3,4] [0,1],(jq TV ⟨_,HR,Ha,uE7,N,H⟩)⟩
   refine zq H underlying24 ti2 ad.length rfl rfl qf qf qf fun lx ML H=>⟨H.pick [3,4,5] [0,1],(ro 0 rfl<|vg [yN] []<|⟨H.pick [3,4,5] [0,1],(ro 1 rfl<|zN H [yN] fun Lt Fe H=>⟨H.pick [4,5,6] [0,1],(ro 7 rfl<|xn H 3 [pp Lt 0] sizeOf235 fun ab9 H=>⟨H.pick [4,5,6] [0,1],(ro 8 rfl<|xn H 2 [Sv (aa lx 0) ad.length ad.length] sizeOf24 fun akG H=>⟨H.pick [4,5,6] [0,1],(xC qh ((meet ⟨_,HR,Ha,lx,Lt,uE5,N,H.pick [2,3,1,0,4,5,6] [0,1]⟩)))⟩)⟩)⟩)⟩)⟩
  refine tL 2 rfl rfl (fun _ h=>h.cell 1 rfl rfl) H ?_
  refine tN 3 rfl rfl H ?_
  refine zY [0,4,5,6] qh qm<|vG rfl ?_<|vG rfl ?_<|vG rfl ?_<|vG rfl ?_ zZ
  ·refine vg [yN] [] (⟨H,(zY [1,4,5,6] qh qm<|vG rfl ?_<|vG rfl ?_<|vG rfl ?_<|vG rfl ?_ zZ)⟩)
   ·refine zN H [yN] fun SK ajJ H=>⟨H.pick [1,2,3] [0,1],(zY [4,5,6] qh qm<|vG rfl ?_<|vG rfl ?_<|vG rfl ?_ zZ)⟩
    ·refine zq H underlying24 ti2 ad.length rfl rfl qf qf qf fun Li M1 H=>⟨H.pick [2,3,4] [0,1],(jq L35 ⟨_,SK,Li,uE5,N,H⟩)⟩
    ·refine xg H ti235 [.pointer none] fun anP agM H=>⟨H.pick [2,3,4] [0,1],(jq L52 ⟨_,SK,anP,uE6,N,H⟩)⟩
    refine xg H ti24 [yN] fun akS amV H=>⟨H.pick [2,3,4] [0,1],(jq L65 ⟨_,SK,akS,uE6,N,H⟩)⟩
   ·refine zq H underlying24 ti2 ad.length rfl rfl qf qf qf fun o0 ayj H=>⟨H.pick [1,2,3] [0,1],(jq aew ⟨_,o0,uE5,N,H⟩)⟩
   ·refine xg H ti235 [.pointer none] fun ahe SY H=>⟨H.pick [1,2,3] [0,1],(jq agu ⟨_,ahe,uE6,N,H⟩)⟩
   refine xg H ti24 [yN] fun rG Sh H=>⟨H.pick [1,2,3] [0,1],(jq GH ⟨_,rG,uE6,N,H⟩)⟩
  ·refine zq H underlying24 ti2 ad.length rfl rfl qf qf qf fun BF Lb H=>⟨H.pick [1,2,3] [0,1],(zY [0,5,6] qh qm<|vG rfl ?_<|vG rfl ?_<|vG rfl ?_ zZ)⟩
   ·refine vg [yN] []<|⟨H.pick [1,2,3] [0,1],(jq aew ⟨_,BF,uE5,N,H⟩)⟩
   ·refine xg H ti235 [.pointer none] fun anO aeu H=>⟨H.pick [2,3,4] [0,1],(jq ago ⟨_,BF,anO,uE5,N,H⟩)⟩
   refine xg H ti24 [yN] fun E1 ahm H=>⟨H.pick [2,3,4] [0,1],(jq acG ⟨_,BF,E1,uE5,N,H⟩)⟩
  ·refine xg H ti235 [.pointer none] fun xd afU H=>⟨H.pick [1,2,3] [0,1],(zY [0,4,6] qh qm<|vG rfl ?_<|vG rfl ?_<|vG rfl ?_ zZ)⟩
   ·refine vg [yN] []<|⟨H.pick [1,2,3] [0,1],(jq agu ⟨_,xd,uE6,N,H⟩)⟩
   ·refine zq H underlying24 ti2 ad.length rfl rfl qf qf qf fun afj RS H=>⟨H.pick [2,3,4] [0,1],(jq ago ⟨_,afj,xd,uE5,N,H.pick [1,0,2,3,4] [0,1]⟩)⟩
   refine xg H ti24 [yN] fun kK axB H=>⟨H.pick [2,3,4] [0,1],(jq aeI ⟨_,xd,kK,uE6,N,H⟩)⟩
  refine xg H ti24 [yN] fun MA GD H=>⟨H.pick [1,2,3] [0,1],(zY [0,4,5] qh qm<|vG rfl ?_<|vG rfl ?_<|vG rfl ?_ zZ)⟩
  ·refine vg [yN] []<|⟨H.pick [1,2,3] [0,1],(jq GH ⟨_,MA,uE6,N,H⟩)⟩
  ·refine zq H underlying24 ti2 ad.length rfl rfl qf qf qf fun aky ax0 H=>⟨H.pick [2,3,4] [0,1],(jq acG ⟨_,aky,MA,uE5,N,H.pick [1,0,2,3,4] [0,1]⟩)⟩
  refine xg H ti235 [.pointer none] fun aoE aog H=>⟨H.pick [2,3,4] [0,1],(jq aeI ⟨_,aoE,MA,uE6,N,H.pick [1,0,2,3,4] [0,1]⟩)⟩
 clear H N
 rintro ρ ac2 ⟨xN,HT,e9,Fo,m1,rfl,N,H⟩
 refine t_n<|zcr<|sw<|xg H ti238 [.nilFunc] fun Gm Nj H=>zjc<|sp (.func (.func 224) #[] #[pp b3 0,pp b5 0,pp HT 0,pp e9 0,pp Gm 0])<|sw<|xn H 0 [.func (.func 224) #[] #[pp b3 0,pp b5 0,pp HT 0,pp e9 0,pp Gm 0]] sizeOf238 fun ala H=>zjc<|oL rfl (H.cell 0 rfl rfl)<|sq 1 ?_
 replace H:=H.nilRow 24 1
 replace H:=H.vP (α:=yLI)
 have H1:St w ala [.box b3 [Sv vw ad.length zT] 29,.box b5 [.func (.func 215) #[] #[pp b1 0]] 126,.box b1 [Sv vw ad.length zT] 29,.box HT [pp m1 0] 235,.box m1 [yN] 237,.box e9 [Sv (aa Fo 0) ad.length ad.length] 24,.box Gm [.func (.func 224) #[] #[pp b3 0,pp b5 0,pp HT 0,pp e9 0,pp Gm 0]] 238,rr none 0 0 24 1 [],rr (aa Fo 0) ad.length ad.length 2 1 ((List.replicate ad.length (0:Int)).map<|Value.int .i64)] [sF false Fb ab cb b,sF false aD vw zT ad,xG true [] [] ([]:yLL)]:=H.pick [7,6,8,3,5,2,1,0,4] [1,2,0]
 have N1:Fresh _ [[]]:=N.emp
 have K1:Kept [] []:=Kept.nil _
 refine sw<|ve #[yI 0,Sv ab b.length cb,pp b3 0,pp b5 0,pp HT 0,pp e9 0,pp Gm 0] rfl rfl call224 (packFrom_ok ad.length 0 b ad ([]:yLL) (List.replicate ad.length (0:Int)) ab cb Fb vw zT aD b3 b5 b1 HT m1 e9 Gm none 0 0 [] [] (aa Fo 0) ad.length ad.length H1 N1 K1 qf (by assumption) (by(simp;done))<|by(simp;done)) ?_
 clear H H1 N1 K1
 rintro _ aau ⟨N7,wG,ab1,uZ,ahS,Zc,aqN,asB,rfl,N,H⟩
 obtain rfl:=H.xQ (α:=yLI) 7 rfl 2 rfl qj
 refine zjc<|oL rfl (H.cell 3 rfl rfl)<|sw<|zW #[pp m1 0] rfl rfl call226<|en func226 ntmps226 ?_
 refine zcr<|sq 1<|sp (yI 0)<|zjcc<|sq 2<|oF rfl<|oL rfl (H.cell 4 rfl rfl)<|oN rfl<|sp (Bv<|decide (((gath ([]:yLL)<|begins ((List.replicate ad.length (0:Int)).take 0)<|packs ad (ad.length-0) 0 b).length:Int)>2000))<|zjn<|cD rfl (fun akj=>?_)<|fun akj=>?_
 ·refine zcr (sq 1<|sp (yI 3)<|zjr<|t_r<|ret2 yN (yI 3) rfl rfl rfl ⟨_,rfl,(sq 1<|sp (yI 3)<|sq 1<|sp (yI 3)<|zjr<|ret2 yN (yI 3) rfl rfl rfl ⟨_,rfl,?_⟩)⟩)
  replace H:=H.erases [8,7,6,5,4,3,1,0]
  dsimp only[zU,List.eraseIdx] at H
  refine sq 1<|sp (yI 3)<|sq 1<|sp (yI 3)<|zjr ?_
  replace H:=H.nilRow 24 1
  replace H:=H.vP (α:=yLI)
  refine ret2 yN (yI 3) rfl rfl rfl ⟨_,rfl,?_,H.base⟩
  rw[all_bI (cs:=(List.replicate ad.length (0:Int))) ql qf]
  exact⟨none,0,0,[],[],rfl,(N.emp.pick [0]),H.pick [0] [0]⟩
 refine qZ<|t_n<|zcr<|sq 2<|oF rfl<|oL rfl (H.cell 4 rfl rfl)<|sq 1<|sp (yI 0)<|zjr<|ret2 (Sv wG ((gath ([]:yLL)<|begins ((List.replicate ad.length (0:Int)).take 0)<|packs ad (ad.length-0) 0 b).length) uZ) (yI 0) rfl rfl rfl ⟨_,rfl,?_⟩
 refine sq 1<|sp (yI 0)<|sq 1<|sp (yI 0)<|zjr<|ret2 (Sv wG ((gath ([]:yLL)<|begins ((List.replicate ad.length (0:Int)).take 0)<|packs ad (ad.length-0) 0 b).length) uZ) (yI 0) rfl rfl rfl ⟨_,rfl,?_⟩
 replace H:=H.erases [8,6,5,4,3,1,0]
 dsimp only[zU,List.eraseIdx] at H
 refine sq 1<|sp (yI 0)<|sq 1<|sp (yI 0)<|zjr<|ret2 (Sv wG ((gath ([]:yLL)<|begins ((List.replicate ad.length (0:Int)).take 0)<|packs ad (ad.length-0) 0 b).length) uZ) (yI 0) rfl rfl rfl ⟨_,rfl,?_,H.base⟩
 rw[all_0I (cs:=(List.replicate ad.length (0:Int))) ql qf]
 exact⟨wG,(gath ([]:yLL)<|begins ((List.replicate ad.length (0:Int)).take 0)<|packs ad (ad.length-0) 0 b).length,uZ,ahS,Zc,rfl,N,H.pick [1] [2]⟩
end
end Go.Proofs.YtdhklgjmiamiaaaGreat
