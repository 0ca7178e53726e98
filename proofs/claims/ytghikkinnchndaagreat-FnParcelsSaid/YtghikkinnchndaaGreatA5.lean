/- Walks and laws, printed by program and by hand: what each function comes to, for all arguments, part 5. -/
import Derived.Test.YtghikkinnchndaaGreatA4
namespace Go.Proofs.YtghikkinnchndaaGreat
open Go.Proofs.Tryz
set_option linter.unusedVariables false
set_option linter.unusedSimpArgs false
set_option maxRecDepth 100000
set_option maxHeartbeats 4000000
open Go.RowKit
open Go.Proofs.Tryz
open Go.Proofs.YtghikkinnchndaaGreat.Tot (tot)
open Go.Proofs.YtghikkinnchndaaGreat.Mark (dN mrk mkd mkd_mark cnt_mark)
variable{Ns:List yLN}{W0 w:World}{k n:Nat}{l:List xH}{ps:List Prv}{s:qO}{v:zN}{x:Int}{Γ:List Fact}
section
theorem sadv_ok(s:qO)(own:yLI)(ap:yOA)(cp:Nat)(Fp:yLN)(ar:yOA)(cr:Nat)(Fr:yLN)(ao:yOA)(co:Nat)(Fo:yLN)(sb:Nat)(sv:List zu)(wi:List zk)(bk:Nat)(n:Nat)(eB:yOA)(ee:Nat)(cz:Nat)(bV:List Value)(aC:yLN)(cF:yOA)(j9:Nat)(bH:Nat)(bL:List Value)(az:yLN)(iv:Int)(H:St W0 w ((.box bk [pp sb 0,Sv ao own.length co,Sv eB ee cz,Sv cF j9 bH] 86)::(.box sb (yS s ap cp ar cr) 27)::(rr eB ee cz 49 16 bV)::(rr cF j9 bH 77 4 bL)::ps) ((sF false Fp ap cp s.qA)::(sF false Fr ar cr s.qB)::(sF false Fo ao co own)::(qQ true aC bV sv)::(qQ true az bL wi)::Γ))(N:Fresh W0.heap.size (aC::az::Ns))(K0:Kept Ns Γ)(p0:Giv s own n)(p1:Vh s own n (⟨sv,wi⟩:zN))(p2:0<=iv/\iv<n)(OL:∀f∈(sF false Fp ap cp s.qA::sF false Fr ar cr s.qB::sF false Fo ao co own::Γ),∀b∈f.F,b<W0.heap.size):Calls Tryz.prog 109 #[pp bk 0,yI iv] w (fun e w'=>∃v,e=.returned v/\∃(pU:List Value) (pE:yLN) (qs:yOA) (q8:Nat) (qd:Nat) (px:List Value) (rf:yLN),v=yI ((QI s (⟨sv,wi⟩:zN) iv.toNat).2)/\Fresh W0.heap.size (pE::rf::Ns)/\St W0 w' ((.box bk [pp sb 0,Sv ao own.length co,Sv eB ee cz,Sv qs q8 qd] 86)::(.box sb (yS s ap cp ar cr) 27)::(rr eB ee cz 49 16 pU)::(rr qs q8 qd 77 4 px)::ps) ((sF false Fp ap cp s.qA)::(sF false Fr ar cr s.qB)::(sF false Fo ao co own)::(qQ true pE pU ((QI s (⟨sv,wi⟩:zN) iv.toNat).1.qE))::(qQ true rf px ((QI s (⟨sv,wi⟩:zN) iv.toNat).1.x9))::Γ)):=by
 refine en func109 ntmps109 ?_
 have Ir:=qM (H.get 2 rfl).1
 obtain rfl:=H.xk (α:=zu) 2 rfl 3 rfl qj
 obtain rfl:=H.xk (α:=zk) 3 rfl 4 rfl qj
 have g2:=p0.len
 have g4:=p0.few
 have l1:sv.length=n:=p1.len
 have y1:jy s own n iv.toNat (sv[iv.toNat]!).qC/\jy s own n iv.toNat (sv[iv.toNat]!).qI:=p1.srv iv.toNat qf
 have y2:=y1.1.small p0
 have y3:=y2.got
 have y0:=y1.1.rnd
 refine zcr<|sp (yI 0)<|zjc<|sq 2<|oF rfl<|oF rfl<|oL rfl (H.cell 0 rfl rfl)<|sp (yI iv) ?_
 obtain⟨b1,rfl⟩:=H.jB 2 rfl qf
 refine oI rfl rfl<|sq 1<|zjcc<|sq 2<|oF rfl<|oF rfl ?_
 obtain⟨Xv,Xu,lC,Qj,Qi,gb,Bw,Bf,AN,nU,nR,nV,Au,z4,Ap,tm,te,tp,wQ,H⟩:=H.jQ zC 2 rfl 3 rfl rfl iv.toNat qf
 refine oL rfl (H.zt 2 rfl (wQ 3 _ rfl) qf)<|sp (Bv (!(((sv[iv.toNat]!).qC).qV)))<|sp (Bv (!(((sv[iv.toNat]!).qC).qV))) ?_
 cases h4:(!(((sv[iv.toNat]!).qC).qV))
 ·replace h4:=xf h4
  refine qJ 22 rfl rfl<|sq 1<|qJ 22 rfl rfl<|sp (yI iv)<|qJ 22 rfl rfl<|sw<|vz #[pp bk 0,yI iv] rfl rfl call105<|en func105 ntmps105 ?_
  refine zcr<|sp (Bv false)<|zjc<|sq 2<|oF rfl<|oF rfl<|oL rfl (H.cell 0 rfl rfl)<|sp (yI iv)<|oI rfl rfl<|sq 1<|zjn<|xM<|vK 2 rfl H [0,1,2,3] [0,1,2,3,4,5,6,7,8,9,10] fun H=>?_
  dsimp only[yg,yL]
  have S:=H.zW (zR 0 4)<|zR 0 11
  refine rtl 0 S ?_
  refine rtl 1 S ?_
  refine tF 2 rfl rfl S ?_
  refine tF 3 rfl rfl S ?_
  obtain⟨PV,RQ,Sk,I3,Ig,JS,abA,acI,acP,Jt,Ib,IE,YZ,aaw,ZL,SM,Ry,S3,hx7,H⟩:=H.jQ Qh 2 rfl 9 rfl rfl iv.toNat qf
  have S:=H.zW (zR 0 4)<|zR 6 11
  refine rt 4 _ (jU (off:=0+(iv:Int).toNat*16+8+0) isAgg2 rfl<|fun _ h=>(h.zt 2 rfl (hx7 0 _ rfl) qf)) S ?_
  refine rtl 5 S ?_
  refine rtl 6 S ?_
  refine tF 7 rfl rfl S ?_
  refine tF 8 rfl rfl S ?_
  refine rt 9 _ (jU (off:=0+(iv:Int).toNat*16+0+0) isAgg2 rfl<|fun _ h=>(h.zt 2 rfl (wQ 0 _ rfl) qf)) S ?_
  refine rtp 10 (Bv ((((sv[iv.toNat]!).qI).qP:Int) == (((sv[iv.toNat]!).qC).qP))) S ?_
  refine rtp 11 (Bv ((((sv[iv.toNat]!).qI).qP:Int) == (((sv[iv.toNat]!).qC).qP))) S ?_
  cases h8:((((sv[iv.toNat]!).qI).qP:Int) == (((sv[iv.toNat]!).qC).qP))
  ·replace h8:=ne_of_beq_false h8
   refine zZ (zR 12 5) 5 (H.pick (zR 0 4)<|zR 6 11)<|xy qh<|xZ<|sp (Bv false)<|sp (Bv false)<|zjr<|ret1 (Bv false) rfl rfl ⟨_,rfl,(qJ 22 rfl rfl<|sp (Bv true)<|sp (Bv true)<|zjn<|cTr rfl<|zcr<|sp (yI 4)<|zjr<|t_r<|ret1 (yI 4) rfl rfl ⟨_,rfl,?_⟩)⟩
   rw[sadv_s<|by rintro⟨h1,h2⟩;contradiction]
   all_goals exact⟨bV,aC,cF,wi.length,bH,bL,az,rfl,N,H.xm 4 17 (zR 0 4) (zR 12 5) (by simp only[List.length_cons,List.length_append];omega)<|by simp only[List.length_cons,List.length_append];omega⟩
  replace h8:=eq_of_beq h8
  have S:=H.zW (zR 0 4)<|zR 6 11
  refine rgl 12 24 S ?_
  refine rgl 13 24 S ?_
  refine gF 14 rfl rfl S ?_
  refine gF 15 rfl rfl S ?_
  refine rg 16 _ 24 (jU (off:=0+(iv:Int).toNat*16+8+3) isAgg4 rfl<|fun _ h=>(h.zt 2 rfl (hx7 3 _ rfl) qf)) S ?_
  refine xy qh<|xZ<|sq 2<|zjr<|ret1 (Bv (((sv[iv.toNat]!).qI).qV)) rfl rfl ⟨_,rfl,(qJ 22 rfl rfl<|sq 2<|zjn<|vg _ rfl (fun h9=>?_)<|fun h9=>?_)⟩
  ·replace h9:=xq h9
   refine zcr<|sp (yI 4)<|zjr<|t_r<|ret1 (yI 4) rfl rfl ⟨_,rfl,?_⟩
   rw[sadv_s<|by rintro⟨h1,h2⟩;simp_all]
   all_goals exact⟨bV,aC,cF,wi.length,bH,bL,az,rfl,N,H.xm 4 17 (zR 0 4) (zR 12 5) (by simp only[List.length_cons,List.length_append];omega)<|by simp only[List.length_cons,List.length_append];omega⟩
  replace h9:=xf h9
  obtain⟨y5,y6⟩:=sadv_len y1.1 ql
  have y7:=(y1.1.got ql).1
  refine qW<|t_n<|zcc<|sp (yI 0)<|zjn<|xe<|zT ((fun Z0 Z1 Z2 Z3 Z4 Z5 Z6 Z7 Z8=>fun m' ρ sI=>∃(xP:Env) (nS:Nat),ρ=upd (upd xP 5<|pp b1<|0+(iv:Int).toNat*16) 6 (yI nS)/\((nS:Int)<=((((sv[iv.toNat]!).qC).vM).length))/\(AllGot (sv[iv.toNat]!).qC.vM nS)/\m'=(((((sv[iv.toNat]!).qC).vM).length)-(nS:Int)).toNat/\Fresh W0.heap.size (aC::az::Ns)/\St W0 sI (Z0::Z1::Z2::Z3::ps) (Z4::Z5::Z6::Z7::Z8::Γ)) _ _ _ _ _ _ _ _ _) ((((((sv[iv.toNat]!).qC).vM).length)-(0:Int)).toNat) ⟨_,0,uE2,qf,qx,rfl,N,H.xm 4 17 (zR 0 4) (zR 12 5) (by simp only[List.length_cons,List.length_append];omega)<|by simp only[List.length_cons,List.length_append];omega⟩ ?_
  clear H N
  rintro m' ρ BF ⟨xP,nS,rfl,i0,i1,rfl,N,H⟩
  refine zcc<|sq 3<|oF rfl<|oF rfl ?_
  obtain⟨OY,OH,ML,Fn,Ex,E0,Si,QA,Sb,EC,Ep,EY,R5,Sz,Sq,Ml,Mw,Ov,Dp,H⟩:=H.jQ zC 2 rfl 3 rfl rfl iv.toNat qf
  refine oL rfl (H.zt 2 rfl (Dp 4 _ rfl) qf)<|oN rfl<|sq 1<|zjn<|cD rfl (fun mo=>?_)<|fun mo=>?_
  ·refine qW (t_n<|xM<|xe<|zcr<|sq 2<|oF rfl<|oF rfl<|oL rfl (H.zt 2 rfl (Dp 4 _ rfl) qf)<|sq 1 ?_)
   obtain⟨DV,o16,rfl⟩:=H.addr 2 rfl qf
   refine oI rfl rfl<|oL rfl (H.XZ 2 rfl nS qf)<|sq 1<|zjn<|vg _ rfl (fun lF=>?_)<|fun lF=>?_
   ·replace lF:=xq lF
    refine zcr<|sp (yI 4)<|zjr<|zr5<|ret1 (yI 4) rfl rfl ⟨_,rfl,?_⟩
    rw[sadv_g (b:=nS) qf ql]
    all_goals exact⟨bV,aC,cF,wi.length,bH,bL,az,rfl,N,H.xm 4 11 (zR 0 4) (zR 6 5) (by simp only[List.length_cons,List.length_append];omega)<|by simp only[List.length_cons,List.length_append];omega⟩
   replace lF:=xf lF
   refine qW<|b_n<|t_n<|xX<|sq 1<|sw<|zS nS 1 rfl rfl qf<|sq 1<|xU<|xu (m':=(((((sv[iv.toNat]!).qC).vM).length)-((nS+1):Int)).toNat) qf ⟨_,nS+1,uE2,?_,?_,rfl,N,H.xm 4 11 (zR 0 4) (zR 6 5) (by simp only[List.length_cons,List.length_append];omega)<|by simp only[List.length_cons,List.length_append];omega⟩
   ·omega
   ·exact i1.succ ql
  refine zx4<|zcr<|sq 2<|oF rfl ?_
  have ax3:=H.base.size
  have auZ:=jL (H.ltN (L:=[aC,az]) [9,10])<|H.ltK<|K0.behind 11 rfl
  refine sw<|oc (l08Copy_ok _ ((sv[iv.toNat]!).qC) (fun r v hv=>H.zt (off:=0+(iv:Int).toNat*16+0+r) 2 rfl (Dp r v hv) qf) (H.get 0 rfl).1 (H.get 1 rfl).1 (H.get 2 rfl).1 (H.get 3 rfl).1 (H.get 4 rfl).1 (H.get 5 rfl).1 qg) ?_
  rintro _ KA ⟨eK,aiz,XP,LB,N9,oJ,ZA,pf,kh,aql,kg,D3,aaj,et,tJ,bB,eV,aqp,e7,GP,dE,kP,ak3,kQ,DE,ct,rfl,M,K⟩ _
  replace N:=N.merge ax3 auZ M
  replace H:=H.merge K M
  dsimp only[List.cons_append,List.nil_append] at H
  obtain rfl:=H.xk (α:=yLI) 0 rfl 0 rfl qj
  obtain rfl:=H.Qc 1 rfl
  obtain rfl:=H.rowNB 2 rfl
  obtain rfl:=H.xk (α:=yLI) 3 rfl 1 rfl qj
  obtain rfl:=H.xk (α:=yLL) 4 rfl 2 rfl qj
  obtain rfl:=H.xk (α:=yLL) 5 rfl 3 rfl qj
  refine sw<|zn H ti47 [yI 0,yN,yN,Bv false,yN,yN,yN,yN] fun FSz w31 H=>(sw<|zF H 0 [yI (((sv[iv.toNat]!).qC).qP),Sv eK ((((sv[iv.toNat]!).qC).qG).length) XP,Sv oJ ((((sv[iv.toNat]!).qC).qF).length) pf,Bv (((sv[iv.toNat]!).qC).qV),Sv kh ((((sv[iv.toNat]!).qC).vM).length) kg,Sv D3 ((((sv[iv.toNat]!).qC).qL).length) et,Sv eV ((((sv[iv.toNat]!).qC).vX).length) e7,Sv kP ((((sv[iv.toNat]!).qC).x8).length) kQ] sizeOf47 fun Pn H=>?_)
  dsimp only[List.set] at H
  refine zjcc<|sp (yI 0)<|zjn<|xe<|zT ((fun Z0 Z1 Z2 Z3 Z4 Z5 Z6 Z7 Z8 Z9 fi fK gW ka lc lN rj xo=>fun m' ρ w33=>∃(xP:Env) (c:Nat) (aR:yLL) (Xb:List Value) (jf:yLN),ρ=upd (upd (upd xP 5<|pp b1<|0+(iv:Int).toNat*16) 7<|pp FSz 0) 8 (yI c)/\aR=XE (sv[iv.toNat]!).qC.qG (sv[iv.toNat]!).qC.qL c/\((c:Int)<=((((sv[iv.toNat]!).qC).qG).length))/\m'=(((((sv[iv.toNat]!).qC).qG).length)-(c:Int)).toNat/\Fresh W0.heap.size (bB::dE::ct::aC::az::jf::Ns)/\St W0 w33 (Z0::(rr eK ((((sv[iv.toNat]!).qC).qG).length) XP 24 1 Xb)::Z1::Z2::Z3::Z4::Z5::Z6::Z7::Z8::Z9::ps) ((qQ true jf Xb aR)::fi::fK::gW::ka::lc::lN::rj::xo::Γ)) _ _ _ _ _ _ _ _ _ _ _ _ _ _ _ _ _ _) ((((((sv[iv.toNat]!).qC).qG).length)-(0:Int)).toNat) ⟨_,0,((sv[iv.toNat]!).qC).qG,LB,N9,uE3,(by exact advTo_zero _ _),qf,rfl,(N.xm 6 [1,2,3,4,5,0]<|by simp only[List.length_cons,List.length_append];omega),H.xm 11 15 (zR 0 11) (0::1::2::3::zR 10 5) (by simp only[List.length_cons,List.length_append];omega)<|by simp only[List.length_cons,List.length_append];omega⟩ ?_
  clear H N
  rintro m' ρ w34 ⟨xP,c,aR,Xb,jf,rfl,rfl,i0,rfl,N,H⟩
  have sa:=H.xk (α:=yLI) 1 rfl 0 rfl qj
  refine zcc<|sp (yI c)<|oF rfl<|oL rfl (H.cell 0 rfl rfl)<|oN rfl<|sq 1<|zjn<|cD rfl (fun Ro=>?_)<|fun Ro=>?_
  ·obtain⟨u1,u2,u3⟩:=sadv_row p0 y1.1 ql (c:=c) qf
   refine qW<|t_n<|xM<|xe ?_
   obtain⟨Zb,rfl⟩:=H.jB 1 rfl qf
   obtain⟨b37,rfl⟩:=H.jB 4 rfl qf
   refine c_lateC 2 (fun ρ w40=>∃(xP:Env) (a38:yOA) (c39:Nat),ρ=upd (upd (upd (upd (upd (upd xP 5<|pp b1<|0+(iv:Int).toNat*16) 7<|pp FSz 0) 8<|yI c) 59<|Sv (aa Zb 0) ((((sv[iv.toNat]!).qC).qG).length) XP) 60<|yI c) 71 (Sv a38 ((jc ((XE (sv[iv.toNat]!).qC.qG (sv[iv.toNat]!).qC.qL c)[c]!) ((((sv[iv.toNat]!).qC).qL)[c]!) 1).length) c39)/\Fresh W0.heap.size (bB::dE::ct::aC::az::jf::Ns)/\St W0 w40 ((rr a38 ((jc ((XE (sv[iv.toNat]!).qC.qG (sv[iv.toNat]!).qC.qL c)[c]!) ((((sv[iv.toNat]!).qC).qL)[c]!) 1).length) c39 2 1 ((jc ((XE (sv[iv.toNat]!).qC.qG (sv[iv.toNat]!).qC.qL c)[c]!) ((((sv[iv.toNat]!).qC).qL)[c]!) 1).map<|Value.int .i64))::(.box FSz [yI (((sv[iv.toNat]!).qC).qP),Sv (aa Zb 0) ((((sv[iv.toNat]!).qC).qG).length) XP,Sv oJ ((((sv[iv.toNat]!).qC).qF).length) pf,Bv (((sv[iv.toNat]!).qC).qV),Sv kh ((((sv[iv.toNat]!).qC).vM).length) kg,Sv (aa b37 0) ((((sv[iv.toNat]!).qC).qL).length) et,Sv eV ((((sv[iv.toNat]!).qC).vX).length) e7,Sv kP ((((sv[iv.toNat]!).qC).x8).length) kQ] 47)::(rr (aa Zb 0) ((((sv[iv.toNat]!).qC).qG).length) XP 24 1 Xb)::(rr oJ ((((sv[iv.toNat]!).qC).qF).length) pf 2 1 ((((sv[iv.toNat]!).qC).qF).map<|Value.int .i64))::(rr kh ((((sv[iv.toNat]!).qC).vM).length) kg 4 1 ((((sv[iv.toNat]!).qC).vM).map<|Value.bool))::(rr (aa b37 0) ((((sv[iv.toNat]!).qC).qL).length) et 24 1 tJ)::(rr eV ((((sv[iv.toNat]!).qC).vX).length) e7 29 1 GP)::(rr kP ((((sv[iv.toNat]!).qC).x8).length) kQ 29 1 DE)::(.box bk [pp sb 0,Sv ao own.length co,Sv (aa b1 0) sv.length cz,Sv cF wi.length bH] 86)::(.box sb (yS s ap cp ar cr) 27)::(rr (aa b1 0) sv.length cz 49 16 bV)::(rr cF wi.length bH 77 4 bL)::ps) ((qQ true jf Xb<|XE (sv[iv.toNat]!).qC.qG (sv[iv.toNat]!).qC.qL c)::(qQ true bB tJ (((sv[iv.toNat]!).qC).qL))::(qQ true dE GP (((sv[iv.toNat]!).qC).vX))::(qQ true ct DE (((sv[iv.toNat]!).qC).x8))::(sF false Fp ap cp s.qA)::(sF false Fr ar cr s.qB)::(sF false Fo ao co own)::(qQ true aC bV sv)::(qQ true az bL wi)::Γ)) rfl H [0,1,2,3,4,5,6,7,8,9,10] [0,1,2,3,4,5,6,7,8] (fun H=>?_) ?_
   ·dsimp only[yg,yL]
    have S:=H.zW (zR 0 11)<|zR 0 9
    refine tF 0 rfl rfl S ?_
    refine tL 1 rfl rfl (fun _ h=>h.cell 0 rfl rfl) S ?_
    refine rtp 2 (yI c) S ?_
    refine tF 3 rfl rfl S ?_
    refine tL 4 rfl rfl (fun _ h=>h.cell 0 rfl rfl) S ?_
    refine rtp 5 (yI c) S ?_
    refine tI 6 rfl rfl rfl S ?_
    refine tF 8 rfl rfl S ?_
    refine tL 9 rfl rfl (fun _ h=>h.cell 0 rfl rfl) S ?_
    refine rtp 10 (yI c) S ?_
    refine tI 11 rfl rfl rfl S ?_
    refine jC [7,12] qh qm<|yV rfl ?_<|yV rfl ?_ jD
    ·obtain⟨a42,c43,G44,Rg,H⟩:=H.yG 1 rfl 0 rfl (iv:=c) c qf qf
     refine zJ (Sv a42 (((XE (sv[iv.toNat]!).qC.qG (sv[iv.toNat]!).qC.qL c)[c]!).length) c43) isAgg24 rfl ((H.zt 1 rfl Rg qf))<|⟨H.pick (zR 0 11)<|zR 1 9,(ro 12 rfl ?_)⟩
     obtain⟨a46,c47,G48,SE,H⟩:=H.yG 4 rfl 2 rfl (iv:=c) c qf qf
     refine zJ (Sv a46 (((((sv[iv.toNat]!).qC).qL)[c]!).length) c47) isAgg24 rfl ((H.zt 4 rfl SE qf))<|⟨H.pick (zR 0 11)<|zR 2 9,(ro 13 rfl ?_)⟩
     refine oc (QD _ ((XE (sv[iv.toNat]!).qC.qG (sv[iv.toNat]!).qC.qL c)[c]!) ((((sv[iv.toNat]!).qC).qL)[c]!) 1 (H.get 1 rfl).1 (H.get 0 rfl).1 qg qg qg) ?_
     rintro v55 w53 r55 x54
     replace H:=H.zV x54 r55
     obtain⟨a56,c57,rfl,aDn,aHF⟩:=H.yf 0 rfl
     refine⟨H.pick (zR 1 11)<|zR 2 9,(xy qh ((meet ⟨_,a56,c57,uE6,N,H.xm 12 11 (zR 0 12) (zR 2 9) (by simp only[List.length_cons,List.length_append];omega)<|by simp only[List.length_cons,List.length_append];omega⟩)))⟩
    obtain⟨a60,c61,G62,anR,H⟩:=H.yG 4 rfl 1 rfl (iv:=c) c qf qf
    refine zJ (Sv a60 (((((sv[iv.toNat]!).qC).qL)[c]!).length) c61) isAgg24 rfl ((H.zt 4 rfl anR qf))<|⟨H.pick (zR 0 11)<|zR 1 9,(ro 7 rfl ?_)⟩
    obtain⟨a64,c65,G66,at0,H⟩:=H.yG 1 rfl 1 rfl (iv:=c) c qf qf
    refine zJ (Sv a64 (((XE (sv[iv.toNat]!).qC.qG (sv[iv.toNat]!).qC.qL c)[c]!).length) c65) isAgg24 rfl ((H.zt 1 rfl at0 qf))<|⟨H.pick (zR 0 11)<|zR 2 9,(ro 13 rfl ?_)⟩
    refine oc (QD _ ((XE (sv[iv.toNat]!).qC.qG (sv[iv.toNat]!).qC.qL c)[c]!) ((((sv[iv.toNat]!).qC).qL)[c]!) 1 (H.get 0 rfl).1 (H.get 1 rfl).1 qg qg qg) ?_
    rintro v73 w71 r73 x72
    replace H:=H.zV x72 r73
    obtain⟨a74,c75,rfl,aDd,aGR⟩:=H.yf 0 rfl
    refine⟨H.pick (zR 1 11)<|zR 2 9,(xy qh ((meet ⟨_,a74,c75,uE6,N,H.xm 12 11 (zR 0 12) (zR 2 9) (by simp only[List.length_cons,List.length_append];omega)<|by simp only[List.length_cons,List.length_append];omega⟩)))⟩
   clear H N
   rintro ρ w78 ⟨xP,a38,c39,rfl,N,H⟩
   refine oI rfl rfl ?_
   obtain⟨G80,N,ax2,H⟩:=H.vJ 0 rfl N<|fun F hF b hb=>(List.mem_append.1<|show F∈[bB,dE,ct,aC,az,jf]++Ns from hF).elim (fun h=>(H.vV (L:=[bB,dE,ct,aC,az,jf]) [1,2,3,7,8,0]) F h b hb) fun h=>H.jT (K0.behind 9 rfl) F h b hb
   dsimp only[List.set] at H
   refine sw<|Qd true H 2 rfl 1 rfl (Sv a38 ((jc ((XE (sv[iv.toNat]!).qC.qG (sv[iv.toNat]!).qC.qL c)[c]!) ((((sv[iv.toNat]!).qC).qL)[c]!) 1).length) c39) 0 rfl rfl sizeOf24 rfl rfl (i:=c) qf qf qm fun w79 ai1 F83 abw H=>?_
   replace N:Fresh W0.heap.size (F83::bB::dE::ct::aC::az::Ns):=(N.xm 7 (6::zR 0 6)<|by simp only[List.length_cons,List.length_append];omega).repl abw
   dsimp only[List.set] at H
   refine xU<|b_n<|t_n<|xX<|sp (yI c)<|sw<|zS c 1 rfl rfl qf<|sq 1<|xU<|xu (m':=(((((sv[iv.toNat]!).qC).qG).length)-((c+1):Int)).toNat) qf ⟨_,c+1,_,_,_,uE3,?_,?_,rfl,(N.xm 6 [1,2,3,4,5,0]<|by simp only[List.length_cons,List.length_append];omega),H.xm 12 11 (zR 1 11) (0::zR 3 8) (by simp only[List.length_cons,List.length_append];omega)<|by simp only[List.length_cons,List.length_append];omega⟩
   ·exact sadv_step qf
   ·omega
  obtain⟨u1,u2,u3⟩:=sadv_last p0 y1.1 ql
  refine zx4<|xM<|vK 3 rfl H [0,1,2,3,4,5,6,7,8,9,10] [0,1,2,3,4,5,6,7,8] fun H=>?_
  dsimp only[yg,yL]
  have S:=H.zW (zR 0 11)<|zR 0 9
  refine tF 0 rfl rfl S ?_
  refine tL 1 rfl rfl (fun _ h=>h.cell 0 rfl rfl) S ?_
  refine tF 2 rfl rfl S ?_
  refine tL 3 rfl rfl (fun _ h=>h.cell 0 rfl rfl) S ?_
  refine tF 4 rfl rfl S ?_
  refine tL 5 rfl rfl (fun _ h=>h.cell 0 rfl rfl) S ?_
  refine tN 6 rfl rfl S ?_
  obtain⟨b86,rfl⟩:=H.jB 4 rfl qf
  refine tI 7 rfl rfl rfl (H.pick (zR 0 11)<|zR 0 9)<|ro 8 rfl ?_
  obtain⟨a87,c88,G89,auV,H⟩:=H.yG 4 rfl 1 rfl (iv:=(((sv[iv.toNat]!).qC).qG).length) ((((sv[iv.toNat]!).qC).qG).length) qf qf
  refine zJ (Sv a87 (((((sv[iv.toNat]!).qC).qL)[(((sv[iv.toNat]!).qC).qG).length]!).length) c88) isAgg24 rfl ((H.zt 4 rfl auV qf))<|⟨H.pick (zR 0 11)<|zR 1 9,(xy qh<|xZ ?_)⟩
  obtain⟨G91,aCX,Kb⟩:=H.rowIsI 2 rfl
  refine sw<|oc (QD _ (((sv[iv.toNat]!).qC).qF) ((((sv[iv.toNat]!).qC).qL)[(((sv[iv.toNat]!).qC).qG).length]!) 1 Kb (H.get 0 rfl).1 qg qg qg) ?_
  rintro v99 w97 r99 x98
  replace H:=H.zV x98 r99
  obtain⟨AV,z8,rfl,ao6,aBu⟩:=H.yf 0 rfl
  refine oF rfl<|sw<|zh H 1 [yI (((sv[iv.toNat]!).qC).qP),Sv eK ((((sv[iv.toNat]!).qC).qG).length) XP,Sv AV ((jc (((sv[iv.toNat]!).qC).qF) ((((sv[iv.toNat]!).qC).qL)[(((sv[iv.toNat]!).qC).qG).length]!) 1).length) z8,Bv (((sv[iv.toNat]!).qC).qV),Sv kh ((((sv[iv.toNat]!).qC).vM).length) kg,Sv (aa b86 0) ((((sv[iv.toNat]!).qC).qL).length) et,Sv eV ((((sv[iv.toNat]!).qC).vX).length) e7,Sv kP ((((sv[iv.toNat]!).qC).x8).length) kQ] sizeOf24 fun MU H=>?_
  dsimp only[List.set] at H
  refine zjcc<|oF rfl<|oL rfl (H.cell 1 rfl rfl) ?_
  obtain⟨Ba,Ku,avO⟩:=H.Vg (α:=yLI) 2 rfl 1 rfl qj
  refine sw<|oq (args_eq (by rw[←Ku])<|l08Bags_ok _ (XE (sv[iv.toNat]!).qC.qG (sv[iv.toNat]!).qC.qL c)<|Ku▸avO) H fun awQ H=>sp (Bv (!(dec<|yF (XE (sv[iv.toNat]!).qC.qG (sv[iv.toNat]!).qC.qL c) (XE (sv[iv.toNat]!).qC.qG (sv[iv.toNat]!).qC.qL c).length)))<|sp (Bv (!(dec<|yF (XE (sv[iv.toNat]!).qC.qG (sv[iv.toNat]!).qC.qL c) (XE (sv[iv.toNat]!).qC.qG (sv[iv.toNat]!).qC.qL c).length))) ?_
  cases BQ:(!(dec (yF (XE (sv[iv.toNat]!).qC.qG (sv[iv.toNat]!).qC.qL c) (XE (sv[iv.toNat]!).qC.qG (sv[iv.toNat]!).qC.qL c).length)))
  ·replace BQ:=xf BQ
   replace BQ:=Qz BQ
   refine qJ 88 rfl rfl<|oF rfl<|qJ 88 rfl rfl<|oL rfl (H.cell 1 rfl rfl)<|qJ 88 rfl rfl ?_
   obtain⟨aDX,aAZ,axa⟩:=H.rowIsI 0 rfl
   refine sw<|oq (l01Bag_ok _ (jc (((sv[iv.toNat]!).qC).qF) ((((sv[iv.toNat]!).qC).qL)[(((sv[iv.toNat]!).qC).qG).length]!) 1) axa) H fun ajU H=>qJ 88 rfl rfl<|sq 2<|zjn<|cQ rfl (fun abV=>?_)<|fun abV=>?_
   ·refine zcr (sp (yI 3)<|zjr<|t_r<|ret1 (yI 3) rfl rfl ⟨_,rfl,?_⟩)
    rw[sadv_3 rfl ql (fun j hj=>i1 j qf) ⟨by assumption,by assumption⟩ y5 (c:=c) qf<|by rintro⟨h1,h2⟩;contradiction]
    all_goals exact⟨bV,aC,cF,wi.length,bH,bL,az,rfl,(N.xm 6 [3,4]<|by simp only[List.length_cons,List.length_append];omega),H.xm 12 10 (zR 8 4) (zR 5 5) (by simp only[List.length_cons,List.length_append];omega)<|by simp only[List.length_cons,List.length_append];omega⟩
   refine qW<|t_n<|zcr<|oF rfl<|oL rfl (H.cell 1 rfl rfl)<|sw<|zS (((sv[iv.toNat]!).qC).qP) 1 rfl rfl qf<|oF rfl<|sw<|zh H 1 [yI ((((sv[iv.toNat]!).qC).qP)+1),Sv eK ((((sv[iv.toNat]!).qC).qG).length) XP,Sv AV ((jc (((sv[iv.toNat]!).qC).qF) ((((sv[iv.toNat]!).qC).qL)[(((sv[iv.toNat]!).qC).qG).length]!) 1).length) z8,Bv (((sv[iv.toNat]!).qC).qV),Sv kh ((((sv[iv.toNat]!).qC).vM).length) kg,Sv (aa b86 0) ((((sv[iv.toNat]!).qC).qL).length) et,Sv eV ((((sv[iv.toNat]!).qC).vX).length) e7,Sv kP ((((sv[iv.toNat]!).qC).x8).length) kQ] sizeOf2 fun aIf H=>?_
   dsimp only[List.set] at H
   refine zjc<|oF rfl<|sw<|zh H 1 [yI ((((sv[iv.toNat]!).qC).qP)+1),Sv eK ((((sv[iv.toNat]!).qC).qG).length) XP,Sv AV ((jc (((sv[iv.toNat]!).qC).qF) ((((sv[iv.toNat]!).qC).qL)[(((sv[iv.toNat]!).qC).qG).length]!) 1).length) z8,Bv false,Sv kh ((((sv[iv.toNat]!).qC).vM).length) kg,Sv (aa b86 0) ((((sv[iv.toNat]!).qC).qL).length) et,Sv eV ((((sv[iv.toNat]!).qC).vX).length) e7,Sv kP ((((sv[iv.toNat]!).qC).x8).length) kQ] sizeOf4 fun ata H=>?_
   dsimp only[List.set] at H
   refine zjc<|oF rfl<|oL rfl (H.cell 1 rfl rfl)<|oF rfl<|sw<|zh H 1 [yI ((((sv[iv.toNat]!).qC).qP)+1),Sv eK ((((sv[iv.toNat]!).qC).qG).length) XP,Sv AV ((jc (((sv[iv.toNat]!).qC).qF) ((((sv[iv.toNat]!).qC).qL)[(((sv[iv.toNat]!).qC).qG).length]!) 1).length) z8,Bv false,Sv kh ((((sv[iv.toNat]!).qC).vM).length) kg,Sv (aa b86 0) ((((sv[iv.toNat]!).qC).qL).length) et,Sv eV ((((sv[iv.toNat]!).qC).vX).length) e7,Sv eV ((((sv[iv.toNat]!).qC).vX).length) e7] sizeOf45 fun NF H=>?_
   dsimp only[List.set] at H
   refine zjc<|sw<|jH H underlying45 ti29 fun OK Nq H=>oF rfl<|sw<|zh H 2 [yI ((((sv[iv.toNat]!).qC).qP)+1),Sv eK ((((sv[iv.toNat]!).qC).qG).length) XP,Sv AV ((jc (((sv[iv.toNat]!).qC).qF) ((((sv[iv.toNat]!).qC).qL)[(((sv[iv.toNat]!).qC).qG).length]!) 1).length) z8,Bv false,Sv kh ((((sv[iv.toNat]!).qC).vM).length) kg,Sv (aa b86 0) ((((sv[iv.toNat]!).qC).qL).length) et,Sv (aa OK 0) 0 0,Sv eV ((((sv[iv.toNat]!).qC).vX).length) e7] sizeOf45 fun MB H=>?_
   dsimp only[List.set] at H
   refine zjc<|sw<|jH H underlying28 ti4 fun Iy aa0 H=>oF rfl<|sw<|zh H 3 [yI ((((sv[iv.toNat]!).qC).qP)+1),Sv eK ((((sv[iv.toNat]!).qC).qG).length) XP,Sv AV ((jc (((sv[iv.toNat]!).qC).qF) ((((sv[iv.toNat]!).qC).qL)[(((sv[iv.toNat]!).qC).qG).length]!) 1).length) z8,Bv false,Sv (aa Iy 0) 0 0,Sv (aa b86 0) ((((sv[iv.toNat]!).qC).qL).length) et,Sv (aa OK 0) 0 0,Sv eV ((((sv[iv.toNat]!).qC).vX).length) e7] sizeOf28 fun agN H=>?_
   dsimp only[List.set] at H
   refine zjc<|sw<|jH H underlying29 ti24 fun abC Rt H=>oF rfl<|sw<|zh H 4 [yI ((((sv[iv.toNat]!).qC).qP)+1),Sv eK ((((sv[iv.toNat]!).qC).qG).length) XP,Sv AV ((jc (((sv[iv.toNat]!).qC).qF) ((((sv[iv.toNat]!).qC).qL)[(((sv[iv.toNat]!).qC).qG).length]!) 1).length) z8,Bv false,Sv (aa Iy 0) 0 0,Sv (aa abC 0) 0 0,Sv (aa OK 0) 0 0,Sv eV ((((sv[iv.toNat]!).qC).vX).length) e7] sizeOf29 fun aG0 H=>?_
   dsimp only[List.set] at H
   refine zjc<|sq 1<|sw<|xW [yI ((((sv[iv.toNat]!).qC).qP)+1),Sv eK ((((sv[iv.toNat]!).qC).qG).length) XP,Sv AV ((jc (((sv[iv.toNat]!).qC).qF) ((((sv[iv.toNat]!).qC).qL)[(((sv[iv.toNat]!).qC).qG).length]!) 1).length) z8,Bv false,Sv (aa Iy 0) 0 0,Sv (aa abC 0) 0 0,Sv (aa OK 0) 0 0,Sv eV ((((sv[iv.toNat]!).qC).vX).length) e7] isAgg47 sizeOf47 rfl (qH (H.cells 4 rfl) 0 8)<|sq 1<|oF rfl ?_
   have H0:=H
   obtain⟨oA,YT,aCg,H⟩:=H.jA (α:=yLI) 5 rfl 1 rfl qj
   replace N:Fresh W0.heap.size (oA::bB::dE::ct::aC::az::Ns):=Fresh.ice (N.xm 6 (5::zR 0 5)<|by simp only[List.length_cons,List.length_append];omega) H0 5 YT.1 YT.2<|fun F hF b hb=>(List.mem_append.1<|show F∈[bB,dE,ct,aC,az]++Ns from hF).elim (fun h=>(H0.vV (L:=[bB,dE,ct,aC,az]) [2,3,4,8,9]) F h b hb) fun h=>H0.jT (K0.behind 10 rfl) F h b hb
   clear H0
   dsimp only[List.set] at H
   obtain⟨oR,N,ahg,H⟩:=H.vJ 3 rfl N<|fun F hF b hb=>(List.mem_append.1<|show F∈[oA,bB,dE,ct,aC,az]++Ns from hF).elim (fun h=>(H.vV (L:=[oA,bB,dE,ct,aC,az]) [0,3,4,5,9,10]) F h b hb) fun h=>H.jT (K0.behind 11 rfl) F h b hb
   dsimp only[List.set] at H
   replace H:=H.boxRowB 1 [] 0
   dsimp only[List.set] at H
   obtain⟨wZ,N,aAf,H⟩:=H.freezeB 1 rfl N<|fun F hF b hb=>(List.mem_append.1<|show F∈[oR,oA,bB,dE,ct,aC,az]++Ns from hF).elim (fun h=>(H.vV (L:=[oR,oA,bB,dE,ct,aC,az]) [0,1,4,5,6,10,11]) F h b hb) fun h=>H.jT (K0.behind 12 rfl) F h b hb
   dsimp only[List.set] at H
   replace H:=H.boxRow 0 rfl 1 0 rfl qj
   dsimp only[List.set] at H
   replace H:=H.yD (α:=yLI)
   have H0:=H
   obtain⟨gD,Uh,aj8,H⟩:=H.jA (α:=yLI) 0 rfl 0 rfl qj
   replace N:Fresh W0.heap.size (gD::wZ::oR::oA::bB::dE::ct::aC::az::Ns):=Fresh.ice N.emp H0 0 Uh.1 Uh.2<|fun F hF b hb=>(List.mem_append.1<|show F∈[wZ,oR,oA,bB,dE,ct,aC,az]++Ns from hF).elim (fun h=>(H0.vV (L:=[wZ,oR,oA,bB,dE,ct,aC,az]) [1,2,3,6,7,8,12,13]) F h b hb) fun h=>H0.jT (K0.behind 14 rfl) F h b hb
   clear H0
   dsimp only[List.set] at H
   replace H:=H.boxRow 2 rfl 1 0 rfl qj
   dsimp only[List.set] at H
   replace H:=H.yD (α:=yLL)
   have H0:=H
   obtain⟨Kw,UD,aCj,H⟩:=H.jA (α:=yLL) 2 rfl 0 rfl qj
   replace N:Fresh W0.heap.size (Kw::gD::wZ::oR::oA::bB::dE::ct::aC::az::Ns):=Fresh.ice N.emp H0 2 UD.1 UD.2<|fun F hF b hb=>(List.mem_append.1<|show F∈[gD,wZ,oR,oA,bB,dE,ct,aC,az]++Ns from hF).elim (fun h=>(H0.vV (L:=[gD,wZ,oR,oA,bB,dE,ct,aC,az]) [1,3,4,5,8,9,10,14,15]) F h b hb) fun h=>H0.jT (K0.behind 16 rfl) F h b hb
   clear H0
   dsimp only[List.set] at H
   have H0:=H
   obtain⟨amK,Ua,aAV,H⟩:=H.jA (α:=yLL) 9 rfl 10 rfl qj
   replace N:Fresh W0.heap.size (amK::Kw::gD::wZ::oR::oA::bB::ct::aC::az::Ns):=Fresh.ice (N.xm 10 [6,0,1,2,3,4,5,7,8,9]<|by simp only[List.length_cons,List.length_append];omega) H0 9 Ua.1 Ua.2<|fun F hF b hb=>(List.mem_append.1<|show F∈[Kw,gD,wZ,oR,oA,bB,ct,aC,az]++Ns from hF).elim (fun h=>(H0.vV (L:=[Kw,gD,wZ,oR,oA,bB,ct,aC,az]) [0,2,4,5,6,9,11,15,16]) F h b hb) fun h=>H0.jT (K0.behind 17 rfl) F h b hb
   clear H0
   dsimp only[List.set] at H
   replace H:=H.mk_DeskD ((((sv[iv.toNat]!).qC).qP)+1) 7 rfl 6 rfl false 5 rfl 3 rfl 1 rfl 0 rfl
   replace N:Fresh W0.heap.size ((oA++oR++wZ++gD++Kw++amK)::bB::ct::aC::az::Ns):=(N.xm 10 [5,4,3,2,1,0,6,7,8,9]<|by simp only[List.length_cons,List.length_append];omega).join.join.join.join.join
   obtain⟨azv,T5⟩:∃z,z=(sv.set iv.toNat { sv[iv.toNat]! with qC:=(⟨(((sv[iv.toNat]!).qC).qP)+1,(XE (sv[iv.toNat]!).qC.qG (sv[iv.toNat]!).qC.qL c),jc (((sv[iv.toNat]!).qC).qF) ((((sv[iv.toNat]!).qC).qL)[(((sv[iv.toNat]!).qC).qG).length]!) 1,false,([]:List Bool),([]:yLL),([]:List yLL),((sv[iv.toNat]!).qC).vX⟩:zA)}):=⟨_,rfl⟩
   refine sw<|XF (v:=.agg #[yI ((((sv[iv.toNat]!).qC).qP)+1),Sv eK ((((sv[iv.toNat]!).qC).qG).length) XP,Sv AV ((jc (((sv[iv.toNat]!).qC).qF) ((((sv[iv.toNat]!).qC).qL)[(((sv[iv.toNat]!).qC).qG).length]!) 1).length) z8,Bv false,Sv (aa Iy 0) 0 0,Sv (aa abC 0) 0 0,Sv (aa OK 0) 0 0,Sv eV ((((sv[iv.toNat]!).qC).vX).length) e7]) zC H 13 rfl 17 rfl 0 rfl rfl sizeOf47 rfl rfl rfl iv.toNat qf qf T5 fun RC ago ahP ahe H=>?_
   dsimp only[List.set] at H
   replace N:Fresh W0.heap.size (ahP::bB::ct::az::Ns):=(N.xm 5 [3,0,1,2,4]<|by simp only[List.length_cons,List.length_append];omega).repl ahe
   refine zjc<|sp (yI 0)<|zjr<|ret1 (yI 0) rfl rfl ⟨_,rfl,?_⟩
   rw[sadv_0 rfl ql (fun j hj=>i1 j qf) ⟨by assumption,by assumption⟩ y5 (c:=c) qf ql ql T5]
   all_goals exact⟨ago,ahP,cF,wi.length,bH,bL,az,rfl,(N.xm 4 [0,3]<|by simp only[List.length_cons,List.length_append];omega),H.xm 15 20 (zR 11 4) [15,16,17,0,19] (by simp only[List.length_cons,List.length_append];omega)<|by simp only[List.length_cons,List.length_append];omega⟩
  replace BQ:=xq BQ
  replace BQ:=vF BQ
  refine xO (zR 89 4)<|sp (Bv true)<|zjn<|cTr rfl<|zcr<|sp (yI 3)<|zjr<|t_r<|ret1 (yI 3) rfl rfl ⟨_,rfl,?_⟩
  rw[sadv_3 rfl ql (fun j hj=>i1 j qf) ⟨by assumption,by assumption⟩ y5 (c:=c) qf<|by rintro⟨h1,h2⟩;contradiction]
  all_goals exact⟨bV,aC,cF,wi.length,bH,bL,az,rfl,(N.xm 6 [3,4]<|by simp only[List.length_cons,List.length_append];omega),H.xm 12 10 (zR 8 4) (zR 5 5) (by simp only[List.length_cons,List.length_append];omega)<|by simp only[List.length_cons,List.length_append];omega⟩
 replace h4:=xq h4
 refine xO (zR 23 4)<|sp (Bv true)<|zjn<|cTr rfl<|zcr<|sp (yI 4)<|zjr<|t_r<|ret1 (yI 4) rfl rfl ⟨_,rfl,?_⟩
 rw[sadv_w ql]
 all_goals exact⟨bV,aC,cF,wi.length,bH,bL,az,rfl,N,H.xm 4 11 (zR 0 4) (zR 6 5) (by simp only[List.length_cons,List.length_append];omega)<|by simp only[List.length_cons,List.length_append];omega⟩
end
section
theorem l08Puts_ok(w:World)(s:qO)(t:xn)(cell:Int){bs os:Nat}{qU:yOA}{qR:Nat}{xY:yLN}{xC:yOA}{xx:Nat}{zX:yLN}{bt ot:Nat}{zK:yOA}{zI:Nat}{jY:yLN}{vC:yOA}{vk:Nat}{Qe:yLN}{zg:yOA}{zf:Nat}{je:yLN}(hs:jI w bs os [.int .i64 s.qN,Sv qU s.qA.length qR,Sv xC s.qB.length xx])(xh:zP w xY qU qR s.qA)(xI:zP w zX xC xx s.qB)(ht:jI w bt ot [Sv zK t.xF.length zI,Sv vC t.qG.length vk,Sv zg t.qF.length zf])(ve:zP w jY zK zI t.xF)(jd:zP w Qe vC vk t.qG)(zB:zP w je zg zf t.qF)(k1:Qr s)(k2:vU s t)(kw:Whole t)(kc:0<=cell/\cell<s.qA.length):Calls Tryz.prog 154 #[.pointer<|some ⟨bs,os,none⟩,.pointer<|some ⟨bt,ot,none⟩,.int .i64 cell] w (Ret (fun v w'=>∃(ra0:yOA) (rn0:Nat) (rc0:Nat) (ra1:yOA) (rn1:Nat) (M7:Nat) (rx1:List Value) (rF1:yLN),v=.tuple #[Sv ra0 rn0 rc0,Sv ra1 rn1 M7]/\Fresh w.heap.size [rF1]/\St w w' [rr ra0 rn0 rc0 2 1 ((yK s (xG s t) cell s.qB.length).map<|Value.int .i64),rr ra1 rn1 M7 24 1 rx1] [qQ true rF1 rx1<|yc s t (xG s t) cell]) w):=by
 refine en Tryz.func154 Tryz.ntmps154 ?_
 have H:=(((((((St.start w).arg zB).arg jd).arg ve).argAt ht).arg xI).arg xh).argAt hs
 have jV:=qM xI
 have XM:=qM jd
 clear hs xh xI ht ve jd zB
 have N:=Fresh.nil w.heap.size
 have p0:=k1
 have p1:=k2
 have p2:=Vo k1 k2
 have p3:=k1.2.1
 have p6:=p2.1
 have p7:=k2.2.1
 have p8:=XR k1
 have p9:=k1.1.2.1
 have UG:=k2.1
 have p15:=k1.1
 have p16:=k1.1.1
 refine zcr<|sq 2<|zjc<|sq 2<|sw<|oc (l03First_ok _ s t (qH (H.get 0 rfl) 0 3) (H.get 1 rfl).1 (H.get 2 rfl).1 (qH (H.get 3 rfl) 0 3) (H.get 4 rfl).1 (H.get 5 rfl).1 (H.get 6 rfl).1 qg qg) ?_
 rintro _ w2 ⟨ra1,rn1,M7,rfl,M,K⟩ _
 replace H:=H.merge K M
 obtain rfl:=H.Qc 0 rfl
 refine sq 1<|zjc<|sq 2<|oF rfl<|oL rfl (H.zG 0 rfl 0 rfl)<|sw<|jP H underlying24 ti2 s.qN.toNat rfl rfl qf qf qf fun b7 w8 H=>sq 1<|zjc<|sq 1 ?_
 have awH:=H.base.size
 refine sw<|oc (l08Zeros_ok _ s (qH (H.get 0 rfl) 0 3) (H.get 1 rfl).1 (H.get 2 rfl).1 qg) ?_
 rintro _ sI ⟨Gf,rn9,mc,rx9,rF9,rfl,M,K⟩ _
 replace N:=N.merge awH qm M
 replace H:=H.merge K M
 obtain rfl:=H.xk (α:=yLI) 0 rfl 0 rfl qj
 refine sq 1<|zjcc<|sp (.int .i64 0)<|zjn<|xe<|zT ((fun Z0 Z1 Z2 Z3=>fun m' ρ H7=>∃(xP:Env) (vo:yOA) (tC:Nat) (wb:Nat) (D8:yLI) (i:Nat) (out:yLL) (QF:List Value) (Qo:yLN),ρ=upd (upd (upd (upd (upd (upd xP 0<|.pointer<|some ⟨bs,os,none⟩) 2<|.int .i64 cell) 8<|Sv ra1 ((xG s t).length) M7) 9<|Sv vo tC wb) 10<|Sv Gf ((jG s<|s.qA.length+1).length) mc) 11 (.int .i64 i)/\((i:Int)<=((xG s t).length))/\(Ent (s.qA.length+1) (jb s) (fun p q=>XV s t (xG s t) cell i p q) (1000+6000000*i) out)/\(out.length=s.qA.length+1)/\(TookOk s D8 i)/\(D8=(yK s (xG s t) cell i))/\m'=(((xG s t).length)-(i:Int)).toNat/\Fresh w.heap.size [Qo]/\St w H7 [rr Gf ((jG s<|s.qA.length+1).length) mc 24 1 QF,rr vo tC wb 2 1<|D8.map<|Value.int .i64,Z0] [qQ true Qo QF out,Z1,Z2,Z3]) _ _ _ _) ((((xG s t).length)-(0:Int)).toNat) ⟨_,(some ⟨b7,0,none⟩),s.qN.toNat,s.qN.toNat,(List.replicate s.qN.toNat (0:Int)),0,jG s<|s.qA.length+1,rx9,rF9,uE6,qf,(by exact(zeros_ent (B:=0) qf).to (fun _ _=>rfl) qf),(by rw[zeros_len]),(by exact TookOk.zero s),(by rfl),rfl,N,H.pick [0,1,2]<|zR 0 4⟩ ?_
 clear H N
 rintro m' ρ If ⟨xP,vo,tC,wb,D8,i,out,QF,Qo,rfl,i0,x6,aBU,tk,Lt,rfl,N,H⟩
 have art:=H.Qc 1 rfl
 have Vm:=H.xk (α:=yLI) 0 rfl 0 rfl qj
 refine zcc<|sp (.int .i64 i)<|sq 1<|oN rfl<|sq 1<|zjn<|cD rfl (fun GF=>?_)<|fun GF=>?_
 ·have q:=p0.rule (i:=i) qf
  have qc:=q.1
  have Rb:=q.2.2.2.2.1
  have UY:=q.2.2.2.2.2.2.2.1
  have Pg:=q.2.2.2.2.2.2.2.2.1
  have ln1:=Rb.len
  have ln2:=UY.len
  have ln3:=Pg.len
  have p10:=p2.bd (i:=i) qf
  have qn:=q.2.2.2.1
  refine qW<|t_n<|xM<|xe<|zcr<|sq 2<|oF rfl<|oL rfl (H.zG 1 rfl 2 rfl)<|sp (.int .i64 i) ?_
  have q_:=H.addr 3 rfl qf
  obtain⟨WW,o19,rfl⟩:=q_
  have q_:=H.QY 3 rfl i i qf qf qf
  obtain⟨amr,ahM,amz,aln,amI,ajT,apC,amT,aiO,ai6,aio,ah4,arI,arm,asc,ail,alw,aiB,H⟩:=q_
  refine oI rfl rfl<|sq 1<|zjcc<|sq 2<|oF rfl<|oL rfl (H.zG 6 rfl 0 rfl)<|sq 1<|sp (Bv (((s.qB[i]!).qZ:Int) != cell))<|sp (Bv (((s.qB[i]!).qZ:Int) != cell)) ?_
  cases oZ:(((s.qB[i]!).qZ:Int) != cell)
  ·replace oZ:=xK oZ
   refine qJ 44 rfl rfl<|sq 1<|qJ 44 rfl rfl<|sp (.int .i64 i)<|qJ 44 rfl rfl ?_
   have q_:=H.jB 2 rfl qf
   obtain⟨sK,rfl⟩:=q_
   refine oI rfl rfl<|qJ 44 rfl rfl<|oL rfl (H.rowInt 2 rfl (iv:=i) (i:=i) qf qf)<|qJ 44 rfl rfl<|sp (Bv (((xG s t)[i]! :Int) == 0))<|sp (Bv (((xG s t)[i]! :Int) == 0))<|zjn<|cE rfl (fun BH=>?_)<|fun BH=>?_
   ·refine c_exit (t_x<|b_x<|t_n<|xX<|sp (.int .i64 i)<|sw<|zS i 1 rfl rfl qf<|sq 1<|xU<|xu (m':=(((xG s t).length)-((i+1):Int)).toNat) qf ⟨_,_,_,_,_,i+1,_,_,_,uE6,?_,?_,?_,?_,?_,rfl,N,H.pick [0,1,2]<|zR 7 4⟩)
    ·omega
    ·exact x6.to (fun p q=>by rw[puts_zero (i:=i) ql]) qf
    ·omega
    ·exact tk.keep
    ·exact Lt.trans (took_no<|by exact fun h=>h.2 ql).symm
   ·refine qW (t_n<|xM<|QE rfl H fun H=>rtl 0 H ?_)
    refine rtl 1 H ?_
    refine rtl 2 H ?_
    refine tF 3 rfl rfl H ?_
    refine tL 4 rfl rfl (fun _ h=>h.zG 6 rfl 2 rfl) H ?_
    refine rtl 5 H ?_
    refine rtp 6 (.int .i64 i) H ?_
    refine tI 7 rfl rfl rfl H ?_
    refine tL 8 rfl rfl (fun _ h=>h.rowInt 2 rfl (iv:=i) (i:=i) qf qf) H ?_
    refine ro 9 rfl ?_
    have q_:=H.rowIsI 1 rfl
    obtain⟨G26,aja,oi⟩:=q_
    have q_:=tk.mid qf p8
    obtain⟨u1,u2⟩:=q_
    have u4:=Rb.Qp (t:=(xG s t)[i]!) qf
    refine oc (args_eq (by rw[←aja])<|QD _ D8 ((s.qB[i]!).zU) ((xG s t)[i]!) (aja▸oi) (H.get 0 rfl).1 qg qg qg) ?_
    rintro v34 Pn r34 x33
    replace H:=H.zV x33 r34
    have q_:=H.yf 0 rfl
    obtain⟨a35,c36,rfl,aCO,aDe⟩:=q_
    refine⟨H.pick [1,2,3]<|zR 0 11,(rtl 10 (H.pick [1,2,3]<|zR 0 11) ?_)⟩
    refine xy qh<|t_n<|xM<|X4 rfl H [0,2,3] fun H=>?_
    have S:=H.zW [0,2,3]<|zR 0 11
    refine rtl 0 S ?_
    refine rtl 1 S ?_
    refine rtl 2 S ?_
    refine rtl 3 S ?_
    have q_:=H.jB 1 rfl qf
    obtain⟨VX,rfl⟩:=q_
    have S:=H.zW [0,2,3]<|zR 0 11
    refine tI 4 rfl rfl rfl S ?_
    refine rtl 6 S ?_
    refine rtl 7 S ?_
    refine tF 8 rfl rfl S ?_
    refine tL 9 rfl rfl (fun _ h=>h.zG 6 rfl 5 rfl) S ?_
    refine rtl 10 S ?_
    refine rtp 11 (.int .i64 i) S ?_
    refine tI 12 rfl rfl rfl S ?_
    refine tL 13 rfl rfl (fun _ h=>h.rowInt 2 rfl (iv:=i) (i:=i) qf qf) S ?_
    refine ro 5 rfl ?_
    have q_:=H.Xl 1 rfl 7 rfl (iv:=cell) cell.toNat qf qf
    obtain⟨a41,c42,G43,s44,Bt,H⟩:=q_
    refine zJ (Sv a41 ((out[cell.toNat]!).length) c42) isAgg24 rfl (Bt)<|⟨H.pick [0,2,3]<|zR 1 11,(ro 14 rfl ?_)⟩
    have q_:=x6.sh.row (c:=cell.toNat) qf p8 qf
    obtain⟨u1,u2⟩:=q_
    have u4:=(by exact UY.Qp qf:X8 ((s.qB[i]!).jF) ((xG s t)[i]!))
    refine oc (QD _ (out[cell.toNat]!) ((s.qB[i]!).jF) ((xG s t)[i]!) (H.get 0 rfl).1 (H.get 4 rfl).1 qg qg qg) ?_
    rintro v51 w49 r51 x50
    replace H:=H.zV x50 r51
    have q_:=H.yf 0 rfl
    obtain⟨a52,c53,rfl,aIN,aIe⟩:=q_
    refine⟨H.pick [1,3,4]<|zR 1 11,(tI 15 rfl rfl rfl (H.pick [1,3,4]<|zR 1 11) ?_)⟩
    refine ro 16 rfl ?_
    have q_:=H.vJ 0 rfl N<|H.vV [8]
    obtain⟨BK,N,alk,H⟩:=q_
    refine Qd true H 2 rfl 9 rfl (Sv a52 ((jc (out[cell.toNat]!) ((s.qB[i]!).jF) ((xG s t)[i]!)).length) c53) 0 rfl rfl sizeOf24 rfl rfl (i:=cell.toNat) qf qf qm fun w56 aHt F60 atl H=>?_
    replace N:Fresh w.heap.size [F60]:=(N.pick [1,0]).repl atl
    refine⟨H.pick [1,3,4]<|zR 3 11,(xy qh<|t_n<|zcr<|sq 2<|oF rfl<|oL rfl (H.zG 11 rfl 1 rfl)<|oN rfl<|sq 1<|zjcc<|sq 1<|sp (Bv<|decide ((cell:Int)>0))<|zjn<|cD rfl (fun PF=>?_)<|fun PF=>?_)⟩
    ·have q_:∃z,z=(out.set cell.toNat<|jc (out[cell.toNat]!) ((s.qB[i]!).jF) ((xG s t)[i]!)):=⟨_,rfl⟩
     obtain⟨LA,Ok⟩:=q_
     rw[←Ok] at H
     have E9:=Ent.add (D:=1000000) x6 Ok qf (by exact UY.mul qf) qf
     have ax6:=E9.sh.1
     have pu:=p15.up (c:=cell) qf qf
     have po:outPl s t (s.qB[i]!)=(s.qA[cell.toNat]!).toNat:=by rw[outPl_up qf,(by assumption:(s.qB[i]!).qZ=cell),whole_parent kw p15 UG qf qf]
     refine xX<|sq 2<|oF rfl<|oL rfl (H.zG 11 rfl 1 rfl)<|sq 1 ?_
     have q_:=H.addr 12 rfl qf
     obtain⟨b64,o65,rfl⟩:=q_
     refine oI rfl rfl<|oL rfl (H.elemInt 12 rfl cell qf qf)<|sq 1<|zjn<|xM<|X4 rfl H [0,1,3,4] fun H=>?_
     have S:=H.zW [0,1,3,4]<|zR 0 14
     refine rtl 0 S ?_
     refine rtl 1 S ?_
     refine rtl 2 S ?_
     refine rtl 3 S ?_
     refine tI 4 rfl rfl rfl S ?_
     refine rtl 6 S ?_
     refine rtl 7 S ?_
     refine tF 8 rfl rfl S ?_
     refine tL 9 rfl rfl (fun _ h=>h.zG 9 rfl 6 rfl) S ?_
     refine rtl 10 S ?_
     refine rtp 11 (.int .i64 i) S ?_
     refine tI 12 rfl rfl rfl S ?_
     refine tL 13 rfl rfl (fun _ h=>h.rowInt 3 rfl (iv:=i) (i:=i) qf qf) S ?_
     refine ro 5 rfl ?_
     have q_:=H.Xl 2 rfl 0 rfl (iv:=s.qA[cell.toNat]!) ((s.qA[cell.toNat]!).toNat) qf qf
     obtain⟨a68,c69,YG,s71,h72,H⟩:=q_
     refine zJ (Sv a68 ((LA[(s.qA[cell.toNat]!).toNat]!).length) c69) isAgg24 rfl (h72)<|⟨H.pick [0,1,3,4]<|zR 1 14,(ro 14 rfl ?_)⟩
     have q_:=E9.sh.row (c:=(s.qA[cell.toNat]!).toNat) qf p8 qf
     obtain⟨u1,u2⟩:=q_
     have u4:=(by exact Pg.Qp qf:X8 ((s.qB[i]!).QL) ((xG s t)[i]!))
     refine oc (QD _ (LA[(s.qA[cell.toNat]!).toNat]!) ((s.qB[i]!).QL) ((xG s t)[i]!) (H.get 0 rfl).1 (H.get 8 rfl).1 qg qg qg) ?_
     rintro v78 w76 r78 x77
     replace H:=H.zV x77 r78
     have q_:=H.yf 0 rfl
     obtain⟨a79,c80,rfl,aDC,aId⟩:=q_
     refine⟨H.pick [1,2,4,5]<|zR 1 14,(tI 15 rfl rfl rfl (H.pick [1,2,4,5]<|zR 1 14) ?_)⟩
     refine ro 16 rfl ?_
     have q_:=H.vJ 0 rfl N<|H.vV [1]
     obtain⟨G84,N,aHP,H⟩:=q_
     refine Qd true H 3 rfl 2 rfl (Sv a79 ((jc (LA[(s.qA[cell.toNat]!).toNat]!) ((s.qB[i]!).QL) ((xG s t)[i]!)).length) c80) 0 rfl rfl sizeOf24 rfl rfl (i:=((s.qA[cell.toNat]!).toNat)) qf qf qm fun w83 avZ F87 au0 H=>?_
     replace N:Fresh w.heap.size [F87]:=(N.pick [1,0]).repl au0
     refine⟨H.pick [1,2,4,5]<|zR 3 14,(xy qh<|t_n<|zcr<|sp (.int .i64 0)<|zjn<|xe ?_)⟩
     have q_:∃z,z=(LA.set ((s.qA[cell.toNat]!).toNat)<|jc (LA[(s.qA[cell.toNat]!).toNat]!) ((s.qB[i]!).QL) ((xG s t)[i]!)):=⟨_,rfl⟩
     obtain⟨avI,O5⟩:=q_
     rw[←O5] at H
     have NH:=Ent.add (D:=1000000) E9 O5 qf (by exact Pg.mul qf) qf
     have awg:=NH.sh.1
     have iP:=NH
     refine zT ((fun Z0 Z1 Z2 Z3 Z4 Z5 Z6 Z7 Z8 Z9 fi fK gW=>fun m' ρ T0=>∃(xP:Env) (k:Nat) (eN:yLL) (lx:List Value) (lY:yLN),ρ=upd (upd (upd (upd (upd (upd (upd (upd (upd (upd (upd (upd (upd xP 0<|.pointer<|some ⟨bs,os,none⟩) 2<|.int .i64 cell) 8<|Sv (some ⟨sK,0,none⟩) ((xG s t).length) M7) 9<|Sv a35 ((jc D8 ((s.qB[i]!).zU) ((xG s t)[i]!)).length) c36) 10<|Sv (some ⟨VX,0,none⟩) ((jG s<|s.qA.length+1).length) mc) 11<|.int .i64 i) 12<|.pointer<|some ⟨WW,o19+(i:Int).toNat*9,none⟩) 14<|.int .i64 k) 45<|Sv (some ⟨sK,0,none⟩) ((xG s t).length) M7) 46<|.int .i64 i) 47<|.pointer<|some ⟨sK,0+(i:Int).toNat*1,none⟩) 48<|.int .i64 ((xG s t)[i]!)) 49 (Bv (((xG s t)[i]! :Int) == 0))/\((k:Int)<=(((s.qB[i]!).xw).length))/\(Ent (s.qA.length+1) (jb s) (fun p q=>XV s t (xG s t) cell i p q+at' p (s.qB[i]!).qZ.toNat ((((xG s t))[i]!)*((s.qB[i]!).jF)[q]!)+at' p (outPl s t<|s.qB[i]!) ((((xG s t))[i]!)*((s.qB[i]!).QL)[q]!)+intoF (s.qB[i]!) (((xG s t))[i]!) k p q) (3000000+6000000*i+1000000*k) eN)/\(eN.length=s.qA.length+1)/\m'=((((s.qB[i]!).xw).length)-(k:Int)).toNat/\Fresh w.heap.size [lY]/\St w T0 [Z0,rr (some ⟨VX,0,none⟩) ((jG s<|s.qA.length+1).length) mc 24 1 lx,Z1,Z2] [qQ true lY lx eN,Z3,Z4,Z5,Z6,Z7,Z8,Z9,fi,fK,gW]) _ _ _ _ _ _ _ _ _ _ _ _ _) (((((s.qB[i]!).xw).length)-(0:Int)).toNat) ⟨_,0,avI,avZ,F87,uE13,qf,(by exact iP.to (fun p q=>by rw[po,(by assumption:(s.qB[i]!).qZ=cell)];simp only[intoF];omega) qf),qf,rfl,N,H.pick (zR 2 4) [0,6,7,8,9,10,11,12,14,15,16]⟩ ?_
     clear H N
     rintro m' ρ w91 ⟨xP,k,eN,lx,lY,rfl,i0,lO,RJ,rfl,N,H⟩
     refine zcc<|sp (.int .i64 k)<|sq 2<|oF rfl<|oL rfl (H.zG 7 rfl 7 rfl)<|oN rfl<|sq 1<|zjn<|cD rfl (fun h92=>?_)<|fun h92=>?_
     ·have qi:=q.2.2.2.2.2.2.2.2.2.2 k qf
      have qi1:=qi.1
      have D9:=qi.2.2.1
      have ln4:=D9.len
      refine qW<|t_n<|xM<|xe<|zcr<|sq 2<|oF rfl<|oL rfl (H.zG 7 rfl 7 rfl)<|sp (.int .i64 k) ?_
      have q_:=H.addr 6 rfl qf
      obtain⟨b93,o94,rfl⟩:=q_
      have q_:=H.Qw 6 rfl k k qf qf qf
      obtain⟨arC,arG,aqe,H⟩:=q_
      refine oI rfl rfl<|oF rfl<|oL rfl (H.zG 1 rfl 0 rfl)<|sq 1<|zjn<|X4 rfl H [0,2,3] fun H=>?_
      have S:=H.zW [0,2,3]<|zR 0 13
      refine rtl 0 S ?_
      refine rtl 1 S ?_
      refine rtl 2 S ?_
      refine rtl 3 S ?_
      refine tI 4 rfl rfl rfl S ?_
      refine rtl 6 S ?_
      refine rtl 7 S ?_
      refine tF 8 rfl rfl S ?_
      refine tL 9 rfl rfl (fun _ h=>h.zG 9 rfl 7 rfl) S ?_
      refine rtp 10 (.int .i64 k) S ?_
      refine tI 11 rfl rfl rfl S ?_
      refine tF 12 rfl rfl S ?_
      refine tL 13 rfl rfl (fun _ h=>h.zG 1 rfl 1 rfl) S ?_
      refine rtl 14 S ?_
      refine rtp 15 (.int .i64 i) S ?_
      refine tI 16 rfl rfl rfl S ?_
      refine tL 17 rfl rfl (fun _ h=>h.rowInt 2 rfl (iv:=i) (i:=i) qf qf) S ?_
      refine ro 5 rfl ?_
      have q_:=H.Xl 1 rfl 2 rfl (iv:=(((s.qB[i]!).xw)[k]!).qZ) (((((s.qB[i]!).xw)[k]!).qZ).toNat) qf qf
      obtain⟨a98,c99,Y5,aEc,axu,H⟩:=q_
      refine zJ (Sv a98 ((eN[((((s.qB[i]!).xw)[k]!).qZ).toNat]!).length) c99) isAgg24 rfl (axu)<|⟨H.pick [0,2,3]<|zR 1 13,(ro 18 rfl ?_)⟩
      have q_:=lO.sh.row (c:=((((s.qB[i]!).xw)[k]!).qZ).toNat) qf p8 qf
      obtain⟨u1,u2⟩:=q_
      have u4:=(by exact D9.Qp qf:X8 ((((s.qB[i]!).xw)[k]!).Xa) ((xG s t)[i]!))
      refine oc (QD _ (eN[((((s.qB[i]!).xw)[k]!).qZ).toNat]!) ((((s.qB[i]!).xw)[k]!).Xa) ((xG s t)[i]!) (H.get 0 rfl).1 (H.get 1 rfl).1 qg qg qg) ?_
      rintro aF6 abR aut awC
      replace H:=H.zV awC aut
      have q_:=H.yf 0 rfl
      obtain⟨acu,Zp,rfl,aBl,aCe⟩:=q_
      refine⟨H.pick [1,3,4]<|zR 1 13,(tI 19 rfl rfl rfl (H.pick [1,3,4]<|zR 1 13) ?_)⟩
      refine ro 20 rfl ?_
      have q_:=H.vJ 0 rfl N<|H.vV [3]
      obtain⟨aEW,N,aCq,H⟩:=q_
      refine Qd true H 2 rfl 4 rfl (Sv acu ((jc (eN[((((s.qB[i]!).xw)[k]!).qZ).toNat]!) ((((s.qB[i]!).xw)[k]!).Xa) ((xG s t)[i]!)).length) Zp) 0 rfl rfl sizeOf24 rfl rfl (i:=(((((s.qB[i]!).xw)[k]!).qZ).toNat)) qf qf qm fun ZM aB6 avd an6 H=>?_
      replace N:Fresh w.heap.size [avd]:=(N.pick [1,0]).repl an6
      refine⟨H.pick [1,3,4]<|zR 3 13,(xy qh<|b_n<|t_n<|xX<|sp (.int .i64 k)<|sw<|zS k 1 rfl rfl qf<|sq 1<|xU ?_)⟩
      have q_:∃z,z=(eN.set (((((s.qB[i]!).xw)[k]!).qZ).toNat)<|jc (eN[((((s.qB[i]!).xw)[k]!).qZ).toNat]!) ((((s.qB[i]!).xw)[k]!).Xa) ((xG s t)[i]!)):=⟨_,rfl⟩
      obtain⟨ayX,HF⟩:=q_
      rw[←HF] at H
      have He:=Ent.add (D:=1000000) lO HF qf (by exact D9.mul qf) qf
      have aqE:=He.sh.1
      have iP:=He
      refine xu (m':=((((s.qB[i]!).xw).length)-((k+1):Int)).toNat) qf ⟨_,k+1,_,_,_,uE13,?_,?_,?_,rfl,N,H.pick (zR 1 4) (0::zR 6 10)⟩
      ·omega
      ·exact iP.to (fun p q=>by simp only[intoF];omega) qf
      ·omega
     ·refine c_exit (t_x<|t_x<|b_x<|b_n<|t_n<|xX<|sp (.int .i64 i)<|sw<|zS i 1 rfl rfl qf<|sq 1<|xU<|xu (m':=(((xG s t).length)-((i+1):Int)).toNat) qf ⟨_,_,_,_,_,i+1,_,_,_,uE6,?_,?_,?_,?_,?_,rfl,N,H.pick [1,0,3] [0,8,9,10]⟩)
      ·omega
      ·exact lO.to (fun p q=>by rw[show k=((s.qB[i]!).xw).length by omega,puts_yes (i:=i) ql];simp only[putF];omega) qf
      ·omega
      ·exact tk.plus Rb qf
      ·exact(congrArg (fun z=>jc z _ _) Lt).trans (took_yes ql ql).symm
    ·have q_:∃z,z=(out.set cell.toNat<|jc (out[cell.toNat]!) ((s.qB[i]!).jF) ((xG s t)[i]!)):=⟨_,rfl⟩
     obtain⟨Dh,Gi⟩:=q_
     rw[←Gi] at H
     have Bb:=Ent.add (D:=1000000) x6 Gi qf (by exact UY.mul qf) qf
     have arn:=Bb.sh.1
     have po:outPl s t (s.qB[i]!)=s.qA.length:=outPl_root qf
     refine qW<|t_n<|xM<|X4 rfl H [0,1,3,4] fun H=>?_
     have S:=H.zW [0,1,3,4]<|zR 0 14
     refine rtl 0 S ?_
     refine rtl 1 S ?_
     refine rtl 2 S ?_
     refine rtl 3 S ?_
     refine tI 4 rfl rfl rfl S ?_
     refine rtl 6 S ?_
     refine rtl 7 S ?_
     refine tF 8 rfl rfl S ?_
     refine tL 9 rfl rfl (fun _ h=>h.zG 9 rfl 6 rfl) S ?_
     refine rtl 10 S ?_
     refine rtp 11 (.int .i64 i) S ?_
     refine tI 12 rfl rfl rfl S ?_
     refine tL 13 rfl rfl (fun _ h=>h.rowInt 3 rfl (iv:=i) (i:=i) qf qf) S ?_
     refine ro 5 rfl ?_
     have q_:=H.Xl 2 rfl 0 rfl (iv:=s.qA.length) s.qA.length qf qf
     obtain⟨awu,avW,aFh,aEl,auP,H⟩:=q_
     refine zJ (Sv awu ((Dh[s.qA.length]!).length) avW) isAgg24 rfl (auP)<|⟨H.pick [0,1,3,4]<|zR 1 14,(ro 14 rfl ?_)⟩
     have q_:=Bb.sh.row (c:=s.qA.length) qf p8 qf
     obtain⟨u1,u2⟩:=q_
     have u4:=(by exact Pg.Qp qf:X8 ((s.qB[i]!).QL) ((xG s t)[i]!))
     refine oc (QD _ (Dh[s.qA.length]!) ((s.qB[i]!).QL) ((xG s t)[i]!) (H.get 0 rfl).1 (H.get 8 rfl).1 qg qg qg) ?_
     rintro aDF RC avu ate
     replace H:=H.zV ate avu
     have q_:=H.yf 0 rfl
     obtain⟨aj0,aeD,rfl,aAo,azZ⟩:=q_
     refine⟨H.pick [1,2,4,5]<|zR 1 14,(tI 15 rfl rfl rfl (H.pick [1,2,4,5]<|zR 1 14) ?_)⟩
     refine ro 16 rfl ?_
     have q_:=H.vJ 0 rfl N<|H.vV [1]
     obtain⟨ku,N,agw,H⟩:=q_
     refine Qd true H 3 rfl 2 rfl (Sv aj0 ((jc (Dh[s.qA.length]!) ((s.qB[i]!).QL) ((xG s t)[i]!)).length) aeD) 0 rfl rfl sizeOf24 rfl rfl (i:=s.qA.length) qf qf qm fun NM aiN afr alD H=>?_
     replace N:Fresh w.heap.size [afr]:=(N.pick [1,0]).repl alD
     refine⟨H.pick [1,2,4,5]<|zR 3 14,(xy qh<|t_n<|zcr<|sp (.int .i64 0)<|zjn<|xe ?_)⟩
     have q_:∃z,z=(Dh.set s.qA.length<|jc (Dh[s.qA.length]!) ((s.qB[i]!).QL) ((xG s t)[i]!)):=⟨_,rfl⟩
     obtain⟨aky,GM⟩:=q_
     rw[←GM] at H
     have FP:=Ent.add (D:=1000000) Bb GM qf (by exact Pg.mul qf) qf
     have arh:=FP.sh.1
     have iP:=FP
     refine zT ((fun Z0 Z1 Z2 Z3 Z4 Z5 Z6 Z7 Z8 Z9 fi fK gW=>fun m' ρ agK=>∃(xP:Env) (k:Nat) (eN:yLL) (lx:List Value) (lY:yLN),ρ=upd (upd (upd (upd (upd (upd (upd (upd (upd (upd (upd (upd (upd xP 0<|.pointer<|some ⟨bs,os,none⟩) 2<|.int .i64 cell) 8<|Sv (some ⟨sK,0,none⟩) ((xG s t).length) M7) 9<|Sv a35 ((jc D8 ((s.qB[i]!).zU) ((xG s t)[i]!)).length) c36) 10<|Sv (some ⟨VX,0,none⟩) ((jG s<|s.qA.length+1).length) mc) 11<|.int .i64 i) 12<|.pointer<|some ⟨WW,o19+(i:Int).toNat*9,none⟩) 14<|.int .i64 k) 45<|Sv (some ⟨sK,0,none⟩) ((xG s t).length) M7) 46<|.int .i64 i) 47<|.pointer<|some ⟨sK,0+(i:Int).toNat*1,none⟩) 48<|.int .i64 ((xG s t)[i]!)) 49 (Bv (((xG s t)[i]! :Int) == 0))/\((k:Int)<=(((s.qB[i]!).xw).length))/\(Ent (s.qA.length+1) (jb s) (fun p q=>XV s t (xG s t) cell i p q+at' p (s.qB[i]!).qZ.toNat ((((xG s t))[i]!)*((s.qB[i]!).jF)[q]!)+at' p (outPl s t<|s.qB[i]!) ((((xG s t))[i]!)*((s.qB[i]!).QL)[q]!)+intoF (s.qB[i]!) (((xG s t))[i]!) k p q) (3000000+6000000*i+1000000*k) eN)/\(eN.length=s.qA.length+1)/\m'=((((s.qB[i]!).xw).length)-(k:Int)).toNat/\Fresh w.heap.size [lY]/\St w agK [Z0,rr (some ⟨VX,0,none⟩) ((jG s<|s.qA.length+1).length) mc 24 1 lx,Z1,Z2] [qQ true lY lx eN,Z3,Z4,Z5,Z6,Z7,Z8,Z9,fi,fK,gW]) _ _ _ _ _ _ _ _ _ _ _ _ _) (((((s.qB[i]!).xw).length)-(0:Int)).toNat) ⟨_,0,aky,aiN,afr,uE13,qf,(by exact iP.to (fun p q=>by rw[po,(by assumption:(s.qB[i]!).qZ=cell)];simp only[intoF];omega) qf),qf,rfl,N,H.pick (zR 2 4) [0,6,7,8,9,10,11,12,14,15,16]⟩ ?_
     clear H N
     rintro m' ρ abE ⟨xP,k,eN,lx,lY,rfl,i0,lO,RJ,rfl,N,H⟩
     refine zcc<|sp (.int .i64 k)<|sq 2<|oF rfl<|oL rfl (H.zG 7 rfl 7 rfl)<|oN rfl<|sq 1<|zjn<|cD rfl (fun avR=>?_)<|fun avR=>?_
     ·have qi:=q.2.2.2.2.2.2.2.2.2.2 k qf
      have qi1:=qi.1
      have D9:=qi.2.2.1
      have ln4:=D9.len
      refine qW<|t_n<|xM<|xe<|zcr<|sq 2<|oF rfl<|oL rfl (H.zG 7 rfl 7 rfl)<|sp (.int .i64 k) ?_
      have q_:=H.addr 6 rfl qf
      obtain⟨aDc,aEF,rfl⟩:=q_
      have q_:=H.Qw 6 rfl k k qf qf qf
      obtain⟨aiY,agM,aeZ,H⟩:=q_
      refine oI rfl rfl<|oF rfl<|oL rfl (H.zG 1 rfl 0 rfl)<|sq 1<|zjn<|X4 rfl H [0,2,3] fun H=>?_
      have S:=H.zW [0,2,3]<|zR 0 13
      refine rtl 0 S ?_
      refine rtl 1 S ?_
      refine rtl 2 S ?_
      refine rtl 3 S ?_
      refine tI 4 rfl rfl rfl S ?_
      refine rtl 6 S ?_
      refine rtl 7 S ?_
      refine tF 8 rfl rfl S ?_
      refine tL 9 rfl rfl (fun _ h=>h.zG 9 rfl 7 rfl) S ?_
      refine rtp 10 (.int .i64 k) S ?_
      refine tI 11 rfl rfl rfl S ?_
      refine tF 12 rfl rfl S ?_
      refine tL 13 rfl rfl (fun _ h=>h.zG 1 rfl 1 rfl) S ?_
      refine rtl 14 S ?_
      refine rtp 15 (.int .i64 i) S ?_
      refine tI 16 rfl rfl rfl S ?_
      refine tL 17 rfl rfl (fun _ h=>h.rowInt 2 rfl (iv:=i) (i:=i) qf qf) S ?_
      refine ro 5 rfl ?_
      have q_:=H.Xl 1 rfl 2 rfl (iv:=(((s.qB[i]!).xw)[k]!).qZ) (((((s.qB[i]!).xw)[k]!).qZ).toNat) qf qf
      obtain⟨RP,PR,aIn,aGY,ayB,H⟩:=q_
      refine zJ (Sv RP ((eN[((((s.qB[i]!).xw)[k]!).qZ).toNat]!).length) PR) isAgg24 rfl (ayB)<|⟨H.pick [0,2,3]<|zR 1 13,(ro 18 rfl ?_)⟩
      have q_:=lO.sh.row (c:=((((s.qB[i]!).xw)[k]!).qZ).toNat) qf p8 qf
      obtain⟨u1,u2⟩:=q_
      have u4:=(by exact D9.Qp qf:X8 ((((s.qB[i]!).xw)[k]!).Xa) ((xG s t)[i]!))
      refine oc (QD _ (eN[((((s.qB[i]!).xw)[k]!).qZ).toNat]!) ((((s.qB[i]!).xw)[k]!).Xa) ((xG s t)[i]!) (H.get 0 rfl).1 (H.get 1 rfl).1 qg qg qg) ?_
      rintro auj abS Zj ZE
      replace H:=H.zV ZE Zj
      have q_:=H.yf 0 rfl
      obtain⟨Qf,Ss,rfl,aex,agP⟩:=q_
      refine⟨H.pick [1,3,4]<|zR 1 13,(tI 19 rfl rfl rfl (H.pick [1,3,4]<|zR 1 13) ?_)⟩
      refine ro 20 rfl ?_
      have q_:=H.vJ 0 rfl N<|H.vV [3]
      obtain⟨auc,N,K3,H⟩:=q_
      refine Qd true H 2 rfl 4 rfl (Sv Qf ((jc (eN[((((s.qB[i]!).xw)[k]!).qZ).toNat]!) ((((s.qB[i]!).xw)[k]!).Xa) ((xG s t)[i]!)).length) Ss) 0 rfl rfl sizeOf24 rfl rfl (i:=(((((s.qB[i]!).xw)[k]!).qZ).toNat)) qf qf qm fun apB aAB aty anP H=>?_
      replace N:Fresh w.heap.size [aty]:=(N.pick [1,0]).repl anP
      refine⟨H.pick [1,3,4]<|zR 3 13,(xy qh<|b_n<|t_n<|xX<|sp (.int .i64 k)<|sw<|zS k 1 rfl rfl qf<|sq 1<|xU ?_)⟩
      have q_:∃z,z=(eN.set (((((s.qB[i]!).xw)[k]!).qZ).toNat)<|jc (eN[((((s.qB[i]!).xw)[k]!).qZ).toNat]!) ((((s.qB[i]!).xw)[k]!).Xa) ((xG s t)[i]!)):=⟨_,rfl⟩
      obtain⟨aCr,Hl⟩:=q_
      rw[←Hl] at H
      have Ga:=Ent.add (D:=1000000) lO Hl qf (by exact D9.mul qf) qf
      have aqW:=Ga.sh.1
      have iP:=Ga
      refine xu (m':=((((s.qB[i]!).xw).length)-((k+1):Int)).toNat) qf ⟨_,k+1,_,_,_,uE13,?_,?_,?_,rfl,N,H.pick (zR 1 4) (0::zR 6 10)⟩
      ·omega
      ·exact iP.to (fun p q=>by simp only[intoF];omega) qf
      ·omega
     ·refine c_exit (t_x<|t_x<|b_x<|b_n<|t_n<|xX<|sp (.int .i64 i)<|sw<|zS i 1 rfl rfl qf<|sq 1<|xU<|xu (m':=(((xG s t).length)-((i+1):Int)).toNat) qf ⟨_,_,_,_,_,i+1,_,_,_,uE6,?_,?_,?_,?_,?_,rfl,N,H.pick [1,0,3] [0,8,9,10]⟩)
      ·omega
      ·exact lO.to (fun p q=>by rw[show k=((s.qB[i]!).xw).length by omega,puts_yes (i:=i) ql];simp only[putF];omega) qf
      ·omega
      ·exact tk.plus Rb qf
      ·exact(congrArg (fun z=>jc z _ _) Lt).trans (took_yes ql ql).symm
  ·replace oZ:=bne_iff_ne.1 oZ
   refine xO (zR 45 5)<|sp (Bv true)<|zjn<|cTr rfl<|c_exit<|t_x<|b_x<|t_n<|xX<|sp (.int .i64 i)<|sw<|zS i 1 rfl rfl qf<|sq 1<|xU<|xu (m':=(((xG s t).length)-((i+1):Int)).toNat) qf ⟨_,_,_,_,_,i+1,_,_,_,uE6,?_,?_,?_,?_,?_,rfl,N,H.pick [0,1,2]<|zR 7 4⟩
   ·omega
   ·exact x6.to (fun p q=>by rw[puts_no (i:=i) ql]) qf
   ·omega
   ·exact tk.keep
   ·exact Lt.trans (took_no<|by exact fun h=>absurd h.1 ql).symm
 ·refine zx4 (zcr<|sq 4<|zjr<|ret2 (Sv vo tC wb) (Sv Gf ((jG s<|s.qA.length+1).length) mc) rfl rfl rfl ⟨_,rfl,?_,H.base⟩)
  obtain rfl:i=s.qB.length:=by omega
  subst Lt
  obtain rfl:out=yc s t (xG s t) cell:=x6.tab
  exact⟨vo,tC,wb,Gf,(jG s<|s.qA.length+1).length,mc,QF,Qo,rfl,N,H.pick [1,0] [0]⟩
theorem sowner_ok(own:yLI)(ao:yOA)(co:Nat)(Fo:yLN)(sb:Nat)(bk:Nat)(eB:yOA)(ee:Nat)(cz:Nat)(cF:yOA)(j9:Nat)(bH:Nat)(xv:Nat)(H:St W0 w ((.box bk [.pointer<|some ⟨sb,0,none⟩,Sv ao own.length co,Sv eB ee cz,Sv cF j9 bH] 86)::ps) ((sF false Fo ao co own)::Γ))(N:Fresh W0.heap.size (Ns))(K0:Kept Ns Γ)(p0:xv<=own.length)(p1:0<own.length):Calls Tryz.prog 156 #[.pointer<|some ⟨bk,0,none⟩,.int .i64 xv] w (fun e w'=>∃v,e=.returned v/\v=.int .i64 (vZ own xv)/\Fresh W0.heap.size (Ns)/\St W0 w' ((.box bk [.pointer<|some ⟨sb,0,none⟩,Sv ao own.length co,Sv eB ee cz,Sv cF j9 bH] 86)::ps) ((sF false Fo ao co own)::Γ)):=by
 refine en Tryz.func156 Tryz.ntmps156 ?_
 have Ir:=qM (H.get 0 rfl).1
 refine zcr<|sp (.int .i64 0)<|zjcc<|sp (.int .i64 xv)<|sq 2<|oF rfl<|oL rfl (H.cell 0 rfl rfl)<|oN rfl<|sq 1<|zjn<|cE rfl (fun h1=>?_)<|fun h1=>?_
 ·refine zcr (sq 2<|oF rfl<|oL rfl (H.cell 0 rfl rfl) ?_)
  obtain⟨b2,o3,rfl⟩:=H.addr 0 rfl qf
  refine oI rfl rfl<|oL rfl (H.vG 0 rfl 0 qf)<|sq 1<|zjr<|t_r<|ret1 (.int .i64<|own[0]!) rfl rfl ⟨_,rfl,?_⟩
  rw[ownAt_e qf]
  exact⟨rfl,N,H.xm 1 1 [0] [0] (by simp only[List.length_cons,List.length_append];omega)<|by simp only[List.length_cons,List.length_append];omega⟩
 ·refine qW (t_n<|zcr<|sq 2<|oF rfl<|oL rfl (H.cell 0 rfl rfl)<|sp (.int .i64 xv) ?_)
  obtain⟨b5,o6,rfl⟩:=H.addr 0 rfl qf
  refine oI rfl rfl<|oL rfl (H.vG 0 rfl xv qf)<|sq 1<|zjr<|ret1 (.int .i64<|own[xv]!) rfl rfl ⟨_,rfl,?_⟩
  rw[ownAt_n qf]
  exact⟨rfl,N,H.xm 1 1 [0] [0] (by simp only[List.length_cons,List.length_append];omega)<|by simp only[List.length_cons,List.length_append];omega⟩
theorem swork_ok(s:qO)(own:yLI)(ap:yOA)(cp:Nat)(Fp:yLN)(ar:yOA)(cr:Nat)(Fr:yLN)(ao:yOA)(co:Nat)(Fo:yLN)(sb:Nat)(sv:List zu)(wi:List zk)(bk:Nat)(n:Nat)(eB:yOA)(ee:Nat)(cz:Nat)(bV:List Value)(aC:yLN)(cF:yOA)(j9:Nat)(bH:Nat)(bL:List Value)(az:yLN)(iv:Int)(H:St W0 w ((.box bk [.pointer<|some ⟨sb,0,none⟩,Sv ao own.length co,Sv eB ee cz,Sv cF j9 bH] 86)::(.box sb [.int .i64 s.qN,Sv ap s.qA.length cp,Sv ar s.qB.length cr] 27)::(rr eB ee cz 49 16 bV)::(rr cF j9 bH 77 4 bL)::ps) ((sF false Fp ap cp s.qA)::(sF false Fr ar cr s.qB)::(sF false Fo ao co own)::(qQ true aC bV sv)::(qQ true az bL wi)::Γ))(N:Fresh W0.heap.size (aC::az::Ns))(K0:Kept Ns Γ)(p0:Giv s own n)(p1:Vh s own n (⟨sv,wi⟩:zN))(p2:0<=iv/\iv<n)(OL:∀f∈(sF false Fp ap cp s.qA::sF false Fr ar cr s.qB::sF false Fo ao co own::Γ),∀b∈f.F,b<W0.heap.size):Calls Tryz.prog 108 #[.pointer<|some ⟨bk,0,none⟩,.int .i64 iv] w (fun e w'=>∃v,e=.returned v/\∃(pU:List Value) (pE:yLN) (qs:yOA) (q8:Nat) (qd:Nat) (px:List Value) (rf:yLN),v=.int .i64 ((workM s own (⟨sv,wi⟩:zN) iv.toNat).2)/\Fresh W0.heap.size (pE::rf::Ns)/\St W0 w' ((.box bk [.pointer<|some ⟨sb,0,none⟩,Sv ao own.length co,Sv eB ee cz,Sv qs q8 qd] 86)::(.box sb [.int .i64 s.qN,Sv ap s.qA.length cp,Sv ar s.qB.length cr] 27)::(rr eB ee cz 49 16 pU)::(rr qs q8 qd 77 4 px)::ps) ((sF false Fp ap cp s.qA)::(sF false Fr ar cr s.qB)::(sF false Fo ao co own)::(qQ true pE pU ((workM s own (⟨sv,wi⟩:zN) iv.toNat).1.qE))::(qQ true rf px ((workM s own (⟨sv,wi⟩:zN) iv.toNat).1.x9))::Γ)):=by
 refine en Tryz.func108 Tryz.ntmps108 ?_
 have Ir:=qM (H.get 2 rfl).1
 obtain rfl:=H.xk (α:=zu) 2 rfl 3 rfl qj
 obtain rfl:=H.xk (α:=zk) 3 rfl 4 rfl qj
 have g1:=p0.sys
 have g2:=p0.len
 have g3:=p0.own
 have g4:=p0.few
 have l1:sv.length=n:=p1.len
 have y1:jy s own n iv.toNat (sv[iv.toNat]!).qC/\jy s own n iv.toNat (sv[iv.toNat]!).qI:=p1.srv iv.toNat qf
 have y2:=y1.1.small p0
 have y4:=y2.bags
 have y5:=y2.around
 subst l1
 have p5:=p0.sys.1
 have p6:own.length=s.qA.length:=p0.len
 have p7:=p0.sys.1.2.1
 have v1:=sview_ok p0 y1.1
 have v2:=sview_w s (sv[iv.toNat]!).qC
 obtain⟨vs,EO⟩:∃z,(⟨List.replicate s.qA.length true,((sv[iv.toNat]!).qC).qG,((sv[iv.toNat]!).qC).qF⟩:xn)=z:=⟨_,rfl⟩
 have v3:=v1
 rw[EO] at v3
 refine zcr<|sp (.int .i64 0)<|zjcc<|sq 2<|oF rfl<|oF rfl<|oL rfl (H.cell 0 rfl rfl)<|sp (.int .i64 iv) ?_
 obtain⟨b1,rfl⟩:=H.jB 2 rfl qf
 refine oI rfl rfl<|oF rfl<|oF rfl ?_
 obtain⟨Xv,Xu,lC,Qj,Qi,gb,Bw,Bf,AN,nU,nR,nV,Au,z4,Ap,tm,te,tp,wQ,H⟩:=H.jQ zC 2 rfl 3 rfl rfl iv.toNat qf
 refine oL rfl (H.zt 2 rfl (wQ 3 _ rfl) qf)<|zjn<|vg _ rfl (fun h4=>?_)<|fun h4=>?_
 ·refine zcr (sp (.int .i64 4)<|zjr<|t_r<|ret1 (.int .i64 4) rfl rfl ⟨_,rfl,?_⟩)
  rw[workR_4 ql]
  exact⟨bV,aC,cF,wi.length,bH,bL,az,rfl,N,H.xm 4 11 (zR 0 4) (zR 6 5) (by simp only[List.length_cons,List.length_append];omega)<|by simp only[List.length_cons,List.length_append];omega⟩
 ·refine qW (t_n<|zcc<|sq 2<|oF rfl<|oF rfl<|oL rfl (H.cell 0 rfl rfl)<|sp (.int .i64 iv)<|oI rfl rfl<|oF rfl<|oF rfl<|oL rfl (H.zt 2 rfl (wQ 0 _ rfl) qf)<|sp (Bv ((((sv[iv.toNat]!).qC).qP:Int) == 100))<|zjn<|cE rfl (fun h5=>?_)<|fun h5=>?_)
  ·refine zcr (sp (.int .i64 3)<|zjr<|t_r<|ret1 (.int .i64 3) rfl rfl ⟨_,rfl,?_⟩)
   subst EO
   rw[workR_3 ql ql]
   exact⟨bV,aC,cF,wi.length,bH,bL,az,rfl,N,H.xm 4 11 (zR 0 4) (zR 6 5) (by simp only[List.length_cons,List.length_append];omega)<|by simp only[List.length_cons,List.length_append];omega⟩
  ·refine qW (t_n<|zcr<|sq 2<|oF rfl<|oF rfl<|oL rfl (H.cell 0 rfl rfl)<|sp (.int .i64 iv)<|oI rfl rfl<|oF rfl ?_)
   have sz9:=H.base.size
   have aux:=jL (H.ltN (L:=[aC,az]) [9,10])<|H.ltK<|K0.behind 11 rfl
   refine sw<|oc (l08Copy_ok _ ((sv[iv.toNat]!).qC) (fun r v hv=>H.zt (off:=0+(iv:Int).toNat*16+0+r) 2 rfl (wQ r v hv) qf) (H.get 0 rfl).1 (H.get 1 rfl).1 (H.get 2 rfl).1 (H.get 3 rfl).1 (H.get 4 rfl).1 (H.get 5 rfl).1 qg) ?_
   rintro _ w7 ⟨fN,arw,QC,AB,VE,yz,adU,yx,Be,as1,An,bX,adc,bW,cy,aj,eb,avN,ea,eg,be,cR,arZ,cT,dw,aU,rfl,M,K⟩ _
   replace N:=N.merge sz9 aux M
   replace H:=H.merge K M
   dsimp only[List.cons_append,List.nil_append] at H
   obtain rfl:=H.xk (α:=yLI) 0 rfl 0 rfl qj
   obtain rfl:=H.Qc 1 rfl
   obtain rfl:=H.rowNB 2 rfl
   obtain rfl:=H.xk (α:=yLI) 3 rfl 1 rfl qj
   obtain rfl:=H.xk (α:=yLL) 4 rfl 2 rfl qj
   obtain rfl:=H.xk (α:=yLL) 5 rfl 3 rfl qj
   refine sw<|zn H ti47 [.int .i64 0,Sv none 0 0,Sv none 0 0,Bv false,Sv none 0 0,Sv none 0 0,Sv none 0 0,Sv none 0 0] fun l7 ZR H=>(sw<|zF H 0 [.int .i64 (((sv[iv.toNat]!).qC).qP),Sv fN ((((sv[iv.toNat]!).qC).qG).length) QC,Sv yz ((((sv[iv.toNat]!).qC).qF).length) yx,Bv (((sv[iv.toNat]!).qC).qV),Sv Be ((((sv[iv.toNat]!).qC).vM).length) An,Sv bX ((((sv[iv.toNat]!).qC).qL).length) bW,Sv eb ((((sv[iv.toNat]!).qC).vX).length) ea,Sv cR ((((sv[iv.toNat]!).qC).x8).length) cT] sizeOf47 fun Kk H=>?_)
   dsimp only[List.set] at H
   refine zjc<|sq 1<|sw<|vz #[.pointer<|some ⟨bk,0,none⟩,.pointer<|some ⟨l7,0,none⟩] rfl rfl call152<|en Tryz.func152 Tryz.ntmps152 ?_
   refine zcr<|sw<|zn H ti31 [Sv none 0 0,Sv none 0 0,Sv none 0 0] fun I9 Pz H=>zjn<|xM<|c_lateC 1 (fun ρ JJ=>∃(xP:Env) (fb:yOA) (gH:Nat) (sX:yOA) (sO:Nat) (IP:Nat) (kv:List Value) (c7:yLN),ρ=upd (upd (upd (upd xP 0<|.pointer<|some ⟨bk,0,none⟩) 4<|.pointer<|some ⟨I9,0,none⟩) 5<|.pointer<|some ⟨IP,0,none⟩) 17 (.agg #[Sv none 0 0,Sv fb ((((sv[iv.toNat]!).qC).qG).length) gH,Sv sX ((((sv[iv.toNat]!).qC).qF).length) sO])/\Fresh W0.heap.size (c7::VE::aj::be::aU::aC::az::Ns)/\St W0 JJ ((.box IP [Sv none 0 0,Sv none 0 0,Sv none 0 0] 31)::(rr sX ((((sv[iv.toNat]!).qC).qF).length) sO 2 1 ((((sv[iv.toNat]!).qC).qF).map<|Value.int .i64))::(rr fb ((((sv[iv.toNat]!).qC).qG).length) gH 24 1 kv)::(.box I9 [Sv none 0 0,Sv none 0 0,Sv none 0 0] 31)::(.box l7 [.int .i64 (((sv[iv.toNat]!).qC).qP),Sv fN ((((sv[iv.toNat]!).qC).qG).length) QC,Sv yz ((((sv[iv.toNat]!).qC).qF).length) yx,Bv (((sv[iv.toNat]!).qC).qV),Sv Be ((((sv[iv.toNat]!).qC).vM).length) An,Sv bX ((((sv[iv.toNat]!).qC).qL).length) bW,Sv eb ((((sv[iv.toNat]!).qC).vX).length) ea,Sv cR ((((sv[iv.toNat]!).qC).x8).length) cT] 47)::(rr fN ((((sv[iv.toNat]!).qC).qG).length) QC 24 1 AB)::(rr yz ((((sv[iv.toNat]!).qC).qF).length) yx 2 1 ((((sv[iv.toNat]!).qC).qF).map<|Value.int .i64))::(rr Be ((((sv[iv.toNat]!).qC).vM).length) An 4 1 ((((sv[iv.toNat]!).qC).vM).map<|Value.bool))::(rr bX ((((sv[iv.toNat]!).qC).qL).length) bW 24 1 cy)::(rr eb ((((sv[iv.toNat]!).qC).vX).length) ea 29 1 eg)::(rr cR ((((sv[iv.toNat]!).qC).x8).length) cT 29 1 dw)::(.box bk [.pointer<|some ⟨sb,0,none⟩,Sv ao own.length co,Sv (some ⟨b1,0,none⟩) sv.length cz,Sv cF wi.length bH] 86)::(.box sb [.int .i64 s.qN,Sv ap s.qA.length cp,Sv ar s.qB.length cr] 27)::(rr (some ⟨b1,0,none⟩) sv.length cz 49 16 bV)::(rr cF wi.length bH 77 4 bL)::ps) ((qQ true c7 kv (((sv[iv.toNat]!).qC).qG))::(qQ true VE AB (((sv[iv.toNat]!).qC).qG))::(qQ true aj cy (((sv[iv.toNat]!).qC).qL))::(qQ true be eg (((sv[iv.toNat]!).qC).vX))::(qQ true aU dw (((sv[iv.toNat]!).qC).x8))::(sF false Fp ap cp s.qA)::(sF false Fr ar cr s.qB)::(sF false Fo ao co own)::(qQ true aC bV sv)::(qQ true az bL wi)::Γ)) rfl H [0,1,2,3,4,5,6,7,8,9,10,11] [0,1,2,3,4,5,6,7,8,9,10,11,12,13,14] (fun H=>?_) ?_
   ·dsimp only[yg,yL]
    have S:=H.zW (zR 0 12)<|zR 0 15
    refine rtl 0 S ?_
    refine rtl 1 S ?_
    refine tF 2 rfl rfl S ?_
    refine tL 3 rfl rfl (fun _ h=>h.cell 1 rfl rfl) S ?_
    refine rtl 5 S ?_
    refine rtl 6 S ?_
    refine tF 7 rfl rfl S ?_
    refine tL 8 rfl rfl (fun _ h=>h.cell 1 rfl rfl) S ?_
    refine jC [4,11] qh qm<|yV rfl ?_<|yV rfl ?_ jD
    ·obtain⟨G31,awe,Q2⟩:=H.Vg (α:=yLI) 2 rfl 0 rfl qj
     have auG:=H.base.size
     have avM:=jL (H.ltN (L:=[VE,aj,be,aU,aC,az]) [0,1,2,3,13,14])<|H.ltK<|K0.behind 15 rfl
     refine oc (Qq _ (((sv[iv.toNat]!).qC).qG) Q2 qg) ?_
     rintro _ Na ⟨Bo,awd,rp,ZB,acJ,rfl,M,K⟩ _
     replace N:=N.merge auG avM M
     replace H:=H.merge K M
     dsimp only[List.cons_append,List.nil_append] at H
     obtain rfl:=H.xk (α:=yLI) 0 rfl 0 rfl qj
     refine⟨H.pick (zR 1 12)<|zR 1 15,(jC [9,11] qh qm<|yV rfl ?_<|yV rfl ?_ jD)⟩
     ·obtain⟨G40,aDT,HR⟩:=H.rowIsI 4 rfl
      refine oc (Vl _ (((sv[iv.toNat]!).qC).qF) HR qg) ?_
      rintro v48 SF r48 x47
      replace H:=H.zV x47 r48
      obtain⟨W9,TU,rfl,aDB,aF9⟩:=H.yf 0 rfl
      refine⟨H.pick (zR 2 12)<|zR 1 15,(jC [10,11] qh qm<|yV rfl ?_<|yV rfl ?_ jD)⟩
      ·refine jE [Sv none 0 0,Sv Bo ((((sv[iv.toNat]!).qC).qG).length) rp,Sv W9 ((((sv[iv.toNat]!).qC).qF).length) TU] [(1,Sv Bo ((((sv[iv.toNat]!).qC).qG).length) rp),(2,Sv W9 ((((sv[iv.toNat]!).qC).qF).length) TU)] (⟨H.pick (zR 2 12)<|zR 1 15,(ro 11 rfl<|zn H ti31 [Sv none 0 0,Sv none 0 0,Sv none 0 0] fun b53 w54 H=>⟨H.pick (zR 3 12)<|zR 1 15,(xy qh<|?_)⟩)⟩)
       exact meet ⟨_,Bo,rp,W9,TU,b53,ZB,acJ,uE4,N,H.xm 15 16 (zR 0 15) (0::1::2::3::4::zR 11 5) (by simp only[List.length_cons,List.length_append];omega)<|by simp only[List.length_cons,List.length_append];omega⟩
      ·refine zn H ti31 [Sv none 0 0,Sv none 0 0,Sv none 0 0] fun PI w56 H=>⟨H.pick (zR 3 12)<|zR 1 15,(ro 10 rfl<|jE [Sv none 0 0,Sv Bo ((((sv[iv.toNat]!).qC).qG).length) rp,Sv W9 ((((sv[iv.toNat]!).qC).qF).length) TU] [(1,Sv Bo ((((sv[iv.toNat]!).qC).qG).length) rp),(2,Sv W9 ((((sv[iv.toNat]!).qC).qF).length) TU)]<|⟨H.pick (zR 3 12)<|zR 1 15,(xy qh<|?_)⟩)⟩
       exact meet ⟨_,Bo,rp,W9,TU,PI,ZB,acJ,uE4,N,H.xm 15 16 (zR 0 15) (0::1::2::3::4::zR 11 5) (by simp only[List.length_cons,List.length_append];omega)<|by simp only[List.length_cons,List.length_append];omega⟩
     ·refine zn H ti31 [Sv none 0 0,Sv none 0 0,Sv none 0 0] fun b57 w58 H=>⟨H.pick (zR 2 12)<|zR 1 15,(ro 9 rfl ?_)⟩
      obtain⟨G59,at7,xp⟩:=H.rowIsI 5 rfl
      refine oc (Vl _ (((sv[iv.toNat]!).qC).qF) xp qg) ?_
      rintro v67 w65 r67 x66
      replace H:=H.zV x66 r67
      obtain⟨a68,c69,rfl,aDk,aGJ⟩:=H.yf 0 rfl
      refine⟨H.pick (zR 3 12)<|zR 1 15,(ro 10 rfl<|jE [Sv none 0 0,Sv Bo ((((sv[iv.toNat]!).qC).qG).length) rp,Sv a68 ((((sv[iv.toNat]!).qC).qF).length) c69] [(1,Sv Bo ((((sv[iv.toNat]!).qC).qG).length) rp),(2,Sv a68 ((((sv[iv.toNat]!).qC).qF).length) c69)]<|⟨H.pick (zR 3 12)<|zR 1 15,(xy qh<|?_)⟩)⟩
      exact meet ⟨_,Bo,rp,a68,c69,b57,ZB,acJ,uE4,N,H.xm 15 16 (1::0::zR 2 13) (0::1::2::3::4::zR 11 5) (by simp only[List.length_cons,List.length_append];omega)<|by simp only[List.length_cons,List.length_append];omega⟩
    ·refine zn H ti31 [Sv none 0 0,Sv none 0 0,Sv none 0 0] fun b72 w73 H=>⟨H.pick (zR 1 12)<|zR 0 15,(ro 4 rfl ?_)⟩
     obtain⟨G74,apv,h76⟩:=H.Vg (α:=yLI) 3 rfl 0 rfl qj
     have abG:=H.base.size
     have abu:=jL (H.ltN (L:=[VE,aj,be,aU,aC,az]) [0,1,2,3,13,14])<|H.ltK<|K0.behind 15 rfl
     refine oc (Qq _ (((sv[iv.toNat]!).qC).qG) h76 qg) ?_
     rintro _ w78 ⟨acr,aES,aal,asJ,att,rfl,M,K⟩ _
     replace N:=N.merge abG abu M
     replace H:=H.merge K M
     dsimp only[List.cons_append,List.nil_append] at H
     obtain rfl:=H.xk (α:=yLI) 0 rfl 0 rfl qj
     refine⟨H.pick (zR 2 12)<|zR 1 15,(ro 9 rfl ?_)⟩
     obtain⟨G83,aF1,h85⟩:=H.rowIsI 5 rfl
     refine oc (Vl _ (((sv[iv.toNat]!).qC).qF) h85 qg) ?_
     rintro v91 w89 r91 x90
     replace H:=H.zV x90 r91
     obtain⟨a92,c93,rfl,aEe,aFG⟩:=H.yf 0 rfl
     refine⟨H.pick (zR 3 12)<|zR 1 15,(ro 10 rfl<|jE [Sv none 0 0,Sv acr ((((sv[iv.toNat]!).qC).qG).length) aal,Sv a92 ((((sv[iv.toNat]!).qC).qF).length) c93] [(1,Sv acr ((((sv[iv.toNat]!).qC).qG).length) aal),(2,Sv a92 ((((sv[iv.toNat]!).qC).qF).length) c93)]<|⟨H.pick (zR 3 12)<|zR 1 15,(xy qh<|?_)⟩)⟩
     exact meet ⟨_,acr,aal,a92,c93,b72,asJ,att,uE4,N,H.xm 15 16 (2::0::1::zR 3 12) (0::1::2::3::4::zR 11 5) (by simp only[List.length_cons,List.length_append];omega)<|by simp only[List.length_cons,List.length_append];omega⟩
   ·clear H N
    rintro ρ w96 ⟨xP,fb,gH,sX,sO,IP,kv,c7,rfl,N,H⟩
    refine sw<|zF H 0 [Sv none 0 0,Sv fb ((((sv[iv.toNat]!).qC).qG).length) gH,Sv sX ((((sv[iv.toNat]!).qC).qF).length) sO] sizeOf31 fun w97 H=>?_
    dsimp only[List.set] at H
    refine zjcc<|sp (.int .i64 0)<|zjn<|xe ?_
    replace H:=H.nilRowB 4
    refine zT ((fun Z0 Z1 Z2 Z3 Z4 Z5 Z6 Z7 Z8 Z9 fi fK gW ka lc lN rj xo Ab EJ Ew O1 Ox Z23=>fun m' ρ w98=>∃(xP:Env) (c:Nat) (jX:yOA) (ji:Nat) (jW:Nat) (gy:List Bool),ρ=upd (upd (upd (upd xP 0<|.pointer<|some ⟨bk,0,none⟩) 4<|.pointer<|some ⟨I9,0,none⟩) 5<|.pointer<|some ⟨IP,0,none⟩) 6 (.int .i64 c)/\gy=List.replicate c true/\((c:Int)<=own.length)/\m'=(own.length-(c:Int)).toNat/\Fresh W0.heap.size (c7::VE::aj::be::aU::aC::az::Ns)/\St W0 w98 ((rr jX ji jW 4 1<|gy.map<|Value.bool)::(.box IP [Sv jX ji jW,Sv fb ((((sv[iv.toNat]!).qC).qG).length) gH,Sv sX ((((sv[iv.toNat]!).qC).qF).length) sO] 31)::Z0::Z1::Z2::Z3::Z4::Z5::Z6::Z7::Z8::Z9::fi::fK::gW::ka::ps) (lc::lN::rj::xo::Ab::EJ::Ew::O1::Ox::Z23::Γ)) _ _ _ _ _ _ _ _ _ _ _ _ _ _ _ _ _ _ _ _ _ _ _ _) ((own.length-(0:Int)).toNat) ⟨_,0,none,0,0,[],uE4,(by rfl),qf,rfl,N,H⟩ ?_
    clear H N
    rintro m' ρ w99 ⟨xP,c,jX,ji,jW,gy,rfl,rfl,i0,rfl,N,H⟩
    have ET:=H.rowNB 0 rfl
    have rl:(List.replicate c true).length=c:=List.length_replicate
    refine zcc<|sp (.int .i64 c)<|sq 2<|oF rfl<|oL rfl (H.cell 12 rfl rfl)<|oN rfl<|sq 1<|zjn<|cD rfl (fun K2=>?_)<|fun K2=>?_
    ·refine qW (t_n<|xM<|xe<|xX<|oF rfl<|oL rfl (H.cell 1 rfl rfl)<|sw<|zy H underlying28 ti4 [Bv true] fun MI alL H=>sw<|zH H 1 rfl 0 rfl underlying28 ti4 rfl qj rfl rfl rfl qw qp qf fun avP axb ae1 H=>?_)
     rw[snocB] at H
     dsimp only[List.set] at H
     refine oF rfl<|sw<|zh H 2 [Sv avP (ji+1) axb,Sv fb ((((sv[iv.toNat]!).qC).qG).length) gH,Sv sX ((((sv[iv.toNat]!).qC).qF).length) sO] sizeOf28 fun abR H=>?_
     dsimp only[List.set] at H
     refine xU<|b_n<|t_n<|xX<|sp (.int .i64 c)<|sw<|zS c 1 rfl rfl qf<|sq 1<|xU<|xu (m':=(own.length-((c+1):Int)).toNat) qf ⟨_,c+1,_,_,_,_,uE4,?_,?_,rfl,N,H.xm 17 10 (zR 1 16) (zR 0 10) (by simp only[List.length_cons,List.length_append];omega)<|by simp only[List.length_cons,List.length_append];omega⟩
     ·exact(List.replicate_succ' ..).symm
     ·omega
    ·obtain rfl:c=s.qA.length:=by omega
     refine zx4<|zcr<|sw<|xW [Sv jX ji jW,Sv fb ((((sv[iv.toNat]!).qC).qG).length) gH,Sv sX ((((sv[iv.toNat]!).qC).qF).length) sO] isAgg31 sizeOf31 rfl (qH (H.cells 1 rfl) 0 3)<|sw<|zF H 4 [Sv jX ji jW,Sv fb ((((sv[iv.toNat]!).qC).qG).length) gH,Sv sX ((((sv[iv.toNat]!).qC).qF).length) sO] sizeOf31 fun abe H=>?_
     dsimp only[List.set] at H
     refine zjr<|retC H 4 rfl rfl isAgg31 sizeOf31 rfl ⟨_,rfl,?_⟩
     replace H:=H.erases [4,1]
     dsimp only[zL,List.eraseIdx,List.set] at H
     refine sw<|zn H ti31 [Sv none 0 0,Sv none 0 0,Sv none 0 0] fun fT awQ H=>sw<|zF H 0 [Sv jX ji jW,Sv fb ((((sv[iv.toNat]!).qC).qG).length) gH,Sv sX ((((sv[iv.toNat]!).qC).qF).length) sO] sizeOf31 fun aj2 H=>?_
     dsimp only[List.set] at H
     refine zjc<|sw<|jH H underlying45 ti29 fun S7 Ru H=>sq 1<|zjcc<|sp (.int .i64 0)<|zjn<|xe ?_
     replace H:=H.boxRow 0 rfl 1 0 rfl qj
     dsimp only[List.set] at H
     replace H:=H.yD (α:=yLL)
     refine zT ((fun Z0 Z1 Z2 Z3 Z4 Z5 Z6 Z7 Z8 Z9 fi fK gW ka lc lN rj xo Ab EJ Ew O1 Ox=>fun m' ρ ZM=>∃(xP:Env) (fg:yOA) (QP:Nat) (Xk:Nat) (now:List yLL) (pG:List Value) (fP:yLN) (nS:Nat) (QV:yOA) (QQ:Nat) (QT:Nat) (MX:List Bool),ρ=upd (upd (upd (upd (upd (upd xP 0<|.pointer<|some ⟨bk,0,none⟩) 1<|.int .i64 iv) 5<|.pointer<|some ⟨l7,0,none⟩) 6<|.pointer<|some ⟨fT,0,none⟩) 7<|Sv fg QP Xk) 8 (.int .i64 nS)/\now=List.replicate nS (jG s<|s.qA.length+1)/\MX=gotTo iv nS/\((nS:Int)<=sv.length)/\m'=(sv.length-(nS:Int)).toNat/\Fresh W0.heap.size (c7::VE::aj::be::aU::aC::az::fP::Ns)/\St W0 ZM ((rr fg QP Xk 29 1 pG)::Z0::Z1::Z2::Z3::(.box l7 [.int .i64 (((sv[iv.toNat]!).qC).qP),Sv fN ((((sv[iv.toNat]!).qC).qG).length) QC,Sv yz ((((sv[iv.toNat]!).qC).qF).length) yx,Bv (((sv[iv.toNat]!).qC).qV),Sv QV QQ QT,Sv bX ((((sv[iv.toNat]!).qC).qL).length) bW,Sv eb ((((sv[iv.toNat]!).qC).vX).length) ea,Sv cR ((((sv[iv.toNat]!).qC).x8).length) cT] 47)::Z4::Z5::(rr QV QQ QT 4 1<|MX.map<|Value.bool)::Z6::Z7::Z8::Z9::fi::fK::gW::ps) ((qQ true fP pG now)::ka::lc::lN::rj::xo::Ab::EJ::Ew::O1::Ox::Γ)) _ _ _ _ _ _ _ _ _ _ _ _ _ _ _ _ _ _ _ _ _ _ _) ((sv.length-(0:Int)).toNat) ⟨_,(some ⟨S7,0,none⟩),0,0,([]:List yLL),[],[],0,Be,(((sv[iv.toNat]!).qC).vM).length,An,((sv[iv.toNat]!).qC).vM,uE6,(by rfl),(by exact(y1.1.rest ql).1),qf,rfl,(N.emp.xm 8 [1,2,3,4,5,6,7,0]<|by simp only[List.length_cons,List.length_append];omega),H⟩ ?_
     clear H N
     rintro m' ρ OT ⟨xP,fg,QP,Xk,now,pG,fP,nS,QV,QQ,QT,MX,rfl,rfl,rfl,i0,rfl,N,H⟩
     have tE:=H.xk (α:=yLL) 0 rfl 0 rfl qj
     have aey:=H.rowNB 8 rfl
     have zl:(List.replicate nS<|jG s<|s.qA.length+1).length=nS:=List.length_replicate
     have gl:=gotTo_len iv nS
     refine zcc<|sq 3<|oF rfl<|oF rfl<|oL rfl (H.cell 12 rfl rfl)<|oN rfl<|sq 1<|zjn<|cD rfl (fun abv=>?_)<|fun abv=>?_
     ·refine qW (t_n<|xM<|xe<|zcr<|sq 3<|oF rfl<|oL rfl (H.cell 12 rfl rfl) ?_)
      have Le:=H.base.size
      have Oa:=jL (H.ltN (L:=[c7,VE,aj,be,aU,aC,az,fP]) [1,2,3,4,5,9,10,0])<|H.ltK<|K0.behind 11 rfl
      refine sw<|oc (l08Zeros_ok _ s (qH (H.cells 13 rfl) 0 3) (H.get 6 rfl).1 (H.get 7 rfl).1 qg) ?_
      rintro _ Rv ⟨Ks,agc,NR,NQ,pH,rfl,M,K⟩ _
      replace N:=N.merge Le Oa M
      replace H:=H.merge K M
      dsimp only[List.cons_append,List.nil_append] at H
      obtain rfl:=H.xk (α:=yLI) 0 rfl 0 rfl qj
      refine sw<|zy H underlying45 ti29 [Sv Ks ((jG s<|s.qA.length+1).length) NR] fun aD5 MB H=>?_
      have H0:=H
      obtain⟨amY,UL,aBV,H⟩:=H.jA (α:=yLI) 1 rfl 0 rfl qj
      replace N:Fresh W0.heap.size (amY::c7::VE::aj::be::aU::aC::az::fP::Ns):=Fresh.ice N H0 1 UL.1 UL.2<|fun F hF b hb=>(List.mem_append.1<|show F∈[c7,VE,aj,be,aU,aC,az,fP]++Ns from hF).elim (fun h=>(H0.vV (L:=[c7,VE,aj,be,aU,aC,az,fP]) [2,3,4,5,6,10,11,1]) F h b hb) fun h=>H0.jT (K0.behind 12 rfl) F h b hb
      clear H0
      dsimp only[List.set] at H
      refine sw<|zH H 2 rfl 0 rfl underlying45 ti29 rfl qj rfl rfl rfl qw qp qf fun ajh alN agN H=>?_
      dsimp only[List.set] at H
      replace H:=H.Q5 2 rfl 0 rfl
      replace N:Fresh W0.heap.size ((fP++amY)::c7::VE::aj::be::aU::aC::az::Ns):=(N.xm 9 (8::zR 0 8)<|by simp only[List.length_cons,List.length_append];omega).join
      refine sq 1<|zjn<|xX<|oF rfl<|oL rfl (H.cell 7 rfl rfl)<|sq 1<|sp (.int .i64 iv)<|sq 1<|sw<|zy H underlying28 ti4 [Bv ((nS:Int) == iv)] fun atU aED H=>sw<|zH H 11 rfl 0 rfl underlying28 ti4 rfl qj rfl rfl rfl qw qp qf fun au4 awA ans H=>?_
      rw[snocB] at H
      dsimp only[List.set] at H
      refine oF rfl<|sw<|zh H 8 [.int .i64 (((sv[iv.toNat]!).qC).qP),Sv fN ((((sv[iv.toNat]!).qC).qG).length) QC,Sv yz ((((sv[iv.toNat]!).qC).qF).length) yx,Bv (((sv[iv.toNat]!).qC).qV),Sv au4 (QQ+1) awA,Sv bX ((((sv[iv.toNat]!).qC).qL).length) bW,Sv eb ((((sv[iv.toNat]!).qC).vX).length) ea,Sv cR ((((sv[iv.toNat]!).qC).x8).length) cT] sizeOf28 fun aIO H=>?_
      dsimp only[List.set] at H
      refine xU<|b_n<|t_n<|xX<|sq 1<|sw<|zS nS 1 rfl rfl qf<|sq 1<|xU<|xu (m':=(sv.length-((nS+1):Int)).toNat) qf ⟨_,_,_,_,_,_,_,nS+1,_,_,_,_,uE6,?_,?_,?_,rfl,(N.xm 8 [1,2,3,4,5,6,7,0]<|by simp only[List.length_cons,List.length_append];omega),H.xm 19 14 (zR 3 16) (0::zR 4 10) (by simp only[List.length_cons,List.length_append];omega)<|by simp only[List.length_cons,List.length_append];omega⟩
      ·exact(List.replicate_succ' ..).symm
      ·exact gotTo_snoc _ _
      ·omega
     ·refine zx4 (zcc<|sp (.int .i64 0)<|zjn<|xe<|zT ((fun Z0 Z1 Z2 Z3 Z4 Z5 Z6 Z7 Z8 Z9 fi fK gW ka lc lN rj xo Ab EJ Ew O1 Ox=>fun m' ρ R3=>∃(xP:Env) (bw:Nat) (ed:List yLL) (iw:List Value) (yE:yLN) (aR:yLL) (Xb:List Value) (jf:yLN),ρ=upd (upd (upd (upd (upd (upd xP 0<|.pointer<|some ⟨bk,0,none⟩) 1<|.int .i64 iv) 5<|.pointer<|some ⟨l7,0,none⟩) 6<|.pointer<|some ⟨fT,0,none⟩) 7<|Sv fg QP Xk) 9 (.int .i64 bw)/\aR=jO s own (sv[iv.toNat]!).qC iv bw/\((bw:Int)<=own.length)/\(ed=nowTo s vs own iv sv.length bw)/\m'=(own.length-(bw:Int)).toNat/\Fresh W0.heap.size (c7::aj::be::aU::aC::az::yE::jf::Ns)/\St W0 R3 ((rr fg QP Xk 29 1 iw)::Z0::Z1::Z2::Z3::Z4::(rr fN ((((sv[iv.toNat]!).qC).qG).length) QC 24 1 Xb)::Z5::Z6::Z7::Z8::Z9::fi::fK::gW::ka::ps) ((qQ true yE iw ed)::lc::(qQ true jf Xb aR)::lN::rj::xo::Ab::EJ::Ew::O1::Ox::Γ)) _ _ _ _ _ _ _ _ _ _ _ _ _ _ _ _ _ _ _ _ _ _ _) ((own.length-(0:Int)).toNat) ⟨_,0,(List.replicate nS<|jG s<|s.qA.length+1),pG,fP,((sv[iv.toNat]!).qC).qG,AB,VE,uE6,(by rfl),qf,(by exact rep_zero qf),rfl,(N.xm 8 [0,2,3,4,5,6,7,1]<|by simp only[List.length_cons,List.length_append];omega),H⟩ ?_)
      clear H N
      rintro m' ρ NM ⟨xP,bw,ed,iw,yE,aR,Xb,jf,rfl,rfl,i0,i2,rfl,N,H⟩
      have tE:=H.xk (α:=yLL) 0 rfl 0 rfl qj
      have sa:=H.xk (α:=yLI) 6 rfl 2 rfl qj
      refine zcc<|sq 3<|oF rfl<|oL rfl (H.cell 12 rfl rfl)<|oN rfl<|sq 1<|zjn<|cD rfl (fun awo=>?_)<|fun awo=>?_
      ·obtain⟨u1,u2⟩:=sb_row p0 p2.1 y1.1 (c:=bw) qf
       obtain⟨u3,u4⟩:=sb_took p0 y1.1 bw
       have sl:=sb_len (iv:=iv) y1.1 bw
       rw[EO] at u3 u4
       have pl:=puts_len p0 v3 bw
       refine qW<|t_n<|xM<|xe<|zcc<|sq 2<|oF rfl<|oL rfl (H.cell 12 rfl rfl)<|sq 1 ?_
       obtain⟨mq,mp,rfl⟩:=H.addr 8 rfl qf
       refine oI rfl rfl<|oL rfl (H.vG 8 rfl bw qf)<|sp (.int .i64 iv)<|sq 1<|zjn<|vg _ rfl (fun Mc=>?_)<|fun Mc=>?_
       ·replace Mc:=bne_iff_ne.1 Mc
        refine c_exit<|t_x<|b_x<|t_n<|xX<|sq 1<|sw<|zS bw 1 rfl rfl qf<|sq 1<|xU<|xu (m':=(own.length-((bw+1):Int)).toNat) qf ⟨_,bw+1,_,_,_,_,_,_,uE6,?_,?_,?_,rfl,N,H⟩
        ·exact(sBags_no ql).symm
        ·omega
        ·exact i2.trans (nowTo_no ‹_›).symm
       ·replace Mc:=xK Mc
        refine qW<|t_n<|zcr<|sq 2<|oF rfl<|oL rfl (H.cell 12 rfl rfl)<|sq 1 ?_
        obtain⟨n0,Ly,au2⟩:=H.rowIsB 2 rfl
        obtain⟨rZ,ahu,Bg⟩:=H.Vg (α:=yLI) 4 rfl 1 rfl qj
        obtain⟨aIC,aBv,aym⟩:=H.rowIsI 3 rfl
        have agE:=H.base.size
        have aic:=jL (H.ltN (L:=[c7,aj,be,aU,aC,az,yE,jf]) [1,3,4,5,9,10,0,2])<|H.ltK<|K0.behind 11 rfl
        refine sw<|oc (l08Puts_ok _ s (⟨(List.replicate s.qA.length true),(((sv[iv.toNat]!).qC).qG),(((sv[iv.toNat]!).qC).qF)⟩:xn) bw (qH (H.cells 13 rfl) 0 3) (H.get 6 rfl).1 (H.get 7 rfl).1 (by have hz:=(qH (H.cells 1 rfl) 0 3);rw[Ly] at hz;exact hz) (Ly▸au2) Bg aym qg qg qg qg) ?_
        rintro _ aig ⟨mZ,avv,na,aaR,atM,eS,dO,dn,rfl,M,K⟩ _
        replace N:=N.merge agE aic M
        replace H:=H.merge K M
        dsimp only[List.cons_append,List.nil_append] at H
        obtain rfl:=H.Qc 0 rfl
        obtain rfl:=H.xk (α:=yLI) 1 rfl 0 rfl qj
        refine sq 5<|zjn<|xM ?_
        rw[EO] at H ⊢
        refine vK 2 rfl H [0,1,2,3,4,5,6,7,8,9,10,11,12,13,14,15,16,17] [0,1,2,3,4,5,6,7,8,9,10,11] fun H=>?_
        dsimp only[yg,yL]
        have S:=H.zW (zR 0 18)<|zR 0 12
        refine tF 0 rfl rfl S ?_
        refine tL 1 rfl rfl (fun _ h=>h.cell 7 rfl rfl) S ?_
        refine rtl 2 S ?_
        refine tF 3 rfl rfl S ?_
        refine tL 4 rfl rfl (fun _ h=>h.cell 7 rfl rfl) S ?_
        refine rtl 5 S ?_
        obtain⟨ns,rfl⟩:=H.jB 8 rfl qf
        have S:=H.zW (zR 0 18)<|zR 0 12
        refine tI 6 rfl rfl rfl S ?_
        refine rtl 8 S ?_
        refine ro 7 rfl ?_
        obtain⟨asE,ayq,nu,akG,H⟩:=H.yG 8 rfl 3 rfl (iv:=bw) bw qf qf
        refine zJ (Sv asE (((jO s own (sv[iv.toNat]!).qC iv bw)[bw]!).length) ayq) isAgg24 rfl ((H.zt 8 rfl akG qf))<|⟨H.pick (zR 0 18)<|zR 1 12,(ro 9 rfl ?_)⟩
        obtain⟨sM,amX,awq⟩:=H.rowIsI 0 rfl
        refine oc (QD _ ((jO s own (sv[iv.toNat]!).qC iv bw)[bw]!) (yK s (xG s vs) bw s.qB.length) (-1) (H.get 0 rfl).1 awq qg qg qg) ?_
        rintro aE7 axg avT atK
        replace H:=H.zV atK avT
        obtain⟨awL,avi,rfl,aBc,aB7⟩:=H.yf 0 rfl
        refine⟨H.pick (zR 1 18)<|zR 1 12,(xy qh<|xZ<|oI rfl rfl ?_)⟩
        obtain⟨aIL,N,aBq,H⟩:=H.vJ 0 rfl N<|fun F hF b hb=>(List.mem_append.1<|show F∈[dn,c7,aj,be,aU,aC,az,yE,jf]++Ns from hF).elim (fun h=>(H.vV (L:=[dn,c7,aj,be,aU,aC,az,yE,jf]) [1,3,5,6,7,11,12,2,4]) F h b hb) fun h=>H.jT (K0.behind 13 rfl) F h b hb
        dsimp only[List.set] at H
        refine sw<|Qd true H 9 rfl 5 rfl (Sv awL ((jc ((jO s own (sv[iv.toNat]!).qC iv bw)[bw]!) (yK s (xG s vs) bw s.qB.length) (-1)).length) avi) 0 rfl rfl sizeOf24 rfl rfl (i:=bw) qf qf qm fun aCQ fV g9 apq H=>?_
        replace N:Fresh W0.heap.size (g9::dn::c7::aj::be::aU::aC::az::yE::Ns):=(N.xm 10 (9::zR 0 9)<|by simp only[List.length_cons,List.length_append];omega).repl apq
        dsimp only[List.set] at H
        refine zjc<|sp (.int .i64 0)<|zjn<|xe<|zT ((fun Z0 Z1 Z2 Z3 Z4 Z5 Z6 Z7 Z8 Z9 fi fK gW ka lc lN rj xo Ab EJ Ew O1 Ox Z23 Z24 Z25 Z26 Z27=>fun m' ρ abi=>∃(xP:Env) (x:Nat) (aB:List yLL) (yA:List Value) (jM:yLN),ρ=upd (upd (upd (upd (upd (upd (upd (upd xP 0<|.pointer<|some ⟨bk,0,none⟩) 1<|.int .i64 iv) 5<|.pointer<|some ⟨l7,0,none⟩) 6<|.pointer<|some ⟨fT,0,none⟩) 7<|Sv fg QP Xk) 9<|.int .i64 bw) 11<|Sv aaR ((yc s vs (xG s vs) bw).length) eS) 12 (.int .i64 x)/\((x:Int)<=((yc s vs (xG s vs) bw).length))/\(aB=addTo own (yc s vs (xG s vs) bw) (nowTo s vs own iv sv.length bw) x)/\m'=(((yc s vs (xG s vs) bw).length)-(x:Int)).toNat/\Fresh W0.heap.size (g9::dn::c7::aj::be::aU::aC::az::jM::Ns)/\St W0 abi (Z0::Z1::(rr fg QP Xk 29 1 yA)::Z2::Z3::Z4::Z5::Z6::Z7::Z8::Z9::fi::fK::gW::ka::lc::lN::rj::ps) (xo::Ab::(qQ true jM yA aB)::EJ::Ew::O1::Ox::Z23::Z24::Z25::Z26::Z27::Γ)) _ _ _ _ _ _ _ _ _ _ _ _ _ _ _ _ _ _ _ _ _ _ _ _ _ _ _ _) ((((yc s vs (xG s vs) bw).length)-(0:Int)).toNat) ⟨_,0,ed,iw,yE,uE8,qf,(by exact i2),rfl,N,H.xm 19 15 (zR 1 18) (0::3::4::5::zR 7 8) (by simp only[List.length_cons,List.length_append];omega)<|by simp only[List.length_cons,List.length_append];omega⟩ ?_
        clear H N
        rintro m' ρ asv ⟨xP,x,aB,yA,jM,rfl,i0,i3,rfl,N,H⟩
        have tE:=H.xk (α:=yLL) 2 rfl 2 rfl qj
        refine zcc<|sp (.int .i64 x)<|sq 1<|oN rfl<|sq 1<|zjn<|cD rfl (fun Zy=>?_)<|fun Zy=>?_
        ·have o1:=p0.own.at (p:=x) qf
         refine qW<|t_n<|xM<|xe<|zcr<|sq 1<|sp (.int .i64 x) ?_
         have H1:=H.yt 18 12 [14,0,1,2,3,4,5,6,7,8,9,10,11,12,13,15,16,17] [9,0,1,2,3,4,5,6,7,8,10,11] (by simp only[List.length_cons,List.length_append];omega)<|by simp only[List.length_cons,List.length_append];omega
         have N1:Fresh _ (g9::dn::c7::aj::be::aU::aC::az::jM::Ns):=N
         have K1:Kept (Ns) ((qQ true g9 fV ((jO s own (sv[iv.toNat]!).qC iv bw).set bw<|jc ((jO s own (sv[iv.toNat]!).qC iv bw)[bw]!) (yK s (xG s vs) bw s.qB.length) (-1)))::(qQ true dn dO<|yc s vs (xG s vs) bw)::(qQ true jM yA aB)::(qQ true c7 kv (((sv[iv.toNat]!).qC).qG))::(qQ true aj cy (((sv[iv.toNat]!).qC).qL))::(qQ true be eg (((sv[iv.toNat]!).qC).vX))::(qQ true aU dw (((sv[iv.toNat]!).qC).x8))::(sF false Fp ap cp s.qA)::(sF false Fr ar cr s.qB)::(qQ true aC bV sv)::(qQ true az bL wi)::Γ):=K0.behind 11 rfl
         replace K1:=K1.cons (F:=jM) 2 rfl rfl
         replace K1:=K1.cons (F:=az) 10 rfl rfl
         replace K1:=K1.cons (F:=aC) 9 rfl rfl
         replace K1:=K1.cons (F:=aU) 6 rfl rfl
         replace K1:=K1.cons (F:=be) 5 rfl rfl
         replace K1:=K1.cons (F:=aj) 4 rfl rfl
         replace K1:=K1.cons (F:=c7) 3 rfl rfl
         replace K1:=K1.cons (F:=dn) 1 rfl rfl
         replace K1:=K1.cons (F:=g9) 0 rfl rfl
         refine sw<|zD #[.pointer<|some ⟨bk,0,none⟩,.int .i64 x] rfl rfl call156 (sowner_ok own (some ⟨mq,mp,none⟩) co Fo sb bk (some ⟨b1,0,none⟩) sv.length cz cF wi.length bH x H1 N1 K1 qg qg) ?_
         clear H H1 N1 K1
         rintro _ aHM ⟨rfl,N,H⟩
         obtain⟨n1,n2,n3,n4,n5⟩:=now_pre p0 v3 (c:=bw) (bP:=x) qf qf (j:=(vZ own x).toNat) qf i3
         refine sq 1<|zjn ?_
         obtain⟨ky,rfl⟩:=H.jB 3 rfl qf
         obtain⟨ms,rfl⟩:=H.jB 2 rfl qf
         refine c_lateC 2 (fun ρ abH=>∃(xP:Env) (SW:yOA) (Sx:Nat) (Rw:yOA) (S5:Nat) (aoB:yLN),ρ=upd (upd (upd (upd (upd (upd (upd (upd (upd (upd (upd xP 0<|.pointer<|some ⟨bk,0,none⟩) 1<|.int .i64 iv) 5<|.pointer<|some ⟨l7,0,none⟩) 6<|.pointer<|some ⟨fT,0,none⟩) 7<|Sv (some ⟨ky,0,none⟩) QP Xk) 9<|.int .i64 bw) 11<|Sv (some ⟨ms,0,none⟩) ((yc s vs (xG s vs) bw).length) eS) 12<|.int .i64 x) 124<|Sv SW ((aB[(vZ own x:Int).toNat]!).length) Sx) 125<|.int .i64 x) 137 (Sv Rw ((jc ((aB[(vZ own x:Int).toNat]!)[x]!) ((yc s vs (xG s vs) bw)[x]!) 1).length) S5)/\(yA[((vZ own x:Int).toNat)*1+0]? =some (Sv SW ((aB[(vZ own x:Int).toNat]!).length) Sx))/\Fresh W0.heap.size (g9::dn::c7::aj::be::aU::aC::az::jM::Ns)/\St W0 abH ((rr Rw ((jc ((aB[(vZ own x:Int).toNat]!)[x]!) ((yc s vs (xG s vs) bw)[x]!) 1).length) S5 2 1 ((jc ((aB[(vZ own x:Int).toNat]!)[x]!) ((yc s vs (xG s vs) bw)[x]!) 1).map<|Value.int .i64))::(.box bk [.pointer<|some ⟨sb,0,none⟩,Sv (some ⟨mq,mp,none⟩) own.length co,Sv (some ⟨b1,0,none⟩) sv.length cz,Sv cF wi.length bH] 86)::(rr mZ ((yK s (xG s vs) bw s.qB.length).length) na 2 1 ((yK s (xG s vs) bw s.qB.length).map<|Value.int .i64))::(rr (some ⟨ms,0,none⟩) ((yc s vs (xG s vs) bw).length) eS 24 1 dO)::(rr (some ⟨ky,0,none⟩) QP Xk 29 1 yA)::(.box fT [Sv jX ji jW,Sv fb ((((sv[iv.toNat]!).qC).qG).length) gH,Sv sX ((((sv[iv.toNat]!).qC).qF).length) sO] 31)::(rr jX ji jW 4 1 ((List.replicate s.qA.length true).map<|Value.bool))::(rr sX ((((sv[iv.toNat]!).qC).qF).length) sO 2 1 ((((sv[iv.toNat]!).qC).qF).map<|Value.int .i64))::(rr fb ((((sv[iv.toNat]!).qC).qG).length) gH 24 1 kv)::(.box l7 [.int .i64 (((sv[iv.toNat]!).qC).qP),Sv (some ⟨ns,0,none⟩) ((((sv[iv.toNat]!).qC).qG).length) QC,Sv yz ((((sv[iv.toNat]!).qC).qF).length) yx,Bv (((sv[iv.toNat]!).qC).qV),Sv QV QQ QT,Sv bX ((((sv[iv.toNat]!).qC).qL).length) bW,Sv eb ((((sv[iv.toNat]!).qC).vX).length) ea,Sv cR ((((sv[iv.toNat]!).qC).x8).length) cT] 47)::(rr (some ⟨ns,0,none⟩) ((((sv[iv.toNat]!).qC).qG).length) QC 24 1 fV)::(rr yz ((((sv[iv.toNat]!).qC).qF).length) yx 2 1 ((((sv[iv.toNat]!).qC).qF).map<|Value.int .i64))::(rr QV QQ QT 4 1 ((gotTo iv nS).map<|Value.bool))::(rr bX ((((sv[iv.toNat]!).qC).qL).length) bW 24 1 cy)::(rr eb ((((sv[iv.toNat]!).qC).vX).length) ea 29 1 eg)::(rr cR ((((sv[iv.toNat]!).qC).x8).length) cT 29 1 dw)::(.box sb [.int .i64 s.qN,Sv ap s.qA.length cp,Sv ar s.qB.length cr] 27)::(rr (some ⟨b1,0,none⟩) sv.length cz 49 16 bV)::(rr cF wi.length bH 77 4 bL)::ps) ((sF true aoB SW Sx<|aB[(vZ own x:Int).toNat]!)::(sF false Fo (some ⟨mq,mp,none⟩) co own)::(qQ true g9 fV ((jO s own (sv[iv.toNat]!).qC iv bw).set bw<|jc ((jO s own (sv[iv.toNat]!).qC iv bw)[bw]!) (yK s (xG s vs) bw s.qB.length) (-1)))::(qQ true dn dO<|yc s vs (xG s vs) bw)::(qQ true jM yA aB)::(qQ true c7 kv (((sv[iv.toNat]!).qC).qG))::(qQ true aj cy (((sv[iv.toNat]!).qC).qL))::(qQ true be eg (((sv[iv.toNat]!).qC).vX))::(qQ true aU dw (((sv[iv.toNat]!).qC).x8))::(sF false Fp ap cp s.qA)::(sF false Fr ar cr s.qB)::(qQ true aC bV sv)::(qQ true az bL wi)::Γ)) rfl H [0,1,2,3,4,5,6,7,8,9,10,11,12,13,14,15,16,17] [0,1,2,3,4,5,6,7,8,9,10,11] (fun H=>?_) ?_
         ·dsimp only[yg,yL]
          refine QX (fun ρ RZ=>∃(xP:Env) (LR:yOA) (OU:Nat) (SP:yOA) (RN:Nat) (aak:yOA) (abB:Nat) (wW:yLN) (afn:yLN) (aa4:yLN),ρ=upd (upd (upd (upd (upd (upd (upd (upd (upd (upd (upd (upd xP 0<|.pointer<|some ⟨bk,0,none⟩) 1<|.int .i64 iv) 5<|.pointer<|some ⟨l7,0,none⟩) 6<|.pointer<|some ⟨fT,0,none⟩) 7<|Sv (some ⟨ky,0,none⟩) QP Xk) 9<|.int .i64 bw) 11<|Sv (some ⟨ms,0,none⟩) ((yc s vs (xG s vs) bw).length) eS) 12<|.int .i64 x) 124<|Sv LR ((aB[(vZ own x:Int).toNat]!).length) OU) 125<|.int .i64 x) 132<|Sv aak (((aB[(vZ own x:Int).toNat]!)[x]!).length) abB) 136 (Sv SP (((yc s vs (xG s vs) bw)[x]!).length) RN)/\(yA[((vZ own x:Int).toNat)*1+0]? =some (Sv LR ((aB[(vZ own x:Int).toNat]!).length) OU))/\(dO[x*1+0]? =some (Sv SP (((yc s vs (xG s vs) bw)[x]!).length) RN))/\Fresh W0.heap.size (g9::dn::c7::aj::be::aU::aC::az::jM::Ns)/\St W0 RZ ((.box bk [.pointer<|some ⟨sb,0,none⟩,Sv (some ⟨mq,mp,none⟩) own.length co,Sv (some ⟨b1,0,none⟩) sv.length cz,Sv cF wi.length bH] 86)::(rr mZ ((yK s (xG s vs) bw s.qB.length).length) na 2 1 ((yK s (xG s vs) bw s.qB.length).map<|Value.int .i64))::(rr (some ⟨ms,0,none⟩) ((yc s vs (xG s vs) bw).length) eS 24 1 dO)::(rr (some ⟨ky,0,none⟩) QP Xk 29 1 yA)::(.box fT [Sv jX ji jW,Sv fb ((((sv[iv.toNat]!).qC).qG).length) gH,Sv sX ((((sv[iv.toNat]!).qC).qF).length) sO] 31)::(rr jX ji jW 4 1 ((List.replicate s.qA.length true).map<|Value.bool))::(rr sX ((((sv[iv.toNat]!).qC).qF).length) sO 2 1 ((((sv[iv.toNat]!).qC).qF).map<|Value.int .i64))::(rr fb ((((sv[iv.toNat]!).qC).qG).length) gH 24 1 kv)::(.box l7 [.int .i64 (((sv[iv.toNat]!).qC).qP),Sv (some ⟨ns,0,none⟩) ((((sv[iv.toNat]!).qC).qG).length) QC,Sv yz ((((sv[iv.toNat]!).qC).qF).length) yx,Bv (((sv[iv.toNat]!).qC).qV),Sv QV QQ QT,Sv bX ((((sv[iv.toNat]!).qC).qL).length) bW,Sv eb ((((sv[iv.toNat]!).qC).vX).length) ea,Sv cR ((((sv[iv.toNat]!).qC).x8).length) cT] 47)::(rr (some ⟨ns,0,none⟩) ((((sv[iv.toNat]!).qC).qG).length) QC 24 1 fV)::(rr yz ((((sv[iv.toNat]!).qC).qF).length) yx 2 1 ((((sv[iv.toNat]!).qC).qF).map<|Value.int .i64))::(rr QV QQ QT 4 1 ((gotTo iv nS).map<|Value.bool))::(rr bX ((((sv[iv.toNat]!).qC).qL).length) bW 24 1 cy)::(rr eb ((((sv[iv.toNat]!).qC).vX).length) ea 29 1 eg)::(rr cR ((((sv[iv.toNat]!).qC).x8).length) cT 29 1 dw)::(.box sb [.int .i64 s.qN,Sv ap s.qA.length cp,Sv ar s.qB.length cr] 27)::(rr (some ⟨b1,0,none⟩) sv.length cz 49 16 bV)::(rr cF wi.length bH 77 4 bL)::ps) ((sF true wW SP RN ((yc s vs (xG s vs) bw)[x]!))::(sF true afn aak abB ((aB[(vZ own x:Int).toNat]!)[x]!))::(sF true aa4 LR OU<|aB[(vZ own x:Int).toNat]!)::(sF false Fo (some ⟨mq,mp,none⟩) co own)::(qQ true g9 fV ((jO s own (sv[iv.toNat]!).qC iv bw).set bw<|jc ((jO s own (sv[iv.toNat]!).qC iv bw)[bw]!) (yK s (xG s vs) bw s.qB.length) (-1)))::(qQ true dn dO<|yc s vs (xG s vs) bw)::(qQ true jM yA aB)::(qQ true c7 kv (((sv[iv.toNat]!).qC).qG))::(qQ true aj cy (((sv[iv.toNat]!).qC).qL))::(qQ true be eg (((sv[iv.toNat]!).qC).vX))::(qQ true aU dw (((sv[iv.toNat]!).qC).x8))::(sF false Fp ap cp s.qA)::(sF false Fr ar cr s.qB)::(qQ true aC bV sv)::(qQ true az bL wi)::Γ)) 1 #[true,true,true,true,true,true,true,true,true,true,true,true,true,true,true,true,false] ?_ fun acC=>?_
          ·rintro ρ aD9 ⟨xP,LR,OU,SP,RN,aak,abB,wW,afn,aa4,rfl,apA,aze,N,H⟩
           refine ro 16 rfl<|oc (QD _ ((aB[(vZ own x:Int).toNat]!)[x]!) ((yc s vs (xG s vs) bw)[x]!) 1 (H.get 1 rfl).1 (H.get 0 rfl).1 qg qg qg) ?_
           rintro aE3 ap0 at3 awm
           replace H:=H.zV awm at3
           obtain⟨SS,Rc,rfl,aAJ,ayK⟩:=H.yf 0 rfl
           refine⟨H.pick (zR 1 18)<|zR 3 12,(xy qh ((meet ⟨_,LR,OU,SS,Rc,aa4,uE11,apA,N,H.xm 19 15 (zR 0 19) (zR 2 13) (by simp only[List.length_cons,List.length_append];omega)<|by simp only[List.length_cons,List.length_append];omega⟩)))⟩
          refine QX (fun ρ w229=>∃(xP:Env) (Md:yOA) (Mg:Nat) (Io:yOA) (JH:Nat) (aaC:yLN) (m5:yLN),ρ=upd (upd (upd (upd (upd (upd (upd (upd (upd (upd (upd (upd xP 0<|.pointer<|some ⟨bk,0,none⟩) 1<|.int .i64 iv) 5<|.pointer<|some ⟨l7,0,none⟩) 6<|.pointer<|some ⟨fT,0,none⟩) 7<|Sv (some ⟨ky,0,none⟩) QP Xk) 9<|.int .i64 bw) 11<|Sv (some ⟨ms,0,none⟩) ((yc s vs (xG s vs) bw).length) eS) 12<|.int .i64 x) 124<|Sv Md ((aB[(vZ own x:Int).toNat]!).length) Mg) 125<|.int .i64 x) 132<|Sv Io (((aB[(vZ own x:Int).toNat]!)[x]!).length) JH) 135 (.pointer<|some ⟨ms,0+(x:Int).toNat*1,none⟩)/\(yA[((vZ own x:Int).toNat)*1+0]? =some (Sv Md ((aB[(vZ own x:Int).toNat]!).length) Mg))/\Fresh W0.heap.size (g9::dn::c7::aj::be::aU::aC::az::jM::Ns)/\St W0 w229 ((.box bk [.pointer<|some ⟨sb,0,none⟩,Sv (some ⟨mq,mp,none⟩) own.length co,Sv (some ⟨b1,0,none⟩) sv.length cz,Sv cF wi.length bH] 86)::(rr mZ ((yK s (xG s vs) bw s.qB.length).length) na 2 1 ((yK s (xG s vs) bw s.qB.length).map<|Value.int .i64))::(rr (some ⟨ms,0,none⟩) ((yc s vs (xG s vs) bw).length) eS 24 1 dO)::(rr (some ⟨ky,0,none⟩) QP Xk 29 1 yA)::(.box fT [Sv jX ji jW,Sv fb ((((sv[iv.toNat]!).qC).qG).length) gH,Sv sX ((((sv[iv.toNat]!).qC).qF).length) sO] 31)::(rr jX ji jW 4 1 ((List.replicate s.qA.length true).map<|Value.bool))::(rr sX ((((sv[iv.toNat]!).qC).qF).length) sO 2 1 ((((sv[iv.toNat]!).qC).qF).map<|Value.int .i64))::(rr fb ((((sv[iv.toNat]!).qC).qG).length) gH 24 1 kv)::(.box l7 [.int .i64 (((sv[iv.toNat]!).qC).qP),Sv (some ⟨ns,0,none⟩) ((((sv[iv.toNat]!).qC).qG).length) QC,Sv yz ((((sv[iv.toNat]!).qC).qF).length) yx,Bv (((sv[iv.toNat]!).qC).qV),Sv QV QQ QT,Sv bX ((((sv[iv.toNat]!).qC).qL).length) bW,Sv eb ((((sv[iv.toNat]!).qC).vX).length) ea,Sv cR ((((sv[iv.toNat]!).qC).x8).length) cT] 47)::(rr (some ⟨ns,0,none⟩) ((((sv[iv.toNat]!).qC).qG).length) QC 24 1 fV)::(rr yz ((((sv[iv.toNat]!).qC).qF).length) yx 2 1 ((((sv[iv.toNat]!).qC).qF).map<|Value.int .i64))::(rr QV QQ QT 4 1 ((gotTo iv nS).map<|Value.bool))::(rr bX ((((sv[iv.toNat]!).qC).qL).length) bW 24 1 cy)::(rr eb ((((sv[iv.toNat]!).qC).vX).length) ea 29 1 eg)::(rr cR ((((sv[iv.toNat]!).qC).x8).length) cT 29 1 dw)::(.box sb [.int .i64 s.qN,Sv ap s.qA.length cp,Sv ar s.qB.length cr] 27)::(rr (some ⟨b1,0,none⟩) sv.length cz 49 16 bV)::(rr cF wi.length bH 77 4 bL)::ps) ((sF true aaC Io JH ((aB[(vZ own x:Int).toNat]!)[x]!))::(sF true m5 Md Mg<|aB[(vZ own x:Int).toNat]!)::(sF false Fo (some ⟨mq,mp,none⟩) co own)::(qQ true g9 fV ((jO s own (sv[iv.toNat]!).qC iv bw).set bw<|jc ((jO s own (sv[iv.toNat]!).qC iv bw)[bw]!) (yK s (xG s vs) bw s.qB.length) (-1)))::(qQ true dn dO<|yc s vs (xG s vs) bw)::(qQ true jM yA aB)::(qQ true c7 kv (((sv[iv.toNat]!).qC).qG))::(qQ true aj cy (((sv[iv.toNat]!).qC).qL))::(qQ true be eg (((sv[iv.toNat]!).qC).vX))::(qQ true aU dw (((sv[iv.toNat]!).qC).x8))::(sF false Fp ap cp s.qA)::(sF false Fr ar cr s.qB)::(qQ true aC bV sv)::(qQ true az bL wi)::Γ)) 2 #[true,true,true,true,true,true,true,true,true,true,true,true,true,true,true,false,false] ?_ fun ajK=>?_
          ·rintro ρ ayE ⟨xP,Md,Mg,Io,JH,aaC,m5,rfl,agW,N,H⟩
           refine ro 15 rfl ?_
           obtain⟨PZ,STz,auF,VO,H⟩:=H.yG 2 rfl 4 rfl (iv:=x) x qf qf
           refine zJ (Sv PZ (((yc s vs (xG s vs) bw)[x]!).length) STz) isAgg24 rfl ((H.zt 2 rfl VO qf))<|⟨H.pick (zR 0 18)<|zR 3 12,(yP acC ⟨_,Md,Mg,PZ,STz,Io,JH,auF,aaC,m5,uE12,agW,VO,N,H⟩)⟩
          refine QX (fun ρ aiw=>∃(xP:Env) (KW:yOA) (Oz:Nat) (Iq:yOA) (J4:Nat) (Sp:Nat) (SH:Nat) (tv:yLN) (abX:yLN) (Mi:yOA) (MK:Nat) (I6:yLN) (afK:Nat) (Pc:yLN),ρ=upd (upd (upd (upd (upd (upd (upd (upd (upd (upd (upd (upd xP 0<|.pointer<|some ⟨bk,0,none⟩) 1<|.int .i64 iv) 5<|.pointer<|some ⟨l7,0,none⟩) 6<|.pointer<|some ⟨fT,0,none⟩) 7<|Sv (some ⟨ky,0,none⟩) QP Xk) 9<|.int .i64 bw) 11<|Sv (some ⟨ms,0,none⟩) ((yc s vs (xG s vs) bw).length) eS) 12<|.int .i64 x) 124<|Sv KW ((aB[(vZ own x:Int).toNat]!).length) Oz) 125<|.int .i64 x) 131<|.pointer<|some ⟨Sp,SH+(x:Int).toNat*1,none⟩) 136 (Sv Iq (((yc s vs (xG s vs) bw)[x]!).length) J4)/\(yA[((vZ own x:Int).toNat)*1+0]? =some (Sv KW ((aB[(vZ own x:Int).toNat]!).length) Oz))/\(dO[x*1+0]? =some (Sv Iq (((yc s vs (xG s vs) bw)[x]!).length) J4))/\Fresh W0.heap.size (g9::dn::c7::aj::be::aU::aC::az::jM::Ns)/\St W0 aiw ((.box bk [.pointer<|some ⟨sb,0,none⟩,Sv (some ⟨mq,mp,none⟩) own.length co,Sv (some ⟨b1,0,none⟩) sv.length cz,Sv cF wi.length bH] 86)::(rr mZ ((yK s (xG s vs) bw s.qB.length).length) na 2 1 ((yK s (xG s vs) bw s.qB.length).map<|Value.int .i64))::(rr (some ⟨ms,0,none⟩) ((yc s vs (xG s vs) bw).length) eS 24 1 dO)::(rr (some ⟨ky,0,none⟩) QP Xk 29 1 yA)::(.box fT [Sv jX ji jW,Sv fb ((((sv[iv.toNat]!).qC).qG).length) gH,Sv sX ((((sv[iv.toNat]!).qC).qF).length) sO] 31)::(rr jX ji jW 4 1 ((List.replicate s.qA.length true).map<|Value.bool))::(rr sX ((((sv[iv.toNat]!).qC).qF).length) sO 2 1 ((((sv[iv.toNat]!).qC).qF).map<|Value.int .i64))::(rr fb ((((sv[iv.toNat]!).qC).qG).length) gH 24 1 kv)::(.box l7 [.int .i64 (((sv[iv.toNat]!).qC).qP),Sv (some ⟨ns,0,none⟩) ((((sv[iv.toNat]!).qC).qG).length) QC,Sv yz ((((sv[iv.toNat]!).qC).qF).length) yx,Bv (((sv[iv.toNat]!).qC).qV),Sv QV QQ QT,Sv bX ((((sv[iv.toNat]!).qC).qL).length) bW,Sv eb ((((sv[iv.toNat]!).qC).vX).length) ea,Sv cR ((((sv[iv.toNat]!).qC).x8).length) cT] 47)::(rr (some ⟨ns,0,none⟩) ((((sv[iv.toNat]!).qC).qG).length) QC 24 1 fV)::(rr yz ((((sv[iv.toNat]!).qC).qF).length) yx 2 1 ((((sv[iv.toNat]!).qC).qF).map<|Value.int .i64))::(rr QV QQ QT 4 1 ((gotTo iv nS).map<|Value.bool))::(rr bX ((((sv[iv.toNat]!).qC).qL).length) bW 24 1 cy)::(rr eb ((((sv[iv.toNat]!).qC).vX).length) ea 29 1 eg)::(rr cR ((((sv[iv.toNat]!).qC).x8).length) cT 29 1 dw)::(.box sb [.int .i64 s.qN,Sv ap s.qA.length cp,Sv ar s.qB.length cr] 27)::(rr (some ⟨b1,0,none⟩) sv.length cz 49 16 bV)::(rr cF wi.length bH 77 4 bL)::ps) ((sF true tv Iq J4 ((yc s vs (xG s vs) bw)[x]!))::(sF true abX Mi MK ((aB[(vZ own x:Int).toNat]!)[x]!))::(atF Sp (SH+(x:Int).toNat*1) [Sv Mi (((aB[(vZ own x:Int).toNat]!)[x]!).length) MK])::(sF true I6 (some ⟨Sp,SH,none⟩) afK<|aB[(vZ own x:Int).toNat]!)::(sF true Pc KW Oz<|aB[(vZ own x:Int).toNat]!)::(sF false Fo (some ⟨mq,mp,none⟩) co own)::(qQ true g9 fV ((jO s own (sv[iv.toNat]!).qC iv bw).set bw<|jc ((jO s own (sv[iv.toNat]!).qC iv bw)[bw]!) (yK s (xG s vs) bw s.qB.length) (-1)))::(qQ true dn dO<|yc s vs (xG s vs) bw)::(qQ true jM yA aB)::(qQ true c7 kv (((sv[iv.toNat]!).qC).qG))::(qQ true aj cy (((sv[iv.toNat]!).qC).qL))::(qQ true be eg (((sv[iv.toNat]!).qC).vX))::(qQ true aU dw (((sv[iv.toNat]!).qC).x8))::(sF false Fp ap cp s.qA)::(sF false Fr ar cr s.qB)::(qQ true aC bV sv)::(qQ true az bL wi)::Γ)) 2 #[true,true,true,true,true,true,true,true,true,true,true,false,true,true,true,true,false] ?_ fun aau=>?_
          ·rintro ρ akT ⟨xP,KW,Oz,Iq,J4,Sp,SH,tv,abX,Mi,MK,I6,afK,Pc,rfl,Wv,akZ,N,H⟩
           refine ro 11 rfl<|zJ (Sv Mi (((aB[(vZ own x:Int).toNat]!)[x]!).length) MK) isAgg24 rfl (H.zG 2 rfl 0 rfl)<|⟨H.pick (zR 0 18)<|zR 5 12,(yP acC ⟨_,KW,Oz,Iq,J4,Mi,MK,tv,abX,Pc,uE12,Wv,akZ,N,H.xm 18 17 (zR 0 18) (0::1::zR 4 13) (by simp only[List.length_cons,List.length_append];omega)<|by simp only[List.length_cons,List.length_append];omega⟩)⟩
          refine QX (fun ρ aiV=>∃(xP:Env) (Mu:yOA) (Lh:Nat) (PS:yOA) (S0:Nat) (abY:yLN) (abD:yLN),ρ=upd (upd (upd (upd (upd (upd (upd (upd (upd (upd (upd (upd xP 0<|.pointer<|some ⟨bk,0,none⟩) 1<|.int .i64 iv) 5<|.pointer<|some ⟨l7,0,none⟩) 6<|.pointer<|some ⟨fT,0,none⟩) 7<|Sv (some ⟨ky,0,none⟩) QP Xk) 9<|.int .i64 bw) 11<|Sv (some ⟨ms,0,none⟩) ((yc s vs (xG s vs) bw).length) eS) 12<|.int .i64 x) 123<|.pointer<|some ⟨ky,0+(vZ own x:Int).toNat*1,none⟩) 125<|.int .i64 x) 132<|Sv PS (((aB[(vZ own x:Int).toNat]!)[x]!).length) S0) 136 (Sv Mu (((yc s vs (xG s vs) bw)[x]!).length) Lh)/\(dO[x*1+0]? =some (Sv Mu (((yc s vs (xG s vs) bw)[x]!).length) Lh))/\Fresh W0.heap.size (g9::dn::c7::aj::be::aU::aC::az::jM::Ns)/\St W0 aiV ((.box bk [.pointer<|some ⟨sb,0,none⟩,Sv (some ⟨mq,mp,none⟩) own.length co,Sv (some ⟨b1,0,none⟩) sv.length cz,Sv cF wi.length bH] 86)::(rr mZ ((yK s (xG s vs) bw s.qB.length).length) na 2 1 ((yK s (xG s vs) bw s.qB.length).map<|Value.int .i64))::(rr (some ⟨ms,0,none⟩) ((yc s vs (xG s vs) bw).length) eS 24 1 dO)::(rr (some ⟨ky,0,none⟩) QP Xk 29 1 yA)::(.box fT [Sv jX ji jW,Sv fb ((((sv[iv.toNat]!).qC).qG).length) gH,Sv sX ((((sv[iv.toNat]!).qC).qF).length) sO] 31)::(rr jX ji jW 4 1 ((List.replicate s.qA.length true).map<|Value.bool))::(rr sX ((((sv[iv.toNat]!).qC).qF).length) sO 2 1 ((((sv[iv.toNat]!).qC).qF).map<|Value.int .i64))::(rr fb ((((sv[iv.toNat]!).qC).qG).length) gH 24 1 kv)::(.box l7 [.int .i64 (((sv[iv.toNat]!).qC).qP),Sv (some ⟨ns,0,none⟩) ((((sv[iv.toNat]!).qC).qG).length) QC,Sv yz ((((sv[iv.toNat]!).qC).qF).length) yx,Bv (((sv[iv.toNat]!).qC).qV),Sv QV QQ QT,Sv bX ((((sv[iv.toNat]!).qC).qL).length) bW,Sv eb ((((sv[iv.toNat]!).qC).vX).length) ea,Sv cR ((((sv[iv.toNat]!).qC).x8).length) cT] 47)::(rr (some ⟨ns,0,none⟩) ((((sv[iv.toNat]!).qC).qG).length) QC 24 1 fV)::(rr yz ((((sv[iv.toNat]!).qC).qF).length) yx 2 1 ((((sv[iv.toNat]!).qC).qF).map<|Value.int .i64))::(rr QV QQ QT 4 1 ((gotTo iv nS).map<|Value.bool))::(rr bX ((((sv[iv.toNat]!).qC).qL).length) bW 24 1 cy)::(rr eb ((((sv[iv.toNat]!).qC).vX).length) ea 29 1 eg)::(rr cR ((((sv[iv.toNat]!).qC).x8).length) cT 29 1 dw)::(.box sb [.int .i64 s.qN,Sv ap s.qA.length cp,Sv ar s.qB.length cr] 27)::(rr (some ⟨b1,0,none⟩) sv.length cz 49 16 bV)::(rr cF wi.length bH 77 4 bL)::ps) ((sF true abY Mu Lh ((yc s vs (xG s vs) bw)[x]!))::(sF true abD PS S0 ((aB[(vZ own x:Int).toNat]!)[x]!))::(sF false Fo (some ⟨mq,mp,none⟩) co own)::(qQ true g9 fV ((jO s own (sv[iv.toNat]!).qC iv bw).set bw<|jc ((jO s own (sv[iv.toNat]!).qC iv bw)[bw]!) (yK s (xG s vs) bw s.qB.length) (-1)))::(qQ true dn dO<|yc s vs (xG s vs) bw)::(qQ true jM yA aB)::(qQ true c7 kv (((sv[iv.toNat]!).qC).qG))::(qQ true aj cy (((sv[iv.toNat]!).qC).qL))::(qQ true be eg (((sv[iv.toNat]!).qC).vX))::(qQ true aU dw (((sv[iv.toNat]!).qC).x8))::(sF false Fp ap cp s.qA)::(sF false Fr ar cr s.qB)::(qQ true aC bV sv)::(qQ true az bL wi)::Γ)) 2 #[true,true,true,false,true,true,true,true,true,true,true,true,true,true,true,true,false] ?_ fun ah3=>?_
          ·rintro ρ apz ⟨xP,Mu,Lh,PS,S0,abY,abD,rfl,Hi,N,H⟩
           refine jC [3,16] qh qm<|yV rfl ?_<|yV rfl ?_ jD
           ·obtain⟨aiE,aeq,axI,YM,H⟩:=H.yG 3 rfl 5 rfl (iv:=vZ own x) ((vZ own x:Int).toNat) qf qf
            refine zJ (Sv aiE ((aB[(vZ own x:Int).toNat]!).length) aeq) isAgg29 rfl ((H.zt 3 rfl YM qf))<|⟨H.pick (zR 0 18)<|zR 3 12,(yP acC ⟨_,aiE,aeq,Mu,Lh,PS,S0,abY,abD,axI,uE12,YM,Hi,N,H.xm 18 15 (zR 0 18) (1::2::0::zR 3 12) (by simp only[List.length_cons,List.length_append];omega)<|by simp only[List.length_cons,List.length_append];omega⟩)⟩
           ·refine oc (QD _ ((aB[(vZ own x:Int).toNat]!)[x]!) ((yc s vs (xG s vs) bw)[x]!) 1 (H.get 1 rfl).1 (H.get 0 rfl).1 qg qg qg) ?_
            rintro aEI aG9 ayz axe
            replace H:=H.zV axe ayz
            obtain⟨ayc,axR,rfl,aAU,aBB⟩:=H.yf 0 rfl
            refine⟨H.pick (zR 1 18)<|zR 2 12,(ro 3 rfl ?_)⟩
            obtain⟨agS,aeY,axz,UI,H⟩:=H.yG 4 rfl 5 rfl (iv:=vZ own x) ((vZ own x:Int).toNat) qf qf
            refine zJ (Sv agS ((aB[(vZ own x:Int).toNat]!).length) aeY) isAgg29 rfl ((H.zt 4 rfl UI qf))<|⟨H.pick (zR 1 18)<|zR 3 12,(xy qh ((meet ⟨_,agS,aeY,ayc,axR,axz,uE11,UI,N,H.xm 19 15 (zR 0 19) (0::zR 3 12) (by simp only[List.length_cons,List.length_append];omega)<|by simp only[List.length_cons,List.length_append];omega⟩)))⟩
          refine QX (fun ρ alt=>∃(xP:Env) (Jv:yOA) (IN:Nat) (OD:Nat) (Ld:Nat) (EH:yLN) (IG:yOA) (IZ:Nat) (act:yLN) (ab2:Nat) (mV:yLN),ρ=upd (upd (upd (upd (upd (upd (upd (upd (upd (upd (upd (upd xP 0<|.pointer<|some ⟨bk,0,none⟩) 1<|.int .i64 iv) 5<|.pointer<|some ⟨l7,0,none⟩) 6<|.pointer<|some ⟨fT,0,none⟩) 7<|Sv (some ⟨ky,0,none⟩) QP Xk) 9<|.int .i64 bw) 11<|Sv (some ⟨ms,0,none⟩) ((yc s vs (xG s vs) bw).length) eS) 12<|.int .i64 x) 124<|Sv Jv ((aB[(vZ own x:Int).toNat]!).length) IN) 125<|.int .i64 x) 131<|.pointer<|some ⟨OD,Ld+(x:Int).toNat*1,none⟩) 135 (.pointer<|some ⟨ms,0+(x:Int).toNat*1,none⟩)/\(yA[((vZ own x:Int).toNat)*1+0]? =some (Sv Jv ((aB[(vZ own x:Int).toNat]!).length) IN))/\Fresh W0.heap.size (g9::dn::c7::aj::be::aU::aC::az::jM::Ns)/\St W0 alt ((.box bk [.pointer<|some ⟨sb,0,none⟩,Sv (some ⟨mq,mp,none⟩) own.length co,Sv (some ⟨b1,0,none⟩) sv.length cz,Sv cF wi.length bH] 86)::(rr mZ ((yK s (xG s vs) bw s.qB.length).length) na 2 1 ((yK s (xG s vs) bw s.qB.length).map<|Value.int .i64))::(rr (some ⟨ms,0,none⟩) ((yc s vs (xG s vs) bw).length) eS 24 1 dO)::(rr (some ⟨ky,0,none⟩) QP Xk 29 1 yA)::(.box fT [Sv jX ji jW,Sv fb ((((sv[iv.toNat]!).qC).qG).length) gH,Sv sX ((((sv[iv.toNat]!).qC).qF).length) sO] 31)::(rr jX ji jW 4 1 ((List.replicate s.qA.length true).map<|Value.bool))::(rr sX ((((sv[iv.toNat]!).qC).qF).length) sO 2 1 ((((sv[iv.toNat]!).qC).qF).map<|Value.int .i64))::(rr fb ((((sv[iv.toNat]!).qC).qG).length) gH 24 1 kv)::(.box l7 [.int .i64 (((sv[iv.toNat]!).qC).qP),Sv (some ⟨ns,0,none⟩) ((((sv[iv.toNat]!).qC).qG).length) QC,Sv yz ((((sv[iv.toNat]!).qC).qF).length) yx,Bv (((sv[iv.toNat]!).qC).qV),Sv QV QQ QT,Sv bX ((((sv[iv.toNat]!).qC).qL).length) bW,Sv eb ((((sv[iv.toNat]!).qC).vX).length) ea,Sv cR ((((sv[iv.toNat]!).qC).x8).length) cT] 47)::(rr (some ⟨ns,0,none⟩) ((((sv[iv.toNat]!).qC).qG).length) QC 24 1 fV)::(rr yz ((((sv[iv.toNat]!).qC).qF).length) yx 2 1 ((((sv[iv.toNat]!).qC).qF).map<|Value.int .i64))::(rr QV QQ QT 4 1 ((gotTo iv nS).map<|Value.bool))::(rr bX ((((sv[iv.toNat]!).qC).qL).length) bW 24 1 cy)::(rr eb ((((sv[iv.toNat]!).qC).vX).length) ea 29 1 eg)::(rr cR ((((sv[iv.toNat]!).qC).x8).length) cT 29 1 dw)::(.box sb [.int .i64 s.qN,Sv ap s.qA.length cp,Sv ar s.qB.length cr] 27)::(rr (some ⟨b1,0,none⟩) sv.length cz 49 16 bV)::(rr cF wi.length bH 77 4 bL)::ps) ((sF true EH IG IZ ((aB[(vZ own x:Int).toNat]!)[x]!))::(atF OD (Ld+(x:Int).toNat*1) [Sv IG (((aB[(vZ own x:Int).toNat]!)[x]!).length) IZ])::(sF true act (some ⟨OD,Ld,none⟩) ab2<|aB[(vZ own x:Int).toNat]!)::(sF true mV Jv IN<|aB[(vZ own x:Int).toNat]!)::(sF false Fo (some ⟨mq,mp,none⟩) co own)::(qQ true g9 fV ((jO s own (sv[iv.toNat]!).qC iv bw).set bw<|jc ((jO s own (sv[iv.toNat]!).qC iv bw)[bw]!) (yK s (xG s vs) bw s.qB.length) (-1)))::(qQ true dn dO<|yc s vs (xG s vs) bw)::(qQ true jM yA aB)::(qQ true c7 kv (((sv[iv.toNat]!).qC).qG))::(qQ true aj cy (((sv[iv.toNat]!).qC).qL))::(qQ true be eg (((sv[iv.toNat]!).qC).vX))::(qQ true aU dw (((sv[iv.toNat]!).qC).x8))::(sF false Fp ap cp s.qA)::(sF false Fr ar cr s.qB)::(qQ true aC bV sv)::(qQ true az bL wi)::Γ)) 3 #[true,true,true,true,true,true,true,true,true,true,true,false,true,true,true,false,false] ?_ fun akI=>?_
          ·rintro ρ axJ ⟨xP,Jv,IN,OD,Ld,EH,IG,IZ,act,ab2,mV,rfl,WH,N,H⟩
           refine jC [11,15] qh qm<|yV rfl ?_<|yV rfl ?_ jD
           ·refine zJ (Sv IG (((aB[(vZ own x:Int).toNat]!)[x]!).length) IZ) isAgg24 rfl (H.zG 1 rfl 0 rfl)<|⟨H.pick (zR 0 18)<|zR 4 12,(yP ajK ⟨_,Jv,IN,IG,IZ,EH,mV,uE12,WH,N,H.xm 18 16 (zR 0 18) (0::zR 3 13) (by simp only[List.length_cons,List.length_append];omega)<|by simp only[List.length_cons,List.length_append];omega⟩)⟩
           ·obtain⟨ahc,al7,Es,TY,H⟩:=H.yG 2 rfl 6 rfl (iv:=x) x qf qf
            refine zJ (Sv ahc (((yc s vs (xG s vs) bw)[x]!).length) al7) isAgg24 rfl ((H.zt 2 rfl TY qf))<|⟨H.pick (zR 0 18)<|zR 5 12,(yP aau ⟨_,Jv,IN,ahc,al7,OD,Ld,Es,EH,IG,IZ,act,ab2,mV,uE12,WH,TY,N,H⟩)⟩
          refine QX (fun ρ anp=>∃(xP:Env) (Jf:yOA) (I2:Nat) (Nd:Nat) (Oh:Nat) (Su:yLN) (So:yLN) (Jj:yOA) (JM:Nat) (Y1:yLN) (Zu:Nat),ρ=upd (upd (upd (upd (upd (upd (upd (upd (upd (upd (upd (upd xP 0<|.pointer<|some ⟨bk,0,none⟩) 1<|.int .i64 iv) 5<|.pointer<|some ⟨l7,0,none⟩) 6<|.pointer<|some ⟨fT,0,none⟩) 7<|Sv (some ⟨ky,0,none⟩) QP Xk) 9<|.int .i64 bw) 11<|Sv (some ⟨ms,0,none⟩) ((yc s vs (xG s vs) bw).length) eS) 12<|.int .i64 x) 123<|.pointer<|some ⟨ky,0+(vZ own x:Int).toNat*1,none⟩) 125<|.int .i64 x) 131<|.pointer<|some ⟨Nd,Oh+(x:Int).toNat*1,none⟩) 136 (Sv Jf (((yc s vs (xG s vs) bw)[x]!).length) I2)/\(dO[x*1+0]? =some (Sv Jf (((yc s vs (xG s vs) bw)[x]!).length) I2))/\Fresh W0.heap.size (g9::dn::c7::aj::be::aU::aC::az::jM::Ns)/\St W0 anp ((.box bk [.pointer<|some ⟨sb,0,none⟩,Sv (some ⟨mq,mp,none⟩) own.length co,Sv (some ⟨b1,0,none⟩) sv.length cz,Sv cF wi.length bH] 86)::(rr mZ ((yK s (xG s vs) bw s.qB.length).length) na 2 1 ((yK s (xG s vs) bw s.qB.length).map<|Value.int .i64))::(rr (some ⟨ms,0,none⟩) ((yc s vs (xG s vs) bw).length) eS 24 1 dO)::(rr (some ⟨ky,0,none⟩) QP Xk 29 1 yA)::(.box fT [Sv jX ji jW,Sv fb ((((sv[iv.toNat]!).qC).qG).length) gH,Sv sX ((((sv[iv.toNat]!).qC).qF).length) sO] 31)::(rr jX ji jW 4 1 ((List.replicate s.qA.length true).map<|Value.bool))::(rr sX ((((sv[iv.toNat]!).qC).qF).length) sO 2 1 ((((sv[iv.toNat]!).qC).qF).map<|Value.int .i64))::(rr fb ((((sv[iv.toNat]!).qC).qG).length) gH 24 1 kv)::(.box l7 [.int .i64 (((sv[iv.toNat]!).qC).qP),Sv (some ⟨ns,0,none⟩) ((((sv[iv.toNat]!).qC).qG).length) QC,Sv yz ((((sv[iv.toNat]!).qC).qF).length) yx,Bv (((sv[iv.toNat]!).qC).qV),Sv QV QQ QT,Sv bX ((((sv[iv.toNat]!).qC).qL).length) bW,Sv eb ((((sv[iv.toNat]!).qC).vX).length) ea,Sv cR ((((sv[iv.toNat]!).qC).x8).length) cT] 47)::(rr (some ⟨ns,0,none⟩) ((((sv[iv.toNat]!).qC).qG).length) QC 24 1 fV)::(rr yz ((((sv[iv.toNat]!).qC).qF).length) yx 2 1 ((((sv[iv.toNat]!).qC).qF).map<|Value.int .i64))::(rr QV QQ QT 4 1 ((gotTo iv nS).map<|Value.bool))::(rr bX ((((sv[iv.toNat]!).qC).qL).length) bW 24 1 cy)::(rr eb ((((sv[iv.toNat]!).qC).vX).length) ea 29 1 eg)::(rr cR ((((sv[iv.toNat]!).qC).x8).length) cT 29 1 dw)::(.box sb [.int .i64 s.qN,Sv ap s.qA.length cp,Sv ar s.qB.length cr] 27)::(rr (some ⟨b1,0,none⟩) sv.length cz 49 16 bV)::(rr cF wi.length bH 77 4 bL)::ps) ((sF true Su Jf I2 ((yc s vs (xG s vs) bw)[x]!))::(sF true So Jj JM ((aB[(vZ own x:Int).toNat]!)[x]!))::(atF Nd (Oh+(x:Int).toNat*1) [Sv Jj (((aB[(vZ own x:Int).toNat]!)[x]!).length) JM])::(sF true Y1 (some ⟨Nd,Oh,none⟩) Zu<|aB[(vZ own x:Int).toNat]!)::(sF false Fo (some ⟨mq,mp,none⟩) co own)::(qQ true g9 fV ((jO s own (sv[iv.toNat]!).qC iv bw).set bw<|jc ((jO s own (sv[iv.toNat]!).qC iv bw)[bw]!) (yK s (xG s vs) bw s.qB.length) (-1)))::(qQ true dn dO<|yc s vs (xG s vs) bw)::(qQ true jM yA aB)::(qQ true c7 kv (((sv[iv.toNat]!).qC).qG))::(qQ true aj cy (((sv[iv.toNat]!).qC).qL))::(qQ true be eg (((sv[iv.toNat]!).qC).vX))::(qQ true aU dw (((sv[iv.toNat]!).qC).x8))::(sF false Fp ap cp s.qA)::(sF false Fr ar cr s.qB)::(qQ true aC bV sv)::(qQ true az bL wi)::Γ)) 3 #[true,true,true,false,true,true,true,true,true,true,true,false,true,true,true,true,false] ?_ fun afM=>?_
          ·rintro ρ aH5 ⟨xP,Jf,I2,Nd,Oh,Su,So,Jj,JM,Y1,Zu,rfl,V4,N,H⟩
           refine jC [3,11] qh qm<|yV rfl ?_<|yV rfl ?_ jD
           ·obtain⟨ah5,amM,axi,VW,H⟩:=H.yG 3 rfl 7 rfl (iv:=vZ own x) ((vZ own x:Int).toNat) qf qf
            refine zJ (Sv ah5 ((aB[(vZ own x:Int).toNat]!).length) amM) isAgg29 rfl ((H.zt 3 rfl VW qf))<|⟨H.pick (zR 0 18)<|zR 5 12,(yP aau ⟨_,ah5,amM,Jf,I2,Nd,Oh,Su,So,Jj,JM,Y1,Zu,axi,uE12,VW,V4,N,H.xm 18 17 (zR 0 18) (1::2::3::4::0::zR 5 12) (by simp only[List.length_cons,List.length_append];omega)<|by simp only[List.length_cons,List.length_append];omega⟩)⟩
           ·refine zJ (Sv Jj (((aB[(vZ own x:Int).toNat]!)[x]!).length) JM) isAgg24 rfl (H.zG 2 rfl 0 rfl)<|⟨H.pick (zR 0 18)<|zR 4 12,(yP ah3 ⟨_,Jf,I2,Jj,JM,Su,So,uE12,V4,N,H.xm 18 16 (zR 0 18) (0::1::zR 4 12) (by simp only[List.length_cons,List.length_append];omega)<|by simp only[List.length_cons,List.length_append];omega⟩)⟩
          refine QX (fun ρ ajp=>∃(xP:Env) (ME:yOA) (KG:Nat) (KR:yOA) (NT:Nat) (abb:yLN) (lK:yLN),ρ=upd (upd (upd (upd (upd (upd (upd (upd (upd (upd (upd (upd (upd xP 0<|.pointer<|some ⟨bk,0,none⟩) 1<|.int .i64 iv) 5<|.pointer<|some ⟨l7,0,none⟩) 6<|.pointer<|some ⟨fT,0,none⟩) 7<|Sv (some ⟨ky,0,none⟩) QP Xk) 9<|.int .i64 bw) 11<|Sv (some ⟨ms,0,none⟩) ((yc s vs (xG s vs) bw).length) eS) 12<|.int .i64 x) 124<|Sv ME ((aB[(vZ own x:Int).toNat]!).length) KG) 125<|.int .i64 x) 128<|.pointer<|some ⟨ky,0+(vZ own x:Int).toNat*1,none⟩) 130<|.int .i64 x) 136 (Sv KR (((yc s vs (xG s vs) bw)[x]!).length) NT)/\(yA[((vZ own x:Int).toNat)*1+0]? =some (Sv ME ((aB[(vZ own x:Int).toNat]!).length) KG))/\(dO[x*1+0]? =some (Sv KR (((yc s vs (xG s vs) bw)[x]!).length) NT))/\Fresh W0.heap.size (g9::dn::c7::aj::be::aU::aC::az::jM::Ns)/\St W0 ajp ((.box bk [.pointer<|some ⟨sb,0,none⟩,Sv (some ⟨mq,mp,none⟩) own.length co,Sv (some ⟨b1,0,none⟩) sv.length cz,Sv cF wi.length bH] 86)::(rr mZ ((yK s (xG s vs) bw s.qB.length).length) na 2 1 ((yK s (xG s vs) bw s.qB.length).map<|Value.int .i64))::(rr (some ⟨ms,0,none⟩) ((yc s vs (xG s vs) bw).length) eS 24 1 dO)::(rr (some ⟨ky,0,none⟩) QP Xk 29 1 yA)::(.box fT [Sv jX ji jW,Sv fb ((((sv[iv.toNat]!).qC).qG).length) gH,Sv sX ((((sv[iv.toNat]!).qC).qF).length) sO] 31)::(rr jX ji jW 4 1 ((List.replicate s.qA.length true).map<|Value.bool))::(rr sX ((((sv[iv.toNat]!).qC).qF).length) sO 2 1 ((((sv[iv.toNat]!).qC).qF).map<|Value.int .i64))::(rr fb ((((sv[iv.toNat]!).qC).qG).length) gH 24 1 kv)::(.box l7 [.int .i64 (((sv[iv.toNat]!).qC).qP),Sv (some ⟨ns,0,none⟩) ((((sv[iv.toNat]!).qC).qG).length) QC,Sv yz ((((sv[iv.toNat]!).qC).qF).length) yx,Bv (((sv[iv.toNat]!).qC).qV),Sv QV QQ QT,Sv bX ((((sv[iv.toNat]!).qC).qL).length) bW,Sv eb ((((sv[iv.toNat]!).qC).vX).length) ea,Sv cR ((((sv[iv.toNat]!).qC).x8).length) cT] 47)::(rr (some ⟨ns,0,none⟩) ((((sv[iv.toNat]!).qC).qG).length) QC 24 1 fV)::(rr yz ((((sv[iv.toNat]!).qC).qF).length) yx 2 1 ((((sv[iv.toNat]!).qC).qF).map<|Value.int .i64))::(rr QV QQ QT 4 1 ((gotTo iv nS).map<|Value.bool))::(rr bX ((((sv[iv.toNat]!).qC).qL).length) bW 24 1 cy)::(rr eb ((((sv[iv.toNat]!).qC).vX).length) ea 29 1 eg)::(rr cR ((((sv[iv.toNat]!).qC).x8).length) cT 29 1 dw)::(.box sb [.int .i64 s.qN,Sv ap s.qA.length cp,Sv ar s.qB.length cr] 27)::(rr (some ⟨b1,0,none⟩) sv.length cz 49 16 bV)::(rr cF wi.length bH 77 4 bL)::ps) ((sF true abb KR NT ((yc s vs (xG s vs) bw)[x]!))::(sF true lK ME KG<|aB[(vZ own x:Int).toNat]!)::(sF false Fo (some ⟨mq,mp,none⟩) co own)::(qQ true g9 fV ((jO s own (sv[iv.toNat]!).qC iv bw).set bw<|jc ((jO s own (sv[iv.toNat]!).qC iv bw)[bw]!) (yK s (xG s vs) bw s.qB.length) (-1)))::(qQ true dn dO<|yc s vs (xG s vs) bw)::(qQ true jM yA aB)::(qQ true c7 kv (((sv[iv.toNat]!).qC).qG))::(qQ true aj cy (((sv[iv.toNat]!).qC).qL))::(qQ true be eg (((sv[iv.toNat]!).qC).vX))::(qQ true aU dw (((sv[iv.toNat]!).qC).x8))::(sF false Fp ap cp s.qA)::(sF false Fr ar cr s.qB)::(qQ true aC bV sv)::(qQ true az bL wi)::Γ)) 4 #[true,true,true,true,true,true,true,true,false,true,false,false,true,true,true,true,false] ?_ fun alv=>?_
          ·rintro ρ ax4 ⟨xP,ME,KG,KR,NT,abb,lK,rfl,ahC,OS,N,H⟩
           refine ro 8 rfl ?_
           obtain⟨aw6,aht,asx,aoI,H⟩:=H.yG 3 rfl 5 rfl (iv:=vZ own x) ((vZ own x:Int).toNat) qf qf
           refine zJ (Sv aw6 ((aB[(vZ own x:Int).toNat]!).length) aht) isAgg29 rfl ((H.zt 3 rfl aoI qf))<|⟨H.pick (zR 0 18)<|zR 3 12,?_⟩
           obtain⟨awF,auK,rfl⟩:=H.addr 0 rfl qf
           obtain⟨aos,alQ,ajH,H⟩:=H.yB 0 rfl x x qf qf qf
           refine tI 10 rfl rfl rfl (H.pick (zR 0 18)<|zR 5 12) ?_
           exact yP aau ⟨_,ME,KG,KR,NT,awF,auK,abb,ajH,aos,alQ,asx,aht,lK,uE12,ahC,OS,N,H.xm 18 17 (zR 0 18) (3::0::1::2::zR 4 13) (by simp only[List.length_cons,List.length_append];omega)<|by simp only[List.length_cons,List.length_append];omega⟩
          have S:=H.zW (zR 0 18)<|zR 0 12
          refine rtl 0 S ?_
          refine rtl 1 S ?_
          refine tI 2 rfl rfl rfl S ?_
          refine rtp 4 (.int .i64 x) S ?_
          refine rtl 5 S ?_
          refine rtl 6 S ?_
          refine tI 7 rfl rfl rfl S ?_
          refine rtp 9 (.int .i64 x) S ?_
          refine rtl 12 S ?_
          refine rtp 13 (.int .i64 x) S ?_
          refine tI 14 rfl rfl rfl S ?_
          refine jC [3,8,15] qh qm<|yV rfl ?_<|yV rfl ?_<|yV rfl ?_ jD
          ·obtain⟨Zh,ZV,anc,LS,H⟩:=H.yG 3 rfl 3 rfl (iv:=vZ own x) ((vZ own x:Int).toNat) qf qf
           refine zJ (Sv Zh ((aB[(vZ own x:Int).toNat]!).length) ZV) isAgg29 rfl ((H.zt 3 rfl LS qf))<|⟨H.pick (zR 0 18)<|zR 1 12,(jC [8,15] qh qm<|yV rfl ?_<|yV rfl ?_ jD)⟩
           ·obtain⟨asK,ah6,ayn,apT,H⟩:=H.yG 3 rfl 4 rfl (iv:=vZ own x) ((vZ own x:Int).toNat) qf qf
            refine zJ (Sv asK ((aB[(vZ own x:Int).toNat]!).length) ah6) isAgg29 rfl ((H.zt 3 rfl apT qf))<|⟨H.pick (zR 0 18)<|zR 2 12,?_⟩
            obtain⟨Ek,axp,rfl⟩:=H.addr 0 rfl qf
            obtain⟨al0,ajr,air,H⟩:=H.yB 0 rfl x x qf qf qf
            refine tI 10 rfl rfl rfl (H.pick (zR 0 18)<|zR 4 12) ?_
            exact yP akI ⟨_,Zh,ZV,Ek,axp,air,al0,ajr,ayn,ah6,anc,uE12,LS,N,H⟩
           ·obtain⟨agi,apx,as7,Ft,H⟩:=H.yG 2 rfl 3 rfl (iv:=x) x qf qf
            refine zJ (Sv agi (((yc s vs (xG s vs) bw)[x]!).length) apx) isAgg24 rfl ((H.zt 2 rfl Ft qf))<|⟨H.pick (zR 0 18)<|zR 2 12,(yP alv ⟨_,Zh,ZV,agi,apx,as7,anc,uE13,LS,Ft,N,H⟩)⟩
          ·obtain⟨auS,Zr,ajm,an5,H⟩:=H.yG 3 rfl 3 rfl (iv:=vZ own x) ((vZ own x:Int).toNat) qf qf
           refine zJ (Sv auS ((aB[(vZ own x:Int).toNat]!).length) Zr) isAgg29 rfl ((H.zt 3 rfl an5 qf))<|⟨H.pick (zR 0 18)<|zR 1 12,?_⟩
           obtain⟨afa,ala,rfl⟩:=H.addr 0 rfl qf
           obtain⟨DI,CD,HE,H⟩:=H.yB 0 rfl x x qf qf qf
           refine tI 10 rfl rfl rfl (H.pick (zR 0 18)<|zR 3 12)<|jC [3,11,15] qh qm<|yV rfl ?_<|yV rfl ?_<|yV rfl ?_ jD
           ·obtain⟨ao8,aoY,ayy,X2,H⟩:=H.yG 3 rfl 6 rfl (iv:=vZ own x) ((vZ own x:Int).toNat) qf qf
            refine zJ (Sv ao8 ((aB[(vZ own x:Int).toNat]!).length) aoY) isAgg29 rfl ((H.zt 3 rfl X2 qf))<|⟨H.pick (zR 0 18)<|zR 4 12,(yP akI ⟨_,ao8,aoY,afa,ala,HE,DI,CD,ajm,Zr,ayy,uE12,X2,N,H.xm 18 16 (zR 0 18) (1::2::3::0::zR 4 12) (by simp only[List.length_cons,List.length_append];omega)<|by simp only[List.length_cons,List.length_append];omega⟩)⟩
           ·refine zJ (Sv DI (((aB[(vZ own x:Int).toNat]!)[x]!).length) CD) isAgg24 rfl (H.zG 1 rfl 0 rfl) (⟨H.pick (zR 0 18)<|zR 3 12,(jC [3,15] qh qm<|yV rfl ?_<|yV rfl ?_ jD)⟩)
            ·obtain⟨am8,aie,ato,FG,H⟩:=H.yG 3 rfl 6 rfl (iv:=vZ own x) ((vZ own x:Int).toNat) qf qf
             refine zJ (Sv am8 ((aB[(vZ own x:Int).toNat]!).length) aie) isAgg29 rfl ((H.zt 3 rfl FG qf))<|⟨H.pick (zR 0 18)<|zR 4 12,(yP ajK ⟨_,am8,aie,DI,CD,HE,ato,uE12,FG,N,H.xm 18 16 (zR 0 18) (1::0::zR 4 12) (by simp only[List.length_cons,List.length_append];omega)<|by simp only[List.length_cons,List.length_append];omega⟩)⟩
            ·obtain⟨ajR,apf,axD,UO,H⟩:=H.yG 2 rfl 5 rfl (iv:=x) x qf qf
             refine zJ (Sv ajR (((yc s vs (xG s vs) bw)[x]!).length) apf) isAgg24 rfl ((H.zt 2 rfl UO qf))<|⟨H.pick (zR 0 18)<|zR 4 12,(yP ah3 ⟨_,ajR,apf,DI,CD,axD,HE,uE12,UO,N,H.xm 18 16 (zR 0 18) (0::1::zR 4 12) (by simp only[List.length_cons,List.length_append];omega)<|by simp only[List.length_cons,List.length_append];omega⟩)⟩
           ·obtain⟨amx,ait,asN,WZ,H⟩:=H.yG 2 rfl 5 rfl (iv:=x) x qf qf
            refine zJ (Sv amx (((yc s vs (xG s vs) bw)[x]!).length) ait) isAgg24 rfl ((H.zt 2 rfl WZ qf))<|⟨H.pick (zR 0 18)<|zR 4 12,(yP afM ⟨_,amx,ait,afa,ala,asN,HE,DI,CD,ajm,Zr,uE12,WZ,N,H⟩)⟩
          ·obtain⟨aap,Zs,al2,LX,H⟩:=H.yG 2 rfl 2 rfl (iv:=x) x qf qf
           refine zJ (Sv aap (((yc s vs (xG s vs) bw)[x]!).length) Zs) isAgg24 rfl ((H.zt 2 rfl LX qf))<|⟨H.pick (zR 0 18)<|zR 1 12,(jC [3,8] qh qm<|yV rfl ?_<|yV rfl ?_ jD)⟩
           ·obtain⟨aiM,apg,au6,U7,H⟩:=H.yG 3 rfl 4 rfl (iv:=vZ own x) ((vZ own x:Int).toNat) qf qf
            refine zJ (Sv aiM ((aB[(vZ own x:Int).toNat]!).length) apg) isAgg29 rfl ((H.zt 3 rfl U7 qf))<|⟨H.pick (zR 0 18)<|zR 2 12,(yP alv ⟨_,aiM,apg,aap,Zs,al2,au6,uE13,U7,LX,N,H.xm 18 14 (zR 0 18) (1::0::zR 2 12) (by simp only[List.length_cons,List.length_append];omega)<|by simp only[List.length_cons,List.length_append];omega⟩)⟩
           ·obtain⟨avK,ann,au1,amy,H⟩:=H.yG 3 rfl 4 rfl (iv:=vZ own x) ((vZ own x:Int).toNat) qf qf
            refine zJ (Sv avK ((aB[(vZ own x:Int).toNat]!).length) ann) isAgg29 rfl ((H.zt 3 rfl amy qf))<|⟨H.pick (zR 0 18)<|zR 2 12,?_⟩
            obtain⟨asB,au7,rfl⟩:=H.addr 0 rfl qf
            obtain⟨akh,af2,apa,H⟩:=H.yB 0 rfl x x qf qf qf
            refine tI 10 rfl rfl rfl (H.pick (zR 0 18)<|zR 4 12) ?_
            exact yP afM ⟨_,aap,Zs,asB,au7,al2,apa,akh,af2,au1,ann,uE12,LX,N,H.xm 18 16 (zR 0 18) (3::0::1::2::zR 4 12) (by simp only[List.length_cons,List.length_append];omega)<|by simp only[List.length_cons,List.length_append];omega⟩
         ·clear H N
          rintro ρ aEV ⟨xP,SW,Sx,Rw,S5,aoB,rfl,alF,N,H⟩
          obtain⟨aot,aCx,rfl⟩:=H.addr 0 rfl qf
          obtain⟨aBr,aBx,aCa,H⟩:=H.yB 0 rfl x x qf qf qf
          refine oI rfl rfl ?_
          obtain⟨akk,N,aB4,H⟩:=H.vJ 0 rfl N<|fun F hF b hb=>(List.mem_append.1<|show F∈[g9,dn,c7,aj,be,aU,aC,az,jM]++Ns from hF).elim (fun h=>(H.vV (L:=[g9,dn,c7,aj,be,aU,aC,az,jM]) [4,5,7,8,9,10,13,14,6]) F h b hb) fun h=>H.jT (K0.behind 15 rfl) F h b hb
          dsimp only[List.set] at H
          have N0:Fresh W0.heap.size (jM::akk::g9::dn::c7::aj::be::aU::aC::az::Ns):=(N.xm 10 (9::zR 0 9)<|by simp only[List.length_cons,List.length_append];omega)
          obtain⟨ayP,aeB⟩:∃z,z=(aB.set ((vZ own x:Int).toNat) ((aB[(vZ own x:Int).toNat]!).set x (jc ((aB[(vZ own x:Int).toNat]!)[x]!) ((yc s vs (xG s vs) bw)[x]!) 1))):=⟨_,rfl⟩
          refine sw<|o_pokePart Qs.refl H 7 rfl 0 rfl N0 ((sF true akk Rw S5<|jc ((aB[(vZ own x:Int).toNat]!)[x]!) ((yc s vs (xG s vs) bw)[x]!) 1)::(sF false Fo (some ⟨mq,mp,none⟩) co own)::(qQ true g9 fV ((jO s own (sv[iv.toNat]!).qC iv bw).set bw<|jc ((jO s own (sv[iv.toNat]!).qC iv bw)[bw]!) (yK s (xG s vs) bw s.qB.length) (-1)))::(qQ true dn dO<|yc s vs (xG s vs) bw)::(qQ true c7 kv (((sv[iv.toNat]!).qC).qG))::(qQ true aj cy (((sv[iv.toNat]!).qC).qL))::(qQ true be eg (((sv[iv.toNat]!).qC).vX))::(qQ true aU dw (((sv[iv.toNat]!).qC).x8))::(sF false Fp ap cp s.qA)::(sF false Fr ar cr s.qB)::(qQ true aC bV sv)::(qQ true az bL wi)::Γ) (vY (kept 0 rfl<|QU N0 0 rfl)<|vY (kept 4 rfl<|XA OL 2 rfl N0)<|vY (kept 5 rfl<|QU N0 1 rfl)<|vY (kept 6 rfl<|QU N0 2 rfl)<|vY (kept 8 rfl<|QU N0 3 rfl)<|vY (kept 9 rfl<|QU N0 4 rfl)<|vY (kept 10 rfl<|QU N0 5 rfl)<|vY (kept 11 rfl<|QU N0 6 rfl)<|vY (kept 12 rfl<|XA OL 0 rfl N0)<|vY (kept 13 rfl<|XA OL 1 rfl N0)<|vY (kept 14 rfl<|QU N0 7 rfl)<|vY (kept 15 rfl<|QU N0 8 rfl)<|keeps_old 16 rfl OL 3 rfl N0) ((vZ own x:Int).toNat) qf rfl alF x qf rfl sizeOf24 rfl qf rfl aeB fun aCv aGT N H=>(xU<|b_n<|t_n<|xX<|sp (.int .i64 x)<|sw<|zS x 1 rfl rfl qf<|sq 1<|xU<|xu (m':=(((yc s vs (xG s vs) bw).length)-((x+1):Int)).toNat) qf ⟨_,x+1,_,_,_,uE8,?_,?_,rfl,(N.xm 9 [1,2,3,4,5,6,7,8,0]<|by simp only[List.length_cons,List.length_append];omega),H.xm 19 13 [2,3,4,5,6,7,8,9,10,11,12,13,14,15,1,16,17,18] [3,4,0,5,6,7,8,9,10,2,11,12] (by simp only[List.length_cons,List.length_append];omega)<|by simp only[List.length_cons,List.length_append];omega⟩)
          ·omega
          ·exact add_step i3 rfl ql
        ·have e3:x=s.qA.length+1:=by omega
         refine c_exit<|t_x<|t_x<|b_x<|b_n<|t_n<|xX<|sq 1<|sw<|zS bw 1 rfl rfl qf<|sq 1<|xU<|xu (m':=(own.length-((bw+1):Int)).toNat) qf ⟨_,bw+1,_,_,_,_,_,_,uE6,?_,?_,?_,rfl,(N.xm 9 [2,3,4,5,6,7,8,0]<|by simp only[List.length_cons,List.length_append];omega),H.xm 18 12 (zR 2 16) (2::3::0::zR 4 8) (by simp only[List.length_cons,List.length_append];omega)<|by simp only[List.length_cons,List.length_append];omega⟩
         ·(subst EO;exact(sBags_yes ql).symm)
         ·omega
         ·exact now_end i3 e3 ‹_›
      ·have e2:bw=s.qA.length:=by omega
       obtain⟨n6,n7⟩:=now_ok p0 v3 qf (j:=iv.toNat) qf i2
       refine zx4<|zcc<|sp (.int .i64 0)<|zjn<|xe<|zT ((fun Z0 Z1 Z2 Z3 Z4 Z5 Z6 Z7 Z8 Z9 fi fK gW ka lc lN rj xo Ab EJ Ew O1 Ox Z23 Z24 Z25 Z26=>fun m' ρ ayd=>∃(xP:Env) (sH:Nat),ρ=upd (upd (upd (upd (upd xP 0<|.pointer<|some ⟨bk,0,none⟩) 1<|.int .i64 iv) 5<|.pointer<|some ⟨l7,0,none⟩) 7<|Sv fg QP Xk) 14 (.int .i64 sH)/\((sH:Int)<=QP)/\(AllB3 ed sH)/\m'=(QP-(sH:Int)).toNat/\Fresh W0.heap.size (c7::aj::be::aU::aC::az::yE::jf::Ns)/\St W0 ayd (Z0::Z1::Z2::Z3::Z4::Z5::Z6::Z7::Z8::Z9::fi::fK::gW::ka::lc::lN::ps) (rj::xo::Ab::EJ::Ew::O1::Ox::Z23::Z24::Z25::Z26::Γ)) _ _ _ _ _ _ _ _ _ _ _ _ _ _ _ _ _ _ _ _ _ _ _ _ _ _ _) ((QP-(0:Int)).toNat) ⟨_,0,uE5,qf,qx,rfl,N,H⟩ ?_
       clear H N
       rintro m' ρ atW ⟨xP,sH,rfl,i0,i5,rfl,N,H⟩
       refine zcc<|sq 2<|oN rfl<|sq 1<|zjn<|cD rfl (fun asy=>?_)<|fun asy=>?_
       ·refine qW (t_n<|xM<|xe<|zcr<|sq 2 ?_)
        obtain⟨aH0,rfl⟩:=H.jB 0 rfl qf
        refine oI rfl rfl ?_
        obtain⟨aHa,aFL,aCy,aiy,H⟩:=H.yG 0 rfl 0 rfl (iv:=sH) sH qf qf
        refine oL rfl ((H.zt 0 rfl aiy qf))<|sw<|oq (l08Bags_ok _ (ed[sH]!) (H.get 0 rfl).1) H fun aEU H=>sq 1<|zjn<|cQ rfl (fun awE=>?_)<|fun awE=>?_
        ·refine zcr (sp (.int .i64 3)<|zjr<|zr5<|ret1 (.int .i64 3) rfl rfl ⟨_,rfl,?_⟩)
         subst EO
         rw[workR_no p2.1 ql ql e2 i2 (j:=sH) qf ql]
         exact⟨bV,aC,cF,wi.length,bH,bL,az,rfl,(N.xm 8 [4,5]<|by simp only[List.length_cons,List.length_append];omega),H.xm 16 12 (zR 12 4) (zR 7 5) (by simp only[List.length_cons,List.length_append];omega)<|by simp only[List.length_cons,List.length_append];omega⟩
        ·refine qW (b_n<|t_n<|xX<|sq 1<|sw<|zS sH 1 rfl rfl qf<|sq 1<|xU<|xu (m':=(QP-((sH+1):Int)).toNat) qf ⟨_,sH+1,uE5,?_,?_,rfl,N,H.xm 16 12 (zR 0 16) (zR 1 11) (by simp only[List.length_cons,List.length_append];omega)<|by simp only[List.length_cons,List.length_append];omega⟩)
         ·omega
         ·exact i5.succ ql
       ·refine zx4 (zcr<|sq 1<|oF rfl<|sw<|zh H 5 [.int .i64 (((sv[iv.toNat]!).qC).qP),Sv fN ((((sv[iv.toNat]!).qC).qG).length) QC,Sv yz ((((sv[iv.toNat]!).qC).qF).length) yx,Bv (((sv[iv.toNat]!).qC).qV),Sv QV QQ QT,Sv bX ((((sv[iv.toNat]!).qC).qL).length) bW,Sv fg QP Xk,Sv cR ((((sv[iv.toNat]!).qC).x8).length) cT] sizeOf45 fun as3 H=>?_)
        dsimp only[List.set] at H
        refine zjc<|sq 1<|sp (.int .i64 iv) ?_
        obtain⟨CA,rfl⟩:=H.jB 0 rfl qf
        refine oI rfl rfl ?_
        obtain⟨aG2,aDG,aFm,M8,H⟩:=H.yG 0 rfl 0 rfl (iv:=iv) iv.toNat qf qf
        refine oL rfl ((H.zt 0 rfl M8 qf)) ?_
        have apy:=H.base.size
        have aeP:=jL (H.ltN (L:=[c7,aj,be,aU,aC,az,yE,jf]) [2,4,5,6,10,11,1,3])<|H.ltK<|K0.behind 12 rfl
        refine sw<|oc (Qq _ (ed[iv.toNat]!) (H.get 0 rfl).1 qg) ?_
        rintro _ aEN ⟨Hf,aBk,Hm,aAp,ww,rfl,M,K⟩ _
        replace N:=N.merge apy aeP M
        replace H:=H.merge K M
        dsimp only[List.cons_append,List.nil_append] at H
        obtain rfl:=H.xk (α:=yLI) 0 rfl 0 rfl qj
        refine oF rfl<|sw<|zh H 6 [.int .i64 (((sv[iv.toNat]!).qC).qP),Sv fN ((((sv[iv.toNat]!).qC).qG).length) QC,Sv yz ((((sv[iv.toNat]!).qC).qF).length) yx,Bv (((sv[iv.toNat]!).qC).qV),Sv QV QQ QT,Sv Hf ((ed[iv.toNat]!).length) Hm,Sv (some ⟨CA,0,none⟩) QP Xk,Sv cR ((((sv[iv.toNat]!).qC).x8).length) cT] sizeOf29 fun aG8 H=>?_
        dsimp only[List.set] at H
        refine zjc<|oF rfl<|sw<|zh H 6 [.int .i64 (((sv[iv.toNat]!).qC).qP),Sv fN ((((sv[iv.toNat]!).qC).qG).length) QC,Sv yz ((((sv[iv.toNat]!).qC).qF).length) yx,Bv true,Sv QV QQ QT,Sv Hf ((ed[iv.toNat]!).length) Hm,Sv (some ⟨CA,0,none⟩) QP Xk,Sv cR ((((sv[iv.toNat]!).qC).x8).length) cT] sizeOf4 fun ayr H=>?_
        dsimp only[List.set] at H
        refine zjn<|xM<|vK 3 rfl H [0,1,2,3,4,5,6,7,8,9,10,11,12,13,14,15,16] [0,1,2,3,4,5,6,7,8,9,10,11,12] fun H=>?_
        dsimp only[yg,yL]
        have S:=H.zW (zR 0 17)<|zR 0 13
        refine rtl 0 S ?_
        refine rtl 1 S ?_
        refine tF 2 rfl rfl S ?_
        refine tF 3 rfl rfl S ?_
        refine tL 4 rfl rfl (fun _ h=>h.cell 13 rfl rfl) S ?_
        refine rtp 5 (.int .i64 iv) S ?_
        refine rt 6 _ (Qg (cs:=[.int .i64 (((sv[iv.toNat]!).qC).qP),Sv fN ((((sv[iv.toNat]!).qC).qG).length) QC,Sv yz ((((sv[iv.toNat]!).qC).qF).length) yx,Bv true,Sv QV QQ QT,Sv Hf ((ed[iv.toNat]!).length) Hm,Sv (some ⟨CA,0,none⟩) QP Xk,Sv cR ((((sv[iv.toNat]!).qC).x8).length) cT]) isAgg47 sizeOf47 rfl<|fun _ h=>qH (h.cells 6 rfl) 0 8) S ?_
        refine xy qh<|xZ<|oI rfl rfl<|oF rfl ?_
        have H0:=H
        obtain⟨oU,Tg,azX,H⟩:=H.jA (α:=yLI) 7 rfl 4 rfl qj
        replace N:Fresh W0.heap.size (oU::ww::c7::aj::be::aU::aC::az::yE::Ns):=Fresh.ice (N.xm 9 (8::zR 0 8)<|by simp only[List.length_cons,List.length_append];omega) H0 7 Tg.1 Tg.2<|fun F hF b hb=>(List.mem_append.1<|show F∈[ww,c7,aj,be,aU,aC,az,yE]++Ns from hF).elim (fun h=>(H0.vV (L:=[ww,c7,aj,be,aU,aC,az,yE]) [0,3,5,6,7,11,12,2]) F h b hb) fun h=>H0.jT (K0.behind 13 rfl) F h b hb
        clear H0
        dsimp only[List.set] at H
        obtain⟨s0,N,az6,H⟩:=H.vJ 8 rfl N<|fun F hF b hb=>(List.mem_append.1<|show F∈[oU,ww,c7,aj,be,aU,aC,az,yE]++Ns from hF).elim (fun h=>(H.vV (L:=[oU,ww,c7,aj,be,aU,aC,az,yE]) [0,1,4,6,7,8,12,13,3]) F h b hb) fun h=>H.jT (K0.behind 14 rfl) F h b hb
        dsimp only[List.set] at H
        obtain⟨wX,N,aA3,H⟩:=H.freezeB 9 rfl N<|fun F hF b hb=>(List.mem_append.1<|show F∈[s0,oU,ww,c7,aj,be,aU,aC,az,yE]++Ns from hF).elim (fun h=>(H.vV (L:=[s0,oU,ww,c7,aj,be,aU,aC,az,yE]) [0,1,2,5,7,8,9,13,14,4]) F h b hb) fun h=>H.jT (K0.behind 15 rfl) F h b hb
        dsimp only[List.set] at H
        have H0:=H
        obtain⟨Db,Yh,az7,H⟩:=H.jA (α:=yLI) 0 rfl 3 rfl qj
        replace N:Fresh W0.heap.size (Db::wX::s0::oU::c7::aj::be::aU::aC::az::yE::Ns):=Fresh.ice (N.xm 11 (3::0::1::2::zR 4 7)<|by simp only[List.length_cons,List.length_append];omega) H0 0 Yh.1 Yh.2<|fun F hF b hb=>(List.mem_append.1<|show F∈[wX,s0,oU,c7,aj,be,aU,aC,az,yE]++Ns from hF).elim (fun h=>(H0.vV (L:=[wX,s0,oU,c7,aj,be,aU,aC,az,yE]) [0,1,2,6,8,9,10,14,15,5]) F h b hb) fun h=>H0.jT (K0.behind 16 rfl) F h b hb
        clear H0
        dsimp only[List.set] at H
        have H0:=H
        obtain⟨KH,YN,ayJ,H⟩:=H.jA (α:=yLL) 1 rfl 6 rfl qj
        replace N:Fresh W0.heap.size (KH::Db::wX::s0::oU::c7::aj::be::aU::aC::az::Ns):=Fresh.ice (N.xm 11 (10::zR 0 10)<|by simp only[List.length_cons,List.length_append];omega) H0 1 YN.1 YN.2<|fun F hF b hb=>(List.mem_append.1<|show F∈[Db,wX,s0,oU,c7,aj,be,aU,aC,az]++Ns from hF).elim (fun h=>(H0.vV (L:=[Db,wX,s0,oU,c7,aj,be,aU,aC,az]) [0,1,2,3,7,9,10,11,15,16]) F h b hb) fun h=>H0.jT (K0.behind 17 rfl) F h b hb
        clear H0
        dsimp only[List.set] at H
        have H0:=H
        obtain⟨amQ,WC,aCc,H⟩:=H.jA (α:=yLL) 12 rfl 12 rfl qj
        replace N:Fresh W0.heap.size (amQ::KH::Db::wX::s0::oU::c7::aj::be::aC::az::Ns):=Fresh.ice (N.xm 11 [8,0,1,2,3,4,5,6,7,9,10]<|by simp only[List.length_cons,List.length_append];omega) H0 12 WC.1 WC.2<|fun F hF b hb=>(List.mem_append.1<|show F∈[KH,Db,wX,s0,oU,c7,aj,be,aC,az]++Ns from hF).elim (fun h=>(H0.vV (L:=[KH,Db,wX,s0,oU,c7,aj,be,aC,az]) [0,1,2,3,4,8,10,11,16,17]) F h b hb) fun h=>H0.jT (K0.behind 18 rfl) F h b hb
        clear H0
        dsimp only[List.set] at H
        replace H:=H.mk_DeskD (((sv[iv.toNat]!).qC).qP) 5 rfl 4 rfl true 3 rfl 2 rfl 1 rfl 0 rfl
        replace N:Fresh W0.heap.size ((oU++s0++wX++Db++KH++amQ)::c7::aj::be::aC::az::Ns):=(N.xm 11 [5,4,3,2,1,0,6,7,8,9,10]<|by simp only[List.length_cons,List.length_append];omega).join.join.join.join.join
        obtain⟨azT,YI⟩:∃z,z=(sv.set iv.toNat { sv[iv.toNat]! with qC:=(⟨((sv[iv.toNat]!).qC).qP,(jO s own (sv[iv.toNat]!).qC iv bw),((sv[iv.toNat]!).qC).qF,true,(gotTo iv nS),(ed[iv.toNat]!),ed,((sv[iv.toNat]!).qC).x8⟩:zA)}):=⟨_,rfl⟩
        refine sw<|XF (v:=.agg #[.int .i64 (((sv[iv.toNat]!).qC).qP),Sv fN ((((sv[iv.toNat]!).qC).qG).length) QC,Sv yz ((((sv[iv.toNat]!).qC).qF).length) yx,Bv true,Sv QV QQ QT,Sv Hf ((ed[iv.toNat]!).length) Hm,Sv (some ⟨CA,0,none⟩) QP Xk,Sv cR ((((sv[iv.toNat]!).qC).x8).length) cT]) zC H 15 rfl 18 rfl 0 rfl rfl sizeOf47 rfl rfl rfl iv.toNat qf qf YI fun av9 ajV amL ag8 H=>?_
        dsimp only[List.set] at H
        replace N:Fresh W0.heap.size (amL::c7::aj::be::az::Ns):=(N.xm 6 [4,0,1,2,3,5]<|by simp only[List.length_cons,List.length_append];omega).repl ag8
        refine zjc<|sp (.int .i64 0)<|zjr<|ret1 (.int .i64 0) rfl rfl ⟨_,rfl,?_⟩
        subst EO
        rw[swork_0 p2.1 rfl ql ql e2 i2 (fun j hj=>i5 j qf) (sb_end p0 p2.1 y1.1 e2) (gotTo_all p2.1 qf) YI]
        exact⟨ajV,amL,cF,wi.length,bH,bL,az,rfl,(N.xm 5 [0,4]<|by simp only[List.length_cons,List.length_append];omega),H.xm 17 21 (zR 13 4) [16,17,18,0,20] (by simp only[List.length_cons,List.length_append];omega)<|by simp only[List.length_cons,List.length_append];omega⟩
end
section
theorem sdo_ok(s:qO)(own:yLI)(ap:yOA)(cp:Nat)(Fp:yLN)(ar:yOA)(cr:Nat)(Fr:yLN)(ao:yOA)(co:Nat)(Fo:yLN)(sb:Nat)(sv:List zu)(wi:List zk)(bk:Nat)(n:Nat)(eB:yOA)(ee:Nat)(cz:Nat)(bV:List Value)(aC:yLN)(cF:yOA)(j9:Nat)(bH:Nat)(bL:List Value)(az:yLN)(d:xH)(H:St W0 w ((.box bk [pp sb 0,Sv ao own.length co,Sv eB ee cz,Sv cF j9 bH] 86)::(.box sb (yS s ap cp ar cr) 27)::(rr eB ee cz 49 16 bV)::(rr cF j9 bH 77 4 bL)::ps) ((sF false Fp ap cp s.qA)::(sF false Fr ar cr s.qB)::(sF false Fo ao co own)::(qQ true aC bV sv)::(qQ true az bL wi)::Γ))(N:Fresh W0.heap.size (aC::az::Ns))(K0:Kept Ns Γ)(p0:Giv s own n)(p1:Vh s own n (⟨sv,wi⟩:zN))(p2:VL d)(OL:∀f∈(sF false Fp ap cp s.qA::sF false Fr ar cr s.qB::sF false Fo ao co own::Γ),∀b∈f.F,b<W0.heap.size):Calls Tryz.prog 65 #[pp bk 0,.agg #[yI d.xJ,yI d.fA,yI d.fB]] w (fun e w'=>∃v,e=.returned v/\∃(pU:List Value) (pE:yLN) (qs:yOA) (q8:Nat) (qd:Nat) (px:List Value) (rf:yLN),v=yI ((doM s own (⟨sv,wi⟩:zN) d).2)/\Fresh W0.heap.size (pE::rf::Ns)/\St W0 w' ((.box bk [pp sb 0,Sv ao own.length co,Sv eB ee cz,Sv qs q8 qd] 86)::(.box sb (yS s ap cp ar cr) 27)::(rr eB ee cz 49 16 pU)::(rr qs q8 qd 77 4 px)::ps) ((sF false Fp ap cp s.qA)::(sF false Fr ar cr s.qB)::(sF false Fo ao co own)::(qQ true pE pU ((doM s own (⟨sv,wi⟩:zN) d).1.qE))::(qQ true rf px ((doM s own (⟨sv,wi⟩:zN) d).1.x9))::Γ)):=by
 refine en func65 ntmps65 ?_
 have Ir:=qM (H.get 2 rfl).1
 obtain rfl:=H.xk (α:=zu) 2 rfl 3 rfl qj
 obtain rfl:=H.xk (α:=zk) 3 rfl 4 rfl qj
 have g2:=p0.len
 have g4:=p0.few
 have l1:sv.length=n:=p1.len
 have l2:wi.length<=12:=p1.few
 have d1:=p2.1
 have d2:=p2.2.1
 have d3:=p2.2.2.1
 refine zcr<|sw<|jq H [yI d.xJ,yI d.fA,yI d.fB] fun b1 w2 H=>sp (yI 0)<|zjcc<|oF rfl<|oL rfl (H.cell 0 rfl rfl)<|zjn<|xe<|zcc<|sp (Bv ((d.xJ:Int) == 3))<|sp (Bv ((d.xJ:Int) == 3))<|zjn<|c_cut (fun ρ w3=>∃(xP:Env) (t8:Bool),ρ=upd (upd (upd (upd xP 0<|pp bk 0) 3<|pp b1 0) 7<|yI d.xJ) 8 (Bv t8)/\(t8=true<->(d.xJ=3\/d.xJ=4))/\Fresh W0.heap.size (aC::az::Ns)/\St W0 w3 ((.box b1 [yI d.xJ,yI d.fA,yI d.fB] 44)::(.box bk [pp sb 0,Sv ao own.length co,Sv eB sv.length cz,Sv cF wi.length bH] 86)::(.box sb (yS s ap cp ar cr) 27)::(rr eB sv.length cz 49 16 bV)::(rr cF wi.length bH 77 4 bL)::ps) ((sF false Fp ap cp s.qA)::(sF false Fr ar cr s.qB)::(sF false Fo ao co own)::(qQ true aC bV sv)::(qQ true az bL wi)::Γ)) ?_ ?_
 ·refine cE rfl (fun h4=>?_) (fun h4=>?_)
  ·refine qW (meet ⟨_,(d.xJ:Int) == 3,uE4,?_,N,H⟩)
   ·exact beq_iff_eq.trans ⟨fun h=>by omega,fun h=>by omega⟩
  refine xX<|sp (Bv ((d.xJ:Int) == 4))<|sp (Bv ((d.xJ:Int) == 4))<|xU<|meet ⟨_,(d.xJ:Int) == 4,uE4,?_,N,H⟩
  ·exact beq_iff_eq.trans ⟨fun h=>by omega,fun h=>by omega⟩
 clear H N
 rintro ρ w5 ⟨xP,t8,rfl,j8,N,H⟩
 refine t_n<|vg _ rfl (fun h6=>?_)<|fun h6=>?_
 ·(have k8:=j8.1 ql)
  refine zcr<|sq 1<|sw<|xW [yI d.xJ,yI d.fA,yI d.fB] isAgg44 sizeOf44 rfl (qH (H.cells 0 rfl) 0 3)<|sw<|vz #[pp bk 0,.agg #[yI d.xJ,yI d.fA,yI d.fB]] rfl rfl call106<|en func106 ntmps106 ?_
  refine zcr<|sw<|jq H [yI d.xJ,yI d.fA,yI d.fB] fun b7 w8 H=>sp (yI 0)<|zjn<|xM<|xM<|vK 1 rfl H [0,1,2,3,4,5] [0,1,2,3,4] fun H=>?_
  dsimp only[yg,yL]
  have S:=H.zW (zR 0 6)<|zR 0 5
  refine tF 0 rfl rfl S ?_
  refine tL 1 rfl rfl (fun _ h=>h.cell 0 rfl rfl) S ?_
  refine rtl 2 S ?_
  refine rtl 3 S ?_
  refine tF 4 rfl rfl S ?_
  refine tF 5 rfl rfl S ?_
  refine tL 6 rfl rfl (fun _ h=>h.cell 2 rfl rfl) S ?_
  refine tN 7 rfl rfl S ?_
  refine rtp 8 (Bv<|decide ((d.fA:Int)>=sv.length)) S ?_
  refine rtp 9 (Bv<|decide ((d.fA:Int)>=sv.length)) S ?_
  cases dD:(decide ((d.fA:Int)>=sv.length))
  ·replace dD:=of_decide_eq_false dD
   have S:=H.zW (zR 0 6)<|zR 0 5
   refine gF 10 rfl rfl S ?_
   refine gL 11 rfl rfl (fun _ h=>h.cell 0 rfl rfl) S ?_
   refine rgl 12 15 S ?_
   refine rgl 13 15 S ?_
   refine gF 14 rfl rfl S ?_
   refine gF 15 rfl rfl S ?_
   refine gL 16 rfl rfl (fun _ h=>h.cell 2 rfl rfl) S ?_
   refine gN 17 rfl rfl S ?_
   refine rgp 18 (Bv<|decide ((d.fB:Int)>=sv.length)) 15 S ?_
   refine rtp 19 (Bv<|decide ((d.fB:Int)>=sv.length)) S ?_
   refine rtp 20 (Bv<|decide ((d.fB:Int)>=sv.length)) S ?_
   cases cZ:(decide ((d.fB:Int)>=sv.length))
   ·replace cZ:=of_decide_eq_false cZ
    have S:=H.zW (zR 0 6)<|zR 0 5
    refine gF 21 rfl rfl S ?_
    refine gL 22 rfl rfl (fun _ h=>h.cell 0 rfl rfl) S ?_
    refine gF 23 rfl rfl S ?_
    refine gL 24 rfl rfl (fun _ h=>h.cell 0 rfl rfl) S ?_
    refine rgl 25 26 S ?_
    refine xy qh<|xZ<|sq 1<|zjn<|cE rfl (fun lw=>?_)<|fun lw=>?_
    ·refine zcr (sp (yI 2)<|zjr<|t_r<|ret1 (yI 2) rfl rfl ⟨_,rfl,?_⟩)
     replace H:=H.erases [0]
     dsimp only[zL,List.eraseIdx,List.set] at H
     refine sp (yI 2)<|zjr<|b_r<|t_r<|ret1 (yI 2) rfl rfl ⟨_,rfl,?_⟩
     rw[Vq qf<|by(right;right;omega)]
     all_goals exact⟨bV,aC,cF,wi.length,bH,bL,az,rfl,N,H.xm 5 5 (zR 1 4) (zR 0 5) (by simp only[List.length_cons,List.length_append];omega)<|by simp only[List.length_cons,List.length_append];omega⟩
    have y1:jy s own n d.fA.toNat (sv[d.fA.toNat]!).qC/\jy s own n d.fA.toNat (sv[d.fA.toNat]!).qI:=p1.srv d.fA.toNat qf
    refine qW<|t_n<|xM<|vK 2 rfl H [0,1,2,3,4,5] [0,1,2,3,4] fun H=>?_
    dsimp only[yg,yL]
    have S:=H.zW (zR 0 6)<|zR 0 5
    refine rtl 0 S ?_
    refine rtl 1 S ?_
    refine tF 2 rfl rfl S ?_
    refine tF 3 rfl rfl S ?_
    refine tL 4 rfl rfl (fun _ h=>h.cell 2 rfl rfl) S ?_
    refine tF 5 rfl rfl S ?_
    refine tL 6 rfl rfl (fun _ h=>h.cell 0 rfl rfl) S ?_
    refine xy qh<|xZ ?_
    obtain⟨Kn,rfl⟩:=H.jB 4 rfl qf
    refine oI rfl rfl<|sq 1<|zjcc<|oF rfl<|oL rfl (H.cell 0 rfl rfl)<|sp (Bv ((d.xJ:Int) == 3))<|zjn<|cE rfl (fun rV=>?_)<|fun rV=>?_
    ·refine zcc (sq 1<|oF rfl<|oL rfl (H.cell 0 rfl rfl)<|sw<|vz #[pp bk 0,yI d.fA] rfl rfl call105<|en func105 ntmps105 ?_)
     refine zcr<|sp (Bv false)<|zjc<|sq 2<|oF rfl<|oF rfl<|oL rfl (H.cell 2 rfl rfl)<|sq 1<|oI rfl rfl<|sq 1<|zjn<|xM<|vK 2 rfl H [0,1,2,3,4,5] [0,1,2,3,4] fun H=>?_
     dsimp only[yg,yL]
     have S:=H.zW (zR 0 6)<|zR 0 5
     refine rtl 0 S ?_
     refine rtl 1 S ?_
     refine tF 2 rfl rfl S ?_
     refine tF 3 rfl rfl S ?_
     obtain⟨ais,an1,akc,aao,ace,ZG,arT,aqh,aq7,aaG,Zq,ZF,arK,aq0,aqx,afj,alZ,ap3,IT,H⟩:=H.jQ Qh 4 rfl 3 rfl rfl d.fA.toNat qf
     have S:=H.zW (zR 0 6)<|zR 6 5
     refine rt 4 _ (jU (off:=0+(d.fA:Int).toNat*16+8+0) isAgg2 rfl<|fun _ h=>(h.zt 4 rfl (IT 0 _ rfl) qf)) S ?_
     refine rtl 5 S ?_
     refine rtl 6 S ?_
     refine tF 7 rfl rfl S ?_
     refine tF 8 rfl rfl S ?_
     obtain⟨agG,apV,amp,aaD,aaZ,aca,aqS,aqm,aq8,aa1,aa9,abj,aqY,arz,arE,akL,akx,al9,afI,H⟩:=H.jQ zC 4 rfl 9 rfl rfl d.fA.toNat qf
     have S:=H.zW (zR 0 6)<|zR 12 5
     refine rt 9 _ (jU (off:=0+(d.fA:Int).toNat*16+0+0) isAgg2 rfl<|fun _ h=>(h.zt 4 rfl (afI 0 _ rfl) qf)) S ?_
     refine rtp 10 (Bv ((((sv[d.fA.toNat]!).qI).qP:Int) == (((sv[d.fA.toNat]!).qC).qP))) S ?_
     refine rtp 11 (Bv ((((sv[d.fA.toNat]!).qI).qP:Int) == (((sv[d.fA.toNat]!).qC).qP))) S ?_
     cases wO:((((sv[d.fA.toNat]!).qI).qP:Int) == (((sv[d.fA.toNat]!).qC).qP))
     ·replace wO:=ne_of_beq_false wO
      refine zZ (zR 12 5) 5 (H.pick (zR 0 6)<|zR 12 5)<|xy qh<|xZ<|sp (Bv false)<|sp (Bv false)<|zjr<|ret1 (Bv false) rfl rfl ⟨_,rfl,(sp (Bv true)<|zjn<|cTr rfl<|zcr<|sp (yI 4)<|zjr<|t_r<|t_r<|ret1 (yI 4) rfl rfl ⟨_,rfl,?_⟩)⟩
      replace H:=H.erases [0]
      dsimp only[zL,List.eraseIdx,List.set] at H
      refine sp (yI 4)<|zjr<|b_r<|t_r<|ret1 (yI 4) rfl rfl ⟨_,rfl,?_⟩
      rw[doR_post4 qf ⟨⟨by omega,by omega⟩,⟨by omega,by omega⟩,by omega⟩<|by rintro⟨h1,h2⟩;contradiction]
      all_goals exact⟨bV,aC,cF,wi.length,bH,bL,az,rfl,N,H.xm 5 17 (zR 1 4) (zR 12 5) (by simp only[List.length_cons,List.length_append];omega)<|by simp only[List.length_cons,List.length_append];omega⟩
     replace wO:=eq_of_beq wO
     have S:=H.zW (zR 0 6)<|zR 12 5
     refine rgl 12 24 S ?_
     refine rgl 13 24 S ?_
     refine gF 14 rfl rfl S ?_
     refine gF 15 rfl rfl S ?_
     refine rg 16 _ 24 (jU (off:=0+(d.fA:Int).toNat*16+8+3) isAgg4 rfl<|fun _ h=>(h.zt 4 rfl (IT 3 _ rfl) qf)) S ?_
     refine xy qh<|xZ<|sq 2<|zjr<|ret1 (Bv (((sv[d.fA.toNat]!).qI).qV)) rfl rfl ⟨_,rfl,(sq 1<|zjn<|vg _ rfl (fun oZ=>?_)<|fun oZ=>?_)⟩
     ·replace oZ:=xq oZ
      refine zcr<|sp (yI 4)<|zjr<|t_r<|t_r<|ret1 (yI 4) rfl rfl ⟨_,rfl,?_⟩
      replace H:=H.erases [0]
      dsimp only[zL,List.eraseIdx,List.set] at H
      refine sp (yI 4)<|zjr<|b_r<|t_r<|ret1 (yI 4) rfl rfl ⟨_,rfl,?_⟩
      rw[doR_post4 qf ⟨⟨by omega,by omega⟩,⟨by omega,by omega⟩,by omega⟩<|by rintro⟨h1,h2⟩;simp_all]
      all_goals exact⟨bV,aC,cF,wi.length,bH,bL,az,rfl,N,H.xm 5 17 (zR 1 4) (zR 12 5) (by simp only[List.length_cons,List.length_append];omega)<|by simp only[List.length_cons,List.length_append];omega⟩
     replace oZ:=xf oZ
     have y2:=y1.2.nowIn p0 ql (j:=d.fB.toNat) qf
     have y4:=y2.2.1
     refine qW<|t_n<|xM<|vK 2 rfl H [0,1,2,3,4,5] [0,1,2,3,4,5,6,7,8,9,10,11,12,13,14,15,16] fun H=>?_
     dsimp only[yg,yL]
     have S:=H.zW (zR 0 6)<|zR 0 17
     refine rtl 0 S ?_
     refine rtl 1 S ?_
     refine rtl 2 S ?_
     refine tF 3 rfl rfl S ?_
     refine tF 4 rfl rfl S ?_
     refine rt 5 _ (jU (off:=0+(d.fA:Int).toNat*16+8+0) isAgg2 rfl<|fun _ h=>(h.zt 4 rfl (IT 0 _ rfl) qf)) S ?_
     refine tF 6 rfl rfl S ?_
     refine tL 7 rfl rfl (fun _ h=>h.cell 0 rfl rfl) S ?_
     refine tF 8 rfl rfl S ?_
     refine tL 9 rfl rfl (fun _ h=>h.cell 0 rfl rfl) S ?_
     refine rtl 10 S ?_
     refine rtl 11 S ?_
     refine tF 12 rfl rfl S ?_
     refine tF 13 rfl rfl S ?_
     refine rt 14 _ (jU (off:=0+(d.fA:Int).toNat*16+8+6) isAgg45 rfl<|fun _ h=>(h.zt 4 rfl (IT 6 _ rfl) qf)) S ?_
     refine tF 15 rfl rfl S ?_
     refine tL 16 rfl rfl (fun _ h=>h.cell 0 rfl rfl) S ?_
     obtain⟨Sg,o25,rfl⟩:=H.addr 10 rfl qf
     obtain⟨avJ,ayF,aHs,H⟩:=H.yB 10 rfl d.fB d.fB.toNat qf qf qf
     refine tI 17 rfl rfl rfl (H.pick (zR 0 6)<|zR 2 17)<|ro 18 rfl<|zJ (Sv avJ (((((sv[d.fA.toNat]!).qI).vX)[d.fB.toNat]!).length) ayF) isAgg29 rfl (H.zG 1 rfl 0 rfl)<|⟨H.pick (zR 0 6)<|zR 2 17,(ro 19 rfl ?_)⟩
     have aaM:=H.base.size
     have aaH:=jL (H.ltN (L:=[aC,az]) [17,18])<|H.ltK<|K0.behind 19 rfl
     refine oc (Qq _ ((((sv[d.fA.toNat]!).qI).vX)[d.fB.toNat]!) (H.get 0 rfl).1 qg) ?_
     rintro _ JJ ⟨eh,acx,pI,auz,c7,rfl,M,K⟩ _
     replace N:=N.merge aaM aaH M
     replace H:=H.merge K M
     dsimp only[List.cons_append,List.nil_append] at H
     obtain rfl:=H.xk (α:=yLI) 0 rfl 0 rfl qj
     refine⟨H.pick (zR 1 6)<|zR 3 17,(ro 20 rfl<|jE [yI (((sv[d.fA.toNat]!).qI).qP),yI d.fA,yI d.fB,Sv eh (((((sv[d.fA.toNat]!).qI).vX)[d.fB.toNat]!).length) pI] [(0,yI (((sv[d.fA.toNat]!).qI).qP)),(1,yI d.fA),(2,yI d.fB),(3,Sv eh (((((sv[d.fA.toNat]!).qI).vX)[d.fB.toNat]!).length) pI)]<|⟨H.pick (zR 1 6)<|zR 3 17,(xy qh<|xZ ?_)⟩)⟩
     refine sw<|vz #[pp bk 0,.agg #[yI (((sv[d.fA.toNat]!).qI).qP),yI d.fA,yI d.fB,Sv eh (((((sv[d.fA.toNat]!).qI).vX)[d.fB.toNat]!).length) pI]] rfl rfl call150<|en func150 ntmps150 ?_
     refine zcr<|sw<|jq H [yI (((sv[d.fA.toNat]!).qI).qP),yI d.fA,yI d.fB,Sv eh (((((sv[d.fA.toNat]!).qI).vX)[d.fB.toNat]!).length) pI] fun b34 Na H=>sp (yI 0)<|zjcc<|sq 2<|oF rfl<|oF rfl<|oL rfl (H.cell 4 rfl rfl)<|oN rfl<|sp (Bv ((wi.length:Int) == 12))<|zjn<|cE rfl (fun h36=>?_)<|fun h36=>?_
     ·refine zcr (sp (yI 3)<|zjr<|t_r<|ret1 (yI 3) rfl rfl ⟨_,rfl,?_⟩)
      replace H:=H.erases [0]
      dsimp only[zL,List.eraseIdx,List.set] at H
      refine sp (yI 3)<|zjr<|t_r<|ret1 (yI 3) rfl rfl ⟨_,rfl,?_⟩
      replace H:=H.erases [1,0]
      dsimp only[zL,List.eraseIdx,List.set] at H
      refine sp (yI 3)<|zjr<|b_r<|t_r<|ret1 (yI 3) rfl rfl ⟨_,rfl,?_⟩
      rw[doR_post3 qf ⟨⟨by omega,by omega⟩,⟨by omega,by omega⟩,by omega⟩ ⟨by assumption,by assumption⟩ qf]
      all_goals exact⟨bV,aC,cF,wi.length,bH,bL,az,rfl,(N.xm 3 [1,2]<|by simp only[List.length_cons,List.length_append];omega),H.xm 5 20 (zR 1 4) (zR 15 5) (by simp only[List.length_cons,List.length_append];omega)<|by simp only[List.length_cons,List.length_append];omega⟩
     refine qW<|t_n<|xM<|vK 4 rfl H [0,2,3,4,5,6] [0,1,2,3,4,5,6,7,8,9,10,11,12,13,14,15,16,17,18,19] fun H=>?_
     dsimp only[yg,yL]
     have S:=H.zW (0::zR 2 5)<|zR 0 20
     refine rtl 0 S ?_
     refine rtl 1 S ?_
     refine rtl 2 S ?_
     refine tF 3 rfl rfl S ?_
     refine tF 4 rfl rfl S ?_
     refine tL 5 rfl rfl (fun _ h=>h.cell 3 rfl rfl) S ?_
     refine rt 6 _ (Qg (cs:=[yI (((sv[d.fA.toNat]!).qI).qP),yI d.fA,yI d.fB,Sv eh (((((sv[d.fA.toNat]!).qI).vX)[d.fB.toNat]!).length) pI]) isAgg77 sizeOf77 rfl<|fun _ h=>qH (h.cells 0 rfl) 0 4) S ?_
     refine ro 7 rfl<|zy H underlying37 ti77 [yI (((sv[d.fA.toNat]!).qI).qP),yI d.fA,yI d.fB,Sv eh (((((sv[d.fA.toNat]!).qI).vX)[d.fB.toNat]!).length) pI] fun b38 Rr H=>⟨H.pick (1::zR 3 5)<|zR 0 20,(ro 8 rfl ?_)⟩
     have H0:=H
     obtain⟨G43,anX,abk,H⟩:=H.jA (α:=yLI) 2 rfl 0 rfl qj
     replace N:Fresh W0.heap.size (G43::aC::az::Ns):=Fresh.ice N H0 2 anX.1 anX.2<|fun F hF b hb=>(List.mem_append.1<|show F∈[aC,az]++Ns from hF).elim (fun h=>(H0.vV (L:=[aC,az]) [18,19]) F h b hb) fun h=>H0.jT (K0.behind 20 rfl) F h b hb
     clear H0
     dsimp only[List.set] at H
     refine zH H 8 rfl 0 rfl underlying37 ti77 rfl qj rfl rfl rfl qw qp qf fun a40 c41 Sh H=>?_
     dsimp only[List.set] at H
     replace H:=H.snoc_ParcelD 20 rfl (((sv[d.fA.toNat]!).qI).qP) d.fA d.fB 0 rfl
     replace N:Fresh W0.heap.size ((az++G43)::aC::Ns):=(N.xm 3 [2,0,1]<|by simp only[List.length_cons,List.length_append];omega).join
     refine⟨H.pick (1::zR 3 5)<|zR 2 20,(xy qh<|xZ<|sq 1<|oF rfl<|oF rfl<|sw<|zh H 5 [pp sb 0,Sv ao own.length co,Sv (aa Kn 0) sv.length cz,Sv a40 (wi.length+1) c41] sizeOf37 fun SF H=>?_)⟩
     dsimp only[List.set] at H
     refine zjc<|sp (yI 0)<|zjr<|ret1 (yI 0) rfl rfl ⟨_,rfl,?_⟩
     replace H:=H.erases [2,1,0]
     dsimp only[zL,List.eraseIdx,List.set] at H
     refine sp (yI 0)<|zjr<|t_r<|ret1 (yI 0) rfl rfl ⟨_,rfl,?_⟩
     replace H:=H.erases [0]
     dsimp only[zL,List.eraseIdx,List.set] at H
     refine sp (yI 0)<|zjr<|b_r<|t_r<|ret1 (yI 0) rfl rfl ⟨_,rfl,?_⟩
     rw[sdoR_post0 qf ⟨⟨by omega,by omega⟩,⟨by omega,by omega⟩,by omega⟩ ⟨by assumption,by assumption⟩ qf]
     all_goals exact⟨bV,aC,a40,wi.length+1,c41,bL++[Value.int .i64 (((sv[d.fA.toNat]!).qI).qP),Value.int .i64 d.fA,Value.int .i64 d.fB,Value.slice eh (((((sv[d.fA.toNat]!).qI).vX)[d.fB.toNat]!).length) pI],(az++G43),rfl,(N.xm 2 [1,0]<|by simp only[List.length_cons,List.length_append];omega),H.xm 5 22 (zR 1 4) [17,18,19,20,0] (by simp only[List.length_cons,List.length_append];omega)<|by simp only[List.length_cons,List.length_append];omega⟩
    refine qW<|t_n<|zcc<|sq 2<|oF rfl<|oF rfl ?_
    obtain⟨apH,ahk,anG,aaB,abK,aaT,aqF,arO,arM,ack,aax,acG,aqn,ar1,arP,an7,ah9,ap6,AE,H⟩:=H.jQ zC 4 rfl 3 rfl rfl d.fA.toNat qf
    refine oL rfl (H.zt 4 rfl (AE 0 _ rfl) qf)<|sp (Bv ((((sv[d.fA.toNat]!).qC).qP:Int) == 0))<|zjn<|cE rfl (fun Zx=>?_)<|fun Zx=>?_
    ·refine zcr (sp (yI 4)<|zjr<|t_r<|ret1 (yI 4) rfl rfl ⟨_,rfl,?_⟩)
     replace H:=H.erases [0]
     dsimp only[zL,List.eraseIdx,List.set] at H
     refine sp (yI 4)<|zjr<|b_r<|t_r<|ret1 (yI 4) rfl rfl ⟨_,rfl,?_⟩
     rw[doR_back4 qf ⟨⟨by omega,by omega⟩,⟨by omega,by omega⟩,by omega⟩ ql]
     all_goals exact⟨bV,aC,cF,wi.length,bH,bL,az,rfl,N,H.xm 5 11 (zR 1 4) (zR 6 5) (by simp only[List.length_cons,List.length_append];omega)<|by simp only[List.length_cons,List.length_append];omega⟩
    have y0:=y1.1.rnd
    have y2:=y1.1.lastIn p0 ql (j:=d.fB.toNat) qf
    have y4:=y2.2.1
    refine qW<|t_n<|xM<|vK 2 rfl H [0,1,2,3,4,5] [0,1,2,3,4,5,6,7,8,9,10] fun H=>?_
    dsimp only[yg,yL]
    have S:=H.zW (zR 0 6)<|zR 0 11
    refine rtl 0 S ?_
    refine rtl 1 S ?_
    refine rtl 2 S ?_
    refine tF 3 rfl rfl S ?_
    refine tF 4 rfl rfl S ?_
    refine rt 5 _ (jU (off:=0+(d.fA:Int).toNat*16+0+0) isAgg2 rfl<|fun _ h=>(h.zt 4 rfl (AE 0 _ rfl) qf)) S ?_
    refine rt 6 _ (y_sub (((sv[d.fA.toNat]!).qC).qP) 1 rfl rfl qf) S ?_
    refine tF 7 rfl rfl S ?_
    refine tL 8 rfl rfl (fun _ h=>h.cell 0 rfl rfl) S ?_
    refine tF 9 rfl rfl S ?_
    refine tL 10 rfl rfl (fun _ h=>h.cell 0 rfl rfl) S ?_
    refine rtl 11 S ?_
    refine rtl 12 S ?_
    refine tF 13 rfl rfl S ?_
    refine tF 14 rfl rfl S ?_
    refine rt 15 _ (jU (off:=0+(d.fA:Int).toNat*16+0+7) isAgg45 rfl<|fun _ h=>(h.zt 4 rfl (AE 7 _ rfl) qf)) S ?_
    refine tF 16 rfl rfl S ?_
    refine tL 17 rfl rfl (fun _ h=>h.cell 0 rfl rfl) S ?_
    obtain⟨b51,o52,rfl⟩:=H.addr 5 rfl qf
    obtain⟨axO,awp,aH6,H⟩:=H.yB 5 rfl d.fB d.fB.toNat qf qf qf
    refine tI 18 rfl rfl rfl (H.pick (zR 0 6)<|zR 2 11)<|ro 19 rfl<|zJ (Sv axO (((((sv[d.fA.toNat]!).qC).x8)[d.fB.toNat]!).length) awp) isAgg29 rfl (H.zG 1 rfl 0 rfl)<|⟨H.pick (zR 0 6)<|zR 2 11,(ro 20 rfl ?_)⟩
    have ab0:=H.base.size
    have abQ:=jL (H.ltN (L:=[aC,az]) [11,12])<|H.ltK<|K0.behind 13 rfl
    refine oc (Qq _ ((((sv[d.fA.toNat]!).qC).x8)[d.fB.toNat]!) (H.get 0 rfl).1 qg) ?_
    rintro _ w56 ⟨A8,auM,AH,aeQ,aaQ,rfl,M,K⟩ _
    replace N:=N.merge ab0 abQ M
    replace H:=H.merge K M
    dsimp only[List.cons_append,List.nil_append] at H
    obtain rfl:=H.xk (α:=yLI) 0 rfl 0 rfl qj
    refine⟨H.pick (zR 1 6)<|zR 3 11,(ro 21 rfl<|jE [yI ((((sv[d.fA.toNat]!).qC).qP)-1),yI d.fA,yI d.fB,Sv A8 (((((sv[d.fA.toNat]!).qC).x8)[d.fB.toNat]!).length) AH] [(0,yI ((((sv[d.fA.toNat]!).qC).qP)-1)),(1,yI d.fA),(2,yI d.fB),(3,Sv A8 (((((sv[d.fA.toNat]!).qC).x8)[d.fB.toNat]!).length) AH)]<|⟨H.pick (zR 1 6)<|zR 3 11,(xy qh<|xZ ?_)⟩)⟩
    refine sw<|vz #[pp bk 0,.agg #[yI ((((sv[d.fA.toNat]!).qC).qP)-1),yI d.fA,yI d.fB,Sv A8 (((((sv[d.fA.toNat]!).qC).x8)[d.fB.toNat]!).length) AH]] rfl rfl call150<|en func150 ntmps150 ?_
    refine zcr<|sw<|jq H [yI ((((sv[d.fA.toNat]!).qC).qP)-1),yI d.fA,yI d.fB,Sv A8 (((((sv[d.fA.toNat]!).qC).x8)[d.fB.toNat]!).length) AH] fun b61 w62 H=>sp (yI 0)<|zjcc<|sq 2<|oF rfl<|oF rfl<|oL rfl (H.cell 4 rfl rfl)<|oN rfl<|sp (Bv ((wi.length:Int) == 12))<|zjn<|cE rfl (fun h63=>?_)<|fun h63=>?_
    ·refine zcr (sp (yI 3)<|zjr<|t_r<|ret1 (yI 3) rfl rfl ⟨_,rfl,?_⟩)
     replace H:=H.erases [0]
     dsimp only[zL,List.eraseIdx,List.set] at H
     refine sp (yI 3)<|zjr<|ret1 (yI 3) rfl rfl ⟨_,rfl,?_⟩
     replace H:=H.erases [1,0]
     dsimp only[zL,List.eraseIdx,List.set] at H
     refine sp (yI 3)<|zjr<|b_r<|t_r<|ret1 (yI 3) rfl rfl ⟨_,rfl,?_⟩
     rw[doR_back3 qf ⟨⟨by omega,by omega⟩,⟨by omega,by omega⟩,by omega⟩ ql qf]
     all_goals exact⟨bV,aC,cF,wi.length,bH,bL,az,rfl,(N.xm 3 [1,2]<|by simp only[List.length_cons,List.length_append];omega),H.xm 5 14 (zR 1 4) (zR 9 5) (by simp only[List.length_cons,List.length_append];omega)<|by simp only[List.length_cons,List.length_append];omega⟩
    refine qW<|t_n<|xM<|vK 4 rfl H [0,2,3,4,5,6] [0,1,2,3,4,5,6,7,8,9,10,11,12,13] fun H=>?_
    dsimp only[yg,yL]
    have S:=H.zW (0::zR 2 5)<|zR 0 14
    refine rtl 0 S ?_
    refine rtl 1 S ?_
    refine rtl 2 S ?_
    refine tF 3 rfl rfl S ?_
    refine tF 4 rfl rfl S ?_
    refine tL 5 rfl rfl (fun _ h=>h.cell 3 rfl rfl) S ?_
    refine rt 6 _ (Qg (cs:=[yI ((((sv[d.fA.toNat]!).qC).qP)-1),yI d.fA,yI d.fB,Sv A8 (((((sv[d.fA.toNat]!).qC).x8)[d.fB.toNat]!).length) AH]) isAgg77 sizeOf77 rfl<|fun _ h=>qH (h.cells 0 rfl) 0 4) S ?_
    refine ro 7 rfl<|zy H underlying37 ti77 [yI ((((sv[d.fA.toNat]!).qC).qP)-1),yI d.fA,yI d.fB,Sv A8 (((((sv[d.fA.toNat]!).qC).x8)[d.fB.toNat]!).length) AH] fun KN w66 H=>⟨H.pick (1::zR 3 5)<|zR 0 14,(ro 8 rfl ?_)⟩
    have H0:=H
    obtain⟨YG,L8,avh,H⟩:=H.jA (α:=yLI) 2 rfl 0 rfl qj
    replace N:Fresh W0.heap.size (YG::aC::az::Ns):=Fresh.ice N H0 2 L8.1 L8.2<|fun F hF b hb=>(List.mem_append.1<|show F∈[aC,az]++Ns from hF).elim (fun h=>(H0.vV (L:=[aC,az]) [12,13]) F h b hb) fun h=>H0.jT (K0.behind 14 rfl) F h b hb
    clear H0
    dsimp only[List.set] at H
    refine zH H 8 rfl 0 rfl underlying37 ti77 rfl qj rfl rfl rfl qw qp qf fun VQ YH w69 H=>?_
    dsimp only[List.set] at H
    replace H:=H.snoc_ParcelD 14 rfl ((((sv[d.fA.toNat]!).qC).qP)-1) d.fA d.fB 0 rfl
    replace N:Fresh W0.heap.size ((az++YG)::aC::Ns):=(N.xm 3 [2,0,1]<|by simp only[List.length_cons,List.length_append];omega).join
    refine⟨H.pick (1::zR 3 5)<|zR 2 14,(xy qh<|xZ<|sq 1<|oF rfl<|oF rfl<|sw<|zh H 5 [pp sb 0,Sv ao own.length co,Sv (aa Kn 0) sv.length cz,Sv VQ (wi.length+1) YH] sizeOf37 fun w73 H=>?_)⟩
    dsimp only[List.set] at H
    refine zjc<|sp (yI 0)<|zjr<|ret1 (yI 0) rfl rfl ⟨_,rfl,?_⟩
    replace H:=H.erases [2,1,0]
    dsimp only[zL,List.eraseIdx,List.set] at H
    refine sp (yI 0)<|zjr<|ret1 (yI 0) rfl rfl ⟨_,rfl,?_⟩
    replace H:=H.erases [0]
    dsimp only[zL,List.eraseIdx,List.set] at H
    refine sp (yI 0)<|zjr<|b_r<|t_r<|ret1 (yI 0) rfl rfl ⟨_,rfl,?_⟩
    rw[doR_back0 qf ⟨⟨by omega,by omega⟩,⟨by omega,by omega⟩,by omega⟩ ql qf]
    all_goals exact⟨bV,aC,VQ,wi.length+1,YH,bL++[Value.int .i64 ((((sv[d.fA.toNat]!).qC).qP)-1),Value.int .i64 d.fA,Value.int .i64 d.fB,Value.slice A8 (((((sv[d.fA.toNat]!).qC).x8)[d.fB.toNat]!).length) AH],(az++YG),rfl,(N.xm 2 [1,0]<|by simp only[List.length_cons,List.length_append];omega),H.xm 5 16 (zR 1 4) [11,12,13,14,0] (by simp only[List.length_cons,List.length_append];omega)<|by simp only[List.length_cons,List.length_append];omega⟩
   replace cZ:=of_decide_eq_true cZ
   refine zZ (zR 21 5) 5 (H.pick (zR 0 6)<|zR 0 5)<|xy qh<|xZ<|sp (Bv true)<|zjn<|cTr rfl<|zcr<|sp (yI 2)<|zjr<|t_r<|ret1 (yI 2) rfl rfl ⟨_,rfl,?_⟩
   replace H:=H.erases [0]
   dsimp only[zL,List.eraseIdx,List.set] at H
   refine sp (yI 2)<|zjr<|b_r<|t_r<|ret1 (yI 2) rfl rfl ⟨_,rfl,?_⟩
   rw[Vq qf<|by(right;left;show ¬(0<=d.fB/\d.fB<=(sv.length:Int)-1);omega)]
   all_goals exact⟨bV,aC,cF,wi.length,bH,bL,az,rfl,N,H.xm 5 5 (zR 1 4) (zR 0 5) (by simp only[List.length_cons,List.length_append];omega)<|by simp only[List.length_cons,List.length_append];omega⟩
  replace dD:=of_decide_eq_true dD
  refine zZ (zR 10 9) 9 (H.pick (zR 0 6)<|zR 0 5) ?_
  have S:=H.zW (zR 0 6)<|zR 0 5
  refine rtp 19 (Bv true) S ?_
  refine rtp 20 (Bv true) S ?_
  refine zZ (zR 21 5) 5 (H.pick (zR 0 6)<|zR 0 5)<|xy qh<|xZ<|sp (Bv true)<|zjn<|cTr rfl<|zcr<|sp (yI 2)<|zjr<|t_r<|ret1 (yI 2) rfl rfl ⟨_,rfl,?_⟩
  replace H:=H.erases [0]
  dsimp only[zL,List.eraseIdx,List.set] at H
  refine sp (yI 2)<|zjr<|b_r<|t_r<|ret1 (yI 2) rfl rfl ⟨_,rfl,?_⟩
  rw[Vq qf<|by(left;show ¬(0<=d.fA/\d.fA<=(sv.length:Int)-1);omega)]
  all_goals exact⟨bV,aC,cF,wi.length,bH,bL,az,rfl,N,H.xm 5 5 (zR 1 4) (zR 0 5) (by simp only[List.length_cons,List.length_append];omega)<|by simp only[List.length_cons,List.length_append];omega⟩
 (have k8:¬(d.xJ=3\/d.xJ=4):=fun z=>by have z:=j8.2 z;simp_all)
 refine zcc<|sp (Bv ((d.xJ:Int) == 6))<|sp (Bv ((d.xJ:Int) == 6))<|zjn<|c_cut (fun ρ w74=>∃(xP:Env) (t14:Bool),ρ=upd (upd (upd xP 0<|pp bk 0) 3<|pp b1 0) 14 (Bv t14)/\(t14=true<->(d.xJ=6\/d.xJ=7\/d.xJ=8))/\Fresh W0.heap.size (aC::az::Ns)/\St W0 w74 ((.box b1 [yI d.xJ,yI d.fA,yI d.fB] 44)::(.box bk [pp sb 0,Sv ao own.length co,Sv eB sv.length cz,Sv cF wi.length bH] 86)::(.box sb (yS s ap cp ar cr) 27)::(rr eB sv.length cz 49 16 bV)::(rr cF wi.length bH 77 4 bL)::ps) ((sF false Fp ap cp s.qA)::(sF false Fr ar cr s.qB)::(sF false Fo ao co own)::(qQ true aC bV sv)::(qQ true az bL wi)::Γ)) ?_ ?_
 ·refine cE rfl (fun h75=>?_) (fun h75=>?_)
  ·refine qW (meet ⟨_,(d.xJ:Int) == 6,uE3,?_,N,H⟩)
   ·exact beq_iff_eq.trans ⟨fun h=>by omega,fun h=>by omega⟩
  refine zcr<|sp (Bv ((d.xJ:Int) == 7))<|sp (Bv ((d.xJ:Int) == 7))<|zjn<|cE rfl (fun h76=>?_)<|fun h76=>?_
  ·refine qW (meet ⟨_,(d.xJ:Int) == 7,uE3,?_,N,H⟩)
   ·exact beq_iff_eq.trans ⟨fun h=>by omega,fun h=>by omega⟩
  refine xX<|sp (Bv ((d.xJ:Int) == 8))<|sp (Bv ((d.xJ:Int) == 8))<|xU<|meet ⟨_,(d.xJ:Int) == 8,uE3,?_,N,H⟩
  ·exact beq_iff_eq.trans ⟨fun h=>by omega,fun h=>by omega⟩
 clear H N
 rintro ρ w77 ⟨xP,t14,rfl,j14,N,H⟩
 refine t_n<|vg _ rfl (fun h78=>?_)<|fun h78=>?_
 ·(have k14:=j14.1 ql)
  refine zcr<|sq 1<|sw<|xW [yI d.xJ,yI d.fA,yI d.fB] isAgg44 sizeOf44 rfl (qH (H.cells 0 rfl) 0 3)<|sw<|vz #[pp bk 0,.agg #[yI d.xJ,yI d.fA,yI d.fB]] rfl rfl call107<|en func107 ntmps107 ?_
  refine zcr<|sw<|jq H [yI d.xJ,yI d.fA,yI d.fB] fun Ia Te H=>sp (yI 0)<|zjn<|xM<|xM<|vK 1 rfl H [0,1,2,3,4,5] [0,1,2,3,4] fun H=>?_
  dsimp only[yg,yL]
  have S:=H.zW (zR 0 6)<|zR 0 5
  refine tF 0 rfl rfl S ?_
  refine tL 1 rfl rfl (fun _ h=>h.cell 0 rfl rfl) S ?_
  refine rtl 2 S ?_
  refine rtl 3 S ?_
  refine tF 4 rfl rfl S ?_
  refine tF 5 rfl rfl S ?_
  refine tL 6 rfl rfl (fun _ h=>h.cell 2 rfl rfl) S ?_
  refine tN 7 rfl rfl S ?_
  refine xy qh<|xZ<|sq 1<|zjn<|cD rfl (fun h82=>?_)<|fun h82=>?_
  ·refine zcr (sp (yI 2)<|zjr<|t_r<|ret1 (yI 2) rfl rfl ⟨_,rfl,?_⟩)
   replace H:=H.erases [0]
   dsimp only[zL,List.eraseIdx,List.set] at H
   refine sp (yI 2)<|zjr<|b_r<|t_r<|ret1 (yI 2) rfl rfl ⟨_,rfl,?_⟩
   rw[Vp qf qf]
   all_goals exact⟨bV,aC,cF,wi.length,bH,bL,az,rfl,N,H.xm 5 5 (zR 1 4) (zR 0 5) (by simp only[List.length_cons,List.length_append];omega)<|by simp only[List.length_cons,List.length_append];omega⟩
  have y1:ParcelOk s own n (wi[d.fA.toNat]!):=p1.wire d.fA.toNat<|by show _<wi.length;omega
  have y2:=y1.1
  have y3:=y1.2.1
  have y5:jy s own n (wi[d.fA.toNat]!).fTo.toNat (sv[(wi[d.fA.toNat]!).fTo.toNat]!).qC:=(p1.srv _ qf).1
  refine qW<|t_n<|zcc<|oF rfl<|oL rfl (H.cell 0 rfl rfl)<|sp (Bv ((d.xJ:Int) != 8))<|zjn<|vg ((d.xJ:Int) != 8) rfl (fun wM=>?_)<|fun wM=>?_
  ·replace wM:=bne_iff_ne.1 wM
   refine xM<|vK 2 rfl H [0,1,2,3,4,5] [0,1,2,3,4] fun H=>?_
   dsimp only[yg,yL]
   have S:=H.zW (zR 0 6)<|zR 0 5
   refine rtl 0 S ?_
   refine rtl 1 S ?_
   refine rtl 2 S ?_
   refine tF 3 rfl rfl S ?_
   refine tF 4 rfl rfl S ?_
   refine tL 5 rfl rfl (fun _ h=>h.cell 2 rfl rfl) S ?_
   refine tF 6 rfl rfl S ?_
   refine tL 7 rfl rfl (fun _ h=>h.cell 0 rfl rfl) S ?_
   obtain⟨lh,rfl⟩:=H.jB 5 rfl qf
   refine tI 8 rfl rfl rfl (H.pick (zR 0 6)<|zR 0 5)<|xy qh<|xZ<|sw<|vz #[pp bk 0,pp lh<|0+(d.fA:Int).toNat*4] rfl rfl call151<|en func151 ntmps151 ?_
   refine zcr<|sp (yI 0)<|zjn<|xM<|vK 3 rfl H [0,1,2,3,4,5] [0,1,2,3,4] fun H=>?_
   dsimp only[yg,yL]
   have S:=H.zW (zR 0 6)<|zR 0 5
   refine rtl 0 S ?_
   refine rtl 1 S ?_
   refine tF 2 rfl rfl S ?_
   refine tF 3 rfl rfl S ?_
   refine tL 4 rfl rfl (fun _ h=>h.cell 2 rfl rfl) S ?_
   refine rtl 5 S ?_
   refine rtl 6 S ?_
   refine tF 7 rfl rfl S ?_
   obtain⟨alq,amO,apc,RM,H⟩:=H.part_ParcelD Qs.refl 5 rfl 4 rfl rfl d.fA.toNat qf
   refine rt 8 _ (jU (off:=0+(d.fA:Int).toNat*4+2) isAgg2 rfl<|fun _ h=>(h.zt 5 rfl (RM 2 _ rfl) qf)) (H.pick (zR 0 6)<|zR 1 5) ?_
   refine xy qh<|xZ ?_
   obtain⟨ye,rfl⟩:=H.jB 4 rfl qf
   refine oI rfl rfl<|oF rfl<|sq 1<|zjn<|xM<|xM<|c_cut (fun ρ T0=>∃(xP:Env) (t46:Bool),ρ=upd (upd (upd xP 1<|pp lh<|0+(d.fA:Int).toNat*4) 5<|pp ye<|0+((wi[d.fA.toNat]!).fTo:Int).toNat*16+0) 46 (Bv t46)/\(t46=true<->Stale sv (wi[d.fA.toNat]!))/\Fresh W0.heap.size (aC::az::Ns)/\St W0 T0 ((.box Ia [yI d.xJ,yI d.fA,yI d.fB] 44)::(.box b1 [yI d.xJ,yI d.fA,yI d.fB] 44)::(.box bk [pp sb 0,Sv ao own.length co,Sv (aa ye 0) sv.length cz,Sv (aa lh 0) wi.length bH] 86)::(.box sb (yS s ap cp ar cr) 27)::(rr (aa ye 0) sv.length cz 49 16 bV)::(rr (aa lh 0) wi.length bH 77 4 bL)::ps) ((sF false Fp ap cp s.qA)::(sF false Fr ar cr s.qB)::(sF false Fo ao co own)::(qQ true aC bV sv)::(qQ true az bL wi)::Γ)) ?_ ?_
   ·refine vK 1 rfl H [0,1,2,3,4,5] [0,1,2,3,4,5] fun H=>?_
    dsimp only[yg,yL]
    have S:=H.zW (zR 0 6)<|zR 0 6
    refine rtl 0 S ?_
    refine rtl 1 S ?_
    refine tF 2 rfl rfl S ?_
    obtain⟨anH,aik,ahQ,YY,aaU,aa6,asb,aqr,aqk,aaV,aah,YW,arA,aqt,arf,agZ,af6,al6,It,H⟩:=H.jQ zC 4 rfl 4 rfl rfl (((wi[d.fA.toNat]!).fTo).toNat) qf
    have S:=H.zW (zR 0 6)<|zR 6 6
    refine rt 3 _ (jU (off:=0+((wi[d.fA.toNat]!).fTo:Int).toNat*16+0+3) isAgg4 rfl<|fun _ h=>(h.zt 4 rfl (It 3 _ rfl) qf)) S ?_
    refine rtp 4 (Bv (!(((sv[((wi[d.fA.toNat]!).fTo).toNat]!).qC).qV))) S ?_
    refine rtp 5 (Bv (!(((sv[((wi[d.fA.toNat]!).fTo).toNat]!).qC).qV))) S ?_
    cases Ps:(!(((sv[((wi[d.fA.toNat]!).fTo).toNat]!).qC).qV))
    ·replace Ps:=xf Ps
     have y6:=y5.got ql
     have S:=H.zW (zR 0 6)<|zR 6 6
     refine rgl 6 24 S ?_
     refine rgl 7 24 S ?_
     refine gF 8 rfl rfl S ?_
     refine rg 9 _ 24 (jU (off:=0+((wi[d.fA.toNat]!).fTo:Int).toNat*16+0+0) isAgg2 rfl<|fun _ h=>(h.zt 4 rfl (It 0 _ rfl) qf)) S ?_
     refine rgl 10 24 S ?_
     refine rgl 11 24 S ?_
     refine gF 12 rfl rfl S ?_
     refine rg 13 _ 24 (jU (off:=0+(d.fA:Int).toNat*4+0) isAgg2 rfl<|fun _ h=>(h.zt 5 rfl (RM 0 _ rfl) qf)) S ?_
     refine rgp 14 (Bv ((((sv[((wi[d.fA.toNat]!).fTo).toNat]!).qC).qP:Int) != ((wi[d.fA.toNat]!).qP))) 24 S ?_
     refine rtp 15 (Bv ((((sv[((wi[d.fA.toNat]!).fTo).toNat]!).qC).qP:Int) != ((wi[d.fA.toNat]!).qP))) S ?_
     refine rtp 16 (Bv ((((sv[((wi[d.fA.toNat]!).fTo).toNat]!).qC).qP:Int) != ((wi[d.fA.toNat]!).qP))) S ?_
     cases Kg:((((sv[((wi[d.fA.toNat]!).fTo).toNat]!).qC).qP:Int) != ((wi[d.fA.toNat]!).qP))
     ·replace Kg:=xK Kg
      have S:=H.zW (zR 0 6)<|zR 6 6
      refine rgl 17 35 S ?_
      refine rgl 18 35 S ?_
      refine gF 19 rfl rfl S ?_
      refine rg 20 _ 35 (jU (off:=0+((wi[d.fA.toNat]!).fTo:Int).toNat*16+0+4) isAgg28 rfl<|fun _ h=>(h.zt 4 rfl (It 4 _ rfl) qf)) S ?_
      refine rgl 21 35 S ?_
      refine rgl 22 35 S ?_
      refine gF 23 rfl rfl S ?_
      refine rg 24 _ 35 (jU (off:=0+(d.fA:Int).toNat*4+1) isAgg2 rfl<|fun _ h=>(h.zt 5 rfl (RM 1 _ rfl) qf)) S ?_
      obtain⟨b96,o97,rfl⟩:=H.addr 2 rfl qf
      refine gI 25 rfl rfl rfl (H.pick (zR 0 6)<|zR 6 6)<|jC [26] qh qm<|Xj rfl (e:=35) rfl rfl (zJ (Bv ((((sv[((wi[d.fA.toNat]!).fTo).toNat]!).qC).vM)[((wi[d.fA.toNat]!).QO).toNat]!)) isAgg4 rfl (H.elemBool 2 rfl ((wi[d.fA.toNat]!).QO) qf qf)<|⟨H.pick (zR 0 6)<|zR 6 6,(xy qh<|xZ<|sq 1<|xU ?_)⟩) jD
      refine meet ⟨_,(((sv[((wi[d.fA.toNat]!).fTo).toNat]!).qC).vM)[((wi[d.fA.toNat]!).QO).toNat]!,uE3,?_,N,H.xm 6 12 (zR 0 6) (zR 7 5) (by simp only[List.length_cons,List.length_append];omega)<|by simp only[List.length_cons,List.length_append];omega⟩
      ·exact stale_g ql ql
     replace Kg:=bne_iff_ne.1 Kg
     refine zZ (zR 17 10) 10 (H.pick (zR 0 6)<|zR 6 6)<|xy qh<|xZ<|sp (Bv true)<|xU<|meet ⟨_,true,uE3,?_,N,H.xm 6 12 (zR 0 6) (zR 7 5) (by simp only[List.length_cons,List.length_append];omega)<|by simp only[List.length_cons,List.length_append];omega⟩
     ·exact stale_r ql
    replace Ps:=xq Ps
    refine zZ (zR 6 9) 9 (H.pick (zR 0 6)<|zR 6 6) ?_
    have S:=H.zW (zR 0 6)<|zR 6 6
    refine rtp 15 (Bv true) S ?_
    refine rtp 16 (Bv true) S ?_
    refine zZ (zR 17 10) 10 (H.pick (zR 0 6)<|zR 6 6)<|xy qh<|xZ<|sp (Bv true)<|xU<|meet ⟨_,true,uE3,?_,N,H.xm 6 12 (zR 0 6) (zR 7 5) (by simp only[List.length_cons,List.length_append];omega)<|by simp only[List.length_cons,List.length_append];omega⟩
    ·exact stale_w ql
   clear H N
   rintro ρ w99 ⟨xP,t46,rfl,j46,N,H⟩
   refine t_n<|vg _ rfl (fun K2=>?_)<|fun K2=>?_
   ·have fs:=j46.1 ql
    refine zcr<|sp (yI 0)<|zjr<|t_r<|ret1 (yI 0) rfl rfl ⟨_,rfl,(sp (yI 0)<|zjc<|sp (yI 0)<|sp (Bv false)<|zjn<|cFr rfl<|qW<|t_n<|zcc<|oF rfl<|oL rfl (H.cell 0 rfl rfl)<|sp (Bv ((d.xJ:Int) != 7))<|zjn<|vg ((d.xJ:Int) != 7) rfl (fun ry=>?_)<|fun ry=>?_)⟩
    ·replace ry:=bne_iff_ne.1 ry
     refine xM ?_
     have ao6:=H.rowCap 5 rfl
     obtain⟨m6,ED,aqb,H⟩:=H.cutRow 4 rfl d.fA.toNat qf
     refine vK 2 rfl H [0,1,2,3,4,5] [0,1,2,3,4,5,6] fun H=>?_
     dsimp only[yg,yL]
     have S:=H.zW (zR 0 6)<|zR 0 7
     refine rtl 1 S ?_
     refine rtl 2 S ?_
     refine tF 3 rfl rfl S ?_
     refine tF 4 rfl rfl S ?_
     refine tL 5 rfl rfl (fun _ h=>h.cell 2 rfl rfl) S ?_
     refine tF 6 rfl rfl S ?_
     refine tL 7 rfl rfl (fun _ h=>h.cell 0 rfl rfl) S ?_
     refine rt 8 _ (y_add d.fA 1 rfl rfl qf) S ?_
     refine rt 9 (Sv (aa lh<|if bH=(d.fA.toNat+1) then 0 else 0+(d.fA.toNat+1)*4) (wi.length-(d.fA.toNat+1))<|bH-(d.fA.toNat+1)) (fun _ _=>y_fromI (iv:=d.fA+1) (d.fA.toNat+1) underlying37 ti77 rfl rfl qf qf qf) S ?_
     refine ro 0 rfl<|jH H underlying37 ti77 fun axd aD8 H=>⟨H.pick (zR 1 6)<|zR 0 7,(xy qh<|xZ ?_)⟩
     replace H:=H.boxRow 0 rfl 4 0 rfl qj
     dsimp only[List.set] at H
     replace H:=H.yD (α:=zk)
     replace H:St _ _ ((rr (aa axd 0) 0 0 77 4 [])::(.box Ia [yI d.xJ,yI d.fA,yI d.fB] 44)::(.box b1 [yI d.xJ,yI d.fA,yI d.fB] 44)::(.box bk [pp sb 0,Sv ao own.length co,Sv (aa ye 0) sv.length cz,Sv (aa lh 0) wi.length bH] 86)::(.box sb (yS s ap cp ar cr) 27)::(rr (aa ye 0) sv.length cz 49 16 bV)::(rr (aa lh 0) wi.length bH 77 4 bL)::ps) ((qQ true [] [] ([]:List zk))::(qQ true m6 (bL.take<|d.fA.toNat*4)<|wi.take d.fA.toNat)::(qQ true ED (bL.drop ((d.fA.toNat+1)*4))<|wi.drop<|d.fA.toNat+1)::(sF false Fp ap cp s.qA)::(sF false Fr ar cr s.qB)::(sF false Fo ao co own)::(qQ true aC bV sv)::(qQ true az bL wi)::Γ):=H
     refine sw<|o_appendTl (α:=zk) H 0 rfl 6 rfl 2 rfl underlying37 ti77 rfl qj rfl rfl qf qf qp qf fun acu Zp axE H=>?_
     dsimp only[List.set] at H
     replace H:=H.repsCat true 0 rfl 2 rfl qm
     refine sq 1<|zjn<|vK 4 rfl H [0,1,2,3,4,5,6] [0,1,2,3,4,5,6,7,8] fun H=>?_
     dsimp only[yg,yL]
     have S:=H.zW (zR 0 7)<|zR 0 9
     refine rtl 0 S ?_
     refine rtl 2 S ?_
     refine rtl 3 S ?_
     refine tF 4 rfl rfl S ?_
     refine tF 5 rfl rfl S ?_
     refine tL 6 rfl rfl (fun _ h=>h.cell 3 rfl rfl) S ?_
     refine tF 7 rfl rfl S ?_
     refine tL 8 rfl rfl (fun _ h=>h.cell 1 rfl rfl) S ?_
     refine rt 9 (Sv (aa lh 0) d.fA.toNat bH) (fun _ _=>y_upI (iv:=d.fA) d.fA.toNat underlying37 ti77 rfl rfl qf qf) S ?_
     refine rtl 11 S ?_
     refine ro 1 rfl<|jH H underlying37 ti77 fun av2 OT H=>⟨H.pick (zR 1 7)<|zR 0 9,(ro 10 rfl ?_)⟩
     replace H:=H.boxRow 0 rfl 4 0 rfl qj
     dsimp only[List.set] at H
     replace H:=H.yD (α:=zk)
     replace H:St _ _ ((rr (aa av2 0) 0 0 77 4 [])::(rr acu (0+(wi.length-(d.fA.toNat+1))) Zp 77 4 ([]++(bL.drop ((d.fA.toNat+1)*4))))::(.box Ia [yI d.xJ,yI d.fA,yI d.fB] 44)::(.box b1 [yI d.xJ,yI d.fA,yI d.fB] 44)::(.box bk [pp sb 0,Sv ao own.length co,Sv (aa ye 0) sv.length cz,Sv (aa lh 0) wi.length bH] 86)::(.box sb (yS s ap cp ar cr) 27)::(rr (aa ye 0) sv.length cz 49 16 bV)::(rr (aa lh 0) wi.length bH 77 4 bL)::ps) ((qQ true [] [] ([]:List zk))::(qQ true ([]++ED) ([]++(bL.drop ((d.fA.toNat+1)*4))) ([]++(wi.drop<|d.fA.toNat+1)))::(qQ true [] [] ([]:List zk))::(qQ true m6 (bL.take<|d.fA.toNat*4)<|wi.take d.fA.toNat)::(qQ true ED (bL.drop ((d.fA.toNat+1)*4))<|wi.drop<|d.fA.toNat+1)::(sF false Fp ap cp s.qA)::(sF false Fr ar cr s.qB)::(sF false Fo ao co own)::(qQ true aC bV sv)::(qQ true az bL wi)::Γ):=H
     refine o_appendHd (α:=zk) H 0 rfl 7 rfl 3 rfl underlying37 ti77 rfl qj rfl rfl qf qp qf fun Rd Sl Rv H=>?_
     dsimp only[List.set] at H
     replace H:=H.repsCat true 0 rfl 3 rfl qm
     refine⟨H.pick (zR 1 7)<|zR 2 9,(ro 12 rfl<|o_appendAl (α:=zk) H 0 rfl 1 rfl 2 rfl underlying37 ti77 rfl qj rfl rfl qp qf fun ab9 acp NF H=>?_)⟩
     dsimp only[List.set] at H
     replace H:=H.repsCat true 0 rfl 2 rfl qm
     have TP:(∀b∈(([]++m6)++([]++ED)),b∈az)/\(az.Nodup->(([]++m6)++([]++ED)).Nodup):=by simpa using aqb
     replace N:Fresh W0.heap.size ((([]++m6)++([]++ED))::aC::Ns):=Fresh.less (N.xm 2 [1,0]<|by simp only[List.length_cons,List.length_append];omega) TP.1 TP.2
     rw[erase_cut (l:=wi) (i:=d.fA.toNat) qf] at H
     refine⟨H.pick (zR 1 7)<|zR 3 9,(xy qh<|xZ<|sq 1<|oF rfl<|oF rfl<|sw<|zh H 4 [pp sb 0,Sv ao own.length co,Sv (aa ye 0) sv.length cz,Sv ab9 ((0+d.fA.toNat)+(0+(wi.length-(d.fA.toNat+1)))) acp] sizeOf37 fun Nq H=>?_)⟩
     dsimp only[List.set] at H
     refine zjc<|sp (yI 0)<|zjr<|ret1 (yI 0) rfl rfl ⟨_,rfl,?_⟩
     replace H:=H.erases [2,1]
     dsimp only[zL,List.eraseIdx,List.set] at H
     refine sp (yI 0)<|zjr<|b_r<|t_r<|ret1 (yI 0) rfl rfl ⟨_,rfl,?_⟩
     rw[doR_stale6 qf qf fs]
     all_goals exact⟨bV,aC,ab9,(0+d.fA.toNat)+(0+(wi.length-(d.fA.toNat+1))),acp,([]++(bL.take<|d.fA.toNat*4))++([]++(bL.drop ((d.fA.toNat+1)*4))),(([]++m6)++([]++ED)),rfl,(N.xm 2 [1,0]<|by simp only[List.length_cons,List.length_append];omega),H.xm 6 12 [2,3,4,0] [7,8,9,10,0] (by simp only[List.length_cons,List.length_append];omega)<|by simp only[List.length_cons,List.length_append];omega⟩
    replace ry:=xK ry
    refine qW<|t_n<|zcr<|sp (yI 0)<|zjr<|ret1 (yI 0) rfl rfl ⟨_,rfl,?_⟩
    replace H:=H.erases [0]
    dsimp only[zL,List.eraseIdx,List.set] at H
    refine sp (yI 0)<|zjr<|b_r<|t_r<|ret1 (yI 0) rfl rfl ⟨_,rfl,?_⟩
    rw[VI qf qf fs]
    all_goals exact⟨bV,aC,(aa lh 0),wi.length,bH,bL,az,rfl,N,H.xm 5 5 (zR 1 4) (zR 0 5) (by simp only[List.length_cons,List.length_append];omega)<|by simp only[List.length_cons,List.length_append];omega⟩
   have fr:¬Stale sv (wi[d.fA.toNat]!):=fun z=>by have z:=j46.2 z;simp_all
   have y6:=y5.got<|fresh_of fr
   have y7:=y6.2.1
   obtain⟨y8,y9⟩:=plusPre p0.sys y6.2.2.1 y1.2.2.1
   have y10:=y6.2.2.1.len
   have y11:=y1.2.2.1.len
   refine qW<|t_n<|zcr<|sw<|jH H underlying29 ti24 fun EA aFT H=>sq 1<|zjcc<|sp (yI 0)<|zjn<|xe ?_
   replace H:=H.boxRow 0 rfl 1 0 rfl qj
   dsimp only[List.set] at H
   replace H:=H.yD (α:=yLI)
   refine zT ((fun Z0 Z1 Z2 Z3 Z4 Z5 Z6 Z7 Z8 Z9 fi=>fun m' ρ aa0=>∃(xP:Env) (uA:yOA) (tO:Nat) (tH:Nat) (sum:yLL) (CX:List Value) (sy:yLN) (c:Nat),ρ=upd (upd (upd (upd xP 1<|pp lh<|0+(d.fA:Int).toNat*4) 5<|pp ye<|0+((wi[d.fA.toNat]!).fTo:Int).toNat*16+0) 6<|Sv uA tO tH) 7 (yI c)/\sum=Xo ((sv[(wi[d.fA.toNat]!).fTo.toNat]!).qC).qL (wi[d.fA.toNat]!).qG c/\((c:Int)<=(((wi[d.fA.toNat]!).qG).length))/\m'=((((wi[d.fA.toNat]!).qG).length)-(c:Int)).toNat/\Fresh W0.heap.size (aC::az::sy::Ns)/\St W0 aa0 ((rr uA tO tH 24 1 CX)::Z0::Z1::Z2::Z3::Z4::Z5::ps) ((qQ true sy CX sum)::Z6::Z7::Z8::Z9::fi::Γ)) _ _ _ _ _ _ _ _ _ _ _) (((((wi[d.fA.toNat]!).qG).length)-(0:Int)).toNat) ⟨_,(aa EA 0),0,0,([]:yLL),[],[],0,uE4,(by rfl),qf,rfl,(N.emp.xm 3 [1,2,0]<|by simp only[List.length_cons,List.length_append];omega),H⟩ ?_
   clear H N
   rintro m' ρ agN ⟨xP,uA,tO,tH,sum,CX,sy,c,rfl,rfl,i0,rfl,N,H⟩
   have ayA:=H.xk (α:=yLI) 0 rfl 0 rfl qj
   have al:=VK ((sv[(wi[d.fA.toNat]!).fTo.toNat]!).qC).qL (wi[d.fA.toNat]!).qG c
   refine zcc<|sp (yI c)<|sq 2<|oF rfl ?_
   obtain⟨ac1,adC,adT,NB,H⟩:=H.part_ParcelD Qs.refl 6 rfl 5 rfl rfl d.fA.toNat qf
   refine oL rfl (H.zt 6 rfl (NB 3 _ rfl) qf)<|oN rfl<|sq 1<|zjn<|cD rfl (fun awf=>?_)<|fun awf=>?_
   ·obtain⟨u1,u2,u3⟩:=y9 c qf
    refine qW<|t_n<|xM<|xe ?_
    obtain⟨atU,aC5,rfl⟩:=H.addr 0 rfl qf
    refine c_lateC 2 (fun ρ R3=>∃(xP:Env) (S2:Nat) (Ji:yOA) (IV:Nat),ρ=upd (upd (upd (upd (upd (upd xP 1<|pp lh<|0+(d.fA:Int).toNat*4) 5<|pp ye<|0+((wi[d.fA.toNat]!).fTo:Int).toNat*16+0) 6<|Sv uA tO tH) 7<|yI c) 57<|Sv uA tO tH) 73 (Sv (aa S2 0) 1 1)/\Fresh W0.heap.size (aC::az::sy::Ns)/\St W0 R3 ((.box S2 [Sv Ji ((jc ((((sv[((wi[d.fA.toNat]!).fTo).toNat]!).qC).qL)[c]!) (((wi[d.fA.toNat]!).qG)[c]!) 1).length) IV] 24)::(rr Ji ((jc ((((sv[((wi[d.fA.toNat]!).fTo).toNat]!).qC).qL)[c]!) (((wi[d.fA.toNat]!).qG)[c]!) 1).length) IV 2 1 ((jc ((((sv[((wi[d.fA.toNat]!).fTo).toNat]!).qC).qL)[c]!) (((wi[d.fA.toNat]!).qG)[c]!) 1).map<|Value.int .i64))::(rr uA tO tH 24 1 CX)::(.box Ia [yI d.xJ,yI d.fA,yI d.fB] 44)::(.box b1 [yI d.xJ,yI d.fA,yI d.fB] 44)::(.box bk [pp sb 0,Sv ao own.length co,Sv (aa ye 0) sv.length cz,Sv (aa lh 0) wi.length bH] 86)::(.box sb (yS s ap cp ar cr) 27)::(rr (aa ye 0) sv.length cz 49 16 bV)::(rr (aa lh 0) wi.length bH 77 4 bL)::ps) ((qQ true sy CX<|Xo ((sv[(wi[d.fA.toNat]!).fTo.toNat]!).qC).qL (wi[d.fA.toNat]!).qG c)::(sF false Fp ap cp s.qA)::(sF false Fr ar cr s.qB)::(sF false Fo ao co own)::(qQ true aC bV sv)::(qQ true az bL wi)::Γ)) rfl H [0,1,2,3,4,5,6] [0,1,2,3,4,5,6] (fun H=>?_) ?_
    ·dsimp only[yg,yL]
     have S:=H.zW (zR 0 7)<|zR 0 7
     refine rtl 0 S ?_
     refine rtl 1 S ?_
     refine rtl 2 S ?_
     refine tF 3 rfl rfl S ?_
     obtain⟨ado,ad4,adv,W3,U4,UW,ap9,apt,ag2,W1,W2,Ud,agF,aok,agJ,ad8,aeg,adz,ahw,H⟩:=H.jQ zC 5 rfl 5 rfl rfl (((wi[d.fA.toNat]!).fTo).toNat) qf
     have S:=H.zW (zR 0 7)<|zR 6 7
     refine rt 4 _ (jU (off:=0+((wi[d.fA.toNat]!).fTo:Int).toNat*16+0+5) isAgg29 rfl<|fun _ h=>(h.zt 5 rfl (ahw 5 _ rfl) qf)) S ?_
     refine rtp 5 (yI c) S ?_
     obtain⟨aEt,aIY,rfl⟩:=H.addr 3 rfl qf
     obtain⟨U0,V2,azw,H⟩:=H.yB 3 rfl c c qf qf qf
     have S:=H.zW (zR 0 7)<|zR 8 7
     refine tI 6 rfl rfl rfl S ?_
     refine rtl 8 S ?_
     refine rtl 9 S ?_
     refine tF 10 rfl rfl S ?_
     refine rt 11 _ (jU (off:=0+(d.fA:Int).toNat*4+3) isAgg29 rfl<|fun _ h=>(h.zt 6 rfl (NB 3 _ rfl) qf)) S ?_
     refine rtp 12 (yI c) S ?_
     obtain⟨Ty,UV,aBp,H⟩:=H.yB 8 rfl c c qf qf qf
     refine tI 13 rfl rfl rfl (H.pick (zR 0 7)<|zR 10 7)<|jC [7,14] qh qm<|yV rfl ?_<|yV rfl ?_ jD
     ·refine zJ (Sv U0 (((((sv[((wi[d.fA.toNat]!).fTo).toNat]!).qC).qL)[c]!).length) V2) isAgg24 rfl (H.zG 3 rfl 0 rfl) (⟨H.pick (zR 0 7)<|zR 10 7,(ro 14 rfl<|zJ (Sv Ty ((((wi[d.fA.toNat]!).qG)[c]!).length) UV) isAgg24 rfl (H.zG 1 rfl 0 rfl)<|⟨H.pick (zR 0 7)<|zR 10 7,(ro 15 rfl ?_)⟩)⟩)
      refine oc (QD _ ((((sv[((wi[d.fA.toNat]!).fTo).toNat]!).qC).qL)[c]!) (((wi[d.fA.toNat]!).qG)[c]!) 1 (H.get 2 rfl).1 (H.get 0 rfl).1 qg qg qg) ?_
      rintro aEo aIt ats av8
      replace H:=H.zV av8 ats
      obtain⟨agm,aoW,rfl,azu,azl⟩:=H.yf 0 rfl
      refine⟨H.pick (zR 1 7)<|zR 10 7,(ro 16 rfl<|zy H underlying29 ti24 [Sv agm ((jc ((((sv[((wi[d.fA.toNat]!).fTo).toNat]!).qC).qL)[c]!) (((wi[d.fA.toNat]!).qG)[c]!) 1).length) aoW] fun awt aHZ H=>⟨H.pick (zR 2 7)<|zR 10 7,(xy qh ((meet ⟨_,awt,agm,aoW,uE6,N,H.xm 9 17 (zR 0 9) (zR 11 6) (by simp only[List.length_cons,List.length_append];omega)<|by simp only[List.length_cons,List.length_append];omega⟩)))⟩)⟩
     refine zJ (Sv Ty ((((wi[d.fA.toNat]!).qG)[c]!).length) UV) isAgg24 rfl (H.zG 1 rfl 0 rfl)<|⟨H.pick (zR 0 7)<|zR 10 7,(ro 7 rfl<|zJ (Sv U0 (((((sv[((wi[d.fA.toNat]!).fTo).toNat]!).qC).qL)[c]!).length) V2) isAgg24 rfl (H.zG 3 rfl 0 rfl)<|⟨H.pick (zR 0 7)<|zR 10 7,(ro 15 rfl ?_)⟩)⟩
     refine oc (QD _ ((((sv[((wi[d.fA.toNat]!).fTo).toNat]!).qC).qL)[c]!) (((wi[d.fA.toNat]!).qG)[c]!) 1 (H.get 2 rfl).1 (H.get 0 rfl).1 qg qg qg) ?_
     rintro auj abS Zj ZE
     replace H:=H.zV ZE Zj
     obtain⟨Qf,Ss,rfl,aex,agP⟩:=H.yf 0 rfl
     refine⟨H.pick (zR 1 7)<|zR 10 7,(ro 16 rfl<|zy H underlying29 ti24 [Sv Qf ((jc ((((sv[((wi[d.fA.toNat]!).fTo).toNat]!).qC).qL)[c]!) (((wi[d.fA.toNat]!).qG)[c]!) 1).length) Ss] fun acD awX H=>⟨H.pick (zR 2 7)<|zR 10 7,(xy qh ((meet ⟨_,acD,Qf,Ss,uE6,N,H.xm 9 17 (zR 0 9) (zR 11 6) (by simp only[List.length_cons,List.length_append];omega)<|by simp only[List.length_cons,List.length_append];omega⟩)))⟩)⟩
    clear H N
    rintro ρ atY ⟨xP,S2,Ji,IV,rfl,N,H⟩
    obtain⟨Ix,N,Ys,H⟩:=H.vJ 1 rfl N<|fun F hF b hb=>(List.mem_append.1<|show F∈[aC,az,sy]++Ns from hF).elim (fun h=>(H.vV (L:=[aC,az,sy]) [4,5,0]) F h b hb) fun h=>H.jT (K0.behind 6 rfl) F h b hb
    dsimp only[List.set] at H
    refine sw<|zH H 2 rfl 0 rfl underlying29 ti24 rfl qj rfl rfl rfl qw qp qf fun ajD afO abr H=>?_
    dsimp only[List.set] at H
    replace H:=H.Q5 1 rfl 0 rfl
    replace N:Fresh W0.heap.size ((sy++Ix)::aC::az::Ns):=(N.xm 4 [3,0,1,2]<|by simp only[List.length_cons,List.length_append];omega).join
    refine sq 1<|xU<|b_n<|t_n<|xX<|sp (yI c)<|sw<|zS c 1 rfl rfl qf<|sq 1<|xU<|xu (m':=((((wi[d.fA.toNat]!).qG).length)-((c+1):Int)).toNat) qf ⟨_,_,_,_,_,_,_,c+1,uE4,?_,?_,rfl,(N.xm 3 [1,2,0]<|by simp only[List.length_cons,List.length_append];omega),H.xm 9 8 (zR 2 7) (0::zR 3 5) (by simp only[List.length_cons,List.length_append];omega)<|by simp only[List.length_cons,List.length_append];omega⟩
    ·exact addTabTo_snoc _ _ _
    ·omega
   have ec:c=((sv[(wi[d.fA.toNat]!).fTo.toNat]!).qC).qL.length:=by omega
   refine zx4<|zcc<|sq 1 ?_
   obtain⟨aHm,Tj,av7⟩:=H.Vg (α:=yLI) 0 rfl 1 rfl qj
   refine sw<|oq (args_eq (by rw[←Tj])<|l08Bags_ok _ (Xo ((sv[(wi[d.fA.toNat]!).fTo.toNat]!).qC).qL (wi[d.fA.toNat]!).qG c)<|Tj▸av7) H fun axN H=>sq 1<|zjn<|cQ rfl (fun avc=>?_)<|fun avc=>?_
   ·refine zcr (sp (yI 3)<|zjr<|t_r<|ret1 (yI 3) rfl rfl ⟨_,rfl,?_⟩)
    replace H:=H.erases [0]
    dsimp only[zL,List.eraseIdx,List.set] at H
    refine sp (yI 3)<|zjc<|sp (yI 3)<|sp (Bv true)<|zjn<|cTr rfl<|zcr<|sp (yI 3)<|sp (yI 3)<|zjr<|t_r<|ret1 (yI 3) rfl rfl ⟨_,rfl,?_⟩
    replace H:=H.erases [0]
    dsimp only[zL,List.eraseIdx,List.set] at H
    refine sp (yI 3)<|zjr<|b_r<|t_r<|ret1 (yI 3) rfl rfl ⟨_,rfl,?_⟩
    rw[doR_come3 qf qf fr<|by rw[←sumC_eq ec];assumption]
    all_goals exact⟨bV,aC,(aa lh 0),wi.length,bH,bL,az,rfl,(N.xm 3 [0,1]<|by simp only[List.length_cons,List.length_append];omega),H.xm 5 7 (zR 1 4) (zR 2 5) (by simp only[List.length_cons,List.length_append];omega)<|by simp only[List.length_cons,List.length_append];omega⟩
   refine qW<|t_n<|zcr<|sq 3<|oF rfl ?_
   have H0:=H
   obtain⟨asL,Ye,aB2,H⟩:=H.jA (α:=yLI) 0 rfl 1 rfl qj
   replace N:Fresh W0.heap.size (asL::aC::az::Ns):=Fresh.ice (N.xm 3 [2,0,1]<|by simp only[List.length_cons,List.length_append];omega) H0 0 Ye.1 Ye.2<|fun F hF b hb=>(List.mem_append.1<|show F∈[aC,az]++Ns from hF).elim (fun h=>(H0.vV (L:=[aC,az]) [5,6]) F h b hb) fun h=>H0.jT (K0.behind 7 rfl) F h b hb
   clear H0
   dsimp only[List.set] at H
   obtain⟨GT,GK⟩:∃z,z=(sv.set (((wi[d.fA.toNat]!).fTo).toNat) { sv[((wi[d.fA.toNat]!).fTo).toNat]! with qC:={ sv[((wi[d.fA.toNat]!).fTo).toNat]!.qC with qL:=(Xo ((sv[(wi[d.fA.toNat]!).fTo.toNat]!).qC).qL (wi[d.fA.toNat]!).qG c)}}):=⟨_,rfl⟩
   refine sw<|XF (v:=Sv uA tO tH) XL H 5 rfl 6 rfl 0 rfl rfl sizeOf29 rfl rfl rfl (((wi[d.fA.toNat]!).fTo).toNat) qf qf GK fun ahU zc ahV aew H=>?_
   dsimp only[List.set] at H
   replace N:Fresh W0.heap.size (ahV::az::Ns):=(N.xm 3 [1,0,2]<|by simp only[List.length_cons,List.length_append];omega).repl aew
   obtain⟨u1,u2⟩:=come_len qf GK y7
   refine zjn<|xM<|vK 2 rfl H [0,1,2,3,4,5,6] [0,1,2,3,4,5,6,7,8] fun H=>?_
   dsimp only[yg,yL]
   have S:=H.zW (zR 0 7)<|zR 0 9
   refine rtl 0 S ?_
   refine rtl 1 S ?_
   refine tF 2 rfl rfl S ?_
   obtain⟨ac7,aej,ad2,Vi,Ut,VY,aju,ajn,akz,W4,TF,X1,akD,ajL,ajB,adD,acW,aea,W5,H⟩:=H.jQ zC 5 rfl 0 rfl rfl (((wi[d.fA.toNat]!).fTo).toNat) qf
   have S:=H.zW (zR 0 7)<|zR 6 9
   refine rt 3 _ (jU (off:=0+((wi[d.fA.toNat]!).fTo:Int).toNat*16+0+4) isAgg28 rfl<|fun _ h=>(h.zt 5 rfl (W5 4 _ rfl) qf)) S ?_
   refine rtl 4 S ?_
   refine rtl 5 S ?_
   refine tF 6 rfl rfl S ?_
   refine rt 7 _ (jU (off:=0+(d.fA:Int).toNat*4+1) isAgg2 rfl<|fun _ h=>(h.zt 6 rfl (NB 1 _ rfl) qf)) S ?_
   refine xy qh<|xZ ?_
   obtain⟨aHi,aGt,rfl⟩:=H.addr 2 rfl qf
   refine oI rfl rfl ?_
   have N0:Fresh W0.heap.size (ahV::az::Ns):=N
   obtain⟨V8,Nw⟩:∃z,z=(GT.set (((wi[d.fA.toNat]!).fTo).toNat) { GT[((wi[d.fA.toNat]!).fTo).toNat]! with qC:={ GT[((wi[d.fA.toNat]!).fTo).toNat]!.qC with vM:=(((GT[((wi[d.fA.toNat]!).fTo).toNat]!).qC.vM).set (((wi[d.fA.toNat]!).QO).toNat) true)}}):=⟨_,rfl⟩
   refine sw<|o_pokeBool Xz H 6 rfl N0 ((sF false Fp ap cp s.qA)::(sF false Fr ar cr s.qB)::(sF false Fo ao co own)::(qQ true az bL wi)::Γ) (vY (kept 10 rfl<|XA OL 0 rfl N0)<|vY (kept 11 rfl<|XA OL 1 rfl N0)<|vY (kept 12 rfl<|XA OL 2 rfl N0)<|vY (kept 14 rfl<|QU N0 0 rfl)<|keeps_old 15 rfl OL 3 rfl N0) (((wi[d.fA.toNat]!).fTo).toNat) qf rfl (W5 4 _ rfl) (((wi[d.fA.toNat]!).QO).toNat) qf sizeOf4 rfl qf rfl Nw fun auw NL N H=>zjc<|sp (yI 0)<|zjr<|ret1 (yI 0) rfl rfl ⟨_,rfl,?_⟩
   replace H:=H.erases [0]
   dsimp only[zL,List.eraseIdx,List.set] at H
   refine sp (yI 0)<|zjc<|sp (yI 0)<|sp (Bv false)<|zjn<|cFr rfl<|qW<|t_n<|zcc<|oF rfl<|oL rfl (H.cell 0 rfl rfl)<|sp (Bv ((d.xJ:Int) != 7))<|zjn<|vg ((d.xJ:Int) != 7) rfl (fun zz=>?_)<|fun zz=>?_
   ·replace zz:=bne_iff_ne.1 zz
    refine xM ?_
    have aBm:=H.rowCap 5 rfl
    obtain⟨Jo,wW,aka,H⟩:=H.cutRow 4 rfl d.fA.toNat qf
    refine vK 2 rfl H [0,1,2,3,4,5] [0,1,2,3,4,5,6] fun H=>?_
    dsimp only[yg,yL]
    have S:=H.zW (zR 0 6)<|zR 0 7
    refine rtl 1 S ?_
    refine rtl 2 S ?_
    refine tF 3 rfl rfl S ?_
    refine tF 4 rfl rfl S ?_
    refine tL 5 rfl rfl (fun _ h=>h.cell 2 rfl rfl) S ?_
    refine tF 6 rfl rfl S ?_
    refine tL 7 rfl rfl (fun _ h=>h.cell 0 rfl rfl) S ?_
    refine rt 8 _ (y_add d.fA 1 rfl rfl qf) S ?_
    refine rt 9 (Sv (aa lh<|if bH=(d.fA.toNat+1) then 0 else 0+(d.fA.toNat+1)*4) (wi.length-(d.fA.toNat+1))<|bH-(d.fA.toNat+1)) (fun _ _=>y_fromI (iv:=d.fA+1) (d.fA.toNat+1) underlying37 ti77 rfl rfl qf qf qf) S ?_
    refine ro 0 rfl<|jH H underlying37 ti77 fun atZ RZ H=>⟨H.pick (zR 1 6)<|zR 0 7,(xy qh<|xZ ?_)⟩
    replace H:=H.boxRow 0 rfl 4 0 rfl qj
    dsimp only[List.set] at H
    replace H:=H.yD (α:=zk)
    replace H:St _ _ ((rr (aa atZ 0) 0 0 77 4 [])::(.box Ia [yI d.xJ,yI d.fA,yI d.fB] 44)::(.box b1 [yI d.xJ,yI d.fA,yI d.fB] 44)::(.box bk [pp sb 0,Sv ao own.length co,Sv (aa ye 0) sv.length cz,Sv (aa lh 0) wi.length bH] 86)::(.box sb (yS s ap cp ar cr) 27)::(rr (aa ye 0) sv.length cz 49 16 zc)::(rr (aa lh 0) wi.length bH 77 4 bL)::ps) ((qQ true [] [] ([]:List zk))::(qQ true Jo (bL.take<|d.fA.toNat*4)<|wi.take d.fA.toNat)::(qQ true wW (bL.drop ((d.fA.toNat+1)*4))<|wi.drop<|d.fA.toNat+1)::(qQ true NL zc V8)::(sF false Fp ap cp s.qA)::(sF false Fr ar cr s.qB)::(sF false Fo ao co own)::(qQ true az bL wi)::Γ):=H
    refine sw<|o_appendTl (α:=zk) H 0 rfl 6 rfl 2 rfl underlying37 ti77 rfl qj rfl rfl qf qf qp qf fun ati atC aEy H=>?_
    dsimp only[List.set] at H
    replace H:=H.repsCat true 0 rfl 2 rfl qm
    refine sq 1<|zjn<|vK 4 rfl H [0,1,2,3,4,5,6] [0,1,2,3,4,5,6,7,8] fun H=>?_
    dsimp only[yg,yL]
    have S:=H.zW (zR 0 7)<|zR 0 9
    refine rtl 0 S ?_
    refine rtl 2 S ?_
    refine rtl 3 S ?_
    refine tF 4 rfl rfl S ?_
    refine tF 5 rfl rfl S ?_
    refine tL 6 rfl rfl (fun _ h=>h.cell 3 rfl rfl) S ?_
    refine tF 7 rfl rfl S ?_
    refine tL 8 rfl rfl (fun _ h=>h.cell 1 rfl rfl) S ?_
    refine rt 9 (Sv (aa lh 0) d.fA.toNat bH) (fun _ _=>y_upI (iv:=d.fA) d.fA.toNat underlying37 ti77 rfl rfl qf qf) S ?_
    refine rtl 11 S ?_
    refine ro 1 rfl<|jH H underlying37 ti77 fun C4 aIF H=>⟨H.pick (zR 1 7)<|zR 0 9,(ro 10 rfl ?_)⟩
    replace H:=H.boxRow 0 rfl 4 0 rfl qj
    dsimp only[List.set] at H
    replace H:=H.yD (α:=zk)
    replace H:St _ _ ((rr (aa C4 0) 0 0 77 4 [])::(rr ati (0+(wi.length-(d.fA.toNat+1))) atC 77 4 ([]++(bL.drop ((d.fA.toNat+1)*4))))::(.box Ia [yI d.xJ,yI d.fA,yI d.fB] 44)::(.box b1 [yI d.xJ,yI d.fA,yI d.fB] 44)::(.box bk [pp sb 0,Sv ao own.length co,Sv (aa ye 0) sv.length cz,Sv (aa lh 0) wi.length bH] 86)::(.box sb (yS s ap cp ar cr) 27)::(rr (aa ye 0) sv.length cz 49 16 zc)::(rr (aa lh 0) wi.length bH 77 4 bL)::ps) ((qQ true [] [] ([]:List zk))::(qQ true ([]++wW) ([]++(bL.drop ((d.fA.toNat+1)*4))) ([]++(wi.drop<|d.fA.toNat+1)))::(qQ true [] [] ([]:List zk))::(qQ true Jo (bL.take<|d.fA.toNat*4)<|wi.take d.fA.toNat)::(qQ true wW (bL.drop ((d.fA.toNat+1)*4))<|wi.drop<|d.fA.toNat+1)::(qQ true NL zc V8)::(sF false Fp ap cp s.qA)::(sF false Fr ar cr s.qB)::(sF false Fo ao co own)::(qQ true az bL wi)::Γ):=H
    refine o_appendHd (α:=zk) H 0 rfl 7 rfl 3 rfl underlying37 ti77 rfl qj rfl rfl qf qp qf fun aDy aDL al5 H=>?_
    dsimp only[List.set] at H
    replace H:=H.repsCat true 0 rfl 3 rfl qm
    refine⟨H.pick (zR 1 7)<|zR 2 9,(ro 12 rfl<|o_appendAl (α:=zk) H 0 rfl 1 rfl 2 rfl underlying37 ti77 rfl qj rfl rfl qp qf fun SS Rc aye H=>?_)⟩
    dsimp only[List.set] at H
    replace H:=H.repsCat true 0 rfl 2 rfl qm
    have T9:(∀b∈(([]++Jo)++([]++wW)),b∈az)/\(az.Nodup->(([]++Jo)++([]++wW)).Nodup):=by simpa using aka
    replace N:Fresh W0.heap.size ((([]++Jo)++([]++wW))::NL::Ns):=Fresh.less (N.xm 2 [1,0]<|by simp only[List.length_cons,List.length_append];omega) T9.1 T9.2
    rw[erase_cut (l:=wi) (i:=d.fA.toNat) qf] at H
    refine⟨H.pick (zR 1 7)<|zR 3 9,(xy qh<|xZ<|sq 1<|oF rfl<|oF rfl<|sw<|zh H 4 [pp sb 0,Sv ao own.length co,Sv (aa ye 0) sv.length cz,Sv SS ((0+d.fA.toNat)+(0+(wi.length-(d.fA.toNat+1)))) Rc] sizeOf37 fun aIS H=>?_)⟩
    dsimp only[List.set] at H
    refine zjc<|sp (yI 0)<|zjr<|ret1 (yI 0) rfl rfl ⟨_,rfl,?_⟩
    replace H:=H.erases [2,1]
    dsimp only[zL,List.eraseIdx,List.set] at H
    refine sp (yI 0)<|zjr<|b_r<|t_r<|ret1 (yI 0) rfl rfl ⟨_,rfl,?_⟩
    rw[doR_come6 qf qf fr (by rw[←sumC_eq ec];assumption)<|sgot_sets ec qf GK Nw]
    all_goals exact⟨zc,NL,SS,(0+d.fA.toNat)+(0+(wi.length-(d.fA.toNat+1))),Rc,([]++(bL.take<|d.fA.toNat*4))++([]++(bL.drop ((d.fA.toNat+1)*4))),(([]++Jo)++([]++wW)),rfl,(N.xm 2 [1,0]<|by simp only[List.length_cons,List.length_append];omega),H.xm 6 12 [2,3,4,0] [8,9,10,7,0] (by simp only[List.length_cons,List.length_append];omega)<|by simp only[List.length_cons,List.length_append];omega⟩
   replace zz:=xK zz
   refine qW<|t_n<|zcr<|sp (yI 0)<|zjr<|ret1 (yI 0) rfl rfl ⟨_,rfl,?_⟩
   replace H:=H.erases [0]
   dsimp only[zL,List.eraseIdx,List.set] at H
   refine sp (yI 0)<|zjr<|b_r<|t_r<|ret1 (yI 0) rfl rfl ⟨_,rfl,?_⟩
   rw[doR_come7 qf qf fr (by rw[←sumC_eq ec];assumption)<|sgot_sets ec qf GK Nw]
   all_goals exact⟨zc,NL,(aa lh 0),wi.length,bH,bL,az,rfl,N,H.xm 5 5 (zR 1 4) [1,2,3,0,4] (by simp only[List.length_cons,List.length_append];omega)<|by simp only[List.length_cons,List.length_append];omega⟩
  replace wM:=xK wM
  refine qW<|t_n<|zcc<|oF rfl<|oL rfl (H.cell 0 rfl rfl)<|sp (Bv ((d.xJ:Int) != 7))<|zjn<|vg ((d.xJ:Int) != 7) rfl (fun Oo=>?_)<|fun Oo=>?_
  ·replace Oo:=bne_iff_ne.1 Oo
   refine xM ?_
   obtain⟨Je,rfl⟩:=H.jB 5 rfl qf
   have ayS:=H.rowCap 5 rfl
   obtain⟨IK,m5,ahR,H⟩:=H.cutRow 4 rfl d.fA.toNat qf
   refine vK 2 rfl H [0,1,2,3,4,5] [0,1,2,3,4,5,6] fun H=>?_
   dsimp only[yg,yL]
   have S:=H.zW (zR 0 6)<|zR 0 7
   refine rtl 1 S ?_
   refine rtl 2 S ?_
   refine tF 3 rfl rfl S ?_
   refine tF 4 rfl rfl S ?_
   refine tL 5 rfl rfl (fun _ h=>h.cell 2 rfl rfl) S ?_
   refine tF 6 rfl rfl S ?_
   refine tL 7 rfl rfl (fun _ h=>h.cell 0 rfl rfl) S ?_
   refine rt 8 _ (y_add d.fA 1 rfl rfl qf) S ?_
   refine rt 9 (Sv (aa Je<|if bH=(d.fA.toNat+1) then 0 else 0+(d.fA.toNat+1)*4) (wi.length-(d.fA.toNat+1))<|bH-(d.fA.toNat+1)) (fun _ _=>y_fromI (iv:=d.fA+1) (d.fA.toNat+1) underlying37 ti77 rfl rfl qf qf qf) S ?_
   refine ro 0 rfl<|jH H underlying37 ti77 fun aai au5 H=>⟨H.pick (zR 1 6)<|zR 0 7,(xy qh<|xZ ?_)⟩
   replace H:=H.boxRow 0 rfl 4 0 rfl qj
   dsimp only[List.set] at H
   replace H:=H.yD (α:=zk)
   replace H:St _ _ ((rr (aa aai 0) 0 0 77 4 [])::(.box Ia [yI d.xJ,yI d.fA,yI d.fB] 44)::(.box b1 [yI d.xJ,yI d.fA,yI d.fB] 44)::(.box bk [pp sb 0,Sv ao own.length co,Sv eB sv.length cz,Sv (aa Je 0) wi.length bH] 86)::(.box sb (yS s ap cp ar cr) 27)::(rr eB sv.length cz 49 16 bV)::(rr (aa Je 0) wi.length bH 77 4 bL)::ps) ((qQ true [] [] ([]:List zk))::(qQ true IK (bL.take<|d.fA.toNat*4)<|wi.take d.fA.toNat)::(qQ true m5 (bL.drop ((d.fA.toNat+1)*4))<|wi.drop<|d.fA.toNat+1)::(sF false Fp ap cp s.qA)::(sF false Fr ar cr s.qB)::(sF false Fo ao co own)::(qQ true aC bV sv)::(qQ true az bL wi)::Γ):=H
   refine sw<|o_appendTl (α:=zk) H 0 rfl 6 rfl 2 rfl underlying37 ti77 rfl qj rfl rfl qf qf qp qf fun PZ STz aGN H=>?_
   dsimp only[List.set] at H
   replace H:=H.repsCat true 0 rfl 2 rfl qm
   refine sq 1<|zjn<|vK 4 rfl H [0,1,2,3,4,5,6] [0,1,2,3,4,5,6,7,8] fun H=>?_
   dsimp only[yg,yL]
   have S:=H.zW (zR 0 7)<|zR 0 9
   refine rtl 0 S ?_
   refine rtl 2 S ?_
   refine rtl 3 S ?_
   refine tF 4 rfl rfl S ?_
   refine tF 5 rfl rfl S ?_
   refine tL 6 rfl rfl (fun _ h=>h.cell 3 rfl rfl) S ?_
   refine tF 7 rfl rfl S ?_
   refine tL 8 rfl rfl (fun _ h=>h.cell 1 rfl rfl) S ?_
   refine rt 9 (Sv (aa Je 0) d.fA.toNat bH) (fun _ _=>y_upI (iv:=d.fA) d.fA.toNat underlying37 ti77 rfl rfl qf qf) S ?_
   refine rtl 11 S ?_
   refine ro 1 rfl<|jH H underlying37 ti77 fun DK aHw H=>⟨H.pick (zR 1 7)<|zR 0 9,(ro 10 rfl ?_)⟩
   replace H:=H.boxRow 0 rfl 4 0 rfl qj
   dsimp only[List.set] at H
   replace H:=H.yD (α:=zk)
   replace H:St _ _ ((rr (aa DK 0) 0 0 77 4 [])::(rr PZ (0+(wi.length-(d.fA.toNat+1))) STz 77 4 ([]++(bL.drop ((d.fA.toNat+1)*4))))::(.box Ia [yI d.xJ,yI d.fA,yI d.fB] 44)::(.box b1 [yI d.xJ,yI d.fA,yI d.fB] 44)::(.box bk [pp sb 0,Sv ao own.length co,Sv eB sv.length cz,Sv (aa Je 0) wi.length bH] 86)::(.box sb (yS s ap cp ar cr) 27)::(rr eB sv.length cz 49 16 bV)::(rr (aa Je 0) wi.length bH 77 4 bL)::ps) ((qQ true [] [] ([]:List zk))::(qQ true ([]++m5) ([]++(bL.drop ((d.fA.toNat+1)*4))) ([]++(wi.drop<|d.fA.toNat+1)))::(qQ true [] [] ([]:List zk))::(qQ true IK (bL.take<|d.fA.toNat*4)<|wi.take d.fA.toNat)::(qQ true m5 (bL.drop ((d.fA.toNat+1)*4))<|wi.drop<|d.fA.toNat+1)::(sF false Fp ap cp s.qA)::(sF false Fr ar cr s.qB)::(sF false Fo ao co own)::(qQ true aC bV sv)::(qQ true az bL wi)::Γ):=H
   refine o_appendHd (α:=zk) H 0 rfl 7 rfl 3 rfl underlying37 ti77 rfl qj rfl rfl qf qp qf fun Iq J4 aus H=>?_
   dsimp only[List.set] at H
   replace H:=H.repsCat true 0 rfl 3 rfl qm
   refine⟨H.pick (zR 1 7)<|zR 2 9,(ro 12 rfl<|o_appendAl (α:=zk) H 0 rfl 1 rfl 2 rfl underlying37 ti77 rfl qj rfl rfl qp qf fun ap2 ah8 afE H=>?_)⟩
   dsimp only[List.set] at H
   replace H:=H.repsCat true 0 rfl 2 rfl qm
   have TC:(∀b∈(([]++IK)++([]++m5)),b∈az)/\(az.Nodup->(([]++IK)++([]++m5)).Nodup):=by simpa using ahR
   replace N:Fresh W0.heap.size ((([]++IK)++([]++m5))::aC::Ns):=Fresh.less (N.xm 2 [1,0]<|by simp only[List.length_cons,List.length_append];omega) TC.1 TC.2
   rw[erase_cut (l:=wi) (i:=d.fA.toNat) qf] at H
   refine⟨H.pick (zR 1 7)<|zR 3 9,(xy qh<|xZ<|sq 1<|oF rfl<|oF rfl<|sw<|zh H 4 [pp sb 0,Sv ao own.length co,Sv eB sv.length cz,Sv ap2 ((0+d.fA.toNat)+(0+(wi.length-(d.fA.toNat+1)))) ah8] sizeOf37 fun aGj H=>?_)⟩
   dsimp only[List.set] at H
   refine zjc<|sp (yI 0)<|zjr<|ret1 (yI 0) rfl rfl ⟨_,rfl,?_⟩
   replace H:=H.erases [2,1]
   dsimp only[zL,List.eraseIdx,List.set] at H
   refine sp (yI 0)<|zjr<|b_r<|t_r<|ret1 (yI 0) rfl rfl ⟨_,rfl,?_⟩
   rw[doR_drop qf qf]
   all_goals exact⟨bV,aC,ap2,(0+d.fA.toNat)+(0+(wi.length-(d.fA.toNat+1))),ah8,([]++(bL.take<|d.fA.toNat*4))++([]++(bL.drop ((d.fA.toNat+1)*4))),(([]++IK)++([]++m5)),rfl,(N.xm 2 [1,0]<|by simp only[List.length_cons,List.length_append];omega),H.xm 6 12 [2,3,4,0] [7,8,9,10,0] (by simp only[List.length_cons,List.length_append];omega)<|by simp only[List.length_cons,List.length_append];omega⟩
  replace Oo:=xK Oo
  refine qW<|t_n<|zcr<|sp (yI 0)<|zjr<|ret1 (yI 0) rfl rfl ⟨_,rfl,?_⟩
  replace H:=H.erases [0]
  dsimp only[zL,List.eraseIdx,List.set] at H
  refine sp (yI 0)<|zjr<|b_r<|t_r<|ret1 (yI 0) rfl rfl ⟨_,rfl,?_⟩
  (exfalso;omega)
  all_goals exact⟨bV,aC,cF,wi.length,bH,bL,az,rfl,N,H.xm 5 5 (zR 1 4) (zR 0 5) (by simp only[List.length_cons,List.length_append];omega)<|by simp only[List.length_cons,List.length_append];omega⟩
 (have k14:¬(d.xJ=6\/d.xJ=7\/d.xJ=8):=fun z=>by have z:=j14.2 z;simp_all)
 refine qW<|b_n<|t_n<|xM<|xM<|vK 1 rfl H [0,1,2,3,4] [0,1,2,3,4] fun H=>?_
 dsimp only[yg,yL]
 have S:=H.zW (zR 0 5)<|zR 0 5
 refine tF 0 rfl rfl S ?_
 refine tL 1 rfl rfl (fun _ h=>h.cell 0 rfl rfl) S ?_
 refine rtl 2 S ?_
 refine rtl 3 S ?_
 refine tF 4 rfl rfl S ?_
 refine tF 5 rfl rfl S ?_
 refine tL 6 rfl rfl (fun _ h=>h.cell 1 rfl rfl) S ?_
 refine tN 7 rfl rfl S ?_
 refine xy qh<|xZ<|sp (Bv<|decide ((d.fA:Int)>=sv.length))<|zjn<|cD rfl (fun atN=>?_)<|fun atN=>?_
 ·refine zcr (sp (yI 2)<|zjr<|t_r<|ret1 (yI 2) rfl rfl ⟨_,rfl,?_⟩)
  rw[Vr qf<|by show ¬(0<=d.fA/\d.fA<=(sv.length:Int)-1);omega]
  all_goals exact⟨bV,aC,cF,wi.length,bH,bL,az,rfl,N,H.xm 5 5 (zR 1 4) (zR 0 5) (by simp only[List.length_cons,List.length_append];omega)<|by simp only[List.length_cons,List.length_append];omega⟩
 refine qW<|t_n<|xM<|vK 2 rfl H [0,1,2,3,4] [0,1,2,3,4] fun H=>?_
 dsimp only[yg,yL]
 have S:=H.zW (zR 0 5)<|zR 0 5
 refine rtl 0 S ?_
 refine rtl 1 S ?_
 refine tF 2 rfl rfl S ?_
 refine tF 3 rfl rfl S ?_
 refine tL 4 rfl rfl (fun _ h=>h.cell 1 rfl rfl) S ?_
 refine tF 5 rfl rfl S ?_
 refine tL 6 rfl rfl (fun _ h=>h.cell 0 rfl rfl) S ?_
 refine xy qh<|xZ ?_
 obtain⟨apj,rfl⟩:=H.jB 3 rfl qf
 refine oI rfl rfl<|sq 1<|zjcc<|oF rfl<|oL rfl (H.cell 0 rfl rfl)<|zjn<|xe<|zcr<|sp (Bv ((d.xJ:Int) == 1))<|sp (Bv ((d.xJ:Int) == 1))<|zjn<|cE rfl (fun atk=>?_)<|fun atk=>?_
 ·refine zcr (sq 1<|oF rfl<|oL rfl (H.cell 0 rfl rfl) ?_)
  have H1:=H.yt 5 5 [1,2,3,4,0] [0,1,2,3,4] (by simp only[List.length_cons,List.length_append];omega)<|by simp only[List.length_cons,List.length_append];omega
  have N1:Fresh _ (aC::az::Ns):=N
  have K1:Kept (Ns) (Γ):=K0.behind 0 rfl
  refine sw<|zD #[pp bk 0,yI d.fA] rfl rfl call108 (swork_ok s own ap cp Fp ar cr Fr ao co Fo sb sv wi bk _ (aa apj 0) sv.length cz bV aC cF wi.length bH bL az d.fA H1 N1 K1 qg qg qg<|xQ (zQ OL 0 rfl)<|xQ (zQ OL 1 rfl)<|xQ (zQ OL 2 rfl)<|XX OL 3 rfl) ?_
  clear H H1 N1 K1
  rintro _ akT ⟨aoa,aoz,ao0,aBR,aid,aon,aeV,rfl,N,H⟩
  obtain rfl:=H.xk (α:=zk) 3 rfl 4 rfl qj
  refine sq 1<|zjr<|b_r<|t_r<|ret1 (yI ((workM s own (⟨sv,wi⟩:zN) d.fA.toNat).2)) rfl rfl ⟨_,rfl,?_⟩
  rw[doR_work qf ⟨by omega,by omega⟩]
  all_goals exact⟨aoa,aoz,ao0,((workM s own (⟨sv,wi⟩:zN) d.fA.toNat).1.x9).length,aid,aon,aeV,rfl,N,H.xm 5 5 (zR 0 4) (zR 0 5) (by simp only[List.length_cons,List.length_append];omega)<|by simp only[List.length_cons,List.length_append];omega⟩
 refine zcr<|sp (Bv ((d.xJ:Int) == 5))<|sp (Bv ((d.xJ:Int) == 5))<|zjn<|cE rfl (fun auO=>?_)<|fun auO=>?_
 ·refine zcr (sq 1<|oF rfl<|oL rfl (H.cell 0 rfl rfl) ?_)
  have H1:=H.yt 5 5 [1,2,3,4,0] [0,1,2,3,4] (by simp only[List.length_cons,List.length_append];omega)<|by simp only[List.length_cons,List.length_append];omega
  have N1:Fresh _ (aC::az::Ns):=N
  have K1:Kept (Ns) (Γ):=K0.behind 0 rfl
  refine sw<|zD #[pp bk 0,yI d.fA] rfl rfl call109 (sadv_ok s own ap cp Fp ar cr Fr ao co Fo sb sv wi bk _ (aa apj 0) sv.length cz bV aC cF wi.length bH bL az d.fA H1 N1 K1 qg qg qg<|xQ (zQ OL 0 rfl)<|xQ (zQ OL 1 rfl)<|xQ (zQ OL 2 rfl)<|XX OL 3 rfl) ?_
  clear H H1 N1 K1
  rintro _ aiV ⟨al8,apk,ahz,azV,ao5,aeX,anK,rfl,N,H⟩
  obtain rfl:=H.xk (α:=zk) 3 rfl 4 rfl qj
  refine sq 1<|zjr<|b_r<|t_r<|ret1 (yI ((QI s (⟨sv,wi⟩:zN) d.fA.toNat).2)) rfl rfl ⟨_,rfl,?_⟩
  rw[doR_advance qf ⟨by omega,by omega⟩]
  all_goals exact⟨al8,apk,ahz,((QI s (⟨sv,wi⟩:zN) d.fA.toNat).1.x9).length,ao5,aeX,anK,rfl,N,H.xm 5 5 (zR 0 4) (zR 0 5) (by simp only[List.length_cons,List.length_append];omega)<|by simp only[List.length_cons,List.length_append];omega⟩
 refine zcr<|sp (Bv ((d.xJ:Int) == 2))<|sp (Bv ((d.xJ:Int) == 2))<|zjn<|cE rfl (fun axP=>?_)<|fun axP=>?_
 ·refine xX (sq 3<|oF rfl ?_)
  obtain⟨adf,adO,adA,WD,Uk,Ur,afY,agf,apJ,Us,Ux,WT,amt,ain,aiH,adp,aek,ac9,afD,H⟩:=H.jQ zC 3 rfl 3 rfl rfl d.fA.toNat qf
  have y1:jy s own n d.fA.toNat (sv[d.fA.toNat]!).qC/\jy s own n d.fA.toNat (sv[d.fA.toNat]!).qI:=p1.srv d.fA.toNat qf
  have y2:=y1.1.small p0
  have amm:=H.base.size
  have aes:=jL (H.ltN (L:=[aC,az]) [9,10])<|H.ltK<|K0.behind 11 rfl
  refine sw<|oc (l08Copy_ok _ ((sv[d.fA.toNat]!).qC) (fun r v hv=>H.zt (off:=0+(d.fA:Int).toNat*16+0+r) 3 rfl (afD r v hv) qf) (H.get 0 rfl).1 (H.get 1 rfl).1 (H.get 2 rfl).1 (H.get 3 rfl).1 (H.get 4 rfl).1 (H.get 5 rfl).1 qg) ?_
  rintro _ aI0 ⟨JA,adK,IA,ad0,ac8,B2,Wt,Cv,M5,aeI,Kr,Cg,U6,Cq,W6,eQ,NU,age,Mj,ap7,fe,JP,adw,JY,ad5,dL,rfl,M,K⟩ _
  replace N:=N.merge amm aes M
  replace H:=H.merge K M
  dsimp only[List.cons_append,List.nil_append] at H
  obtain rfl:=H.xk (α:=yLI) 0 rfl 0 rfl qj
  obtain rfl:=H.Qc 1 rfl
  obtain rfl:=H.rowNB 2 rfl
  obtain rfl:=H.xk (α:=yLI) 3 rfl 1 rfl qj
  obtain rfl:=H.xk (α:=yLL) 4 rfl 2 rfl qj
  obtain rfl:=H.xk (α:=yLL) 5 rfl 3 rfl qj
  refine sq 1<|oF rfl ?_
  have H0:=H
  obtain⟨pm,Wl,aCo,H⟩:=H.jA (α:=yLI) 0 rfl 0 rfl qj
  replace N:Fresh W0.heap.size (pm::eQ::fe::dL::aC::az::Ns):=Fresh.ice N H0 0 Wl.1 Wl.2<|fun F hF b hb=>(List.mem_append.1<|show F∈[eQ,fe,dL,aC,az]++Ns from hF).elim (fun h=>(H0.vV (L:=[eQ,fe,dL,aC,az]) [1,2,3,13,14]) F h b hb) fun h=>H0.jT (K0.behind 15 rfl) F h b hb
  clear H0
  dsimp only[List.set] at H
  obtain⟨mV,N,azE,H⟩:=H.vJ 1 rfl N<|fun F hF b hb=>(List.mem_append.1<|show F∈[pm,eQ,fe,dL,aC,az]++Ns from hF).elim (fun h=>(H.vV (L:=[pm,eQ,fe,dL,aC,az]) [0,2,3,4,14,15]) F h b hb) fun h=>H.jT (K0.behind 16 rfl) F h b hb
  dsimp only[List.set] at H
  obtain⟨xc,N,azC,H⟩:=H.freezeB 2 rfl N<|fun F hF b hb=>(List.mem_append.1<|show F∈[mV,pm,eQ,fe,dL,aC,az]++Ns from hF).elim (fun h=>(H.vV (L:=[mV,pm,eQ,fe,dL,aC,az]) [0,1,3,4,5,15,16]) F h b hb) fun h=>H.jT (K0.behind 17 rfl) F h b hb
  dsimp only[List.set] at H
  have H0:=H
  obtain⟨Ca,WE,az1,H⟩:=H.jA (α:=yLI) 3 rfl 4 rfl qj
  replace N:Fresh W0.heap.size (Ca::xc::mV::pm::fe::dL::aC::az::Ns):=Fresh.ice (N.xm 8 [3,0,1,2,4,5,6,7]<|by simp only[List.length_cons,List.length_append];omega) H0 3 WE.1 WE.2<|fun F hF b hb=>(List.mem_append.1<|show F∈[xc,mV,pm,fe,dL,aC,az]++Ns from hF).elim (fun h=>(H0.vV (L:=[xc,mV,pm,fe,dL,aC,az]) [0,1,2,5,6,16,17]) F h b hb) fun h=>H0.jT (K0.behind 18 rfl) F h b hb
  clear H0
  dsimp only[List.set] at H
  have H0:=H
  obtain⟨Es,TN,aBy,H⟩:=H.jA (α:=yLL) 4 rfl 6 rfl qj
  replace N:Fresh W0.heap.size (Es::Ca::xc::mV::pm::dL::aC::az::Ns):=Fresh.ice (N.xm 8 [4,0,1,2,3,5,6,7]<|by simp only[List.length_cons,List.length_append];omega) H0 4 TN.1 TN.2<|fun F hF b hb=>(List.mem_append.1<|show F∈[Ca,xc,mV,pm,dL,aC,az]++Ns from hF).elim (fun h=>(H0.vV (L:=[Ca,xc,mV,pm,dL,aC,az]) [0,1,2,3,7,17,18]) F h b hb) fun h=>H0.jT (K0.behind 19 rfl) F h b hb
  clear H0
  dsimp only[List.set] at H
  have H0:=H
  obtain⟨ald,Wh,aCf,H⟩:=H.jA (α:=yLL) 5 rfl 8 rfl qj
  replace N:Fresh W0.heap.size (ald::Es::Ca::xc::mV::pm::aC::az::Ns):=Fresh.ice (N.xm 8 [5,0,1,2,3,4,6,7]<|by simp only[List.length_cons,List.length_append];omega) H0 5 Wh.1 Wh.2<|fun F hF b hb=>(List.mem_append.1<|show F∈[Es,Ca,xc,mV,pm,aC,az]++Ns from hF).elim (fun h=>(H0.vV (L:=[Es,Ca,xc,mV,pm,aC,az]) [0,1,2,3,4,18,19]) F h b hb) fun h=>H0.jT (K0.behind 20 rfl) F h b hb
  clear H0
  dsimp only[List.set] at H
  replace H:=H.mk_DeskD (((sv[d.fA.toNat]!).qC).qP) 5 rfl 4 rfl (((sv[d.fA.toNat]!).qC).qV) 3 rfl 2 rfl 1 rfl 0 rfl
  replace N:Fresh W0.heap.size ((pm++mV++xc++Ca++Es++ald)::aC::az::Ns):=(N.xm 8 [5,4,3,2,1,0,6,7]<|by simp only[List.length_cons,List.length_append];omega).join.join.join.join.join
  obtain⟨aAa,UP⟩:∃z,z=(sv.set d.fA.toNat { sv[d.fA.toNat]! with qI:=(⟨((sv[d.fA.toNat]!).qC).qP,((sv[d.fA.toNat]!).qC).qG,((sv[d.fA.toNat]!).qC).qF,((sv[d.fA.toNat]!).qC).qV,((sv[d.fA.toNat]!).qC).vM,((sv[d.fA.toNat]!).qC).qL,((sv[d.fA.toNat]!).qC).vX,((sv[d.fA.toNat]!).qC).x8⟩:zA)}):=⟨_,rfl⟩
  refine sw<|XF (v:=.agg #[yI (((sv[d.fA.toNat]!).qC).qP),Sv JA ((((sv[d.fA.toNat]!).qC).qG).length) IA,Sv B2 ((((sv[d.fA.toNat]!).qC).qF).length) Cv,Bv (((sv[d.fA.toNat]!).qC).qV),Sv M5 ((((sv[d.fA.toNat]!).qC).vM).length) Kr,Sv Cg ((((sv[d.fA.toNat]!).qC).qL).length) Cq,Sv NU ((((sv[d.fA.toNat]!).qC).vX).length) Mj,Sv JP ((((sv[d.fA.toNat]!).qC).x8).length) JY]) Qh H 9 rfl 20 rfl 0 rfl rfl sizeOf47 rfl rfl rfl d.fA.toNat qf qf UP fun axC apm EH ae5 H=>?_
  dsimp only[List.set] at H
  replace N:Fresh W0.heap.size (EH::az::Ns):=(N.xm 3 [1,0,2]<|by simp only[List.length_cons,List.length_append];omega).repl ae5
  refine xU<|b_n<|t_n<|zcr<|sp (yI 0)<|zjr<|ret1 (yI 0) rfl rfl ⟨_,rfl,?_⟩
  rw[doR_save qf ⟨by omega,by omega⟩ UP]
  all_goals exact⟨apm,EH,cF,wi.length,bH,bL,az,rfl,N,H.xm 11 23 (zR 7 4) [18,19,20,0,22] (by simp only[List.length_cons,List.length_append];omega)<|by simp only[List.length_cons,List.length_append];omega⟩
 refine xX<|sq 3<|oF rfl ?_
 obtain⟨adk,adl,adW,UX,Wp,WR,alA,afv,amC,Wb,Wg,Yx,anT,aiL,anu,adX,ac0,adq,ahD,H⟩:=H.jQ Qh 3 rfl 3 rfl rfl d.fA.toNat qf
 have y1:jy s own n d.fA.toNat (sv[d.fA.toNat]!).qC/\jy s own n d.fA.toNat (sv[d.fA.toNat]!).qI:=p1.srv d.fA.toNat qf
 have y3:=y1.2.small p0
 have ag5:=H.base.size
 have anV:=jL (H.ltN (L:=[aC,az]) [9,10])<|H.ltK<|K0.behind 11 rfl
 refine sw<|oc (l08Copy_ok _ ((sv[d.fA.toNat]!).qI) (fun r v hv=>H.zt (off:=0+(d.fA:Int).toNat*16+8+r) 3 rfl (ahD r v hv) qf) (H.get 0 rfl).1 (H.get 1 rfl).1 (H.get 2 rfl).1 (H.get 3 rfl).1 (H.get 4 rfl).1 (H.get 5 rfl).1 qg) ?_
 rintro _ aG4 ⟨I0,adY,Iu,ad1,ac2,Cj,UH,B6,Pe,ag1,M9,C0,UZ,CE,U8,eT,O7,apX,MO,afb,fj,I5,adt,I1,adB,dK,rfl,M,K⟩ _
 replace N:=N.merge ag5 anV M
 replace H:=H.merge K M
 dsimp only[List.cons_append,List.nil_append] at H
 obtain rfl:=H.xk (α:=yLI) 0 rfl 0 rfl qj
 obtain rfl:=H.Qc 1 rfl
 obtain rfl:=H.rowNB 2 rfl
 obtain rfl:=H.xk (α:=yLI) 3 rfl 1 rfl qj
 obtain rfl:=H.xk (α:=yLL) 4 rfl 2 rfl qj
 obtain rfl:=H.xk (α:=yLL) 5 rfl 3 rfl qj
 refine sq 1<|oF rfl ?_
 have H0:=H
 obtain⟨lK,Wx,aAH,H⟩:=H.jA (α:=yLI) 0 rfl 0 rfl qj
 replace N:Fresh W0.heap.size (lK::eT::fj::dK::aC::az::Ns):=Fresh.ice N H0 0 Wx.1 Wx.2<|fun F hF b hb=>(List.mem_append.1<|show F∈[eT,fj,dK,aC,az]++Ns from hF).elim (fun h=>(H0.vV (L:=[eT,fj,dK,aC,az]) [1,2,3,13,14]) F h b hb) fun h=>H0.jT (K0.behind 15 rfl) F h b hb
 clear H0
 dsimp only[List.set] at H
 obtain⟨sL,N,ayR,H⟩:=H.vJ 1 rfl N<|fun F hF b hb=>(List.mem_append.1<|show F∈[lK,eT,fj,dK,aC,az]++Ns from hF).elim (fun h=>(H.vV (L:=[lK,eT,fj,dK,aC,az]) [0,2,3,4,14,15]) F h b hb) fun h=>H.jT (K0.behind 16 rfl) F h b hb
 dsimp only[List.set] at H
 obtain⟨xi,N,ayU,H⟩:=H.freezeB 2 rfl N<|fun F hF b hb=>(List.mem_append.1<|show F∈[sL,lK,eT,fj,dK,aC,az]++Ns from hF).elim (fun h=>(H.vV (L:=[sL,lK,eT,fj,dK,aC,az]) [0,1,3,4,5,15,16]) F h b hb) fun h=>H.jT (K0.behind 17 rfl) F h b hb
 dsimp only[List.set] at H
 have H0:=H
 obtain⟨BL,W8,aBF,H⟩:=H.jA (α:=yLI) 3 rfl 4 rfl qj
 replace N:Fresh W0.heap.size (BL::xi::sL::lK::fj::dK::aC::az::Ns):=Fresh.ice (N.xm 8 [3,0,1,2,4,5,6,7]<|by simp only[List.length_cons,List.length_append];omega) H0 3 W8.1 W8.2<|fun F hF b hb=>(List.mem_append.1<|show F∈[xi,sL,lK,fj,dK,aC,az]++Ns from hF).elim (fun h=>(H0.vV (L:=[xi,sL,lK,fj,dK,aC,az]) [0,1,2,5,6,16,17]) F h b hb) fun h=>H0.jT (K0.behind 18 rfl) F h b hb
 clear H0
 dsimp only[List.set] at H
 have H0:=H
 obtain⟨NC,Yv,aCn,H⟩:=H.jA (α:=yLL) 4 rfl 6 rfl qj
 replace N:Fresh W0.heap.size (NC::BL::xi::sL::lK::dK::aC::az::Ns):=Fresh.ice (N.xm 8 [4,0,1,2,3,5,6,7]<|by simp only[List.length_cons,List.length_append];omega) H0 4 Yv.1 Yv.2<|fun F hF b hb=>(List.mem_append.1<|show F∈[BL,xi,sL,lK,dK,aC,az]++Ns from hF).elim (fun h=>(H0.vV (L:=[BL,xi,sL,lK,dK,aC,az]) [0,1,2,3,7,17,18]) F h b hb) fun h=>H0.jT (K0.behind 19 rfl) F h b hb
 clear H0
 dsimp only[List.set] at H
 have H0:=H
 obtain⟨akN,Tv,aA5,H⟩:=H.jA (α:=yLL) 5 rfl 8 rfl qj
 replace N:Fresh W0.heap.size (akN::NC::BL::xi::sL::lK::aC::az::Ns):=Fresh.ice (N.xm 8 [5,0,1,2,3,4,6,7]<|by simp only[List.length_cons,List.length_append];omega) H0 5 Tv.1 Tv.2<|fun F hF b hb=>(List.mem_append.1<|show F∈[NC,BL,xi,sL,lK,aC,az]++Ns from hF).elim (fun h=>(H0.vV (L:=[NC,BL,xi,sL,lK,aC,az]) [0,1,2,3,4,18,19]) F h b hb) fun h=>H0.jT (K0.behind 20 rfl) F h b hb
 clear H0
 dsimp only[List.set] at H
 replace H:=H.mk_DeskD (((sv[d.fA.toNat]!).qI).qP) 5 rfl 4 rfl (((sv[d.fA.toNat]!).qI).qV) 3 rfl 2 rfl 1 rfl 0 rfl
 replace N:Fresh W0.heap.size ((lK++sL++xi++BL++NC++akN)::aC::az::Ns):=(N.xm 8 [5,4,3,2,1,0,6,7]<|by simp only[List.length_cons,List.length_append];omega).join.join.join.join.join
 obtain⟨aB1,Yn⟩:∃z,z=(sv.set d.fA.toNat { sv[d.fA.toNat]! with qC:=(⟨((sv[d.fA.toNat]!).qI).qP,((sv[d.fA.toNat]!).qI).qG,((sv[d.fA.toNat]!).qI).qF,((sv[d.fA.toNat]!).qI).qV,((sv[d.fA.toNat]!).qI).vM,((sv[d.fA.toNat]!).qI).qL,((sv[d.fA.toNat]!).qI).vX,((sv[d.fA.toNat]!).qI).x8⟩:zA)}):=⟨_,rfl⟩
 refine sw<|XF (v:=.agg #[yI (((sv[d.fA.toNat]!).qI).qP),Sv I0 ((((sv[d.fA.toNat]!).qI).qG).length) Iu,Sv Cj ((((sv[d.fA.toNat]!).qI).qF).length) B6,Bv (((sv[d.fA.toNat]!).qI).qV),Sv Pe ((((sv[d.fA.toNat]!).qI).vM).length) M9,Sv C0 ((((sv[d.fA.toNat]!).qI).qL).length) CE,Sv O7 ((((sv[d.fA.toNat]!).qI).vX).length) MO,Sv I5 ((((sv[d.fA.toNat]!).qI).x8).length) I1]) zC H 9 rfl 20 rfl 0 rfl rfl sizeOf47 rfl rfl rfl d.fA.toNat qf qf Yn fun aIa an8 alP ame H=>?_
 dsimp only[List.set] at H
 replace N:Fresh W0.heap.size (alP::az::Ns):=(N.xm 3 [1,0,2]<|by simp only[List.length_cons,List.length_append];omega).repl ame
 refine xU<|b_n<|t_n<|zcr<|sp (yI 0)<|zjr<|ret1 (yI 0) rfl rfl ⟨_,rfl,?_⟩
 rw[doR_crash qf ⟨by omega,by omega⟩ Yn]
 all_goals exact⟨an8,alP,cF,wi.length,bH,bL,az,rfl,N,H.xm 11 23 (zR 7 4) [18,19,20,0,22] (by simp only[List.length_cons,List.length_append];omega)<|by simp only[List.length_cons,List.length_append];omega⟩
end
section
def maxTo(l:yLI):Nat->Int
 |0=>l[0]!
 |k+1=>max (maxTo l k)<|l[k]!
def maxL(l:yLI):Int:=maxTo l l.length
theorem maxTo_one(l:yLI):maxTo l 1=l[0]! :=by
 rw[maxTo,maxTo];omega
theorem maxTo_le{l:yLI}{b:Int}:∀k,k<=l.length->0<l.length->(∀j,j<l.length->l[j]! <=b)->maxTo l k<=b
 |0,_,h0,h=>h 0 h0
 |k+1,hk,h0,h=>by
  have h1:=maxTo_le k qf h0 h
  have h2:=h k qf
  rw[maxTo];omega
theorem le_maxTo{l:yLI}{j:Nat}:∀k,j<k->l[j]! <=maxTo l k
 |k+1,hj=>by
  rw[maxTo]
  by_cases e:j=k
  ·subst e;omega
  ·have:=le_maxTo (l:=l) k (show j<k by omega);omega
structure Xw(own:yLI)(n:Nat):Prop where
 one:1<=n/\n<=4
 bds:OwnIn own n
 all:∀i:Int,0<=i->i<n->i∈own
theorem max_own{own:yLI}(h:Xw own n):maxL own=(n:Int)-1:=by
 obtain⟨h0,h1⟩:=h.bds
 have h2:=h.one
 have a:=maxTo_le (b:=(n:Int)-1) own.length (Nat.le_refl _) h0 (fun j hj=>by have:=h1 j hj;omega)
 obtain⟨j,hj,e⟩:=List.getElem_of_mem<|h.all ((n:Int)-1) qf qf
 have b:=le_maxTo (l:=own) (j:=j) own.length hj
 rw[getElem!_pos own j hj,e] at b
 unfold maxL
 omega
theorem min_own{own:yLI}(h:Xw own n):0<=minL own:=by
 obtain⟨h0,h1⟩:=h.bds
 have:=mt (minL_neg (l:=own) qf).1 (by
  intro x
  exact x fun k hk=>(h1 k hk).1)
 omega
def Vu(own:yLI):Nat:=(maxL own+1).toNat
theorem nSrv_all{own:yLI}(h:Xw own n):Vu own=n:=by
 have:=max_own h
 have:=h.one
 unfold Vu
 omega
theorem rep_at{α:Type}[qK α]{G:yLN}{a:yOA}{m c:Nat}{l:List α}(h:n=m)(k:qK.rep w G [Sv a n c] l):qK.rep w G [Sv a m c] l:=h▸k
theorem run_yes{own:yLI}(h:(doM s own (xN s own v l k).1<|l[k]!).2=0):(xN s own v l k).2+1=(xN s own v l<|k+1).2:=by rw[xN,if_pos h]
theorem run_no{own:yLI}(h:(doM s own (xN s own v l k).1<|l[k]!).2≠0):(xN s own v l k).2=(xN s own v l<|k+1).2:=by rw[xN,if_neg h,Int.add_zero]
theorem beginTo_len(s:qO)(own:yLI)(t:xn)(k:Nat):(QN s own t k).length=k:=by simp[QN]
section
variable{s : qO}{own : yLI}{t : xn}{i c : Nat}{B : yLL}{A : yLI}
def begB(s:qO)(own:yLI)(t:xn)(i c:Nat):yLL:=(List.range<|zM s).map fun j=>if j<c/\own[j]! =(i:Int) then t.qG[j]! else List.replicate (jb s) 0
theorem Vz:(begB s own t i c).length=zM s:=by simp[begB]
theorem begB_get{j:Nat}(hj:j<zM s):(begB s own t i c)[j]! =if j<c/\own[j]! =(i:Int) then t.qG[j]! else List.replicate (jb s) 0:=by
 rw[getElem!_pos (begB s own t i c) j<|by rw[Vz];exact hj];simp[begB]
theorem beg_zero:(jG s<|s.qA.length+1).take s.qA.length=begB s own t i 0:=by
 refine List.ext_getElem (by rw[Vz,List.length_take,zeros_len];show min s.qA.length _=s.qA.length;omega) fun j h1 h2=>?_
 rw[Vz] at h2
 have:=begB_get (s:=s) (own:=own) (t:=t) (i:=i) (c:=0) h2
 rw[if_neg qf,getElem!_pos _ _<|by rw[Vz];exact h2] at this
 rw[this]
 simp[jG,jb]
theorem beg_yes(h:own[c]! =(i:Int))(hc:c<zM s):(begB s own t i c).set c (t.qG[c]!)=begB s own t i (c+1):=by
 refine ext_get (by simp[Vz]) fun j hj=>?_
 rw[List.length_set,Vz] at hj
 rw[getset<|by rw[Vz];exact hc,begB_get hj,begB_get hj]
 by_cases e:j=c
 ·subst e;rw[if_pos rfl,if_pos ⟨by omega,h⟩]
 ·rw[if_neg e]
  by_cases e2:j<c
  ·have:j<c+1:=by omega
   simp[e2,this]
  ·have:¬j<c+1:=by omega
   simp[e2,this]
theorem beg_no(h:own[c]! ≠(i:Int)):begB s own t i c=begB s own t i (c+1):=by
 refine ext_get (by simp[Vz]) fun j hj=>?_
 rw[Vz] at hj
 rw[begB_get hj,begB_get hj]
 by_cases e:j=c
 ·subst e;rw[if_neg qf,if_neg<|fun x=>h x.2]
 ·have:j<c+1<->j<c:=by omega
  simp[this]
theorem begin_snoc(hB:B=begB s own t i c)(hc:c=s.qA.length)(hA:A=if own[0]! =(i:Int) then t.qF else List.replicate (jb s) 0):
 QN s own t i++[⟨⟨0,B,A,false,[],[],[],[]⟩,⟨0,B,A,false,[],[],[],[]⟩⟩]=QN s own t (i+1):=by
 have e:(⟨0,B,A,false,[],[],[],[]⟩:zA)=beginD s own t i:=by
  rw[beginD,hB,hA]
  congr 1
  refine List.map_congr_left fun j hj=>?_
  have hj:j<s.qA.length:=List.mem_range.1 hj
  by_cases h:own[j]! =(i:Int)
  ·rw[if_pos ⟨by omega,h⟩,if_pos h]
  ·rw[if_neg<|fun x=>h x.2,if_neg h]
 rw[e]
 simp[QN,List.range_succ]
theorem beg_sm(hs:Qr s)(ht:vU s t)(hB:B=begB s own t i c)(hA:A.length<=1000000):SmD (⟨0,B,A,false,[],[],[],[]⟩:zA):=by
 have kl:=XR hs
 have c1:=hs.1.2.1
 refine⟨⟨?_,fun k hk=>?_⟩,hA,by simp,Sm2.nil,Sm3.nil,Sm3.nil⟩
 ·show B.length<=1000000
  rw[hB,Vz]
  have:zM s=s.qA.length:=rfl
  omega
 ·have hk:k<B.length:=hk
  show (B[k]!).length<=1000000
  rw[hB,Vz] at hk
  have hl:k<s.qA.length:=hk
  rw[hB,begB_get hk]
  split
  ·have:=(vP (ht.2.2.2.2 k<|by rw[ht.2.1];exact hl).1).1
   omega
  ·rw[List.length_replicate];omega
end
theorem old_nil{B:Nat}{f:Fact}(h:f.F=[]):∀b∈f.F,b<B:=fun b hb=>by rw[h] at hb;cases hb
theorem jI.to{b o:Nat}{cs JW :List Value}(h:jI w b o cs)(e:cs=JW):jI w b o JW :=e▸h
section
variable{s : qO}{own : yLI}{t : xn}{n i c : Nat}{B : yLL}{A : yLI}
def srvTo(own:yLI):Nat->Int
 |0=>0
 |i+1=>max (srvTo own i)<|own[i]! +1
theorem srvTo_bd(h:Xw own n):∀i,i<=own.length->0<=srvTo own i/\srvTo own i<=n/\∀j,j<i->own[j]! +1<=srvTo own i
 |0,_=>⟨Int.le_refl _,by simp only[srvTo];omega,fun j hj=>by omega⟩
 |i+1,hi=>by
  obtain⟨h1,h2,h3⟩:=srvTo_bd h i qf
  have h4:=h.bds.2 i qf
  rw[srvTo]
  refine⟨by omega,by omega,fun j hj=>?_⟩
  by_cases e:j=i
  ·subst e;omega
  ·have:=h3 j qf;omega
theorem srvTo_all(h:Xw own n):srvTo own own.length=n:=by
 obtain⟨h1,h2,h3⟩:=srvTo_bd h own.length<|Nat.le_refl _
 have h4:=h.one
 obtain⟨j,hj,e⟩:=List.getElem_of_mem<|h.all ((n:Int)-1) qf qf
 have b:=h3 j hj
 rw[getElem!_pos own j hj,e] at b
 omega
def yX(s:qO)(own:yLI)(t:xn)(i c:Nat):yLL:=(List.range c).map fun j=>if own[j]! =(i:Int) then t.qG[j]! else List.replicate s.qN.toNat 0
theorem begTo_len:(yX s own t i c).length=c:=by simp[yX]
theorem begTo_yes(h:own[c]! =(i:Int)):yX s own t i c++[t.qG[c]!]=yX s own t i (c+1):=by
 rw[yX,yX,List.range_succ,List.map_append,List.map_singleton,if_pos h]
theorem begTo_no(h:own[c]! ≠(i:Int)):yX s own t i c++[List.replicate s.qN.toNat 0]=yX s own t i (c+1):=by
 rw[yX,yX,List.range_succ,List.map_append,List.map_singleton,if_neg h]
theorem begTo_B(hc:c=s.qA.length):yX s own t i c=begB s own t i c:=by
 subst hc
 unfold yX begB
 refine List.map_congr_left fun j hj=>?_
 have hj:j<s.qA.length:=List.mem_range.1 hj
 by_cases h:own[j]! =(i:Int)
 ·rw[if_pos h,if_pos ⟨hj,h⟩]
 ·rw[if_neg h,if_neg<|fun x=>h x.2];rfl
theorem sbegin_snoc(hc:c=s.qA.length)(hA:A=if own[0]! =(i:Int) then t.qF else List.replicate s.qN.toNat 0):
 QN s own t i++[⟨⟨0,yX s own t i c,A,false,[],[],[],[]⟩,⟨0,yX s own t i c,A,false,[],[],[],[]⟩⟩]=QN s own t (i+1):=
 begin_snoc (begTo_B hc) hc hA
theorem sbeg_sm(hs:Qr s)(ht:vU s t)(hc:c=s.qA.length)(hA:A.length<=1000000):SmD (⟨0,yX s own t i c,A,false,[],[],[],[]⟩:zA):=beg_sm hs ht (begTo_B hc) hA
def DrawnD(n:Nat)(d:xH):Prop:=VL d/\(d.xJ≠6->d.xJ≠7->d.xJ≠8->d.fA<n)
def kinds20:yLI:=[1,1,2,2,3,3,3,4,5,5,5,6,6,6,6,7,8,9,1,2]
theorem kinds20_in(j:Nat)(h:j<20):1<=kinds20[j]! /\kinds20[j]! <=9:=by
 have:∀j:Nat,j<20->1<=kinds20[j]! /\kinds20[j]! <=9:=by decide
 exact this j h
theorem emod_srv{m:Int}(hm:1<=m):0<=x % m/\x % m<m:=⟨Int.emod_nonneg _ qf,Int.emod_lt_of_pos _ qf⟩
theorem emod_999(h:1<=n/\n<=4):0<=x % (n:Int)/\x % (n:Int)<=999:=by
 have:=emod_srv (x:=x) (m:=(n:Int)) qf
 omega
theorem drawnD_of{K a b:Int}(hk:1<=K/\K<=9)(ha:0<=a/\a<=999)(hb:0<=b/\b<=999)(h:K=3\/K=4\/b=0)(h2:K≠6->K≠7->K≠8->a<n):DrawnD n ⟨K,a,b⟩:=⟨⟨hk,ha,hb,h⟩,h2⟩
def Deeds(l:List xH):Prop:=∀k,k<l.length->VL (l[k]!)
theorem Deeds.nil:Deeds []:=fun k hk=>by simp at hk
theorem Deeds.snoc{d:xH}(h:Deeds l)(hd:VL d):Deeds (l++[d]):=fun k hk=>by
 rw[get_cat hk]
 split
 ·exact h k ql
 ·exact hd
end
end
end Go.Proofs.YtghikkinnchndaaGreat
