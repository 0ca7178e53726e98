/- Walks and laws, printed by program and by hand: what each function comes to, for all arguments, part 6. -/
import Derived.Test.YtghikkinnchndaaGreatA5
import Derived.Shelf.Bits.Mul64
namespace Go.Proofs.YtghikkinnchndaaGreat
open Go.Proofs.Tryz
set_option linter.unusedVariables false
set_option linter.unusedSimpArgs false
set_option maxRecDepth 100000
set_option maxHeartbeats 4000000
open Go.RowKit
open Go.Proofs.Tryz
open Go.Proofs.YtghikkinnchndaaGreat.Tot (tot)
open Go.Proofs.YtghikkinnchndaaGreat.Mark (dN mrk mkd mkd_mark cnt_mark)
variable{qa xY zX:yLN}{Ns:List yLN}{W0 w:World}{jz qU xC:yOA}{ps:List Prv}{t u:TypeId}{x y:Operand}{Γ:List Fact}
section
theorem l08Servers_ok(w:World)(dR:yLI){AW:yOA}{Am:Nat}{Rm:yLN}(z7:zP w Rm AW Am dR)(p0:∃n,Xw dR n):Calls Tryz.prog 101 #[Sv AW dR.length Am] w (Ret (fun v w'=>v=yI (srvTo dR dR.length)) w):=by
 refine en func101 ntmps101 ?_
 have H:=(St.start w).arg z7
 have ao2:=qM z7
 clear z7
 have N:=Fresh.nil w.heap.size
 obtain⟨m,p1⟩:=p0
 have p2:=p1.one
 refine zcr<|sp (yI 0)<|zjc<|sp (yI 0)<|zjcc<|sp (yI 0)<|zjn<|xe<|zT ((fun Z0=>fun m' ρ w1=>∃(xP:Env) (fS:Int) (i:Nat),ρ=upd (upd (upd xP 0<|Sv AW dR.length Am) 3<|yI fS) 4 (yI i)/\fS=srvTo dR i/\((i:Int)<=dR.length)/\m'=(dR.length-(i:Int)).toNat/\Fresh w.heap.size []/\St w w1 [] [Z0]) _) ((dR.length-(0:Int)).toNat) ⟨_,0,0,uE3,(by rfl),qf,rfl,N,H⟩ ?_
 clear H N
 rintro m' ρ w2 ⟨xP,fS,i,rfl,rfl,i0,rfl,N,H⟩
 refine zcc<|sp (yI i)<|sq 1<|oN rfl<|sq 1<|zjn<|cD rfl (fun h3=>?_)<|fun h3=>?_
 ·have p4:=p1.bds.2 i qf
  refine qW<|t_n<|xM<|xe<|xX<|sq 2<|sp (yI i) ?_
  obtain⟨b4,o5,rfl⟩:=H.addr 0 rfl qf
  refine oI rfl rfl<|oL rfl (H.vG 0 rfl i qf)<|sw<|zS (dR[i]!) 1 rfl rfl qf<|sw<|oq (l00Max_ok w2 (srvTo dR i) ((dR[i]!)+1)) H fun w8 H=>sq 1<|xU<|b_n<|t_n<|xX<|sp (yI i)<|sw<|zS i 1 rfl rfl qf<|sq 1<|xU<|xu (m':=(dR.length-((i+1):Int)).toNat) qf ⟨_,_,i+1,uE3,?_,?_,rfl,N,H⟩
  ·rfl
  ·omega
 refine zx4<|zcr<|sq 2<|zjr<|rH1 (yI<|srvTo dR i) H ?_
 rw[show i=dR.length by omega]
theorem begin_spec(s:qO)(own:yLI)(ap:yOA)(cp:Nat)(Fp:yLN)(ar:yOA)(cr:Nat)(Fr:yLN)(ao:yOA)(co:Nat)(Fo:yLN)(t:xn)(tA:yOA)(cA:Nat)(FA:yLN)(tB:yOA)(cB:Nat)(FB:yLN)(tU:yOA)(cU:Nat)(FU:yLN)(sb:Nat)(tb:Nat)(n:Nat)(H:St W0 w ((.box sb (yS s ap cp ar cr) 27)::(.box tb (yT t tA cA tB cB tU cU) 31)::ps) ((sF false Fp ap cp s.qA)::(sF false Fr ar cr s.qB)::(sF false Fo ao co own)::(sF false FA tA cA t.xF)::(sF false FB tB cB t.qG)::(sF false FU tU cU t.qF)::Γ))(N:Fresh W0.heap.size (Ns))(K0:Kept Ns Γ)(p0:Giv s own n)(p1:Xw own n)(p2:vU s t)(OL:∀f∈(sF false Fp ap cp s.qA::sF false Fr ar cr s.qB::sF false Fo ao co own::sF false FA tA cA t.xF::sF false FB tB cB t.qG::sF false FU tU cU t.qF::Γ),∀b∈f.F,b<W0.heap.size):Calls Tryz.prog 62 #[pp sb 0,Sv ao own.length co,pp tb 0] w (fun e w'=>∃v,e=.returned v/\∃(bk:Nat) (eB:yOA) (ee:Nat) (cz:Nat) (bV:List Value) (aC:yLN) (cF:yOA) (j9:Nat) (bH:Nat) (bL:List Value) (az:yLN),v=pp bk 0/\Fresh W0.heap.size (aC::az::Ns)/\St W0 w' ((.box sb (yS s ap cp ar cr) 27)::(.box tb (yT t tA cA tB cB tU cU) 31)::(.box bk [pp sb 0,Sv ao own.length co,Sv eB ee cz,Sv cF j9 bH] 86)::(rr eB ee cz 49 16 bV)::(rr cF j9 bH 77 4 bL)::ps) ((sF false Fp ap cp s.qA)::(sF false Fr ar cr s.qB)::(sF false Fo ao co own)::(sF false FA tA cA t.xF)::(sF false FB tB cB t.qG)::(sF false FU tU cU t.qF)::(qQ true aC bV ((xg s own t n).qE))::(qQ true az bL ((xg s own t n).x9))::Γ)):=by
 refine en func62 ntmps62 ?_
 have Ir:=qM (H.get 2 rfl).1
 have e1:=srvTo_all p1
 have e2:=p1.one
 have e3:∃n,Xw own n:=⟨n,p1⟩
 have e4:=p1.bds.1
 have p6:own.length=s.qA.length:=p0.len
 have p7:=p0.sys.1.2.1
 have p8:zM s=s.qA.length:=rfl
 have p9:=p0.sys.1.1
 have p11:=p2.2.1
 have b3:=(vP p2.2.2.2.1).1
 refine zcr<|sq 1<|zjc<|sq 2<|sw<|jE [pp sb 0,Sv ao own.length co,yN,yN] [(0,pp sb 0),(1,Sv ao own.length co)]<|sw<|jq H [pp sb 0,Sv ao own.length co,yN,yN] fun b1 w2 H=>sq 1<|zjcc<|sp (yI 0)<|zjn<|xe ?_
 replace H:=H.nilRow 49 16
 replace H:=H.yD (α:=zu)
 refine zT ((fun Z0 Z1 Z2 Z3 Z4 Z5 Z6 Z7=>fun m' ρ w3=>∃(xP:Env) (k:Nat) (gp:yOA) (Vb:Nat) (gu:Nat) (bC:List zu) (jm:List Value) (qY:yLN),ρ=upd (upd (upd (upd (upd xP 0<|pp sb 0) 1<|Sv ao own.length co) 2<|pp tb 0) 7<|pp b1 0) 8 (yI k)/\bC=QN s own t k/\((k:Int)<=(srvTo own own.length))/\m'=((srvTo own own.length)-(k:Int)).toNat/\Fresh W0.heap.size (qY::Ns)/\St W0 w3 ((rr gp Vb gu 49 16 jm)::(.box b1 [pp sb 0,Sv ao own.length co,Sv gp Vb gu,yN] 86)::Z0::Z1::ps) ((qQ true qY jm bC)::Z2::Z3::Z4::Z5::Z6::Z7::Γ)) _ _ _ _ _ _ _ _) (((srvTo own own.length)-(0:Int)).toNat) ⟨_,0,none,0,0,([]:List zu),[],[],uE5,(by rfl),qf,rfl,N.emp,H⟩ ?_
 clear H N
 rintro m' ρ w4 ⟨xP,k,gp,Vb,gu,bC,jm,qY,rfl,rfl,i0,rfl,N,H⟩
 have np:=H.xk (α:=zu) 0 rfl 0 rfl qj
 have kl:=beginTo_len s own t k
 refine zcc<|sp (yI k)<|sq 1<|sw<|oq (l08Servers_ok _ own (H.get 3 rfl).1 qg) H fun w6 H=>sq 1<|zjn<|cD rfl (fun h8=>?_)<|fun h8=>?_
 ·refine qW (t_n<|xM<|xe<|zcr<|sq 2<|oF rfl<|oL rfl (H.cell 2 rfl rfl)<|sw<|jP H underlying24 ti2 s.qN.toNat rfl rfl qf qf qf fun b9 sI H=>sw<|jE [yI 0,yN,Sv (aa b9 0) s.qN.toNat s.qN.toNat,Bv false,yN,yN,yN,yN] [(2,Sv (aa b9 0) s.qN.toNat s.qN.toNat)]<|sw<|zn H ti47 [yI 0,yN,yN,Bv false,yN,yN,yN,yN] fun sT G7 H=>(sw<|zF H 0 [yI 0,yN,Sv (aa b9 0) s.qN.toNat s.qN.toNat,Bv false,yN,yN,yN,yN] sizeOf47 fun Dv H=>?_))
  dsimp only[List.set] at H
  refine zjcc<|sp (yI 0)<|zjn<|xe ?_
  replace H:=H.nilRow 24 1
  replace H:=H.yD (α:=yLI)
  refine zT ((fun Z0 Z1 Z2 Z3 Z4 Z5 Z6 Z7 Z8 Z9 fi fK=>fun m' ρ Um=>∃(xP:Env) (c:Nat) (VB:yOA) (XQ:Nat) (Vy:Nat) (aR:yLL) (Xb:List Value) (jf:yLN),ρ=upd (upd (upd (upd (upd (upd (upd xP 0<|pp sb 0) 1<|Sv ao own.length co) 2<|pp tb 0) 7<|pp b1 0) 8<|yI k) 9<|pp sT 0) 10 (yI c)/\aR=yX s own t k c/\((c:Int)<=own.length)/\m'=(own.length-(c:Int)).toNat/\Fresh W0.heap.size (qY::jf::Ns)/\St W0 Um ((rr VB XQ Vy 24 1 Xb)::(.box sT [yI 0,Sv VB XQ Vy,Sv (aa b9 0) s.qN.toNat s.qN.toNat,Bv false,yN,yN,yN,yN] 47)::Z0::Z1::Z2::Z3::Z4::ps) ((qQ true jf Xb aR)::Z5::Z6::Z7::Z8::Z9::fi::fK::Γ)) _ _ _ _ _ _ _ _ _ _ _ _) ((own.length-(0:Int)).toNat) ⟨_,0,none,0,0,([]:yLL),[],[],uE7,(by rfl),qf,rfl,(N.emp.xm 2 [1,0]<|by simp only[List.length_cons,List.length_append];omega),H⟩ ?_
  clear H N
  rintro m' ρ H7 ⟨xP,c,VB,XQ,Vy,aR,Xb,jf,rfl,rfl,i0,rfl,N,H⟩
  have sa:=H.xk (α:=yLI) 0 rfl 0 rfl qj
  have bl:(yX s own t k c).length=c:=begTo_len
  refine zcc<|sp (yI c)<|sq 1<|oN rfl<|sq 1<|zjn<|cD rfl (fun Ij=>?_)<|fun Ij=>?_
  ·refine qW (t_n<|xM<|xe<|zcr<|sq 1<|sp (yI c) ?_)
   obtain⟨l7,o18,rfl⟩:=H.addr 4 rfl qf
   refine oI rfl rfl<|oL rfl (H.vG 4 rfl c qf)<|sp (yI k)<|sq 1<|zjn<|cE rfl (fun zv=>?_)<|fun zv=>?_
   ·refine vK 3 rfl H [0,1,2,3,4,5,6] [0,1,2,3,4,5,6,7] fun H=>?_
    dsimp only[yg,yL]
    have S:=H.zW (zR 0 7)<|zR 0 8
    refine tF 0 rfl rfl S ?_
    refine tL 1 rfl rfl (fun _ h=>h.cell 1 rfl rfl) S ?_
    refine rtl 2 S ?_
    refine rtl 3 S ?_
    refine tF 4 rfl rfl S ?_
    refine tL 5 rfl rfl (fun _ h=>h.cell 6 rfl rfl) S ?_
    refine rtp 6 (yI c) S ?_
    obtain⟨wN,o23,rfl⟩:=H.addr 6 rfl qf
    obtain⟨auU,atO,aHx,H⟩:=H.yB 6 rfl c c qf qf qf
    refine tI 7 rfl rfl rfl (H.pick (zR 0 7)<|zR 2 8)<|ro 8 rfl<|zJ (Sv auU ((t.qG[c]!).length) atO) isAgg24 rfl (H.zG 1 rfl 0 rfl)<|⟨H.pick (zR 0 7)<|zR 2 8,(ro 9 rfl ?_)⟩
    (have b2:=(vP (p2.2.2.2.2 c qf).1).1)
    refine oc (Vl _ (t.qG[c]!) (H.get 0 rfl).1 qg) ?_
    rintro v31 JJ r31 x30
    replace H:=H.zV x30 r31
    obtain⟨a32,c33,rfl,aFQ,aE4⟩:=H.yf 0 rfl
    refine⟨H.pick (zR 1 7)<|zR 2 8,(ro 10 rfl<|zy H underlying29 ti24 [Sv a32 ((t.qG[c]!).length) c33] fun Zb w37 H=>⟨H.pick (zR 2 7)<|zR 2 8,(xy qh<|xZ ?_)⟩)⟩
    obtain⟨G41,N,aGl,H⟩:=H.vJ 1 rfl N<|fun F hF b hb=>(List.mem_append.1<|show F∈[qY,jf]++Ns from hF).elim (fun h=>(H.vV (L:=[qY,jf]) [3,2]) F h b hb) fun h=>H.jT (K0.behind 10 rfl) F h b hb
    dsimp only[List.set] at H
    refine sw<|zH H 2 rfl 0 rfl underlying29 ti24 rfl qj rfl rfl rfl qw qp qf fun a38 c39 w40 H=>?_
    dsimp only[List.set] at H
    replace H:=H.Q5 3 rfl 0 rfl
    replace N:Fresh W0.heap.size ((jf++G41)::qY::Ns):=(N.xm 3 [2,0,1]<|by simp only[List.length_cons,List.length_append];omega).join
    refine oF rfl<|sw<|zh H 3 [yI 0,Sv a38 (XQ+1) c39,Sv (aa b9 0) s.qN.toNat s.qN.toNat,Bv false,yN,yN,yN,yN] sizeOf29 fun UM H=>?_
    dsimp only[List.set] at H
    refine xU<|b_n<|t_n<|xX<|sp (yI c)<|sw<|zS c 1 rfl rfl qf<|sq 1<|xU<|xu (m':=(own.length-((c+1):Int)).toNat) qf ⟨_,c+1,_,_,_,_,_,_,uE7,?_,?_,rfl,(N.xm 2 [1,0]<|by simp only[List.length_cons,List.length_append];omega),H.xm 9 12 (zR 2 7) (0::zR 5 7) (by simp only[List.length_cons,List.length_append];omega)<|by simp only[List.length_cons,List.length_append];omega⟩
    ·exact begTo_yes ql
    ·omega
   refine vK 3 rfl H [0,1,2,3,4,5,6] [0,1,2,3,4,5,6,7] fun H=>?_
   dsimp only[yg,yL]
   have S:=H.zW (zR 0 7)<|zR 0 8
   refine tF 0 rfl rfl S ?_
   refine tL 1 rfl rfl (fun _ h=>h.cell 1 rfl rfl) S ?_
   refine rtl 2 S ?_
   refine rtl 3 S ?_
   refine tF 4 rfl rfl S ?_
   refine tL 5 rfl rfl (fun _ h=>h.cell 5 rfl rfl) S ?_
   refine ro 6 rfl<|jP H underlying24 ti2 s.qN.toNat rfl rfl qf qf qf fun b45 SF H=>⟨H.pick (zR 1 7)<|zR 0 8,(ro 7 rfl<|zy H underlying29 ti24 [Sv (aa b45 0) s.qN.toNat s.qN.toNat] fun b47 w48 H=>⟨H.pick (zR 2 7)<|zR 0 8,(xy qh<|xZ ?_)⟩)⟩
   obtain⟨IB,N,auu,H⟩:=H.vJ 1 rfl N<|fun F hF b hb=>(List.mem_append.1<|show F∈[qY,jf]++Ns from hF).elim (fun h=>(H.vV (L:=[qY,jf]) [1,0]) F h b hb) fun h=>H.jT (K0.behind 8 rfl) F h b hb
   dsimp only[List.set] at H
   refine sw<|zH H 2 rfl 0 rfl underlying29 ti24 rfl qj rfl rfl rfl qw qp qf fun W9 TU w51 H=>?_
   dsimp only[List.set] at H
   replace H:=H.Q5 1 rfl 0 rfl
   replace N:Fresh W0.heap.size ((jf++IB)::qY::Ns):=(N.xm 3 [2,0,1]<|by simp only[List.length_cons,List.length_append];omega).join
   refine oF rfl<|sw<|zh H 3 [yI 0,Sv W9 (XQ+1) TU,Sv (aa b9 0) s.qN.toNat s.qN.toNat,Bv false,yN,yN,yN,yN] sizeOf29 fun w54 H=>?_
   dsimp only[List.set] at H
   refine xU<|b_n<|t_n<|xX<|sp (yI c)<|sw<|zS c 1 rfl rfl qf<|sq 1<|xU<|xu (m':=(own.length-((c+1):Int)).toNat) qf ⟨_,c+1,_,_,_,_,_,_,uE7,?_,?_,rfl,(N.xm 2 [1,0]<|by simp only[List.length_cons,List.length_append];omega),H.xm 9 10 (zR 2 7) (0::zR 3 7) (by simp only[List.length_cons,List.length_append];omega)<|by simp only[List.length_cons,List.length_append];omega⟩
   ·exact begTo_no ql
   ·omega
  refine zx4<|zcc<|sq 1 ?_
  obtain⟨PI,o56,rfl⟩:=H.addr 4 rfl qf
  refine oI rfl rfl<|oL rfl (H.vG 4 rfl 0 qf)<|sp (yI k)<|sq 1<|zjn<|cE rfl (fun Ko=>?_)<|fun Ko=>?_
  ·refine xX (sq 2<|oF rfl<|oL rfl (H.cell 6 rfl rfl)<|sw<|oc (Vl _ t.qF (H.get 7 rfl).1 qg) ?_)
   rintro v64 w62 r64 x63
   replace H:=H.zV x63 r64
   obtain⟨a65,c66,rfl,aHU,aDN⟩:=H.yf 0 rfl
   refine oF rfl<|sw<|zh H 2 [yI 0,Sv VB XQ Vy,Sv a65 t.qF.length c66,Bv false,yN,yN,yN,yN] sizeOf24 fun w69 H=>?_
   dsimp only[List.set] at H
   refine zjn<|vK 4 rfl H [2,3,5,6,7] [0,1,2,3,4,5,6,7] fun H=>?_
   dsimp only[yg,yL]
   have S:=H.zW [2,3,5,6,7]<|zR 0 8
   refine rtl 0 S ?_
   refine rtl 1 S ?_
   refine rtl 2 S ?_
   refine tF 3 rfl rfl S ?_
   refine tF 4 rfl rfl S ?_
   refine tL 5 rfl rfl (fun _ h=>h.cell 2 rfl rfl) S ?_
   refine rt 6 _ (Qg (cs:=[yI 0,Sv VB XQ Vy,Sv a65 t.qF.length c66,Bv false,yN,yN,yN,yN]) isAgg47 sizeOf47 rfl<|fun _ h=>qH (h.cells 0 rfl) 0 8) S ?_
   refine ro 7 rfl ?_
   obtain⟨G71,abM,h73⟩:=H.Vg (α:=yLI) 1 rfl 0 rfl qj
   obtain⟨G74,apv,h76⟩:=H.rowIsI 0 rfl
   replace H:=H.addNil (α:=Bool)
   replace H:=H.addNil (α:=yLI)
   replace H:=H.addNil (α:=yLL)
   have abG:=H.base.size
   have abu:=jL (H.ltN (L:=[qY,jf]) [4,3])<|H.ltK<|K0.behind 11 rfl
   refine oc (l08Copy_ok _ (⟨0,(yX s own t k c),t.qF,false,([]:List Bool),([]:yLL),([]:List yLL),([]:List yLL)⟩:zA) (by have hz:=(qH (H.cells 2 rfl) 0 8);rw[abM] at hz;exact hz) (abM▸h73) h76 (H.get 2 rfl).1 (H.get 1 rfl).1 (H.get 0 rfl).1 (H.get 0 rfl).1<|by exact sbeg_sm p0.sys p2 qf<|by omega) ?_
   rintro _ w78 ⟨vp,ak0,wo,afB,nM,oW,YV,oV,A4,aq3,A7,oD,aaa,oS,ab7,dC,z5,arR,Bz,aq2,er,vf,afg,vD,ajJ,dh,rfl,M,K⟩ _
   replace N:=N.merge abG abu M
   replace H:=H.merge K M
   dsimp only[List.cons_append,List.nil_append] at H
   obtain rfl:=H.xk (α:=yLI) 0 rfl 0 rfl qj
   obtain rfl:=H.Qc 1 rfl
   obtain rfl:=H.rowNB 2 rfl
   obtain rfl:=H.xk (α:=yLI) 3 rfl 1 rfl qj
   obtain rfl:=H.xk (α:=yLL) 4 rfl 2 rfl qj
   obtain rfl:=H.xk (α:=yLL) 5 rfl 3 rfl qj
   refine⟨H.pick [8,9,11,12,13]<|zR 7 8,(ro 8 rfl ?_)⟩
   refine jE [yI 0,Sv VB XQ Vy,Sv a65 t.qF.length c66,Bv false,yN,yN,yN,yN,yI ((⟨0,(yX s own t k c),t.qF,false,([]:List Bool),([]:yLL),([]:List yLL),([]:List yLL)⟩:zA).qP),Sv vp (((⟨0,(yX s own t k c),t.qF,false,([]:List Bool),([]:yLL),([]:List yLL),([]:List yLL)⟩:zA).qG).length) wo,Sv oW (((⟨0,(yX s own t k c),t.qF,false,([]:List Bool),([]:yLL),([]:List yLL),([]:List yLL)⟩:zA).qF).length) oV,Bv ((⟨0,(yX s own t k c),t.qF,false,([]:List Bool),([]:yLL),([]:List yLL),([]:List yLL)⟩:zA).qV),Sv A4 (((⟨0,(yX s own t k c),t.qF,false,([]:List Bool),([]:yLL),([]:List yLL),([]:List yLL)⟩:zA).vM).length) A7,Sv oD (((⟨0,(yX s own t k c),t.qF,false,([]:List Bool),([]:yLL),([]:List yLL),([]:List yLL)⟩:zA).qL).length) oS,Sv z5 (((⟨0,(yX s own t k c),t.qF,false,([]:List Bool),([]:yLL),([]:List yLL),([]:List yLL)⟩:zA).vX).length) Bz,Sv vf (((⟨0,(yX s own t k c),t.qF,false,([]:List Bool),([]:yLL),([]:List yLL),([]:List yLL)⟩:zA).x8).length) vD] [(0,.agg #[yI 0,Sv VB XQ Vy,Sv a65 t.qF.length c66,Bv false,yN,yN,yN,yN]),(1,.agg #[yI ((⟨0,(yX s own t k c),t.qF,false,([]:List Bool),([]:yLL),([]:List yLL),([]:List yLL)⟩:zA).qP),Sv vp (((⟨0,(yX s own t k c),t.qF,false,([]:List Bool),([]:yLL),([]:List yLL),([]:List yLL)⟩:zA).qG).length) wo,Sv oW (((⟨0,(yX s own t k c),t.qF,false,([]:List Bool),([]:yLL),([]:List yLL),([]:List yLL)⟩:zA).qF).length) oV,Bv ((⟨0,(yX s own t k c),t.qF,false,([]:List Bool),([]:yLL),([]:List yLL),([]:List yLL)⟩:zA).qV),Sv A4 (((⟨0,(yX s own t k c),t.qF,false,([]:List Bool),([]:yLL),([]:List yLL),([]:List yLL)⟩:zA).vM).length) A7,Sv oD (((⟨0,(yX s own t k c),t.qF,false,([]:List Bool),([]:yLL),([]:List yLL),([]:List yLL)⟩:zA).qL).length) oS,Sv z5 (((⟨0,(yX s own t k c),t.qF,false,([]:List Bool),([]:yLL),([]:List yLL),([]:List yLL)⟩:zA).vX).length) Bz,Sv vf (((⟨0,(yX s own t k c),t.qF,false,([]:List Bool),([]:yLL),([]:List yLL),([]:List yLL)⟩:zA).x8).length) vD])]<|⟨H.pick [8,9,11,12,13]<|zR 7 8,(ro 9 rfl ?_)⟩
   refine zy H underlying36 ti49 [yI 0,Sv VB XQ Vy,Sv a65 t.qF.length c66,Bv false,yN,yN,yN,yN,yI ((⟨0,(yX s own t k c),t.qF,false,([]:List Bool),([]:yLL),([]:List yLL),([]:List yLL)⟩:zA).qP),Sv vp (((⟨0,(yX s own t k c),t.qF,false,([]:List Bool),([]:yLL),([]:List yLL),([]:List yLL)⟩:zA).qG).length) wo,Sv oW (((⟨0,(yX s own t k c),t.qF,false,([]:List Bool),([]:yLL),([]:List yLL),([]:List yLL)⟩:zA).qF).length) oV,Bv ((⟨0,(yX s own t k c),t.qF,false,([]:List Bool),([]:yLL),([]:List yLL),([]:List yLL)⟩:zA).qV),Sv A4 (((⟨0,(yX s own t k c),t.qF,false,([]:List Bool),([]:yLL),([]:List yLL),([]:List yLL)⟩:zA).vM).length) A7,Sv oD (((⟨0,(yX s own t k c),t.qF,false,([]:List Bool),([]:yLL),([]:List yLL),([]:List yLL)⟩:zA).qL).length) oS,Sv z5 (((⟨0,(yX s own t k c),t.qF,false,([]:List Bool),([]:yLL),([]:List yLL),([]:List yLL)⟩:zA).vX).length) Bz,Sv vf (((⟨0,(yX s own t k c),t.qF,false,([]:List Bool),([]:yLL),([]:List yLL),([]:List yLL)⟩:zA).x8).length) vD] fun b88 w89 H=>(⟨H.pick [9,10,12,13,14]<|zR 7 8,(ro 10 rfl ?_)⟩)
   have H0:=H
   obtain⟨xV,agA,aC4,H⟩:=H.jA (α:=yLI) 8 rfl 7 rfl qj
   replace N:Fresh W0.heap.size (xV::nM::dC::er::dh::qY::Ns):=Fresh.ice (N.xm 6 (5::zR 0 5)<|by simp only[List.length_cons,List.length_append];omega) H0 8 agA.1 agA.2<|fun F hF b hb=>(List.mem_append.1<|show F∈[nM,dC,er,dh,qY]++Ns from hF).elim (fun h=>(H0.vV (L:=[nM,dC,er,dh,qY]) [0,1,2,3,8]) F h b hb) fun h=>H0.jT (K0.behind 15 rfl) F h b hb
   clear H0
   dsimp only[List.set] at H
   obtain⟨Cc,N,aE5,H⟩:=H.vJ 7 rfl N<|fun F hF b hb=>(List.mem_append.1<|show F∈[xV,nM,dC,er,dh,qY]++Ns from hF).elim (fun h=>(H.vV (L:=[xV,nM,dC,er,dh,qY]) [0,1,2,3,4,9]) F h b hb) fun h=>H.jT (K0.behind 16 rfl) F h b hb
   dsimp only[List.set] at H
   have H0:=H
   obtain⟨El,WY,aGB,H⟩:=H.jA (α:=yLI) 1 rfl 2 rfl qj
   replace N:Fresh W0.heap.size (El::Cc::xV::dC::er::dh::qY::Ns):=Fresh.ice (N.xm 7 [2,0,1,3,4,5,6]<|by simp only[List.length_cons,List.length_append];omega) H0 1 WY.1 WY.2<|fun F hF b hb=>(List.mem_append.1<|show F∈[Cc,xV,dC,er,dh,qY]++Ns from hF).elim (fun h=>(H0.vV (L:=[Cc,xV,dC,er,dh,qY]) [0,1,3,4,5,10]) F h b hb) fun h=>H0.jT (K0.behind 17 rfl) F h b hb
   clear H0
   dsimp only[List.set] at H
   obtain⟨s7,N,aAr,H⟩:=H.vJ 2 rfl N<|fun F hF b hb=>(List.mem_append.1<|show F∈[El,Cc,xV,dC,er,dh,qY]++Ns from hF).elim (fun h=>(H.vV (L:=[El,Cc,xV,dC,er,dh,qY]) [0,1,2,4,5,6,11]) F h b hb) fun h=>H.jT (K0.behind 18 rfl) F h b hb
   dsimp only[List.set] at H
   obtain⟨m6,N,aAL,H⟩:=H.freezeB 3 rfl N<|fun F hF b hb=>(List.mem_append.1<|show F∈[s7,El,Cc,xV,dC,er,dh,qY]++Ns from hF).elim (fun h=>(H.vV (L:=[s7,El,Cc,xV,dC,er,dh,qY]) [0,1,2,3,5,6,7,12]) F h b hb) fun h=>H.jT (K0.behind 19 rfl) F h b hb
   dsimp only[List.set] at H
   have H0:=H
   obtain⟨Ba,TV,Ku,H⟩:=H.jA (α:=yLI) 4 rfl 6 rfl qj
   replace N:Fresh W0.heap.size (Ba::m6::s7::El::Cc::xV::er::dh::qY::Ns):=Fresh.ice (N.xm 9 [5,0,1,2,3,4,6,7,8]<|by simp only[List.length_cons,List.length_append];omega) H0 4 TV.1 TV.2<|fun F hF b hb=>(List.mem_append.1<|show F∈[m6,s7,El,Cc,xV,er,dh,qY]++Ns from hF).elim (fun h=>(H0.vV (L:=[m6,s7,El,Cc,xV,er,dh,qY]) [0,1,2,3,4,7,8,13]) F h b hb) fun h=>H0.jT (K0.behind 20 rfl) F h b hb
   clear H0
   dsimp only[List.set] at H
   have H0:=H
   obtain⟨LT,Uc,az8,H⟩:=H.jA (α:=yLL) 5 rfl 8 rfl qj
   replace N:Fresh W0.heap.size (LT::Ba::m6::s7::El::Cc::xV::dh::qY::Ns):=Fresh.ice (N.xm 9 [6,0,1,2,3,4,5,7,8]<|by simp only[List.length_cons,List.length_append];omega) H0 5 Uc.1 Uc.2<|fun F hF b hb=>(List.mem_append.1<|show F∈[Ba,m6,s7,El,Cc,xV,dh,qY]++Ns from hF).elim (fun h=>(H0.vV (L:=[Ba,m6,s7,El,Cc,xV,dh,qY]) [0,1,2,3,4,5,9,14]) F h b hb) fun h=>H0.jT (K0.behind 21 rfl) F h b hb
   clear H0
   dsimp only[List.set] at H
   have H0:=H
   obtain⟨apP,UK,aAO,H⟩:=H.jA (α:=yLL) 6 rfl 10 rfl qj
   replace N:Fresh W0.heap.size (apP::LT::Ba::m6::s7::El::Cc::xV::qY::Ns):=Fresh.ice (N.xm 9 [7,0,1,2,3,4,5,6,8]<|by simp only[List.length_cons,List.length_append];omega) H0 6 UK.1 UK.2<|fun F hF b hb=>(List.mem_append.1<|show F∈[LT,Ba,m6,s7,El,Cc,xV,qY]++Ns from hF).elim (fun h=>(H0.vV (L:=[LT,Ba,m6,s7,El,Cc,xV,qY]) [0,1,2,3,4,5,6,15]) F h b hb) fun h=>H0.jT (K0.behind 22 rfl) F h b hb
   clear H0
   dsimp only[List.set] at H
   refine zH H 11 rfl 0 rfl underlying36 ti49 rfl qj rfl rfl rfl qw qp qf fun a90 c91 w92 H=>?_
   dsimp only[List.set] at H
   replace H:=H.snoc_ServerD 16 rfl 0 7 rfl 6 rfl false 14 rfl 13 rfl 12 rfl 12 rfl ((⟨0,(yX s own t k c),t.qF,false,([]:List Bool),([]:yLL),([]:List yLL),([]:List yLL)⟩:zA).qP) 5 rfl 4 rfl ((⟨0,(yX s own t k c),t.qF,false,([]:List Bool),([]:yLL),([]:List yLL),([]:List yLL)⟩:zA).qV) 3 rfl 2 rfl 1 rfl 0 rfl
   replace N:Fresh W0.heap.size ((qY++(xV++Cc++[]++[]++[]++[]++El++s7++m6++Ba++LT++apP))::Ns):=(N.emp.emp.emp.emp.xm 13 [11,10,0,1,2,3,9,8,7,6,5,4,12]<|by simp only[List.length_cons,List.length_append];omega).join.join.join.join.join.join.join.join.join.join.join.swap.join
   refine⟨H.pick [9,10,12,13,14]<|zR 16 8,(xy qh<|xZ<|sq 1<|oF rfl<|oF rfl<|sw<|zh H 12 [pp sb 0,Sv (aa PI o56) own.length co,Sv a90 (Vb+1) c91,yN] sizeOf36 fun OT H=>?_)⟩
   dsimp only[List.set] at H
   refine xU<|b_n<|t_n<|xX<|sp (yI k)<|sw<|zS k 1 rfl rfl qf<|sq 1<|xU<|xu (m':=((srvTo own own.length)-((k+1):Int)).toNat) qf ⟨_,k+1,_,_,_,_,_,_,uE5,?_,?_,rfl,N,H.xm 15 24 (zR 11 4) (0::zR 18 6) (by simp only[List.length_cons,List.length_append];omega)<|by simp only[List.length_cons,List.length_append];omega⟩
   ·exact sbegin_snoc qf<|by exact(if_pos ql).symm
   ·omega
  refine qW<|t_n<|vK 4 rfl H [1,4,5,6] [0,1,2,3,4,5,6,7] fun H=>?_
  dsimp only[yg,yL]
  have S:=H.zW [1,4,5,6]<|zR 0 8
  refine rtl 0 S ?_
  refine rtl 1 S ?_
  refine rtl 2 S ?_
  refine tF 3 rfl rfl S ?_
  refine tF 4 rfl rfl S ?_
  refine tL 5 rfl rfl (fun _ h=>h.cell 1 rfl rfl) S ?_
  refine rt 6 _ (Qg (cs:=[yI 0,Sv VB XQ Vy,Sv (aa b9 0) s.qN.toNat s.qN.toNat,Bv false,yN,yN,yN,yN]) isAgg47 sizeOf47 rfl<|fun _ h=>qH (h.cells 0 rfl) 0 8) S ?_
  refine ro 7 rfl ?_
  obtain⟨KD,U9,atJ⟩:=H.Vg (α:=yLI) 0 rfl 0 rfl qj
  obtain⟨xr,apr,aaE⟩:=H.rowIsI 2 rfl
  replace H:=H.addNil (α:=Bool)
  replace H:=H.addNil (α:=yLI)
  replace H:=H.addNil (α:=yLL)
  have ahW:=H.base.size
  have ahp:=jL (H.ltN (L:=[qY,jf]) [4,3])<|H.ltK<|K0.behind 11 rfl
  refine oc (l08Copy_ok _ (⟨0,(yX s own t k c),(List.replicate s.qN.toNat (0:Int)),false,([]:List Bool),([]:yLL),([]:List yLL),([]:List yLL)⟩:zA) (by have hz:=(qH (H.cells 1 rfl) 0 8);rw[U9] at hz;exact hz.to<|by simp only[List.length_replicate] <;> rfl) (U9▸atJ) (rep_at apr aaE) (H.get 2 rfl).1 (H.get 1 rfl).1 (H.get 0 rfl).1 (H.get 0 rfl).1<|by exact sbeg_sm p0.sys p2 qf<|by omega) ?_
  rintro _ MB ⟨rk,adZ,rJ,ac5,kS,m7,Ww,nb,ua,akS,uk,mP,Tq,nk,Tu,de,uV,agl,wD,apU,dQ,rO,ac3,r8,adi,cY,rfl,M,K⟩ _
  replace N:=N.merge ahW ahp M
  replace H:=H.merge K M
  dsimp only[List.cons_append,List.nil_append] at H
  obtain rfl:=H.xk (α:=yLI) 0 rfl 0 rfl qj
  obtain rfl:=H.Qc 1 rfl
  obtain rfl:=H.rowNB 2 rfl
  obtain rfl:=H.xk (α:=yLI) 3 rfl 1 rfl qj
  obtain rfl:=H.xk (α:=yLL) 4 rfl 2 rfl qj
  obtain rfl:=H.xk (α:=yLL) 5 rfl 3 rfl qj
  refine⟨H.pick [7,10,11,12]<|zR 7 8,(ro 8 rfl ?_)⟩
  refine jE [yI 0,Sv VB XQ Vy,Sv (aa b9 0) s.qN.toNat s.qN.toNat,Bv false,yN,yN,yN,yN,yI ((⟨0,(yX s own t k c),(List.replicate s.qN.toNat (0:Int)),false,([]:List Bool),([]:yLL),([]:List yLL),([]:List yLL)⟩:zA).qP),Sv rk (((⟨0,(yX s own t k c),(List.replicate s.qN.toNat (0:Int)),false,([]:List Bool),([]:yLL),([]:List yLL),([]:List yLL)⟩:zA).qG).length) rJ,Sv m7 (((⟨0,(yX s own t k c),(List.replicate s.qN.toNat (0:Int)),false,([]:List Bool),([]:yLL),([]:List yLL),([]:List yLL)⟩:zA).qF).length) nb,Bv ((⟨0,(yX s own t k c),(List.replicate s.qN.toNat (0:Int)),false,([]:List Bool),([]:yLL),([]:List yLL),([]:List yLL)⟩:zA).qV),Sv ua (((⟨0,(yX s own t k c),(List.replicate s.qN.toNat (0:Int)),false,([]:List Bool),([]:yLL),([]:List yLL),([]:List yLL)⟩:zA).vM).length) uk,Sv mP (((⟨0,(yX s own t k c),(List.replicate s.qN.toNat (0:Int)),false,([]:List Bool),([]:yLL),([]:List yLL),([]:List yLL)⟩:zA).qL).length) nk,Sv uV (((⟨0,(yX s own t k c),(List.replicate s.qN.toNat (0:Int)),false,([]:List Bool),([]:yLL),([]:List yLL),([]:List yLL)⟩:zA).vX).length) wD,Sv rO (((⟨0,(yX s own t k c),(List.replicate s.qN.toNat (0:Int)),false,([]:List Bool),([]:yLL),([]:List yLL),([]:List yLL)⟩:zA).x8).length) r8] [(0,.agg #[yI 0,Sv VB XQ Vy,Sv (aa b9 0) s.qN.toNat s.qN.toNat,Bv false,yN,yN,yN,yN]),(1,.agg #[yI ((⟨0,(yX s own t k c),(List.replicate s.qN.toNat (0:Int)),false,([]:List Bool),([]:yLL),([]:List yLL),([]:List yLL)⟩:zA).qP),Sv rk (((⟨0,(yX s own t k c),(List.replicate s.qN.toNat (0:Int)),false,([]:List Bool),([]:yLL),([]:List yLL),([]:List yLL)⟩:zA).qG).length) rJ,Sv m7 (((⟨0,(yX s own t k c),(List.replicate s.qN.toNat (0:Int)),false,([]:List Bool),([]:yLL),([]:List yLL),([]:List yLL)⟩:zA).qF).length) nb,Bv ((⟨0,(yX s own t k c),(List.replicate s.qN.toNat (0:Int)),false,([]:List Bool),([]:yLL),([]:List yLL),([]:List yLL)⟩:zA).qV),Sv ua (((⟨0,(yX s own t k c),(List.replicate s.qN.toNat (0:Int)),false,([]:List Bool),([]:yLL),([]:List yLL),([]:List yLL)⟩:zA).vM).length) uk,Sv mP (((⟨0,(yX s own t k c),(List.replicate s.qN.toNat (0:Int)),false,([]:List Bool),([]:yLL),([]:List yLL),([]:List yLL)⟩:zA).qL).length) nk,Sv uV (((⟨0,(yX s own t k c),(List.replicate s.qN.toNat (0:Int)),false,([]:List Bool),([]:yLL),([]:List yLL),([]:List yLL)⟩:zA).vX).length) wD,Sv rO (((⟨0,(yX s own t k c),(List.replicate s.qN.toNat (0:Int)),false,([]:List Bool),([]:yLL),([]:List yLL),([]:List yLL)⟩:zA).x8).length) r8])] ?_
  refine⟨H.pick [7,10,11,12]<|zR 7 8,(ro 9 rfl ?_)⟩
  refine zy H underlying36 ti49 [yI 0,Sv VB XQ Vy,Sv (aa b9 0) s.qN.toNat s.qN.toNat,Bv false,yN,yN,yN,yN,yI ((⟨0,(yX s own t k c),(List.replicate s.qN.toNat (0:Int)),false,([]:List Bool),([]:yLL),([]:List yLL),([]:List yLL)⟩:zA).qP),Sv rk (((⟨0,(yX s own t k c),(List.replicate s.qN.toNat (0:Int)),false,([]:List Bool),([]:yLL),([]:List yLL),([]:List yLL)⟩:zA).qG).length) rJ,Sv m7 (((⟨0,(yX s own t k c),(List.replicate s.qN.toNat (0:Int)),false,([]:List Bool),([]:yLL),([]:List yLL),([]:List yLL)⟩:zA).qF).length) nb,Bv ((⟨0,(yX s own t k c),(List.replicate s.qN.toNat (0:Int)),false,([]:List Bool),([]:yLL),([]:List yLL),([]:List yLL)⟩:zA).qV),Sv ua (((⟨0,(yX s own t k c),(List.replicate s.qN.toNat (0:Int)),false,([]:List Bool),([]:yLL),([]:List yLL),([]:List yLL)⟩:zA).vM).length) uk,Sv mP (((⟨0,(yX s own t k c),(List.replicate s.qN.toNat (0:Int)),false,([]:List Bool),([]:yLL),([]:List yLL),([]:List yLL)⟩:zA).qL).length) nk,Sv uV (((⟨0,(yX s own t k c),(List.replicate s.qN.toNat (0:Int)),false,([]:List Bool),([]:yLL),([]:List yLL),([]:List yLL)⟩:zA).vX).length) wD,Sv rO (((⟨0,(yX s own t k c),(List.replicate s.qN.toNat (0:Int)),false,([]:List Bool),([]:yLL),([]:List yLL),([]:List yLL)⟩:zA).x8).length) r8] fun S2 ans H=>(⟨H.pick [8,11,12,13]<|zR 7 8,(ro 10 rfl ?_)⟩)
  have H0:=H
  obtain⟨ku,TZ,agw,H⟩:=H.jA (α:=yLI) 7 rfl 7 rfl qj
  replace N:Fresh W0.heap.size (ku::kS::de::dQ::cY::qY::Ns):=Fresh.ice (N.xm 6 (5::zR 0 5)<|by simp only[List.length_cons,List.length_append];omega) H0 7 TZ.1 TZ.2<|fun F hF b hb=>(List.mem_append.1<|show F∈[kS,de,dQ,cY,qY]++Ns from hF).elim (fun h=>(H0.vV (L:=[kS,de,dQ,cY,qY]) [0,1,2,3,8]) F h b hb) fun h=>H0.jT (K0.behind 15 rfl) F h b hb
  clear H0
  dsimp only[List.set] at H
  obtain⟨gD,N,aj8,H⟩:=H.vJ 9 rfl N<|fun F hF b hb=>(List.mem_append.1<|show F∈[ku,kS,de,dQ,cY,qY]++Ns from hF).elim (fun h=>(H.vV (L:=[ku,kS,de,dQ,cY,qY]) [0,1,2,3,4,9]) F h b hb) fun h=>H.jT (K0.behind 16 rfl) F h b hb
  dsimp only[List.set] at H
  have H0:=H
  obtain⟨n0,YD,Ly,H⟩:=H.jA (α:=yLI) 1 rfl 2 rfl qj
  replace N:Fresh W0.heap.size (n0::gD::ku::de::dQ::cY::qY::Ns):=Fresh.ice (N.xm 7 [2,0,1,3,4,5,6]<|by simp only[List.length_cons,List.length_append];omega) H0 1 YD.1 YD.2<|fun F hF b hb=>(List.mem_append.1<|show F∈[gD,ku,de,dQ,cY,qY]++Ns from hF).elim (fun h=>(H0.vV (L:=[gD,ku,de,dQ,cY,qY]) [0,1,3,4,5,10]) F h b hb) fun h=>H0.jT (K0.behind 17 rfl) F h b hb
  clear H0
  dsimp only[List.set] at H
  obtain⟨rZ,N,ahu,H⟩:=H.vJ 2 rfl N<|fun F hF b hb=>(List.mem_append.1<|show F∈[n0,gD,ku,de,dQ,cY,qY]++Ns from hF).elim (fun h=>(H.vV (L:=[n0,gD,ku,de,dQ,cY,qY]) [0,1,2,4,5,6,11]) F h b hb) fun h=>H.jT (K0.behind 18 rfl) F h b hb
  dsimp only[List.set] at H
  obtain⟨xl,N,aB9,H⟩:=H.freezeB 3 rfl N<|fun F hF b hb=>(List.mem_append.1<|show F∈[rZ,n0,gD,ku,de,dQ,cY,qY]++Ns from hF).elim (fun h=>(H.vV (L:=[rZ,n0,gD,ku,de,dQ,cY,qY]) [0,1,2,3,5,6,7,12]) F h b hb) fun h=>H.jT (K0.behind 19 rfl) F h b hb
  dsimp only[List.set] at H
  have H0:=H
  obtain⟨DP,Yw,aAn,H⟩:=H.jA (α:=yLI) 4 rfl 6 rfl qj
  replace N:Fresh W0.heap.size (DP::xl::rZ::n0::gD::ku::dQ::cY::qY::Ns):=Fresh.ice (N.xm 9 [5,0,1,2,3,4,6,7,8]<|by simp only[List.length_cons,List.length_append];omega) H0 4 Yw.1 Yw.2<|fun F hF b hb=>(List.mem_append.1<|show F∈[xl,rZ,n0,gD,ku,dQ,cY,qY]++Ns from hF).elim (fun h=>(H0.vV (L:=[xl,rZ,n0,gD,ku,dQ,cY,qY]) [0,1,2,3,4,7,8,13]) F h b hb) fun h=>H0.jT (K0.behind 20 rfl) F h b hb
  clear H0
  dsimp only[List.set] at H
  have H0:=H
  obtain⟨Mr,TW,aA8,H⟩:=H.jA (α:=yLL) 5 rfl 8 rfl qj
  replace N:Fresh W0.heap.size (Mr::DP::xl::rZ::n0::gD::ku::cY::qY::Ns):=Fresh.ice (N.xm 9 [6,0,1,2,3,4,5,7,8]<|by simp only[List.length_cons,List.length_append];omega) H0 5 TW.1 TW.2<|fun F hF b hb=>(List.mem_append.1<|show F∈[DP,xl,rZ,n0,gD,ku,cY,qY]++Ns from hF).elim (fun h=>(H0.vV (L:=[DP,xl,rZ,n0,gD,ku,cY,qY]) [0,1,2,3,4,5,9,14]) F h b hb) fun h=>H0.jT (K0.behind 21 rfl) F h b hb
  clear H0
  dsimp only[List.set] at H
  have H0:=H
  obtain⟨aif,V3,aAd,H⟩:=H.jA (α:=yLL) 6 rfl 10 rfl qj
  replace N:Fresh W0.heap.size (aif::Mr::DP::xl::rZ::n0::gD::ku::qY::Ns):=Fresh.ice (N.xm 9 [7,0,1,2,3,4,5,6,8]<|by simp only[List.length_cons,List.length_append];omega) H0 6 V3.1 V3.2<|fun F hF b hb=>(List.mem_append.1<|show F∈[Mr,DP,xl,rZ,n0,gD,ku,qY]++Ns from hF).elim (fun h=>(H0.vV (L:=[Mr,DP,xl,rZ,n0,gD,ku,qY]) [0,1,2,3,4,5,6,15]) F h b hb) fun h=>H0.jT (K0.behind 22 rfl) F h b hb
  clear H0
  dsimp only[List.set] at H
  refine zH H 10 rfl 0 rfl underlying36 ti49 rfl qj rfl rfl rfl qw qp qf fun aag Y6 NM H=>?_
  dsimp only[List.set] at H
  replace H:=H.snoc_ServerD 16 rfl 0 7 rfl 6 rfl false 14 rfl 13 rfl 12 rfl 12 rfl ((⟨0,(yX s own t k c),(List.replicate s.qN.toNat (0:Int)),false,([]:List Bool),([]:yLL),([]:List yLL),([]:List yLL)⟩:zA).qP) 5 rfl 4 rfl ((⟨0,(yX s own t k c),(List.replicate s.qN.toNat (0:Int)),false,([]:List Bool),([]:yLL),([]:List yLL),([]:List yLL)⟩:zA).qV) 3 rfl 2 rfl 1 rfl 0 rfl
  replace N:Fresh W0.heap.size ((qY++(ku++gD++[]++[]++[]++[]++n0++rZ++xl++DP++Mr++aif))::Ns):=(N.emp.emp.emp.emp.xm 13 [11,10,0,1,2,3,9,8,7,6,5,4,12]<|by simp only[List.length_cons,List.length_append];omega).join.join.join.join.join.join.join.join.join.join.join.swap.join
  refine⟨H.pick [8,11,12,13]<|zR 16 8,(xy qh<|xZ<|sq 1<|oF rfl<|oF rfl<|sw<|zh H 11 [pp sb 0,Sv (aa PI o56) own.length co,Sv aag (Vb+1) Y6,yN] sizeOf36 fun aas H=>?_)⟩
  dsimp only[List.set] at H
  refine xU<|b_n<|t_n<|xX<|sp (yI k)<|sw<|zS k 1 rfl rfl qf<|sq 1<|xU<|xu (m':=((srvTo own own.length)-((k+1):Int)).toNat) qf ⟨_,k+1,_,_,_,_,_,_,uE5,?_,?_,rfl,N,H.xm 14 24 (zR 10 4) (0::zR 18 6) (by simp only[List.length_cons,List.length_append];omega)<|by simp only[List.length_cons,List.length_append];omega⟩
  ·exact sbegin_snoc qf<|by exact(if_neg ql).symm
  ·omega
 refine zx4<|zcr<|sq 2<|zjr ?_
 replace H:=H.nilRow 77 4
 replace H:=H.yD (α:=zk)
 refine ret1 (pp b1 0) rfl rfl ⟨_,rfl,?_⟩
 obtain rfl:k=n:=by omega
 exact⟨b1,gp,Vb,gu,jm,qY,none,0,0,[],[],rfl,(N.emp.xm 2 [1,0]<|by simp only[List.length_cons,List.length_append];omega),H.xm 5 8 [3,4,2,1,0] [2,3,4,5,6,7,1,0] (by simp only[List.length_cons,List.length_append];omega)<|by simp only[List.length_cons,List.length_append];omega⟩
theorem dNextDeed_ok(ag:List UInt8)(ip:Int)(sd:Int)(bs:Nat)(ac:yOA)(cc:Nat)(Fc:yLN)(sb:Nat)(ao:yOA)(no:Nat)(co:Nat)(bk:Nat)(eB:yOA)(ee:Nat)(cz:Nat)(cF:yOA)(j9:Nat)(bH:Nat)(H:St W0 w ((.box bs [Sv ac ag.length cc,yI ip,.int .u64 sd] 116)::(.box bk [pp sb 0,Sv ao no co,Sv eB ee cz,Sv cF j9 bH] 86)::ps) ((sF false Fc ac cc ag)::Γ))(N:Fresh W0.heap.size (Ns))(K0:Kept Ns Γ)(q0:0<=ip/\ip<=40000)(q1:1<=ee/\ee<=4)(q2:j9<=12):Calls Tryz.prog 63 #[pp bs 0,pp bk 0] w (fun e w'=>∃v,e=.returned v/\∃(lQ:Int) (Ar:Int) (k_:Int) (a_:Int) (b_:Int),(ip<=lQ/\lQ<=ip+20)/\(DrawnD ee ⟨k_,a_,b_⟩)/\v=.agg #[yI k_,yI a_,yI b_]/\Fresh W0.heap.size (Ns)/\St W0 w' ((.box bs [Sv ac ag.length cc,yI lQ,.int .u64 Ar] 116)::(.box bk [pp sb 0,Sv ao no co,Sv eB ee cz,Sv cF j9 bH] 86)::ps) ((sF false Fc ac cc ag)::Γ)):=by
 refine en func63 ntmps63 ?_
 refine zcr<|sw<|zn H ti44 [yI 0,yI 0,yI 0] fun b1 w2 H=>zjc<|sq 2<|oF rfl<|oF rfl<|oL rfl (H.cell 2 rfl rfl)<|oN rfl<|sq 1<|zjc<|sq 2 ?_
 have H1:=H.yt 3 1 [1,0,2] [0] (by simp only[List.length_cons,List.length_append];omega)<|by simp only[List.length_cons,List.length_append];omega
 have N1:Fresh _ (Ns):=N
 have K1:Kept (Ns) (Γ):=K0.behind 0 rfl
 refine sw<|zD #[pp bs 0,yI ee] rfl rfl call59 (yR ag ip sd bs ac cc Fc ee H1 N1 K1 qg) ?_
 clear H H1 N1 K1
 rintro _ w3 ⟨JU,FZ,fh,hx5,hx6,rfl,N,H⟩
 refine sq 1<|zjc<|sq 1<|sw<|o_buildF H underlying24 ti2 [yI 1,yI 1,yI 2,yI 2,yI 3,yI 3,yI 3,yI 4,yI 5,yI 5,yI 5,yI 6,yI 6,yI 6,yI 6,yI 7,yI 8,yI 9,yI 1,yI 2] rfl (by simp[Value.cells]) rfl qj qj fun wS BF H=>sw<|vz #[pp bs 0,Sv (aa wS 0) 20 20] rfl rfl call104<|en func104 ntmps104 ?_
 refine zcr<|sp (yI 0)<|zjc<|sq 3<|oN rfl ?_
 have H1:=H.yt 4 1 [1,0,2,3] [0] (by simp only[List.length_cons,List.length_append];omega)<|by simp only[List.length_cons,List.length_append];omega
 have N1:Fresh _ (Ns):=N
 have K1:Kept (Ns) (Γ):=K0.behind 0 rfl
 refine sw<|zD #[pp bs 0,yI 20] rfl rfl call59 (yR ag JU FZ bs ac cc Fc (20:Int) H1 N1 K1 qg) ?_
 clear H H1 N1 K1
 rintro _ G7 ⟨gB,nq,AR,awZ,aae,rfl,N,H⟩
 replace H:=H.boxRowI 1 [1,1,2,2,3,3,3,4,5,5,5,6,6,6,6,7,8,9,1,2] 20
 dsimp only[List.set] at H
 refine oI rfl rfl<|oL rfl (H.rowInt 1 rfl (iv:=AR) (i:=AR.toNat) qf qf)<|sq 1<|zjr<|ret1 (yI ([1,1,2,2,3,3,3,4,5,5,5,6,6,6,6,7,8,9,1,2][AR.toNat]!)) rfl rfl ⟨_,rfl,(sq 1<|sw<|jE [yI ([1,1,2,2,3,3,3,4,5,5,5,6,6,6,6,7,8,9,1,2][AR.toNat]!),yI fh,yI 0] [(0,yI ([1,1,2,2,3,3,3,4,5,5,5,6,6,6,6,7,8,9,1,2][AR.toNat]!)),(1,yI fh)]<|sw<|zn H ti44 [yI 0,yI 0,yI 0] fun Ki KA H=>?_)⟩
 refine sw<|zF H 0 [yI ([1,1,2,2,3,3,3,4,5,5,5,6,6,6,6,7,8,9,1,2][AR.toNat]!),yI fh,yI 0] sizeOf44 fun Pz H=>?_
 dsimp only[List.set] at H
 refine zjn<|xM<|xM ?_
 have kb:=kinds20_in _ (by omega:(AR:Int).toNat<20)
 obtain⟨kd,hkd⟩:∃z:Int,([1,1,2,2,3,3,3,4,5,5,5,6,6,6,6,7,8,9,1,2][AR.toNat]! :Int)=z:=⟨_,rfl⟩
 rw[show kinds20=[1,1,2,2,3,3,3,4,5,5,5,6,6,6,6,7,8,9,1,2] from rfl,hkd] at kb
 rw[hkd] at H
 refine xX<|oF rfl<|oL rfl (H.cell 0 rfl rfl)<|zjn<|xe<|zcc<|sp (Bv ((kd:Int) == 3))<|sp (Bv ((kd:Int) == 3))<|zjn<|c_cut (fun ρ Ke=>∃(xP:Env) (t24:Bool),ρ=upd (upd (upd (upd (upd (upd (upd (upd xP 0<|pp bs 0) 1<|pp bk 0) 4<|pp b1 0) 5<|yI ee) 6<|yI fh) 7<|pp Ki 0) 23<|yI kd) 24 (Bv t24)/\(t24=true<->(kd=3\/kd=4))/\Fresh W0.heap.size (Ns)/\St W0 Ke ((.box Ki [yI kd,yI fh,yI 0] 44)::(.box bs [Sv ac ag.length cc,yI gB,.int .u64 nq] 116)::(rr (aa wS 0) 20 20 2 1 ([1,1,2,2,3,3,3,4,5,5,5,6,6,6,6,7,8,9,1,2].map<|Value.int .i64))::(.box b1 [yI 0,yI 0,yI 0] 44)::(.box bk [pp sb 0,Sv ao no co,Sv eB ee cz,Sv cF j9 bH] 86)::ps) ((sF false Fc ac cc ag)::Γ)) ?_ ?_
 ·refine cE rfl (fun PL=>?_) (fun PL=>?_)
  ·refine qW (meet ⟨_,(kd:Int) == 3,uE8,?_,N,H⟩)
   ·exact beq_iff_eq.trans ⟨fun h=>by omega,fun h=>by omega⟩
  refine xX<|sp (Bv ((kd:Int) == 4))<|sp (Bv ((kd:Int) == 4))<|xU<|meet ⟨_,(kd:Int) == 4,uE8,?_,N,H⟩
  ·exact beq_iff_eq.trans ⟨fun h=>by omega,fun h=>by omega⟩
 clear H N
 rintro ρ D1 ⟨xP,t24,rfl,j24,N,H⟩
 refine t_n<|vg _ rfl (fun h25=>?_)<|fun h25=>?_
 ·(have k24:=j24.1 ql)
  refine zcr<|sq 1<|sw<|zS fh 1 rfl rfl qf<|sq 1<|sw<|o_rem (fh+1) ee rfl rfl qf qf qf<|oF rfl<|sw<|zh H 0 [yI kd,yI fh,yI ((fh+1) % ee)] sizeOf2 fun Fq H=>?_
  dsimp only[List.set] at H
  refine zjc<|sq 1<|sp (Bv<|decide ((ee:Int)>2))<|sp (Bv<|decide ((ee:Int)>2)) ?_
  cases oz:(decide ((ee:Int)>2))
  ·replace oz:=of_decide_eq_false oz
   refine xO [35,36]<|sp (Bv false)<|zjn<|cFr rfl<|qW<|b_n<|t_n<|zcr<|sw<|xW [yI kd,yI fh,yI ((fh+1) % ee)] isAgg44 sizeOf44 rfl (qH (H.cells 0 rfl) 0 3)<|sw<|zF H 3 [yI kd,yI fh,yI ((fh+1) % ee)] sizeOf44 fun I8 H=>?_
   dsimp only[List.set] at H
   refine zjr<|retC H 3 rfl rfl isAgg44 sizeOf44 rfl ⟨_,rfl,(⟨gB,nq,kd,fh,(fh+1) % ee,qf,(by exact drawnD_of kb qf (by exact emod_999 qf) qf<|by intros;omega),rfl,N,H.xm 5 1 [1,4] [0] (by simp only[List.length_cons,List.length_append];omega)<|by simp only[List.length_cons,List.length_append];omega⟩)⟩
  replace oz:=of_decide_eq_true oz
  refine qJ 34 rfl rfl<|sq 1<|qJ 34 rfl rfl ?_
  have H1:=H.yt 5 1 [1,0,2,3,4] [0] (by simp only[List.length_cons,List.length_append];omega)<|by simp only[List.length_cons,List.length_append];omega
  have N1:Fresh _ (Ns):=N
  have K1:Kept (Ns) (Γ):=K0.behind 0 rfl
  refine sw<|zD #[pp bs 0,yI 2] rfl rfl call58 (dOne_ok ag gB nq bs ac cc Fc (2:Int) H1 N1 K1 qg) ?_
  clear H H1 N1 K1
  rintro _ JJ ⟨Lv,NZ,atq,Sn,rfl,N,H⟩
  refine sp (Bv atq)<|zjn<|vg _ rfl (fun Ro=>?_)<|fun Ro=>?_
  ·refine xX (sq 1<|sw<|zS fh 2 rfl rfl qf<|sq 1<|sw<|o_rem (fh+2) ee rfl rfl qf qf qf<|oF rfl<|sw<|zh H 1 [yI kd,yI fh,yI ((fh+2) % ee)] sizeOf2 fun FY H=>?_)
   dsimp only[List.set] at H
   refine xU<|b_n<|t_n<|zcr<|sw<|xW [yI kd,yI fh,yI ((fh+2) % ee)] isAgg44 sizeOf44 rfl (qH (H.cells 1 rfl) 0 3)<|sw<|zF H 3 [yI kd,yI fh,yI ((fh+2) % ee)] sizeOf44 fun w37 H=>?_
   dsimp only[List.set] at H
   refine zjr<|retC H 3 rfl rfl isAgg44 sizeOf44 rfl ⟨_,rfl,(⟨Lv,NZ,kd,fh,(fh+2) % ee,qf,(by exact drawnD_of kb qf (by exact emod_999 qf) qf<|by intros;omega),rfl,N,H.xm 5 1 [0,4] [0] (by simp only[List.length_cons,List.length_append];omega)<|by simp only[List.length_cons,List.length_append];omega⟩)⟩
  refine qW<|b_n<|t_n<|zcr<|sw<|xW [yI kd,yI fh,yI ((fh+1) % ee)] isAgg44 sizeOf44 rfl (qH (H.cells 1 rfl) 0 3)<|sw<|zF H 3 [yI kd,yI fh,yI ((fh+1) % ee)] sizeOf44 fun R0 H=>?_
  dsimp only[List.set] at H
  refine zjr<|retC H 3 rfl rfl isAgg44 sizeOf44 rfl ⟨_,rfl,(⟨Lv,NZ,kd,fh,(fh+1) % ee,qf,(by exact drawnD_of kb qf (by exact emod_999 qf) qf<|by intros;omega),rfl,N,H.xm 5 1 [0,4] [0] (by simp only[List.length_cons,List.length_append];omega)<|by simp only[List.length_cons,List.length_append];omega⟩)⟩
 (have k24:¬(kd=3\/kd=4):=fun z=>by have z:=j24.2 z;simp_all)
 refine zcc<|sp (Bv ((kd:Int) == 6))<|sp (Bv ((kd:Int) == 6))<|zjn<|c_cut (fun ρ Rr=>∃(xP:Env) (t43:Bool),ρ=upd (upd (upd (upd (upd xP 0<|pp bs 0) 1<|pp bk 0) 4<|pp b1 0) 7<|pp Ki 0) 43 (Bv t43)/\(t43=true<->(kd=6\/kd=7\/kd=8))/\Fresh W0.heap.size (Ns)/\St W0 Rr ((.box Ki [yI kd,yI fh,yI 0] 44)::(.box bs [Sv ac ag.length cc,yI gB,.int .u64 nq] 116)::(rr (aa wS 0) 20 20 2 1 ([1,1,2,2,3,3,3,4,5,5,5,6,6,6,6,7,8,9,1,2].map<|Value.int .i64))::(.box b1 [yI 0,yI 0,yI 0] 44)::(.box bk [pp sb 0,Sv ao no co,Sv eB ee cz,Sv cF j9 bH] 86)::ps) ((sF false Fc ac cc ag)::Γ)) ?_ ?_
 ·refine cE rfl (fun sG=>?_) (fun sG=>?_)
  ·refine qW (meet ⟨_,(kd:Int) == 6,uE5,?_,N,H⟩)
   ·exact beq_iff_eq.trans ⟨fun h=>by omega,fun h=>by omega⟩
  refine zcr<|sp (Bv ((kd:Int) == 7))<|sp (Bv ((kd:Int) == 7))<|zjn<|cE rfl (fun th=>?_)<|fun th=>?_
  ·refine qW (meet ⟨_,(kd:Int) == 7,uE5,?_,N,H⟩)
   ·exact beq_iff_eq.trans ⟨fun h=>by omega,fun h=>by omega⟩
  refine xX<|sp (Bv ((kd:Int) == 8))<|sp (Bv ((kd:Int) == 8))<|xU<|meet ⟨_,(kd:Int) == 8,uE5,?_,N,H⟩
  ·exact beq_iff_eq.trans ⟨fun h=>by omega,fun h=>by omega⟩
 clear H N
 rintro ρ Sh ⟨xP,t43,rfl,j43,N,H⟩
 refine t_n<|vg _ rfl (fun JB=>?_)<|fun JB=>?_
 ·(have k43:=j43.1 ql)
  refine vK 3 rfl H [0,2,3,4] [0] fun H=>?_
  dsimp only[yg,yL]
  have S:=H.zW [0,2,3,4] [0]
  refine rtl 0 S ?_
  refine rtl 1 S ?_
  refine rtl 2 S ?_
  refine tF 3 rfl rfl S ?_
  refine tF 4 rfl rfl S ?_
  refine tL 5 rfl rfl (fun _ h=>h.cell 3 rfl rfl) S ?_
  refine tN 6 rfl rfl S ?_
  refine rtl 7 S ?_
  refine ro 8 rfl ?_
  have H1:=H.yt 5 1 [1,0,2,3,4] [0] (by simp only[List.length_cons,List.length_append];omega)<|by simp only[List.length_cons,List.length_append];omega
  have N1:Fresh _ (Ns):=N
  have K1:Kept (Ns) (Γ):=K0.behind 0 rfl
  refine zD #[pp bs 0,yI 12] rfl rfl call59 (yR ag gB nq bs ac cc Fc (12:Int) H1 N1 K1 qg) ?_
  clear H H1 N1 K1
  rintro _ w45 ⟨YX,abP,EU,MW,AE,rfl,N,H⟩
  refine⟨H.pick (zR 1 4) [0],?_⟩
  have S:=H.zW (zR 1 4) [0]
  refine rt 9 _ (y_quo EU 11 rfl rfl qf qf) S ?_
  refine rt 10 _ (y_add j9 (EU / 11) rfl rfl qf) S ?_
  refine xy qh<|xZ ?_
  have H1:=H.yt 5 1 [0,1,2,3,4] [0] (by simp only[List.length_cons,List.length_append];omega)<|by simp only[List.length_cons,List.length_append];omega
  have N1:Fresh _ (Ns):=N
  have K1:Kept (Ns) (Γ):=K0.behind 0 rfl
  refine sw<|zD #[pp bs 0,yI<|j9+(EU / 11)] rfl rfl call59 (yR ag YX abP bs ac cc Fc (j9+(EU / 11)) H1 N1 K1 qg) ?_
  clear H H1 N1 K1
  rintro _ T2 ⟨au9,atf,JX,aGb,aEC,rfl,N,H⟩
  refine oF rfl<|sw<|zh H 1 [yI kd,yI JX,yI 0] sizeOf2 fun w59 H=>?_
  dsimp only[List.set] at H
  refine xU<|b_n<|t_n<|zcr<|sw<|xW [yI kd,yI JX,yI 0] isAgg44 sizeOf44 rfl (qH (H.cells 1 rfl) 0 3)<|sw<|zF H 3 [yI kd,yI JX,yI 0] sizeOf44 fun w60 H=>?_
  dsimp only[List.set] at H
  refine zjr<|retC H 3 rfl rfl isAgg44 sizeOf44 rfl ⟨_,rfl,(⟨au9,atf,kd,JX,0,qf,(by exact drawnD_of kb qf (by omega) qf<|by intros;omega),rfl,N,H.xm 5 1 [0,4] [0] (by simp only[List.length_cons,List.length_append];omega)<|by simp only[List.length_cons,List.length_append];omega⟩)⟩
 (have k43:¬(kd=6\/kd=7\/kd=8):=fun z=>by have z:=j43.2 z;simp_all)
 refine qW<|b_n<|t_n<|zcr<|sw<|xW [yI kd,yI fh,yI 0] isAgg44 sizeOf44 rfl (qH (H.cells 0 rfl) 0 3)<|sw<|zF H 3 [yI kd,yI fh,yI 0] sizeOf44 fun w61 H=>?_
 dsimp only[List.set] at H
 refine zjr<|retC H 3 rfl rfl isAgg44 sizeOf44 rfl ⟨_,rfl,(⟨gB,nq,kd,fh,0,qf,(by exact drawnD_of kb qf (by omega) qf<|by intros;omega),rfl,N,H.xm 5 1 [1,4] [0] (by simp only[List.length_cons,List.length_append];omega)<|by simp only[List.length_cons,List.length_append];omega⟩)⟩
theorem dWould_ok(s:qO)(own:yLI)(ap:yOA)(cp:Nat)(Fp:yLN)(ar:yOA)(cr:Nat)(Fr:yLN)(ao:yOA)(co:Nat)(Fo:yLN)(sb:Nat)(sv:List zu)(wi:List zk)(bk:Nat)(n:Nat)(eB:yOA)(ee:Nat)(cz:Nat)(bV:List Value)(aC:yLN)(cF:yOA)(j9:Nat)(bH:Nat)(bL:List Value)(az:yLN)(d:xH)(H:St W0 w ((.box bk [pp sb 0,Sv ao own.length co,Sv eB ee cz,Sv cF j9 bH] 86)::(.box sb (yS s ap cp ar cr) 27)::(rr eB ee cz 49 16 bV)::(rr cF j9 bH 77 4 bL)::ps) ((sF false Fp ap cp s.qA)::(sF false Fr ar cr s.qB)::(sF false Fo ao co own)::(qQ true aC bV sv)::(qQ true az bL wi)::Γ))(N:Fresh W0.heap.size (aC::az::Ns))(K0:Kept Ns Γ)(p0:Giv s own n)(p1:Vh s own n (⟨sv,wi⟩:zN))(p2:DrawnD sv.length d):Calls Tryz.prog 64 #[pp bk 0,.agg #[yI d.xJ,yI d.fA,yI d.fB]] w (fun e w'=>∃v,e=.returned v/\∃(v_:Bool),v=Bv v_/\Fresh W0.heap.size (aC::az::Ns)/\St W0 w' ((.box bk [pp sb 0,Sv ao own.length co,Sv eB ee cz,Sv cF j9 bH] 86)::(.box sb (yS s ap cp ar cr) 27)::(rr eB ee cz 49 16 bV)::(rr cF j9 bH 77 4 bL)::ps) ((sF false Fp ap cp s.qA)::(sF false Fr ar cr s.qB)::(sF false Fo ao co own)::(qQ true aC bV sv)::(qQ true az bL wi)::Γ)):=by
 refine en func64 ntmps64 ?_
 obtain rfl:=H.xk (α:=zu) 2 rfl 3 rfl qj
 obtain rfl:=H.xk (α:=zk) 3 rfl 4 rfl qj
 have g4:=p0.few
 have l1:sv.length=n:=p1.len
 have d2:=p2.1.2.1
 have d3:=p2.1.2.2.1
 have d4:=p2.2
 refine zcr<|sw<|jq H [yI d.xJ,yI d.fA,yI d.fB] fun b1 w2 H=>sp (Bv false)<|zjcc<|oF rfl<|oL rfl (H.cell 0 rfl rfl)<|zjn<|xe<|zcr<|sp (Bv ((d.xJ:Int) == 1))<|sp (Bv ((d.xJ:Int) == 1))<|zjn<|cE rfl (fun h3=>?_)<|fun h3=>?_
 ·refine xM (vK 6 rfl H [0,1,2,3,4] [0,1,2,3,4] fun H=>?_)
  dsimp only[yg,yL]
  have S:=H.zW (zR 0 5)<|zR 0 5
  refine rtl 0 S ?_
  refine rtl 1 S ?_
  refine tF 2 rfl rfl S ?_
  refine tF 3 rfl rfl S ?_
  refine tL 4 rfl rfl (fun _ h=>h.cell 1 rfl rfl) S ?_
  refine tF 5 rfl rfl S ?_
  refine tL 6 rfl rfl (fun _ h=>h.cell 0 rfl rfl) S ?_
  refine xy qh<|xZ ?_
  obtain⟨b5,rfl⟩:=H.jB 3 rfl qf
  refine oI rfl rfl<|oF rfl<|oF rfl ?_
  obtain⟨PV,RQ,Sk,I3,Ig,JS,abA,acI,acP,Jt,Ib,IE,YZ,aaw,ZL,SM,Ry,S3,hx7,H⟩:=H.jQ zC 3 rfl 3 rfl rfl d.fA.toNat qf
  refine oL rfl (H.zt 3 rfl (hx7 3 _ rfl) qf)<|sp (Bv (!(((sv[d.fA.toNat]!).qC).qV)))<|sp (Bv (!(((sv[d.fA.toNat]!).qC).qV)))<|zjr<|b_r<|t_r<|ret1 (Bv (!(((sv[d.fA.toNat]!).qC).qV))) rfl rfl ⟨_,rfl,(⟨!(((sv[d.fA.toNat]!).qC).qV),rfl,N,H.xm 5 11 (zR 1 4) (zR 6 5) (by simp only[List.length_cons,List.length_append];omega)<|by simp only[List.length_cons,List.length_append];omega⟩)⟩
 refine zcr<|sp (Bv ((d.xJ:Int) == 3))<|sp (Bv ((d.xJ:Int) == 3))<|zjn<|cE rfl (fun h8=>?_)<|fun h8=>?_
 ·refine zcr (oF rfl<|oL rfl (H.cell 0 rfl rfl)<|oF rfl<|oL rfl (H.cell 0 rfl rfl)<|sp (Bv ((d.fA:Int) != d.fB))<|sp (Bv ((d.fA:Int) != d.fB)) ?_)
  cases h9:((d.fA:Int) != d.fB)
  ·replace h9:=xK h9
   refine xO (zR 30 4)<|sp (Bv false)<|sp (Bv false)<|zjr<|b_r<|t_r<|ret1 (Bv false) rfl rfl ⟨_,rfl,(⟨false,rfl,N,H.xm 5 5 (zR 1 4) (zR 0 5) (by simp only[List.length_cons,List.length_append];omega)<|by simp only[List.length_cons,List.length_append];omega⟩)⟩
  replace h9:=bne_iff_ne.1 h9
  refine qJ 29 rfl rfl<|sq 1<|qJ 29 rfl rfl<|oF rfl<|qJ 29 rfl rfl<|oL rfl (H.cell 0 rfl rfl)<|qJ 29 rfl rfl<|sw<|vz #[pp bk 0,yI d.fA] rfl rfl call105<|en func105 ntmps105 ?_
  refine zcr<|sp (Bv false)<|zjc<|sq 2<|oF rfl<|oF rfl<|oL rfl (H.cell 1 rfl rfl)<|sq 1 ?_
  obtain⟨wS,rfl⟩:=H.jB 3 rfl qf
  refine oI rfl rfl<|sq 1<|zjn<|xM<|vK 2 rfl H [0,1,2,3,4] [0,1,2,3,4] fun H=>?_
  dsimp only[yg,yL]
  have S:=H.zW (zR 0 5)<|zR 0 5
  refine rtl 0 S ?_
  refine rtl 1 S ?_
  refine tF 2 rfl rfl S ?_
  refine tF 3 rfl rfl S ?_
  obtain⟨OY,OH,ML,Fn,Ex,E0,Si,QA,Sb,EC,Ep,EY,R5,Sz,Sq,Ml,Mw,Ov,Dp,H⟩:=H.jQ Qh 3 rfl 3 rfl rfl d.fA.toNat qf
  have S:=H.zW (zR 0 5)<|zR 6 5
  refine rt 4 _ (jU (off:=0+(d.fA:Int).toNat*16+8+0) isAgg2 rfl<|fun _ h=>(h.zt 3 rfl (Dp 0 _ rfl) qf)) S ?_
  refine rtl 5 S ?_
  refine rtl 6 S ?_
  refine tF 7 rfl rfl S ?_
  refine tF 8 rfl rfl S ?_
  obtain⟨agd,afT,af7,acS,abO,acR,arJ,ar3,aq4,aci,abW,Zd,asa,aqJ,arH,akX,anB,aiq,aae,H⟩:=H.jQ zC 3 rfl 9 rfl rfl d.fA.toNat qf
  have S:=H.zW (zR 0 5)<|zR 12 5
  refine rt 9 _ (jU (off:=0+(d.fA:Int).toNat*16+0+0) isAgg2 rfl<|fun _ h=>(h.zt 3 rfl (aae 0 _ rfl) qf)) S ?_
  refine rtp 10 (Bv ((((sv[d.fA.toNat]!).qI).qP:Int) == (((sv[d.fA.toNat]!).qC).qP))) S ?_
  refine rtp 11 (Bv ((((sv[d.fA.toNat]!).qI).qP:Int) == (((sv[d.fA.toNat]!).qC).qP))) S ?_
  cases Ij:((((sv[d.fA.toNat]!).qI).qP:Int) == (((sv[d.fA.toNat]!).qC).qP))
  ·replace Ij:=ne_of_beq_false Ij
   refine zZ (zR 12 5) 5 (H.pick (zR 0 5)<|zR 12 5)<|xy qh<|xZ<|sp (Bv false)<|sp (Bv false)<|zjr<|ret1 (Bv false) rfl rfl ⟨_,rfl,(sp (Bv false)<|sp (Bv false)<|zjr<|b_r<|t_r<|ret1 (Bv false) rfl rfl ⟨_,rfl,(⟨false,rfl,N,H.xm 5 17 (zR 1 4) (zR 12 5) (by simp only[List.length_cons,List.length_append];omega)<|by simp only[List.length_cons,List.length_append];omega⟩)⟩)⟩
  replace Ij:=eq_of_beq Ij
  have S:=H.zW (zR 0 5)<|zR 12 5
  refine rgl 12 24 S ?_
  refine rgl 13 24 S ?_
  refine gF 14 rfl rfl S ?_
  refine gF 15 rfl rfl S ?_
  refine rg 16 _ 24 (jU (off:=0+(d.fA:Int).toNat*16+8+3) isAgg4 rfl<|fun _ h=>(h.zt 3 rfl (Dp 3 _ rfl) qf)) S ?_
  refine xy qh<|xZ<|sq 2<|zjr<|ret1 (Bv (((sv[d.fA.toNat]!).qI).qV)) rfl rfl ⟨_,rfl,(sq 2<|zjr<|b_r<|t_r<|ret1 (Bv (((sv[d.fA.toNat]!).qI).qV)) rfl rfl ⟨_,rfl,(⟨((sv[d.fA.toNat]!).qI).qV,rfl,N,H.xm 5 17 (zR 1 4) (zR 12 5) (by simp only[List.length_cons,List.length_append];omega)<|by simp only[List.length_cons,List.length_append];omega⟩)⟩)⟩
 refine zcr<|sp (Bv ((d.xJ:Int) == 4))<|sp (Bv ((d.xJ:Int) == 4))<|zjn<|cE rfl (fun GF=>?_)<|fun GF=>?_
 ·refine xM (vK 2 rfl H [0,1,2,3,4] [0,1,2,3,4] fun H=>?_)
  dsimp only[yg,yL]
  have S:=H.zW (zR 0 5)<|zR 0 5
  refine tF 0 rfl rfl S ?_
  refine tL 1 rfl rfl (fun _ h=>h.cell 0 rfl rfl) S ?_
  refine tF 2 rfl rfl S ?_
  refine tL 3 rfl rfl (fun _ h=>h.cell 0 rfl rfl) S ?_
  refine rtp 4 (Bv ((d.fA:Int) != d.fB)) S ?_
  refine rtp 5 (Bv ((d.fA:Int) != d.fB)) S ?_
  cases rB:((d.fA:Int) != d.fB)
  ·replace rB:=xK rB
   refine zZ (zR 6 12) 12 (H.pick (zR 0 5)<|zR 0 5)<|xy qh<|xZ<|sp (Bv false)<|sp (Bv false)<|zjr<|b_r<|t_r<|ret1 (Bv false) rfl rfl ⟨_,rfl,(⟨false,rfl,N,H.xm 5 5 (zR 1 4) (zR 0 5) (by simp only[List.length_cons,List.length_append];omega)<|by simp only[List.length_cons,List.length_append];omega⟩)⟩
  replace rB:=bne_iff_ne.1 rB
  have S:=H.zW (zR 0 5)<|zR 0 5
  refine rgl 6 42 S ?_
  refine rgl 7 42 S ?_
  refine gF 8 rfl rfl S ?_
  refine gF 9 rfl rfl S ?_
  refine gL 10 rfl rfl (fun _ h=>h.cell 1 rfl rfl) S ?_
  refine gF 11 rfl rfl S ?_
  refine gL 12 rfl rfl (fun _ h=>h.cell 0 rfl rfl) S ?_
  obtain⟨I9,rfl⟩:=H.jB 3 rfl qf
  have S:=H.zW (zR 0 5)<|zR 0 5
  refine gI 13 rfl rfl rfl S ?_
  refine gF 14 rfl rfl S ?_
  refine gF 15 rfl rfl S ?_
  obtain⟨af5,agC,ano,acH,abT,ZT,aqs,arN,aqT,abx,acU,aaS,aqG,aqz,arX,al4,afx,anj,aw2,H⟩:=H.jQ zC 3 rfl 3 rfl rfl d.fA.toNat qf
  have S:=H.zW (zR 0 5)<|zR 6 5
  refine rg 16 _ 42 (jU (off:=0+(d.fA:Int).toNat*16+0+0) isAgg2 rfl<|fun _ h=>(h.zt 3 rfl (aw2 0 _ rfl) qf)) S ?_
  refine rgp 17 (Bv<|decide ((((sv[d.fA.toNat]!).qC).qP:Int)>0)) 42 S ?_
  refine xy qh<|xZ<|sp (Bv<|decide ((((sv[d.fA.toNat]!).qC).qP:Int)>0))<|sp (Bv<|decide ((((sv[d.fA.toNat]!).qC).qP:Int)>0))<|zjr<|b_r<|t_r<|ret1 (Bv<|decide ((((sv[d.fA.toNat]!).qC).qP:Int)>0)) rfl rfl ⟨_,rfl,(⟨decide ((((sv[d.fA.toNat]!).qC).qP:Int)>0),rfl,N,H.xm 5 11 (zR 1 4) (zR 6 5) (by simp only[List.length_cons,List.length_append];omega)<|by simp only[List.length_cons,List.length_append];omega⟩)⟩
 refine zcr<|sp (Bv ((d.xJ:Int) == 5))<|sp (Bv ((d.xJ:Int) == 5))<|zjn<|cE rfl (fun PL=>?_)<|fun PL=>?_
 ·refine zcc (sp (yI 0)<|zjn<|xe<|zT ((fun Z0 Z1 Z2 Z3 Z4 Z5 Z6 Z7 Z8 Z9=>fun m' ρ D1=>∃(xP:Env) (b:Nat),ρ=upd (upd (upd xP 0<|pp bk 0) 3<|pp b1 0) 5 (yI b)/\(b<=((sv[d.fA.toNat]!).qC).vM.length)/\m'=(((sv[d.fA.toNat]!).qC).vM.length-b:Nat)/\Fresh W0.heap.size (aC::az::Ns)/\St W0 D1 (Z0::Z1::Z2::Z3::Z4::ps) (Z5::Z6::Z7::Z8::Z9::Γ)) _ _ _ _ _ _ _ _ _ _) ((((sv[d.fA.toNat]!).qC).vM.length-0:Nat)) ⟨_,0,uE3,qf,rfl,N,H⟩ ?_)
  clear H N
  rintro m' ρ D0 ⟨xP,b,rfl,i1,rfl,N,H⟩
  have y1:((sv[d.fA.toNat]!).qC).vM.length<=1000000:=((p1.srv d.fA.toNat qf).1.small p0).got
  refine xM<|xM<|vK 1 rfl H [0,1,2,3,4] [0,1,2,3,4] fun H=>?_
  dsimp only[yg,yL]
  have S:=H.zW (zR 0 5)<|zR 0 5
  refine rtp 0 (yI b) S ?_
  refine rtl 1 S ?_
  refine rtl 2 S ?_
  refine tF 3 rfl rfl S ?_
  refine tF 4 rfl rfl S ?_
  refine tL 5 rfl rfl (fun _ h=>h.cell 1 rfl rfl) S ?_
  refine tF 6 rfl rfl S ?_
  refine tL 7 rfl rfl (fun _ h=>h.cell 0 rfl rfl) S ?_
  obtain⟨b27,rfl⟩:=H.jB 3 rfl qf
  have S:=H.zW (zR 0 5)<|zR 0 5
  refine tI 8 rfl rfl rfl S ?_
  refine tF 9 rfl rfl S ?_
  refine tF 10 rfl rfl S ?_
  obtain⟨ahl,ak5,aqa,Y2,aco,acj,arW,arj,ar5,ach,Zf,acz,ari,arx,aqy,ae6,aoL,aiF,Ct,H⟩:=H.jQ zC 3 rfl 3 rfl rfl d.fA.toNat qf
  have S:=H.zW (zR 0 5)<|zR 6 5
  refine rt 11 _ (jU (off:=0+(d.fA:Int).toNat*16+0+4) isAgg28 rfl<|fun _ h=>(h.zt 3 rfl (Ct 4 _ rfl) qf)) S ?_
  refine tN 12 rfl rfl S ?_
  refine xy qh<|xZ<|sq 1<|zjn<|cD rfl (fun pn=>?_)<|fun pn=>?_
  ·refine qW (t_n<|xM<|xe<|xM<|vK 3 rfl H [0,1,2,3,4] [0,1,2,3,4,5,6,7,8,9,10] fun H=>?_)
   dsimp only[yg,yL]
   have S:=H.zW (zR 0 5)<|zR 0 11
   refine rtl 0 S ?_
   refine rtl 1 S ?_
   refine tF 2 rfl rfl S ?_
   refine tF 3 rfl rfl S ?_
   refine tL 4 rfl rfl (fun _ h=>h.cell 1 rfl rfl) S ?_
   refine tF 5 rfl rfl S ?_
   refine tL 6 rfl rfl (fun _ h=>h.cell 0 rfl rfl) S ?_
   refine tI 7 rfl rfl rfl S ?_
   refine tF 8 rfl rfl S ?_
   refine tF 9 rfl rfl S ?_
   refine rt 10 _ (jU (off:=0+(d.fA:Int).toNat*16+0+4) isAgg28 rfl<|fun _ h=>(h.zt 3 rfl (Ct 4 _ rfl) qf)) S ?_
   refine rtp 11 (yI b) S ?_
   refine xy qh<|xZ ?_
   obtain⟨Pm,o33,rfl⟩:=H.addr 2 rfl qf
   refine oI rfl rfl<|oL rfl (H.XZ 2 rfl b qf)<|sq 1<|zjn<|vg _ rfl (fun Ro=>?_)<|fun Ro=>?_
   ·replace Ro:=xq Ro
    refine zcr<|sp (Bv false)<|zjr<|zr5<|b_r<|t_r<|ret1 (Bv false) rfl rfl ⟨_,rfl,(⟨false,rfl,N,H.xm 5 11 (zR 1 4) (zR 6 5) (by simp only[List.length_cons,List.length_append];omega)<|by simp only[List.length_cons,List.length_append];omega⟩)⟩
   replace Ro:=xf Ro
   refine qW<|b_n<|t_n<|xX<|sp (yI b)<|sw<|zS b 1 rfl rfl qf<|sq 1<|xU<|xu (m':=(((sv[d.fA.toNat]!).qC).vM.length-(b+1):Nat)) qf ⟨_,b+1,uE3,?_,rfl,N,H.xm 5 11 (zR 0 5) (zR 6 5) (by simp only[List.length_cons,List.length_append];omega)<|by simp only[List.length_cons,List.length_append];omega⟩
   ·omega
  refine zx4<|xM<|vK 2 rfl H [0,1,2,3,4] [0,1,2,3,4,5,6,7,8,9,10] fun H=>?_
  dsimp only[yg,yL]
  have S:=H.zW (zR 0 5)<|zR 0 11
  refine rtl 0 S ?_
  refine rtl 1 S ?_
  refine tF 2 rfl rfl S ?_
  refine tF 3 rfl rfl S ?_
  refine tL 4 rfl rfl (fun _ h=>h.cell 1 rfl rfl) S ?_
  refine tF 5 rfl rfl S ?_
  refine tL 6 rfl rfl (fun _ h=>h.cell 0 rfl rfl) S ?_
  refine tI 7 rfl rfl rfl S ?_
  refine tF 8 rfl rfl S ?_
  refine tF 9 rfl rfl S ?_
  refine rt 10 _ (jU (off:=0+(d.fA:Int).toNat*16+0+3) isAgg4 rfl<|fun _ h=>(h.zt 3 rfl (Ct 3 _ rfl) qf)) S ?_
  refine rtp 11 (Bv (((sv[d.fA.toNat]!).qC).qV)) S ?_
  cases Az:(((sv[d.fA.toNat]!).qC).qV)
  ·refine zZ (zR 12 4) 4 (H.pick (zR 0 5)<|zR 0 11)<|xy qh<|xZ<|sp (Bv false)<|sp (Bv false)<|zjr<|b_r<|t_r<|ret1 (Bv false) rfl rfl ⟨_,rfl,(⟨false,rfl,N,H.xm 5 11 (zR 1 4) (zR 6 5) (by simp only[List.length_cons,List.length_append];omega)<|by simp only[List.length_cons,List.length_append];omega⟩)⟩
  have S:=H.zW (zR 0 5)<|zR 0 11
  refine rgl 12 100 S ?_
  refine gF 13 rfl rfl S ?_
  refine gL 14 rfl rfl (fun _ h=>h.cell 0 rfl rfl) S ?_
  refine jC [15] qh qm<|Xj rfl (e:=100) rfl rfl (vz #[pp bk 0,yI d.fA] rfl rfl call105<|en func105 ntmps105 ?_) jD
  refine zcr<|sp (Bv false)<|zjc<|sq 2<|oF rfl<|oF rfl<|oL rfl (H.cell 1 rfl rfl)<|sq 1<|oI rfl rfl<|sq 1<|zjn<|xM<|vK 2 rfl H [0,1,2,3,4] [0,1,2,3,4,5,6,7,8,9,10] fun H=>?_
  dsimp only[yg,yL]
  have S:=H.zW (zR 0 5)<|zR 0 11
  refine rtl 0 S ?_
  refine rtl 1 S ?_
  refine tF 2 rfl rfl S ?_
  refine tF 3 rfl rfl S ?_
  obtain⟨afG,ahd,amb,abo,abf,aa7,asj,aqH,aqX,abc,acw,aaY,aro,ash,ast,akg,akq,aoe,ai7,H⟩:=H.jQ Qh 3 rfl 9 rfl rfl d.fA.toNat qf
  have S:=H.zW (zR 0 5)<|zR 6 11
  refine rt 4 _ (jU (off:=0+(d.fA:Int).toNat*16+8+0) isAgg2 rfl<|fun _ h=>(h.zt 3 rfl (ai7 0 _ rfl) qf)) S ?_
  refine rtl 5 S ?_
  refine rtl 6 S ?_
  refine tF 7 rfl rfl S ?_
  refine tF 8 rfl rfl S ?_
  refine rt 9 _ (jU (off:=0+(d.fA:Int).toNat*16+0+0) isAgg2 rfl<|fun _ h=>(h.zt 3 rfl (Ct 0 _ rfl) qf)) S ?_
  refine rtp 10 (Bv ((((sv[d.fA.toNat]!).qI).qP:Int) == (((sv[d.fA.toNat]!).qC).qP))) S ?_
  refine rtp 11 (Bv ((((sv[d.fA.toNat]!).qI).qP:Int) == (((sv[d.fA.toNat]!).qC).qP))) S ?_
  cases th:((((sv[d.fA.toNat]!).qI).qP:Int) == (((sv[d.fA.toNat]!).qC).qP))
  ·replace th:=ne_of_beq_false th
   refine zZ (zR 12 5) 5 (H.pick (zR 0 5)<|zR 6 11)<|xy qh<|xZ<|sp (Bv false)<|sp (Bv false)<|zjr<|ret1 (Bv false) rfl rfl ⟨_,rfl,(⟨H.pick (zR 0 5)<|zR 6 11,(xy qh<|xZ<|sp (Bv false)<|sp (Bv false)<|zjr<|b_r<|t_r<|ret1 (Bv false) rfl rfl ⟨_,rfl,(⟨false,rfl,N,H.xm 5 17 (zR 1 4) (zR 12 5) (by simp only[List.length_cons,List.length_append];omega)<|by simp only[List.length_cons,List.length_append];omega⟩)⟩)⟩)⟩
  replace th:=eq_of_beq th
  have S:=H.zW (zR 0 5)<|zR 6 11
  refine rgl 12 24 S ?_
  refine rgl 13 24 S ?_
  refine gF 14 rfl rfl S ?_
  refine gF 15 rfl rfl S ?_
  refine rg 16 _ 24 (jU (off:=0+(d.fA:Int).toNat*16+8+3) isAgg4 rfl<|fun _ h=>(h.zt 3 rfl (ai7 3 _ rfl) qf)) S ?_
  refine xy qh<|xZ<|sq 2<|zjr<|ret1 (Bv (((sv[d.fA.toNat]!).qI).qV)) rfl rfl ⟨_,rfl,(⟨H.pick (zR 0 5)<|zR 6 11,(xy qh<|xZ<|sq 2<|zjr<|b_r<|t_r<|ret1 (Bv (((sv[d.fA.toNat]!).qI).qV)) rfl rfl ⟨_,rfl,?_⟩)⟩)⟩
  exact⟨((sv[d.fA.toNat]!).qI).qV,rfl,N,H.xm 5 17 (zR 1 4) (zR 12 5) (by simp only[List.length_cons,List.length_append];omega)<|by simp only[List.length_cons,List.length_append];omega⟩
 refine zcc<|sp (Bv ((d.xJ:Int) == 6))<|sp (Bv ((d.xJ:Int) == 6))<|zjn<|cE rfl (fun HR=>?_)<|fun HR=>?_
 ·refine qW (t_n<|vg ((d.xJ:Int) == 6) rfl (fun JB=>?_)<|fun h=>absurd HR<|ne_of_beq_false h)
  replace JB:=eq_of_beq JB
  refine xM<|vK 2 rfl H [0,1,2,3,4] [0,1,2,3,4] fun H=>?_
  dsimp only[yg,yL]
  have S:=H.zW (zR 0 5)<|zR 0 5
  refine tF 0 rfl rfl S ?_
  refine tL 1 rfl rfl (fun _ h=>h.cell 0 rfl rfl) S ?_
  refine rtl 2 S ?_
  refine rtl 3 S ?_
  refine tF 4 rfl rfl S ?_
  refine tF 5 rfl rfl S ?_
  refine tL 6 rfl rfl (fun _ h=>h.cell 1 rfl rfl) S ?_
  refine tN 7 rfl rfl S ?_
  refine xy qh<|xZ<|sq 2<|zjr<|b_r<|t_r<|ret1 (Bv<|decide ((d.fA:Int)<wi.length)) rfl rfl ⟨_,rfl,(⟨decide ((d.fA:Int)<wi.length),rfl,N,H.xm 5 5 (zR 1 4) (zR 0 5) (by simp only[List.length_cons,List.length_append];omega)<|by simp only[List.length_cons,List.length_append];omega⟩)⟩
 refine zcr<|sp (Bv ((d.xJ:Int) == 7))<|sp (Bv ((d.xJ:Int) == 7))<|zjn<|cE rfl (fun Bt=>?_)<|fun Bt=>?_
 ·refine qW (t_n<|vg ((d.xJ:Int) == 7) rfl (fun Sc=>?_)<|fun h=>absurd Bt<|ne_of_beq_false h)
  replace Sc:=eq_of_beq Sc
  refine xM<|vK 2 rfl H [0,1,2,3,4] [0,1,2,3,4] fun H=>?_
  dsimp only[yg,yL]
  have S:=H.zW (zR 0 5)<|zR 0 5
  refine tF 0 rfl rfl S ?_
  refine tL 1 rfl rfl (fun _ h=>h.cell 0 rfl rfl) S ?_
  refine rtl 2 S ?_
  refine rtl 3 S ?_
  refine tF 4 rfl rfl S ?_
  refine tF 5 rfl rfl S ?_
  refine tL 6 rfl rfl (fun _ h=>h.cell 1 rfl rfl) S ?_
  refine tN 7 rfl rfl S ?_
  refine xy qh<|xZ<|sq 2<|zjr<|b_r<|t_r<|ret1 (Bv<|decide ((d.fA:Int)<wi.length)) rfl rfl ⟨_,rfl,(⟨decide ((d.fA:Int)<wi.length),rfl,N,H.xm 5 5 (zR 1 4) (zR 0 5) (by simp only[List.length_cons,List.length_append];omega)<|by simp only[List.length_cons,List.length_append];omega⟩)⟩
 refine xX<|sp (Bv ((d.xJ:Int) == 8))<|sp (Bv ((d.xJ:Int) == 8))<|zjn<|cE rfl (fun EE=>?_)<|fun EE=>?_
 ·refine xM (vK 2 rfl H [0,1,2,3,4] [0,1,2,3,4] fun H=>?_)
  dsimp only[yg,yL]
  have S:=H.zW (zR 0 5)<|zR 0 5
  refine tF 0 rfl rfl S ?_
  refine tL 1 rfl rfl (fun _ h=>h.cell 0 rfl rfl) S ?_
  refine rtl 2 S ?_
  refine rtl 3 S ?_
  refine tF 4 rfl rfl S ?_
  refine tF 5 rfl rfl S ?_
  refine tL 6 rfl rfl (fun _ h=>h.cell 1 rfl rfl) S ?_
  refine tN 7 rfl rfl S ?_
  refine xy qh<|xZ<|sq 2<|zjr<|b_r<|t_r<|ret1 (Bv<|decide ((d.fA:Int)<wi.length)) rfl rfl ⟨_,rfl,(⟨decide ((d.fA:Int)<wi.length),rfl,N,H.xm 5 5 (zR 1 4) (zR 0 5) (by simp only[List.length_cons,List.length_append];omega)<|by simp only[List.length_cons,List.length_append];omega⟩)⟩
 refine qW<|b_n<|t_n<|zcr<|sp (Bv true)<|zjr<|ret1 (Bv true) rfl rfl ⟨_,rfl,(⟨true,rfl,N,H.xm 5 5 (zR 1 4) (zR 0 5) (by simp only[List.length_cons,List.length_append];omega)<|by simp only[List.length_cons,List.length_append];omega⟩)⟩
theorem dDeeds_ok(ag:List UInt8)(ip:Int)(sd:Int)(bs:Nat)(ac:yOA)(cc:Nat)(Fc:yLN)(s:qO)(own:yLI)(ap:yOA)(cp:Nat)(Fp:yLN)(ar:yOA)(cr:Nat)(Fr:yLN)(ao:yOA)(co:Nat)(Fo:yLN)(t:xn)(tA:yOA)(cA:Nat)(FA:yLN)(tB:yOA)(cB:Nat)(FB:yLN)(tU:yOA)(cU:Nat)(FU:yLN)(sb:Nat)(tb:Nat)(fa:Int)(n:Nat)(H:St W0 w ((.box bs [Sv ac ag.length cc,yI ip,.int .u64 sd] 116)::(.box sb (yS s ap cp ar cr) 27)::(.box tb (yT t tA cA tB cB tU cU) 31)::ps) ((sF false Fc ac cc ag)::(sF false Fp ap cp s.qA)::(sF false Fr ar cr s.qB)::(sF false Fo ao co own)::(sF false FA tA cA t.xF)::(sF false FB tB cB t.qG)::(sF false FU tU cU t.qF)::Γ))(N:Fresh W0.heap.size (Ns))(K0:Kept Ns Γ)(q0:0<=ip/\ip<=30000)(p0:Giv s own n)(p1:Xw own n)(p2:vU s t)(p3:1<=fa/\fa<=40)(OL:∀f∈(sF false Fc ac cc ag::sF false Fp ap cp s.qA::sF false Fr ar cr s.qB::sF false Fo ao co own::sF false FA tA cA t.xF::sF false FB tB cB t.qG::sF false FU tU cU t.qF::Γ),∀b∈f.F,b<W0.heap.size):Calls Tryz.prog 25 #[pp bs 0,pp sb 0,Sv ao own.length co,pp tb 0,yI fa] w (fun e w'=>∃v,e=.returned v/\∃(lQ:Int) (Ar:Int) (nD:List xH) (rad:yOA) (rnd:Nat) (rcd:Nat) (rxd:List Value) (rFd:yLN),(ip<=lQ/\lQ<=ip+5000)/\(Deeds nD/\(nD.length:Int)<=fa)/\v=Sv rad rnd rcd/\Fresh W0.heap.size (rFd::Ns)/\St W0 w' ((.box bs [Sv ac ag.length cc,yI lQ,.int .u64 Ar] 116)::(.box sb (yS s ap cp ar cr) 27)::(.box tb (yT t tA cA tB cB tU cU) 31)::(rr rad rnd rcd 44 3 rxd)::ps) ((sF false Fc ac cc ag)::(sF false Fp ap cp s.qA)::(sF false Fr ar cr s.qB)::(sF false Fo ao co own)::(sF false FA tA cA t.xF)::(sF false FB tB cB t.qG)::(sF false FU tU cU t.qF)::(qQ true rFd rxd nD)::Γ)):=by
 refine en func25 ntmps25 ?_
 have e2:=p1.one
 have bl:(xg s own t n).qE.length=n:=beginTo_len s own t n
 refine zcr<|sq 1<|zjc<|sw<|jH H underlying34 ti44 fun b1 w2 H=>sq 1<|zjc<|sq 3 ?_
 have H1:=H.yt 4 7 [2,3,0,1] [1,2,3,4,5,6,0] (by simp only[List.length_cons,List.length_append];omega)<|by simp only[List.length_cons,List.length_append];omega
 have N1:Fresh _ (Ns):=N
 have K1:Kept (Ns) ((sF false Fc ac cc ag)::Γ):=K0.behind 1 rfl
 refine sw<|zD #[pp sb 0,Sv ao own.length co,pp tb 0] rfl rfl call62 (begin_spec s own ap cp Fp ar cr Fr ao co Fo t tA cA FA tB cB FB tU cU FU sb tb n H1 N1 K1 qg qg qg<|xQ (zQ OL 1 rfl)<|xQ (zQ OL 2 rfl)<|xQ (zQ OL 3 rfl)<|xQ (zQ OL 4 rfl)<|xQ (zQ OL 5 rfl)<|xQ (zQ OL 6 rfl)<|xQ (zQ OL 0 rfl)<|XX OL 7 rfl) ?_
 clear H H1 N1 K1
 rintro _ w3 ⟨Hj,pq,rn7,Hk,rx9,ES,uW,aHc,acy,Jh,KM,rfl,N,H⟩
 obtain rfl:=H.xk (α:=zu) 3 rfl 6 rfl qj
 obtain rfl:=H.xk (α:=zk) 4 rfl 7 rfl qj
 refine sq 1<|zjcc<|sq 2<|sw<|zS fa 1 rfl rfl qf ?_
 have H1:=H.yt 7 9 [6,0,1,2,3,4,5] [8,0,1,2,3,4,5,6,7] (by simp only[List.length_cons,List.length_append];omega)<|by simp only[List.length_cons,List.length_append];omega
 have N1:Fresh _ (ES::KM::Ns):=N
 have K1:Kept (Ns) ((sF false Fp ap cp s.qA)::(sF false Fr ar cr s.qB)::(sF false Fo ao co own)::(sF false FA tA cA t.xF)::(sF false FB tB cB t.qG)::(sF false FU tU cU t.qF)::(qQ true ES rx9 ((xg s own t n).qE))::(qQ true KM Jh ((xg s own t n).x9))::Γ):=K0.behind 8 rfl
 replace K1:=K1.cons (F:=KM) 7 rfl rfl
 replace K1:=K1.cons (F:=ES) 6 rfl rfl
 refine sw<|zD #[pp bs 0,yI<|fa+1] rfl rfl call59 (yR ag ip sd bs ac cc Fc (fa+1) H1 N1 K1 qg) ?_
 clear H H1 N1 K1
 rintro _ If ⟨RL,EL,Q6,IT,acv,rfl,N,H⟩
 refine sq 1<|zjn<|xe ?_
 replace H:=H.boxRow 6 rfl 3 0 rfl qj
 dsimp only[List.set] at H
 replace H:=H.yD (α:=xH)
 replace H:St _ _ ((.box bs [Sv ac ag.length cc,yI RL,.int .u64 EL] 116)::(.box sb (yS s ap cp ar cr) 27)::(.box tb (yT t tA cA tB cB tU cU) 31)::(.box Hj [pp sb 0,Sv ao own.length co,Sv pq (((xg s own t n).qE).length) Hk,Sv uW (((xg s own t n).x9).length) acy] 86)::(rr pq (((xg s own t n).qE).length) Hk 49 16 rx9)::(rr uW (((xg s own t n).x9).length) acy 77 4 Jh)::(rr (aa b1 0) 0 0 44 3 [])::ps) ((qQ true [] [] ([]:List xH))::(sF false Fc ac cc ag)::(sF false Fp ap cp s.qA)::(sF false Fr ar cr s.qB)::(sF false Fo ao co own)::(sF false FA tA cA t.xF)::(sF false FB tB cB t.qG)::(sF false FU tU cU t.qF)::(qQ true ES rx9 ((xg s own t n).qE))::(qQ true KM Jh ((xg s own t n).x9))::Γ):=H
 refine zT ((fun Z0 Z1 Z2 Z3 Z4 Z5 Z6 Z7 Z8=>fun m' ρ Kf=>∃(xP:Env) (yO:yOA) (yH:Nat) (yM:Nat) (out:List xH) (QF:List Value) (Qo:yLN) (k:Int) (Qb:yOA) (yY:Nat) (Qa:Nat) (dS:List zk) (Qv:List Value) (jg:yLN) (bC:List zu) (jm:List Value) (qY:yLN) (eF:Int) (dB:Int),ρ=upd (upd (upd (upd (upd (upd xP 0<|pp bs 0) 1<|pp sb 0) 2<|Sv ao own.length co) 11<|Sv yO yH yM) 12<|pp Hj 0) 13 (yI k)/\(ip<=eF/\eF+100*k<=ip+4100)/\(0<=k/\(out.length:Int)+k<=fa)/\(Qo=[])/\(Deeds out)/\(Vh s own n (⟨bC,dS⟩:zN))/\m'=k.toNat/\Fresh W0.heap.size (Qo::jg::qY::Ns)/\St W0 Kf ((.box bs [Sv ac ag.length cc,yI eF,.int .u64 dB] 116)::Z0::Z1::(.box Hj [pp sb 0,Sv ao own.length co,Sv pq (((xg s own t n).qE).length) Hk,Sv Qb yY Qa] 86)::(rr pq (((xg s own t n).qE).length) Hk 49 16 jm)::(rr Qb yY Qa 77 4 Qv)::(rr yO yH yM 44 3 QF)::ps) ((qQ true Qo QF out)::Z2::Z3::Z4::Z5::Z6::Z7::Z8::(qQ true qY jm bC)::(qQ true jg Qv dS)::Γ)) _ _ _ _ _ _ _ _ _) (Q6.toNat) ⟨_,(aa b1 0),0,0,([]:List xH),[],[],Q6,uW,((xg s own t n).x9).length,acy,(xg s own t n).x9,Jh,KM,(xg s own t n).qE,rx9,ES,RL,EL,uE6,qf,qy,(by rfl),(by exact Deeds.nil),(by exact begin_ok p0 p2),rfl,(N.emp.xm 3 [0,2,1]<|by simp only[List.length_cons,List.length_append];omega),H⟩ ?_
 clear H N
 rintro m' ρ D1 ⟨xP,yO,yH,yM,out,QF,Qo,k,Qb,yY,Qa,dS,Qv,jg,bC,jm,qY,eF,dB,rfl,i1,i2,i3,i4,i5,rfl,N,H⟩
 have Vm:=H.xk (α:=xH) 6 rfl 0 rfl qj
 have Dj:=H.xk (α:=zk) 5 rfl 9 rfl qj
 have np:=H.xk (α:=zu) 4 rfl 8 rfl qj
 have tl:bC.length=n:=i5.len
 have tf:dS.length<=12:=i5.few
 obtain rfl:=i3
 refine zcc<|sp (yI k)<|sp (Bv<|decide ((k:Int)>0))<|zjn<|cD rfl (fun h25=>?_)<|fun h25=>?_
 ·refine qW (t_n<|xM<|xe<|zcr<|sq 2 ?_)
  have H1:=H.yt 7 10 [0,3,1,2,4,5,6] [1,0,2,3,4,5,6,7,8,9] (by simp only[List.length_cons,List.length_append];omega)<|by simp only[List.length_cons,List.length_append];omega
  have N1:Fresh _ ([]::jg::qY::Ns):=N
  have K1:Kept (Ns) ((qQ true [] QF out)::(sF false Fp ap cp s.qA)::(sF false Fr ar cr s.qB)::(sF false Fo ao co own)::(sF false FA tA cA t.xF)::(sF false FB tB cB t.qG)::(sF false FU tU cU t.qF)::(qQ true qY jm bC)::(qQ true jg Qv dS)::Γ):=K0.behind 9 rfl
  replace K1:=K1.cons (F:=qY) 7 rfl rfl
  replace K1:=K1.cons (F:=jg) 8 rfl rfl
  replace K1:=K1.cons (F:=[]) 0 rfl rfl
  refine sw<|zD #[pp bs 0,pp Hj 0] rfl rfl call63 (dNextDeed_ok ag eF dB bs ac cc Fc sb ao own.length co Hj pq (((xg s own t n).qE).length) Hk Qb yY Qa H1 N1 K1 qg qg qg) ?_
  clear H H1 N1 K1
  rintro _ Fq ⟨atd,ax7,Lv,NZ,amq,aaL,Ct,rfl,N,H⟩
  refine sw<|zn H ti44 [yI 0,yI 0,yI 0] fun b35 FY H=>sw<|zF H 0 [yI Lv,yI NZ,yI amq] sizeOf44 fun w37 H=>?_
  dsimp only[List.set] at H
  refine zjcc<|sp (yI 0)<|zjn<|xe<|zT ((fun Z0 Z1 Z2 Z3 Z4 Z5 Z6 Z7 Z8 Z9 fi fK gW ka lc lN=>fun m' ρ R0=>∃(xP:Env) (vA:Nat) (df:Int) (di:Int) (cC:Int) (nY:Int) (nX:Int),ρ=upd (upd (upd (upd (upd (upd (upd (upd xP 0<|pp bs 0) 1<|pp sb 0) 2<|Sv ao own.length co) 11<|Sv yO yH yM) 12<|pp Hj 0) 13<|yI k) 14<|pp b35 0) 15 (yI vA)/\(ip<=df/\df+100*k+25*(3-vA)<=ip+4195)/\(DrawnD n ⟨cC,nY,nX⟩)/\(vA<=3)/\m'=(3-vA:Nat)/\Fresh W0.heap.size ([]::jg::qY::Ns)/\St W0 R0 ((.box b35 [yI cC,yI nY,yI nX] 44)::(.box bs [Sv ac ag.length cc,yI df,.int .u64 di] 116)::Z0::Z1::Z2::Z3::Z4::Z5::ps) (Z6::Z7::Z8::Z9::fi::fK::gW::ka::lc::lN::Γ)) _ _ _ _ _ _ _ _ _ _ _ _ _ _ _ _) ((3-0:Nat)) ⟨_,0,atd,ax7,Lv,NZ,amq,uE8,qf,(by rw[←bl];assumption),qf,rfl,N,H⟩ ?_
  clear H N
  rintro m' ρ Rr ⟨xP,vA,df,di,cC,nY,nX,rfl,j1,j2,j3,rfl,N,H⟩
  have j4:DrawnD bC.length ⟨cC,nY,nX⟩:=by rw[tl];exact j2
  refine zcc<|sq 1<|sp (Bv<|decide ((vA:Int)<3))<|sp (Bv<|decide ((vA:Int)<3)) ?_
  cases sG:(decide ((vA:Int)<3))
  ·replace sG:=of_decide_eq_false sG
   refine xO [37,38,39]<|sp (Bv false)<|zjn<|cFr rfl<|zx4<|zcr<|sq 1<|sw<|xW [yI cC,yI nY,yI nX] isAgg44 sizeOf44 rfl (qH (H.cells 0 rfl) 0 3)<|sw<|zy H underlying34 ti44 [yI cC,yI nY,yI nX] fun GO Sh H=>sw<|zH H 8 rfl 0 rfl underlying34 ti44 rfl qj rfl rfl rfl qw qp qf fun a43 c44 w45 H=>?_
   dsimp only[List.set] at H
   replace H:=H.snoc_DeedD 1 rfl cC nY nX
   replace N:Fresh W0.heap.size (([]++[])::jg::qY::Ns):=(Fresh.join<|Fresh.swap<|N.emp)
   refine sq 1<|zjn<|xX<|sq 1<|sw<|xW [yI cC,yI nY,yI nX] isAgg44 sizeOf44 rfl (qH (H.cells 1 rfl) 0 3) ?_
   have dd:=j2.1
   have tk:=i5
   have H1:=H.yt 9 11 [3,4,6,7,0,1,2,5,8] [3,4,5,9,10,0,1,2,6,7,8] (by simp only[List.length_cons,List.length_append];omega)<|by simp only[List.length_cons,List.length_append];omega
   have N1:Fresh _ (qY::jg::([]++[])::Ns):=(N.xm 3 [2,1,0]<|by simp only[List.length_cons,List.length_append];omega)
   have K1:Kept (Ns) ((qQ true ([]++[]) (QF++[yI cC,yI nY,yI nX])<|out++[(⟨cC,nY,nX⟩:xH)])::(sF false Fc ac cc ag)::(qQ true [] QF out)::(sF false FA tA cA t.xF)::(sF false FB tB cB t.qG)::(sF false FU tU cU t.qF)::Γ):=K0.behind 6 rfl
   replace K1:=K1.cons (F:=([]++[])) 0 rfl rfl
   refine sw<|zD #[pp Hj 0,.agg #[yI cC,yI nY,yI nX]] rfl rfl call65 (sdo_ok s own ap cp Fp ar cr Fr ao co Fo sb bC dS Hj _ pq (((xg s own t n).qE).length) Hk jm qY Qb yY Qa Qv jg (⟨cC,nY,nX⟩:xH) H1 N1 K1 qg qg qg<|xQ (zQ OL 1 rfl)<|xQ (zQ OL 2 rfl)<|xQ (zQ OL 3 rfl)<|xQ (old_nil rfl)<|xQ (zQ OL 0 rfl)<|xQ (old_nil rfl)<|xQ (zQ OL 4 rfl)<|xQ (zQ OL 5 rfl)<|xQ (zQ OL 6 rfl)<|XX OL 7 rfl) ?_
   clear H H1 N1 K1
   rintro _ SF ⟨aHX,P7,aDO,aG1,aFc,aEq,aFS,rfl,N,H⟩
   obtain rfl:=H.xk (α:=zk) 3 rfl 4 rfl qj
   refine xU<|b_n<|t_n<|xX<|sp (yI k)<|sw<|o_sub k 1 rfl rfl qf<|sq 1<|xU<|xu (m':=(k-1).toNat) qf ⟨_,_,_,_,_,_,_,_,_,_,_,_,_,_,_,_,_,_,_,uE6,?_,?_,?_,?_,?_,rfl,(N.xm 3 [2,1,0]<|by simp only[List.length_cons,List.length_append];omega),H.xm 9 11 [6,1,7,0,2,3,8] [5,6,0,1,2,8,9,10,3,4] (by simp only[List.length_cons,List.length_append];omega)<|by simp only[List.length_cons,List.length_append];omega⟩
   ·omega
   ·simp;omega
   ·rfl
   ·exact i4.snoc dd
   ·exact doM_ok p0 tk dd
  replace sG:=of_decide_eq_true sG
  refine qJ 36 rfl rfl<|sq 1<|qJ 36 rfl rfl ?_
  have H1:=H.yt 8 10 [1,0,2,3,4,5,6,7] [0,1,2,3,4,5,6,7,8,9] (by simp only[List.length_cons,List.length_append];omega)<|by simp only[List.length_cons,List.length_append];omega
  have N1:Fresh _ ([]::jg::qY::Ns):=N
  have K1:Kept (Ns) ((qQ true [] QF out)::(sF false Fp ap cp s.qA)::(sF false Fr ar cr s.qB)::(sF false Fo ao co own)::(sF false FA tA cA t.xF)::(sF false FB tB cB t.qG)::(sF false FU tU cU t.qF)::(qQ true qY jm bC)::(qQ true jg Qv dS)::Γ):=K0.behind 9 rfl
  replace K1:=K1.cons (F:=qY) 7 rfl rfl
  replace K1:=K1.cons (F:=jg) 8 rfl rfl
  replace K1:=K1.cons (F:=[]) 0 rfl rfl
  refine sw<|zD #[pp bs 0,yI 6] rfl rfl call58 (dOne_ok ag df di bs ac cc Fc (6:Int) H1 N1 K1 qg) ?_
  clear H H1 N1 K1
  rintro _ w55 ⟨JX,Ai,afF,agh,rfl,N,H⟩
  refine qJ 36 rfl rfl<|sp (Bv !afF)<|sp (Bv !afF)<|zjn<|vg _ rfl (fun xp=>?_)<|fun xp=>?_
  ·replace xp:=xq xp
   refine qW<|t_n<|xM<|xe<|zcr<|sq 4<|oF rfl<|sw<|xW [Sv pq (((xg s own t n).qE).length) Hk,Sv Qb yY Qa] isAgg39 sizeOf39 rfl (qH (H.cells 2 rfl) 2 2)<|sw<|jE [pp sb 0,Sv ao own.length co,Sv pq (((xg s own t n).qE).length) Hk,Sv Qb yY Qa] [(0,pp sb 0),(1,Sv ao own.length co),(2,.agg #[Sv pq (((xg s own t n).qE).length) Hk,Sv Qb yY Qa])]<|sw<|jq H [pp sb 0,Sv ao own.length co,Sv pq (((xg s own t n).qE).length) Hk,Sv Qb yY Qa] fun b62 w63 H=>sq 1<|zjc<|sw<|xW [yI cC,yI nY,yI nX] isAgg44 sizeOf44 rfl (qH (H.cells 2 rfl) 0 3)<|sw<|zn H ti44 [yI 0,yI 0,yI 0] fun b64 w65 H=>sw<|zF H 0 [yI cC,yI nY,yI nX] sizeOf44 fun w66 H=>?_
   dsimp only[List.set] at H
   refine zjcc<|sq 1<|sw<|xW [yI cC,yI nY,yI nX] isAgg44 sizeOf44 rfl (qH (H.cells 0 rfl) 0 3) ?_
   have H1:=H.yt 10 10 [1,5,7,8,0,2,3,4,6,9] [2,3,4,8,9,0,1,5,6,7] (by simp only[List.length_cons,List.length_append];omega)<|by simp only[List.length_cons,List.length_append];omega
   have N1:Fresh _ (qY::jg::[]::Ns):=(N.xm 3 [2,1,0]<|by simp only[List.length_cons,List.length_append];omega)
   have K1:Kept (Ns) ((sF false Fc ac cc ag)::(qQ true [] QF out)::(sF false FA tA cA t.xF)::(sF false FB tB cB t.qG)::(sF false FU tU cU t.qF)::Γ):=K0.behind 5 rfl
   replace K1:=K1.cons (F:=[]) 1 rfl rfl
   refine sw<|zD #[pp b62 0,.agg #[yI cC,yI nY,yI nX]] rfl rfl call64 (dWould_ok s own ap cp Fp ar cr Fr ao co Fo sb bC dS b62 _ pq (((xg s own t n).qE).length) Hk jm qY Qb yY Qa Qv jg (⟨cC,nY,nX⟩:xH) H1 N1 K1 qg qg qg) ?_
   clear H H1 N1 K1
   rintro _ w67 ⟨aGd,rfl,N,H⟩
   refine zjn<|vg _ rfl (fun h70=>?_)<|fun h70=>?_
   ·refine c_exit (t_x<|b_o rfl<|t_x<|t_x<|b_x<|t_n<|zcr<|sq 1<|sw<|xW [yI cC,yI nY,yI nX] isAgg44 sizeOf44 rfl (qH (H.cells 6 rfl) 0 3)<|sw<|zy H underlying34 ti44 [yI cC,yI nY,yI nX] fun b71 Kc H=>sw<|zH H 10 rfl 0 rfl underlying34 ti44 rfl qj rfl rfl rfl qw qp qf fun a73 c74 w75 H=>?_)
    dsimp only[List.set] at H
    replace H:=H.snoc_DeedD 6 rfl cC nY nX
    replace N:Fresh W0.heap.size (([]++[])::qY::jg::Ns):=(Fresh.join<|Fresh.swap ((N.xm 3 [2,0,1]<|by simp only[List.length_cons,List.length_append];omega).emp))
    refine sq 1<|zjn<|xX<|sq 1<|sw<|xW [yI cC,yI nY,yI nX] isAgg44 sizeOf44 rfl (qH (H.cells 7 rfl) 0 3) ?_
    have dd:=j2.1
    have tk:=i5
    have H1:=H.yt 11 11 [8,2,3,4,0,1,5,6,7,9,10] [1,2,3,4,5,0,6,7,8,9,10] (by simp only[List.length_cons,List.length_append];omega)<|by simp only[List.length_cons,List.length_append];omega
    have N1:Fresh _ (qY::jg::([]++[])::Ns):=(N.xm 3 [1,2,0]<|by simp only[List.length_cons,List.length_append];omega)
    have K1:Kept (Ns) ((qQ true ([]++[]) (QF++[yI cC,yI nY,yI nX])<|out++[(⟨cC,nY,nX⟩:xH)])::(sF false Fc ac cc ag)::(qQ true [] QF out)::(sF false FA tA cA t.xF)::(sF false FB tB cB t.qG)::(sF false FU tU cU t.qF)::Γ):=K0.behind 6 rfl
    replace K1:=K1.cons (F:=([]++[])) 0 rfl rfl
    refine sw<|zD #[pp Hj 0,.agg #[yI cC,yI nY,yI nX]] rfl rfl call65 (sdo_ok s own ap cp Fp ar cr Fr ao co Fo sb bC dS Hj _ pq (((xg s own t n).qE).length) Hk jm qY Qb yY Qa Qv jg (⟨cC,nY,nX⟩:xH) H1 N1 K1 qg qg qg<|xQ (zQ OL 1 rfl)<|xQ (zQ OL 2 rfl)<|xQ (zQ OL 3 rfl)<|xQ (old_nil rfl)<|xQ (zQ OL 0 rfl)<|xQ (old_nil rfl)<|xQ (zQ OL 4 rfl)<|xQ (zQ OL 5 rfl)<|xQ (zQ OL 6 rfl)<|XX OL 7 rfl) ?_
    clear H H1 N1 K1
    rintro _ w76 ⟨PX,aCt,aFv,aGA,Jy,aFH,aCY,rfl,N,H⟩
    obtain rfl:=H.xk (α:=zk) 3 rfl 4 rfl qj
    refine xU<|b_n<|t_n<|xX<|sp (yI k)<|sw<|o_sub k 1 rfl rfl qf<|sq 1<|xU<|xu (m':=(k-1).toNat) qf ⟨_,_,_,_,_,_,_,_,_,_,_,_,_,_,_,_,_,_,_,uE6,?_,?_,?_,?_,?_,rfl,(N.xm 3 [2,1,0]<|by simp only[List.length_cons,List.length_append];omega),H.xm 11 11 [7,1,9,0,2,3,10] [5,6,0,1,2,8,9,10,3,4] (by simp only[List.length_cons,List.length_append];omega)<|by simp only[List.length_cons,List.length_append];omega⟩
    ·omega
    ·simp;omega
    ·rfl
    ·exact i4.snoc dd
    ·exact doM_ok p0 tk dd
   refine qW<|t_n<|xX<|sq 2 ?_
   have H1:=H.yt 10 10 [5,7,0,1,2,3,4,6,8,9] [5,0,1,2,3,4,6,7,8,9] (by simp only[List.length_cons,List.length_append];omega)<|by simp only[List.length_cons,List.length_append];omega
   have N1:Fresh _ (qY::jg::[]::Ns):=N
   have K1:Kept (Ns) ((sF false Fp ap cp s.qA)::(sF false Fr ar cr s.qB)::(sF false Fo ao co own)::(qQ true qY jm bC)::(qQ true jg Qv dS)::(qQ true [] QF out)::(sF false FA tA cA t.xF)::(sF false FB tB cB t.qG)::(sF false FU tU cU t.qF)::Γ):=K0.behind 9 rfl
   replace K1:=K1.cons (F:=[]) 5 rfl rfl
   replace K1:=K1.cons (F:=jg) 4 rfl rfl
   replace K1:=K1.cons (F:=qY) 3 rfl rfl
   refine sw<|zD #[pp bs 0,pp Hj 0] rfl rfl call63 (dNextDeed_ok ag JX Ai bs ac cc Fc sb ao own.length co Hj pq (((xg s own t n).qE).length) Hk Qb yY Qa H1 N1 K1 qg qg qg) ?_
   clear H H1 N1 K1
   rintro _ w85 ⟨aCG,Nc,Fj,E4,avw,ahY,RM,rfl,N,H⟩
   refine sw<|zF H 7 [yI Fj,yI E4,yI avw] sizeOf44 fun w94 H=>?_
   dsimp only[List.set] at H
   refine xU<|b_n<|t_n<|xX<|sq 1<|sw<|zS vA 1 rfl rfl qf<|sq 1<|xU<|xu (m':=(3-(vA+1):Nat)) qf ⟨_,vA+1,_,_,_,_,_,uE8,?_,?_,?_,rfl,(N.xm 3 [2,1,0]<|by simp only[List.length_cons,List.length_append];omega),H.xm 10 10 [7,0,1,3,8,4,5,9] [0,6,1,2,3,7,8,9,4,5] (by simp only[List.length_cons,List.length_append];omega)<|by simp only[List.length_cons,List.length_append];omega⟩
   ·omega
   ·rw[←bl];assumption
   ·omega
  replace xp:=xf xp
  refine zx4<|zcr<|sq 1<|sw<|xW [yI cC,yI nY,yI nX] isAgg44 sizeOf44 rfl (qH (H.cells 1 rfl) 0 3)<|sw<|zy H underlying34 ti44 [yI cC,yI nY,yI nX] fun b95 w96 H=>sw<|zH H 8 rfl 0 rfl underlying34 ti44 rfl qj rfl rfl rfl qw qp qf fun a97 c98 w99 H=>?_
  dsimp only[List.set] at H
  replace H:=H.snoc_DeedD 1 rfl cC nY nX
  replace N:Fresh W0.heap.size (([]++[])::jg::qY::Ns):=(Fresh.join<|Fresh.swap<|N.emp)
  refine sq 1<|zjn<|xX<|sq 1<|sw<|xW [yI cC,yI nY,yI nX] isAgg44 sizeOf44 rfl (qH (H.cells 2 rfl) 0 3) ?_
  have dd:=j2.1
  have tk:=i5
  have H1:=H.yt 9 11 [3,4,6,7,0,1,2,5,8] [3,4,5,9,10,0,1,2,6,7,8] (by simp only[List.length_cons,List.length_append];omega)<|by simp only[List.length_cons,List.length_append];omega
  have N1:Fresh _ (qY::jg::([]++[])::Ns):=(N.xm 3 [2,1,0]<|by simp only[List.length_cons,List.length_append];omega)
  have K1:Kept (Ns) ((qQ true ([]++[]) (QF++[yI cC,yI nY,yI nX])<|out++[(⟨cC,nY,nX⟩:xH)])::(sF false Fc ac cc ag)::(qQ true [] QF out)::(sF false FA tA cA t.xF)::(sF false FB tB cB t.qG)::(sF false FU tU cU t.qF)::Γ):=K0.behind 6 rfl
  replace K1:=K1.cons (F:=([]++[])) 0 rfl rfl
  refine sw<|zD #[pp Hj 0,.agg #[yI cC,yI nY,yI nX]] rfl rfl call65 (sdo_ok s own ap cp Fp ar cr Fr ao co Fo sb bC dS Hj _ pq (((xg s own t n).qE).length) Hk jm qY Qb yY Qa Qv jg (⟨cC,nY,nX⟩:xH) H1 N1 K1 qg qg qg<|xQ (zQ OL 1 rfl)<|xQ (zQ OL 2 rfl)<|xQ (zQ OL 3 rfl)<|xQ (old_nil rfl)<|xQ (zQ OL 0 rfl)<|xQ (old_nil rfl)<|xQ (zQ OL 4 rfl)<|xQ (zQ OL 5 rfl)<|xQ (zQ OL 6 rfl)<|XX OL 7 rfl) ?_
  clear H H1 N1 K1
  rintro _ amv ⟨aBs,aAP,azh,aeu,BM,aAe,aBC,rfl,N,H⟩
  obtain rfl:=H.xk (α:=zk) 3 rfl 4 rfl qj
  refine xU<|b_n<|t_n<|xX<|sp (yI k)<|sw<|o_sub k 1 rfl rfl qf<|sq 1<|xU<|xu (m':=(k-1).toNat) qf ⟨_,_,_,_,_,_,_,_,_,_,_,_,_,_,_,_,_,_,_,uE6,?_,?_,?_,?_,?_,rfl,(N.xm 3 [2,1,0]<|by simp only[List.length_cons,List.length_append];omega),H.xm 9 11 [5,1,7,0,2,3,8] [5,6,0,1,2,8,9,10,3,4] (by simp only[List.length_cons,List.length_append];omega)<|by simp only[List.length_cons,List.length_append];omega⟩
  ·omega
  ·simp;omega
  ·rfl
  ·exact i4.snoc dd
  ·exact doM_ok p0 tk dd
 refine zx4<|zcr<|sq 2<|zjr<|ret1 (Sv yO yH yM) rfl rfl ⟨_,rfl,(⟨eF,dB,out,yO,yH,yM,QF,[],qf,(by exact⟨i4,by omega⟩),rfl,(N.xm 3 [0]<|by simp only[List.length_cons,List.length_append];omega),H.xm 7 10 [0,1,2,6] [1,2,3,4,5,6,7,0] (by simp only[List.length_cons,List.length_append];omega)<|by simp only[List.length_cons,List.length_append];omega⟩)⟩
theorem a2Deeds_ok(ag:List UInt8)(ac:yOA)(cc:Nat)(Fc:yLN)(s:qO)(own:yLI)(ap:yOA)(cp:Nat)(Fp:yLN)(ar:yOA)(cr:Nat)(Fr:yLN)(ao:yOA)(co:Nat)(Fo:yLN)(t:xn)(tA:yOA)(cA:Nat)(FA:yLN)(tB:yOA)(cB:Nat)(FB:yLN)(tU:yOA)(cU:Nat)(FU:yLN)(n:Nat)(H:St W0 w (ps) ((sF false Fc ac cc ag)::(sF false Fp ap cp s.qA)::(sF false Fr ar cr s.qB)::(sF false Fo ao co own)::(sF false FA tA cA t.xF)::(sF false FB tB cB t.qG)::(sF false FU tU cU t.qF)::Γ))(N:Fresh W0.heap.size (Ns))(K0:Kept Ns Γ)(p0:Giv s own n)(p1:Xw own n)(p2:vU s t)(OL:∀f∈(sF false Fc ac cc ag::sF false Fp ap cp s.qA::sF false Fr ar cr s.qB::sF false Fo ao co own::sF false FA tA cA t.xF::sF false FB tB cB t.qG::sF false FU tU cU t.qF::Γ),∀b∈f.F,b<W0.heap.size):Calls Tryz.prog 9 #[Sv ac ag.length cc,.agg #[yI s.qN,Sv ap s.qA.length cp,Sv ar s.qB.length cr],Sv ao own.length co,.agg #[Sv tA t.xF.length cA,Sv tB t.qG.length cB,Sv tU t.qF.length cU]] w (fun e w'=>∃v,e=.returned v/\∃(nD:List xH) (rad:yOA) (rnd:Nat) (rcd:Nat) (rxd:List Value) (rFd:yLN),(Deeds nD/\(nD.length:Int)<=40)/\v=Sv rad rnd rcd/\Fresh W0.heap.size (rFd::Ns)/\St W0 w' ((rr rad rnd rcd 44 3 rxd)::ps) ((sF false Fc ac cc ag)::(sF false Fp ap cp s.qA)::(sF false Fr ar cr s.qB)::(sF false Fo ao co own)::(sF false FA tA cA t.xF)::(sF false FB tB cB t.qG)::(sF false FU tU cU t.qF)::(qQ true rFd rxd nD)::Γ)):=by
 refine en func9 ntmps9 ?_
 refine zcr<|sw<|jq H (yS s ap cp ar cr) fun b1 w2 H=>sw<|jq H (yT t tA cA tB cB tU cU) fun b3 w4 H=>sq 1<|zjc<|sq 1<|sw<|vz #[Sv ac ag.length cc] rfl rfl call24<|en func24 ntmps24 ?_
 refine zcr<|sq 1<|zjc<|sq 1<|sw<|jE [Sv ac ag.length cc,yI 0,.int .u64 0] [(0,Sv ac ag.length cc)]<|sw<|jq H [Sv ac ag.length cc,yI 0,.int .u64 0] fun b5 w6 H=>sq 1<|zjr<|ret1 (pp b5 0) rfl rfl ⟨_,rfl,(sq 1 ?_)⟩
 have H1:=H.yt 3 7 [0,2,1] [0,1,2,3,4,5,6] (by simp only[List.length_cons,List.length_append];omega)<|by simp only[List.length_cons,List.length_append];omega
 have N1:Fresh _ (Ns):=N
 have K1:Kept (Ns) (Γ):=K0.behind 0 rfl
 refine sw<|zD #[pp b5 0,pp b1 0,Sv ao own.length co,pp b3 0,yI 40] rfl rfl call25 (dDeeds_ok ag (0:Int) 0 b5 ac cc Fc s own ap cp Fp ar cr Fr ao co Fo t tA cA FA tB cB FB tU cU FU b1 b3 (40:Int) n H1 N1 K1 qg qg qg qg qg<|xQ (zQ OL 0 rfl)<|xQ (zQ OL 1 rfl)<|xQ (zQ OL 2 rfl)<|xQ (zQ OL 3 rfl)<|xQ (zQ OL 4 rfl)<|xQ (zQ OL 5 rfl)<|xQ (zQ OL 6 rfl)<|XX OL 7 rfl) ?_
 clear H H1 N1 K1
 rintro _ w7 ⟨dq,Rs,abl,rz,atI,uY,IM,as2,hx9,awa,rfl,N,H⟩
 obtain rfl:=H.xk (α:=xH) 3 rfl 7 rfl qj
 refine sq 1<|zjr<|ret1 (Sv rz abl.length uY) rfl rfl ⟨_,rfl,(⟨abl,rz,abl.length,uY,IM,as2,ql,rfl,N,H.xm 4 8 [3] (zR 0 8) (by simp only[List.length_cons,List.length_append];omega)<|by simp only[List.length_cons,List.length_append];omega⟩)⟩
end
section
section
variable{P : Program}{Q : Exit -> Act -> World -> Prop}{n : Nat}{ρ : Env}{W0 w : World}{ps : List Prv}{Γ : List Fact}
 {d:Nat} {op:Op} {ty:TypeId} {pos:String} {af:Array Edge} {K:Env->World->Prop}
theorem o_cvt[Dfr]{s:TypeId}{ds:TypeDesc}{k k':IntKind}(a:Int)(hs:P.underlying s=some ds)(ht:P.underlying t=some (.int k'))(hx:ev n ρ x=.int k a)(hw:k'.wrap a=a)(h:K (upd ρ d<|.int k' a) w):
 OW P Q ⟨some d,.convert s t x,ty,pos,af,none⟩ n ρ w K:=
 Q8 _ (by simp[execOp,hx,convert,run_underlying hs,run_underlying ht,Conv.intToInt,hw]) h
theorem o_gtU[Dfr](a b:Int){c:Bool}(hx:ev n ρ x=.int .u64 a)(hy:ev n ρ y=.int .u64 b)(hc:decide (a>b)=c)(k:K (upd ρ d<|Bv c) w):OW P Q ⟨some d,.binOp .gtr t x y u,ty,pos,af,none⟩ n ρ w K:=by
 subst hc
 exact Q8 (Bv<|decide<|a>b) (by simp[execOp,hx,hy,eqGuard,binOp,Op.intCmp]) k
theorem o_copyN[Dfr]{e:TypeId}{z:Value}{fx b c c2 c3 nn m m1 q dN:Nat}{A:Addr}{xs kY:List Value}(H:St W0 w ps Γ)(k:Nat)(hp:ps[k]? =some (.row (Sv (some ⟨b,0,none⟩) nn c) e 1 nn xs))
 (hu:P.underlying t=some (.slice e)) (he:TI P e z 1 fx) (hx:ev n ρ x=Sv (some ⟨b,q,none⟩) m1 c3) (hy:ev n ρ y=Sv (some A) m c2) (hc:Nat.min m m1=dN) (hl:kY.length=dN)
 (hn:∀r u,kY[r]? =some u->w.cell? (A.add r)=some u) (h1:∀u∈kY,u.oneCell'=true) (ho:q+kY.length<=xs.length)
 (kk:∀w',St W0 w' (ps.set k<|.row (Sv (some ⟨b,0,none⟩) nn c) e 1 nn<|xs.take q++kY++xs.drop (q+kY.length)) Γ->K (upd ρ d<|.int .i64 dN) w'):
 OW P Q ⟨some d,.call ⟨.builtin .copy,#[x,y],#[t,u]⟩,ty,pos,af,none⟩ n ρ w K:=by
 obtain⟨i',hi,S9,NI,SR⟩:=info_parts he
 have hz:i'.size=1:=by exact NI
 obtain⟨w',hr,H'⟩:=H.rowSet k hp q kY ho h1 (P:=P)
 have hfc:=run_firstCells_some (P:=P) w 1 dN A m c2 kY qf hn
 refine Q8 (.int .i64 dN) ?_<|kk w' H'
 simp[execOp,resolve,invoke,builtin,hx,hy,Builtin.copy_,run_underlying hu,sizeOf,typeInfo,hi,hz,Builtin.lenOf,hc,hfc,hr,goInt]
end
def mulR:Go.Shelf.Ren:=⟨fun|212=>164|263=>174|264=>175|n=>n,fun|46=>180|51=>198|53=>114|146=>199|148=>201|n=>n,fun|n=>n⟩
open Go.Shelf Go.Lib in
theorem mulLay:Lays.n212 Tryz.prog mulR:={
 mixed:=by kernel_rfl
 f212:=Tryz.func164.trans (congrArg some qh)
 f263:=Tryz.func174.trans (congrArg some qh)
 f264:=Tryz.func175.trans (congrArg some qh)
 t46:=underlying180
 a46:=isAgg180
 z46:=sizeOf180
 v46:=zeroValue180
 t51:=underlying198
 a51:=isAgg198
 z51:=sizeOf198
 v51:=zeroValue198
 t53:=underlying114
 a53:=isAgg114
 z53:=sizeOf114
 v53:=zeroValue114
 t146:=underlying199
 a146:=isAgg199
 z146:=sizeOf199
 v146:=zeroValue199
 t148:=underlying201
 a148:=isAgg201
 z148:=sizeOf201
 v148:=zeroValue201 }
theorem mul_one(m:Nat)(hm:m<=1000)(w:World):Calls Tryz.prog 164 #[.int .u64 1,.int .u64 m] w fun e w'=>e=.returned (.tuple #[.int .u64 0,.int .u64 m])/\w'=w:=by
 have h:=Go.Proofs.Any.bits_Mul mulLay 1 m qf qf w
 rw[show 1*m / 18446744073709551616=0 from by omega,show 1*m % 18446744073709551616=m from by omega] at h
 exact h
theorem repeatB_ok(w:World)(x:List Bool)(zw:Int){ax:yOA}{cx:Nat}{Fx:yLN}(hx:zP w Fx ax cx x)(p0:x.length=1/\1<=zw/\zw<=1000):
 Calls Tryz.prog 138 #[Sv ax x.length cx,.int .i64 zw] w (Ret (fun v w'=>∃(ra:yOA) (rn:Nat) (rc:Nat),v=Sv ra rn rc/\Fresh w.heap.size []/\St w w' [rr ra rn rc 4 1 ((ja x zw).map<|Value.bool)] []) w):=by
 obtain⟨p1,p2,p3⟩:=p0
 obtain⟨m,rfl⟩:∃m:Nat,zw=m:=⟨zw.toNat,by omega⟩
 refine en Tryz.func138 Tryz.ntmps138 ?_
 have H:=(St.start w).arg hx
 clear hx
 rw[p1]
 refine xM<|xX<|sp (Sv none 0 0)<|xU<|t_n<|xM<|xM<|xX<|sp (.int .i64 m)<|sp (Bv<|decide ((m:Int)<0))<|xU<|t_n<|vg (decide ((m:Int)<0)) rfl (fun h=>?_)<|fun h=>?_
 ·have:=of_decide_eq_true h;omega
 refine qW<|t_n<|xM<|xX<|sp (Sv ax 1 cx)<|sw<|o_len underlying28 ax 1 cx rfl<|sw<|o_cvt 1 underlying3 underlying180 rfl (by rw[IntKind.wrap_u64];omega)<|sp (.int .i64 m)<|sw<|o_cvt m underlying3 underlying180 rfl (by rw[IntKind.wrap_u64];omega)<|sw<|zD (R:=fun v w'=>v=.tuple #[.int .u64 0,.int .u64 m]/\w'=w) #[.int .u64 1,.int .u64 m] rfl rfl call164 ((mul_one m qf _).mono fun e w' h=>⟨_,h.1,rfl,h.2⟩) ?_
 rintro _ w0 ⟨rfl,rfl⟩
 refine sps [.tuple #[.int .u64 0,.int .u64 m],.int .u64 0,.int .u64 m,.int .u64 0,.int .u64 m]<|xU<|t_n<|xM<|xM<|xX<|sp (.int .u64 0)<|sw<|o_gtU 0 0 (c:=false) rfl rfl qj<|sp (Bv false)<|qJ 23 rfl rfl<|sp (.int .u64 m)<|qJ 23 rfl rfl<|sw<|o_gtU m 9223372036854775807 (c:=false) rfl rfl qy<|sp (Bv false)<|xU<|t_n<|vg false rfl (fun h=>absurd h qj) fun _=>(qW<|t_n<|xM<|xX<|sp (.int .u64 m)<|sw<|o_cvt m underlying180 underlying3 rfl (wrap_in qf)<|sw<|o_make1 H underlying28 ti4 (by rfl) m rfl rfl qf qf fun b w1 H=>?_)
 replace H:=H.boxRow 0 rfl 1 m qm qp
 dsimp only[List.set] at H
 refine sp (Sv (some ⟨b,0,none⟩) m m)<|xU<|t_n<|xM<|xX<|sps [Sv (some ⟨b,0,none⟩) m m,Sv ax 1 cx] ?_
 obtain⟨bx,ox,rfl⟩:=H.addr 0 rfl qf
 have hb:=H.XZ 0 rfl 0 qf
 refine sw<|o_copyN (q:=0) (dN:=1) (kY:=[Bv<|x[0]!]) H 0 rfl underlying28 ti4 rfl rfl ?_ rfl (fun r u hu=>?_) (fun u hu=>?_) ?_ fun w2 H=>?_
 ·show min 1 m=1
  omega
 ·cases r with
  |zero=>simp only[List.getElem?_cons_zero,Option.some.injEq] at hu;subst hu;exact hb
  |succ r=>simp at hu
 ·simp only[List.mem_singleton] at hu;subst hu;rfl
 ·simp;omega
 dsimp only[List.set] at H
 refine sp (.int .i64 1)<|xU<|t_n<|xM<|xe<|zT (fun m' ρ w3=>∃(xP:Env) (k:Nat),ρ=upd (upd xP 7<|Sv (some ⟨b,0,none⟩) m m) 8 (.int .i64 k)/\(1<=k/\k<=m)/\m'=m-k/\St w0 w3 [.row (Sv (some ⟨b,0,none⟩) m m) 4 1 m<|List.replicate k (Bv<|x[0]!)++List.replicate (m-k) (Bv false)] []) (m-1) ⟨_,1,uE2,by omega,rfl,?_⟩ ?_
 ·have e:List.take 0 (List.replicate m<|Value.bool false)++[Value.bool<|x[0]!]++List.drop (0+[Value.bool<|x[0]!].length) (List.replicate m<|Value.bool false)=List.replicate 1 (Bv<|x[0]!)++List.replicate (m-1) (Bv false):=by simp
  rw[e] at H
  exact H.pick [0] []
 clear H hb
 rintro m' ρ w3 ⟨xP,k,rfl,hk,rfl,H⟩
 refine xM<|xM<|xX<|sps [.int .i64 k,Sv (some ⟨b,0,none⟩) m m]<|sw<|o_len underlying28 (some ⟨b,0,none⟩) m m rfl<|sp (Bv<|decide ((k:Int)<m))<|xU<|t_n<|cD rfl (fun h5=>?_)<|fun h5=>?_
 ·refine qW (t_n<|xe<|vK 2 rfl H [] [] fun H=>?_)
  dsimp only[yg,yL]
  obtain⟨q,hq⟩:∃q,Nat.min k (m-k)=q:=⟨_,rfl⟩
  have hq1:q=min k (m-k):=hq.symm
  refine rtl 0 (H.pick [] []) ?_
  refine rtl 1 (H.pick [] []) ?_
  refine rtl 2 (H.pick [] []) ?_
  refine rt 3 (Sv (some ⟨b,if m=k then 0 else 0+k*1,none⟩) (m-k)<|m-k) (fun _ _=>y_from k underlying28 ti4 rfl rfl qf qf) (H.pick [] []) ?_
  refine rtl 4 (H.pick [] []) ?_
  refine rtl 5 (H.pick [] []) ?_
  refine rt 6 (Sv (some ⟨b,0,none⟩) k m) (fun _ _=>y_up k underlying28 ti4 rfl rfl qf) (H.pick [] []) ?_
  rw[if_neg<|show ¬m=k by omega]
  refine ro 7 rfl<|o_copyN (q:=0+k*1) (dN:=q) (kY:=List.replicate q<|Bv<|x[0]!) H 0 rfl underlying28 ti4 rfl rfl hq qm (fun r u hu=>?_) (fun u hu=>?_) ?_ fun w4 H=>⟨H.pick [] [],?_⟩
  ·obtain⟨hr,hu⟩:=List.getElem?_eq_some_iff.1 hu
   simp only[List.length_replicate] at hr
   simp only[List.getElem_replicate] at hu
   subst hu
   have h:=H.rowGet 0 rfl (i:=r) (v:=Bv<|x[0]!)<|by rw[List.getElem?_append_left qy,List.getElem?_replicate,if_pos qf]
   rw[Addr.add_lit,Nat.zero_add]
   exact h
  ·rw[(List.mem_replicate.1 hu).2];rfl
  ·simp;omega
  dsimp only[List.set] at H
  refine xy qh<|xZ<|sw<|zS k q rfl rfl qf<|sp (.int .i64<|k+q)<|xU<|b_n<|xu (m':=m-(k+q)) qf ⟨_,k+q,uE2,by omega,rfl,?_⟩
  have e:List.take (0+k*1) (List.replicate k (Value.bool<|x[0]!)++List.replicate (m-k) (Value.bool false))++List.replicate q (Value.bool<|x[0]!)++List.drop (0+k*1+(List.replicate q<|Value.bool<|x[0]!).length) (List.replicate k (Value.bool<|x[0]!)++List.replicate (m-k) (Value.bool false))=
   List.replicate (k+q) (Bv<|x[0]!)++List.replicate (m-(k+q)) (Bv false):=by
   rw[show 0+k*1=(List.replicate k<|Value.bool<|x[0]!).length from by simp,List.take_left,List.drop_length_add_append,List.length_replicate,List.drop_replicate,List.replicate_append_replicate,Nat.sub_sub]
  rw[e] at H
  exact H
 ·obtain rfl:k=m:=by omega
  refine zx4<|zcr<|sq 2<|zjr<|rH1 (Sv (some ⟨b,0,none⟩) k k) H ⟨_,_,_,rfl,Fresh.nil _,?_⟩
  have e:List.replicate k (Value.bool<|x[0]!)++List.replicate (k-k) (Value.bool false)=(ja x k).map Value.bool:=by
   rw[Nat.sub_self]
   simp[ja]
  rw[e] at H
  exact H
end
section
variable{qR xx iA : Nat}
theorem owner_ok(s:qO)(own:yLI)(ap:yOA)(cp:Nat)(Fp:yLN)(ar:yOA)(cr:Nat)(Fr:yLN)(ao:yOA)(co:Nat)(Fo:yLN)(bk:Nat)(eB:yOA)(ee:Nat)(cz:Nat)(cF:yOA)(j9:Nat)(bH:Nat)(xv:Nat)(H:St W0 w ((.box bk [Sv eB ee cz,Sv cF j9 bH,yI s.qN,Sv ap s.qA.length cp,Sv ar s.qB.length cr,Sv ao own.length co] 74)::ps) ((sF false Fp ap cp s.qA)::(sF false Fr ar cr s.qB)::(sF false Fo ao co own)::Γ))(N:Fresh W0.heap.size (Ns))(K0:Kept Ns Γ)(p0:xv<=own.length)(p1:own.length=s.qA.length)(p2:1<=s.qA.length):Calls Tryz.prog 140 #[pp bk 0,yI xv] w (fun e w'=>∃v,e=.returned v/\v=yI (vZ own xv)/\Fresh W0.heap.size (Ns)/\St W0 w' ((.box bk [Sv eB ee cz,Sv cF j9 bH,yI s.qN,Sv ap s.qA.length cp,Sv ar s.qB.length cr,Sv ao own.length co] 74)::ps) ((sF false Fp ap cp s.qA)::(sF false Fr ar cr s.qB)::(sF false Fo ao co own)::Γ)):=by
 refine en func140 ntmps140 ?_
 have auv:=qM (H.get 0 rfl).1
 refine zcr<|sp (yI 0)<|zjcc<|sp (yI xv)<|sq 2<|oF rfl<|sw<|xW (yS s ap cp ar cr) isAgg27 sizeOf27 rfl (qH (H.cells 0 rfl) 2 3)<|sw<|oq (around_ok _ s (H.get 0 rfl).1 (H.get 1 rfl).1) H fun w2 H=>sq 1<|zjn<|cE rfl (fun h4=>?_)<|fun h4=>?_
 ·refine zcr (sq 2<|oF rfl<|oL rfl (H.cell 0 rfl rfl) ?_)
  obtain⟨b5,o6,rfl⟩:=H.addr 2 rfl qf
  refine oI rfl rfl<|oL rfl (H.vG 2 rfl 0 qf)<|sq 1<|zjr<|t_r<|ret1 (yI<|own[0]!) rfl rfl ⟨_,rfl,?_⟩
  rw[ownAt_e qf]
  exact⟨rfl,N,H.xm 1 3 [0] [0,1,2] (by simp only[List.length_cons,List.length_append];omega)<|by simp only[List.length_cons,List.length_append];omega⟩
 refine qW<|t_n<|zcr<|sq 2<|oF rfl<|oL rfl (H.cell 0 rfl rfl)<|sp (yI xv) ?_
 obtain⟨b8,o9,rfl⟩:=H.addr 2 rfl qf
 refine oI rfl rfl<|oL rfl (H.vG 2 rfl xv qf)<|sq 1<|zjr<|ret1 (yI<|own[xv]!) rfl rfl ⟨_,rfl,?_⟩
 rw[ownAt_n qf]
 exact⟨rfl,N,H.xm 1 3 [0] [0,1,2] (by simp only[List.length_cons,List.length_append];omega)<|by simp only[List.length_cons,List.length_append];omega⟩
theorem work_ok(s:qO)(own:yLI)(ap:yOA)(cp:Nat)(Fp:yLN)(ar:yOA)(cr:Nat)(Fr:yLN)(ao:yOA)(co:Nat)(Fo:yLN)(sv:List zu)(wi:List zk)(bk:Nat)(n:Nat)(eB:yOA)(ee:Nat)(cz:Nat)(bV:List Value)(aC:yLN)(cF:yOA)(j9:Nat)(bH:Nat)(bL:List Value)(az:yLN)(iv:Int)(H:St W0 w ((.box bk [Sv eB ee cz,Sv cF j9 bH,yI s.qN,Sv ap s.qA.length cp,Sv ar s.qB.length cr,Sv ao own.length co] 74)::(rr eB ee cz 49 16 bV)::(rr cF j9 bH 77 4 bL)::ps) ((sF false Fp ap cp s.qA)::(sF false Fr ar cr s.qB)::(sF false Fo ao co own)::(qQ true aC bV sv)::(qQ true az bL wi)::Γ))(N:Fresh W0.heap.size (aC::az::Ns))(K0:Kept Ns Γ)(p0:Giv s own n)(p1:Vh s own n (⟨sv,wi⟩:zN))(p2:0<=iv/\iv<n)(OL:∀f∈(sF false Fp ap cp s.qA::sF false Fr ar cr s.qB::sF false Fo ao co own::Γ),∀b∈f.F,b<W0.heap.size):Calls Tryz.prog 96 #[pp bk 0,yI iv] w (fun e w'=>∃v,e=.returned v/\∃(pU:List Value) (pE:yLN) (qs:yOA) (q8:Nat) (qd:Nat) (px:List Value) (rf:yLN),v=yI ((workM s own (⟨sv,wi⟩:zN) iv.toNat).2)/\Fresh W0.heap.size (pE::rf::Ns)/\St W0 w' ((.box bk [Sv eB ee cz,Sv qs q8 qd,yI s.qN,Sv ap s.qA.length cp,Sv ar s.qB.length cr,Sv ao own.length co] 74)::(rr eB ee cz 49 16 pU)::(rr qs q8 qd 77 4 px)::ps) ((sF false Fp ap cp s.qA)::(sF false Fr ar cr s.qB)::(sF false Fo ao co own)::(qQ true pE pU ((workM s own (⟨sv,wi⟩:zN) iv.toNat).1.qE))::(qQ true rf px ((workM s own (⟨sv,wi⟩:zN) iv.toNat).1.x9))::Γ)):=by
 refine en func96 ntmps96 ?_
 have aEw:=qM (H.get 1 rfl).1
 have Ir:=qM (H.get 2 rfl).1
 obtain rfl:=H.xk (α:=zu) 1 rfl 3 rfl qj
 obtain rfl:=H.xk (α:=zk) 2 rfl 4 rfl qj
 have g1:=p0.sys
 have g2:=p0.len
 have g3:=p0.own
 have g4:=p0.few
 have l1:sv.length=n:=p1.len
 subst l1
 have p5:=p0.sys.1
 have p6:own.length=s.qA.length:=p0.len
 have p7:=p0.sys.1.2.1
 refine zcr<|sp (yI 0)<|zjc<|sq 2<|oF rfl<|oF rfl<|oL rfl (H.cell 0 rfl rfl)<|sp (yI iv) ?_
 obtain⟨b1,rfl⟩:=H.jB 1 rfl qf
 refine oI rfl rfl<|oF rfl<|sq 1<|zjn<|xM<|xe<|zcr<|sq 2<|oF rfl ?_
 obtain⟨Xv,Xu,lC,Qj,Qi,gb,Bw,Bf,AN,nU,nR,nV,Au,z4,Ap,tm,te,tp,wQ,sb4,H⟩:=H.partS_DeskD zC 1 rfl 3 rfl rfl iv.toNat qf
 refine oL rfl (H.zt 1 rfl (wQ 3 _ rfl) qf)<|sq 1<|zjn<|vg _ rfl (fun h5=>?_)<|fun h5=>?_
 ·refine zcr (sp (yI 4)<|zjr<|b_r<|t_r<|ret1 (yI 4) rfl rfl ⟨_,rfl,?_⟩)
  rw[workR_4 ql]
  exact⟨bV,aC,cF,wi.length,bH,bL,az,rfl,N,H.xm 3 11 [0,1,2] (zR 6 5) (by simp only[List.length_cons,List.length_append];omega)<|by simp only[List.length_cons,List.length_append];omega⟩
 refine zcr<|sq 2<|oF rfl<|oL rfl (H.zt 1 rfl (wQ 0 _ rfl) qf)<|sp (Bv ((((sv[iv.toNat]!).qC).qP:Int) == 100))<|sp (Bv ((((sv[iv.toNat]!).qC).qP:Int) == 100))<|zjn<|cE rfl (fun h6=>?_)<|fun h6=>?_
 ·refine zcr (sp (yI 3)<|zjr<|b_r<|t_r<|ret1 (yI 3) rfl rfl ⟨_,rfl,?_⟩)
  rw[workR_3 ql ql]
  exact⟨bV,aC,cF,wi.length,bH,bL,az,rfl,N,H.xm 3 11 [0,1,2] (zR 6 5) (by simp only[List.length_cons,List.length_append];omega)<|by simp only[List.length_cons,List.length_append];omega⟩
 have y1:jy s own sv.length iv.toNat (sv[iv.toNat]!).qC:=(p1.srv iv.toNat qf).1
 have v1:=view_ok p0 y1
 have c1:=Vo p0.sys v1
 have c2:=c1.1
 have y10:=(y1.small p0).bags
 refine qW<|b_n<|t_n<|zcr<|sq 2<|oF rfl<|sw<|xW (yS s ap cp ar cr) isAgg27 sizeOf27 rfl (qH (H.cells 0 rfl) 2 3)<|sw<|zn H ti27 [yI 0,yN,yN] fun b7 w8 H=>sw<|zF H 0 (yS s ap cp ar cr) sizeOf27 fun w9 H=>?_
 dsimp only[List.set] at H
 refine zjn<|xM<|c_lateC 1 (fun ρ Um=>∃(xP:Env) (wP:yOA) (Cy:Nat) (rK:Nat) (xj:Nat),ρ=upd (upd (upd (upd (upd (upd xP 0<|pp bk 0) 1<|yI iv) 5<|pp b1<|0+(iv:Int).toNat*16+0) 6<|pp b7 0) 7<|pp rK 0) 55 (.agg #[Sv wP ((ja [true] s.qA.length).length) Cy,Sv Xv ((((sv[iv.toNat]!).qC).qG).length) Xu,Sv Qj ((((sv[iv.toNat]!).qC).qF).length) Qi])/\(bV[iv.toNat*16+1]? =some (Sv Xv ((((sv[iv.toNat]!).qC).qG).length) Xu))/\(bV[iv.toNat*16+2]? =some (Sv Qj ((((sv[iv.toNat]!).qC).qF).length) Qi))/\Fresh W0.heap.size (aC::az::Ns)/\St W0 Um ((.box rK [yN,yN,yN] 31)::(rr wP ((ja [true] s.qA.length).length) Cy 4 1 ((ja [true] s.qA.length).map<|Value.bool))::(rr (aa xj 0) 1 1 4 1 ([true].map<|Value.bool))::(.box b7 (yS s ap cp ar cr) 27)::(.box bk [Sv (aa b1 0) sv.length cz,Sv cF wi.length bH,yI s.qN,Sv ap s.qA.length cp,Sv ar s.qB.length cr,Sv ao own.length co] 74)::(rr (aa b1 0) sv.length cz 49 16 bV)::(rr cF wi.length bH 77 4 bL)::ps) ((sF true lC Xv Xu (((sv[iv.toNat]!).qC).qG))::(sF true gb Qj Qi (((sv[iv.toNat]!).qC).qF))::(sF false Fp ap cp s.qA)::(sF false Fr ar cr s.qB)::(sF false Fo ao co own)::(qQ true aC bV sv)::(qQ true az bL wi)::Γ)) rfl H [0,1,2,3] [0,1,2,3,4,5,6,7,8,9,10] (fun H=>?_) ?_
 ·dsimp only[yg,yL]
  refine QX (fun ρ Pz=>∃(xP:Env) (Jr:yOA) (IJ:Nat) (WW:Nat) (Ki:Nat),ρ=upd (upd (upd (upd (upd (upd (upd (upd xP 0<|pp bk 0) 1<|yI iv) 5<|pp b1<|0+(iv:Int).toNat*16+0) 6<|pp b7 0) 7<|pp WW 0) 46<|Sv Jr ((ja [true] s.qA.length).length) IJ) 50<|Sv Xv ((((sv[iv.toNat]!).qC).qG).length) Xu) 54 (Sv Qj ((((sv[iv.toNat]!).qC).qF).length) Qi)/\(bV[iv.toNat*16+1]? =some (Sv Xv ((((sv[iv.toNat]!).qC).qG).length) Xu))/\(bV[iv.toNat*16+2]? =some (Sv Qj ((((sv[iv.toNat]!).qC).qF).length) Qi))/\Fresh W0.heap.size (aC::az::Ns)/\St W0 Pz ((.box WW [yN,yN,yN] 31)::(rr Jr ((ja [true] s.qA.length).length) IJ 4 1 ((ja [true] s.qA.length).map<|Value.bool))::(rr (aa Ki 0) 1 1 4 1 ([true].map<|Value.bool))::(.box b7 (yS s ap cp ar cr) 27)::(.box bk [Sv (aa b1 0) sv.length cz,Sv cF wi.length bH,yI s.qN,Sv ap s.qA.length cp,Sv ar s.qB.length cr,Sv ao own.length co] 74)::(rr (aa b1 0) sv.length cz 49 16 bV)::(rr cF wi.length bH 77 4 bL)::ps) ((sF true lC Xv Xu (((sv[iv.toNat]!).qC).qG))::(sF true gb Qj Qi (((sv[iv.toNat]!).qC).qF))::(sF true AN Bw Bf (((sv[iv.toNat]!).qC).vM))::(sF true nV nU nR (((sv[iv.toNat]!).qC).qL))::(sF true Ap Au z4 (((sv[iv.toNat]!).qC).vX))::(sF true tp tm te (((sv[iv.toNat]!).qC).x8))::(sF false Fp ap cp s.qA)::(sF false Fr ar cr s.qB)::(sF false Fo ao co own)::(qQ true aC bV sv)::(qQ true az bL wi)::Γ)) 1 #[true,true,true,true,true,true,true,true,true,true,true,true,true,false,true] ?_ fun L20=>?_
  ·rintro ρ Ke ⟨xP,Jr,IJ,WW,Ki,rfl,asM,aw1,N,H⟩
   refine ro 13 rfl<|jE [Sv Jr ((ja [true] s.qA.length).length) IJ,Sv Xv ((((sv[iv.toNat]!).qC).qG).length) Xu,Sv Qj ((((sv[iv.toNat]!).qC).qF).length) Qi] [(0,Sv Jr ((ja [true] s.qA.length).length) IJ),(1,Sv Xv ((((sv[iv.toNat]!).qC).qG).length) Xu),(2,Sv Qj ((((sv[iv.toNat]!).qC).qF).length) Qi)]<|⟨H.pick (zR 3 4)<|zR 0 11,(xy qh<|?_)⟩
   exact meet ⟨_,Jr,IJ,WW,Ki,uE6,asM,aw1,N,H.xm 7 11 (zR 0 7) (0::1::zR 6 5) (by simp only[List.length_cons,List.length_append];omega)<|by simp only[List.length_cons,List.length_append];omega⟩
  refine QX (fun ρ I8=>∃(xP:Env) (YS:Nat) (IP:Nat),ρ=upd (upd (upd (upd (upd (upd (upd (upd (upd xP 0<|pp bk 0) 1<|yI iv) 5<|pp b1<|0+(iv:Int).toNat*16+0) 6<|pp b7 0) 7<|pp IP 0) 42<|Sv (aa YS 0) 1 1) 45<|yI s.qA.length) 50<|Sv Xv ((((sv[iv.toNat]!).qC).qG).length) Xu) 54 (Sv Qj ((((sv[iv.toNat]!).qC).qF).length) Qi)/\(bV[iv.toNat*16+1]? =some (Sv Xv ((((sv[iv.toNat]!).qC).qG).length) Xu))/\(bV[iv.toNat*16+2]? =some (Sv Qj ((((sv[iv.toNat]!).qC).qF).length) Qi))/\Fresh W0.heap.size (aC::az::Ns)/\St W0 I8 ((.box IP [yN,yN,yN] 31)::(.box YS [Bv true] 4)::(.box b7 (yS s ap cp ar cr) 27)::(.box bk [Sv (aa b1 0) sv.length cz,Sv cF wi.length bH,yI s.qN,Sv ap s.qA.length cp,Sv ar s.qB.length cr,Sv ao own.length co] 74)::(rr (aa b1 0) sv.length cz 49 16 bV)::(rr cF wi.length bH 77 4 bL)::ps) ((sF true lC Xv Xu (((sv[iv.toNat]!).qC).qG))::(sF true gb Qj Qi (((sv[iv.toNat]!).qC).qF))::(sF true AN Bw Bf (((sv[iv.toNat]!).qC).vM))::(sF true nV nU nR (((sv[iv.toNat]!).qC).qL))::(sF true Ap Au z4 (((sv[iv.toNat]!).qC).vX))::(sF true tp tm te (((sv[iv.toNat]!).qC).x8))::(sF false Fp ap cp s.qA)::(sF false Fr ar cr s.qB)::(sF false Fo ao co own)::(qQ true aC bV sv)::(qQ true az bL wi)::Γ)) 2 #[true,true,true,true,false,true,true,true,true,true,true,true,true,false,true] ?_ fun L27=>?_
  ·rintro ρ JJ ⟨xP,YS,IP,rfl,D2,Sn,N,H⟩
   refine ro 4 rfl ?_
   replace H:=H.boxRowB 1 [true] 1
   dsimp only[List.set] at H
   obtain⟨G32,akr,sE⟩:=H.rowIsB 1 rfl
   refine oc (args_eq (by rw[←akr])<|repeatB_ok _ [true] s.qA.length (akr▸sE) qg) ?_
   rintro _ FY ⟨PY,aGf,f9,rfl,M,K⟩ _
   replace H:=H.merge K M
   dsimp only[List.cons_append,List.nil_append] at H
   obtain rfl:=H.rowNB 0 rfl
   refine⟨H.pick (zR 3 4)<|zR 0 11,(yP L20 ⟨_,PY,f9,IP,YS,uE8,D2,Sn,N,H.xm 7 11 (1::0::zR 2 5) (zR 0 11) (by simp only[List.length_cons,List.length_append];omega)<|by simp only[List.length_cons,List.length_append];omega⟩)⟩
  have S:=H.zW (zR 0 4)<|zR 0 11
  refine tF 1 rfl rfl S ?_
  refine tL 2 rfl rfl (fun _ h=>h.cell 0 rfl rfl) S ?_
  refine tN 3 rfl rfl S ?_
  refine rtl 5 S ?_
  refine rtl 6 S ?_
  refine tF 7 rfl rfl S ?_
  refine rt 8 _ (jU (off:=0+(iv:Int).toNat*16+0+1) isAgg29 rfl<|fun _ h=>(h.zt 2 rfl (wQ 1 _ rfl) qf)) S ?_
  refine rtl 9 S ?_
  refine rtl 10 S ?_
  refine tF 11 rfl rfl S ?_
  refine rt 12 _ (jU (off:=0+(iv:Int).toNat*16+0+2) isAgg24 rfl<|fun _ h=>(h.zt 2 rfl (wQ 2 _ rfl) qf)) S ?_
  refine jC [0,14] qh qm<|yV rfl ?_<|yV rfl ?_ jD
  ·refine zy H underlying28 ti4 [Bv true] fun GO Sh H=>⟨H.pick (zR 1 4)<|zR 0 11,(jC [4,14] qh qm<|yV rfl ?_<|yV rfl ?_ jD)⟩
   ·replace H:=H.boxRowB 0 [true] 1
    dsimp only[List.set] at H
    obtain⟨G43,abk,Bt⟩:=H.rowIsB 0 rfl
    refine oc (args_eq (by rw[←abk])<|repeatB_ok _ [true] s.qA.length (abk▸Bt) qg) ?_
    rintro _ w47 ⟨P2,aHo,PO,rfl,M,K⟩ _
    replace H:=H.merge K M
    dsimp only[List.cons_append,List.nil_append] at H
    obtain rfl:=H.rowNB 0 rfl
    refine⟨H.pick (zR 2 4)<|zR 0 11,(jC [13,14] qh qm<|yV rfl ?_<|yV rfl ?_ jD)⟩
    ·refine jE [Sv P2 ((ja [true] s.qA.length).length) PO,Sv Xv ((((sv[iv.toNat]!).qC).qG).length) Xu,Sv Qj ((((sv[iv.toNat]!).qC).qF).length) Qi] [(0,Sv P2 ((ja [true] s.qA.length).length) PO),(1,Sv Xv ((((sv[iv.toNat]!).qC).qG).length) Xu),(2,Sv Qj ((((sv[iv.toNat]!).qC).qF).length) Qi)] (⟨H.pick (zR 2 4)<|zR 0 11,(ro 14 rfl<|zn H ti31 [yN,yN,yN] fun b52 w53 H=>⟨H.pick (zR 3 4)<|zR 0 11,(xy qh<|?_)⟩)⟩)
     exact meet ⟨_,P2,PO,b52,GO,uE6,(wQ 1 _ rfl),(wQ 2 _ rfl),N,H.xm 7 11 (zR 0 7) (0::1::zR 6 5) (by simp only[List.length_cons,List.length_append];omega)<|by simp only[List.length_cons,List.length_append];omega⟩
    refine zn H ti31 [yN,yN,yN] fun Uq w55 H=>⟨H.pick (zR 3 4)<|zR 0 11,(yP L20 ⟨_,P2,PO,Uq,GO,uE8,(wQ 1 _ rfl),(wQ 2 _ rfl),N,H⟩)⟩
   refine zn H ti31 [yN,yN,yN] fun b56 w57 H=>⟨H.pick (zR 2 4)<|zR 0 11,(yP L27 ⟨_,GO,b56,uE9,(wQ 1 _ rfl),(wQ 2 _ rfl),N,H⟩)⟩
  refine zn H ti31 [yN,yN,yN] fun b58 w59 H=>⟨H.pick (zR 1 4)<|zR 0 11,(ro 0 rfl<|zy H underlying28 ti4 [Bv true] fun b60 w61 H=>⟨H.pick (zR 2 4)<|zR 0 11,(yP L27 ⟨_,b60,b58,uE9,(wQ 1 _ rfl),(wQ 2 _ rfl),N,H.xm 6 11 [1,0,2,3,4,5] (zR 0 11) (by simp only[List.length_cons,List.length_append];omega)<|by simp only[List.length_cons,List.length_append];omega⟩)⟩)⟩
 clear H N
 rintro ρ w62 ⟨xP,wP,Cy,rK,xj,rfl,anR,aHy,N,H⟩
 refine sw<|zF H 0 [Sv wP ((ja [true] s.qA.length).length) Cy,Sv Xv ((((sv[iv.toNat]!).qC).qG).length) Xu,Sv Qj ((((sv[iv.toNat]!).qC).qF).length) Qi] sizeOf31 fun w65 H=>?_
 dsimp only[List.set] at H
 refine zjc<|sw<|xW (yS s ap cp ar cr) isAgg27 sizeOf27 rfl (qH (H.cells 3 rfl) 0 3)<|sw<|xW [Sv wP ((ja [true] s.qA.length).length) Cy,Sv Xv ((((sv[iv.toNat]!).qC).qG).length) Xu,Sv Qj ((((sv[iv.toNat]!).qC).qF).length) Qi] isAgg31 sizeOf31 rfl (qH (H.cells 0 rfl) 0 3) ?_
 obtain⟨G66,aHK,h68⟩:=H.rowIsB 1 rfl
 refine sw<|oc (firstChoice_ok _ s (⟨ja [true] s.qA.length,((sv[iv.toNat]!).qC).qG,((sv[iv.toNat]!).qC).qF⟩:xn) (H.get 2 rfl).1 (H.get 3 rfl).1 h68 (H.get 0 rfl).1 (H.get 1 rfl).1 qg qg) ?_
 rintro _ w70 ⟨Ri,aEL,Sa,rfl,M,K⟩ _
 replace H:=H.merge K M
 dsimp only[List.cons_append,List.nil_append] at H
 obtain rfl:=H.Qc 0 rfl
 refine sq 1<|zjc<|sq 2<|oF rfl ?_
 obtain⟨aib,aoV,ak1,acF,acB,abh,aqK,ark,asf,abJ,abp,acs,asm,arQ,arr,alO,ap1,agB,awD,aD3,H⟩:=H.partS_DeskD zC 6 rfl 5 rfl rfl iv.toNat qf
 refine oL rfl (H.zt 6 rfl (awD 1 _ rfl) qf) ?_
 have avx:=H.base.size
 have atu:=jL (H.ltN (L:=[aC,az]) [11,12])<|H.ltK<|K0.behind 13 rfl
 refine sw<|oc (Xh _ (((sv[iv.toNat]!).qC).qG) (H.get 0 rfl).1 qg) ?_
 rintro _ w79 ⟨IL,aF3,IF,PX,nz,rfl,M,K⟩ _
 replace N:=N.merge avx atu M
 replace H:=H.merge K M
 dsimp only[List.cons_append,List.nil_append] at H
 obtain rfl:=H.xk (α:=yLI) 0 rfl 0 rfl qj
 refine sq 1<|zjc<|sw<|jH H underlying45 ti29 fun b84 w85 H=>sq 1<|zjcc<|sq 2<|oF rfl<|oF rfl<|oL rfl (H.cell 7 rfl rfl)<|oN rfl<|sp (yI 0)<|zjn<|xe ?_
 replace H:=H.boxRow 0 rfl 1 0 rfl qj
 dsimp only[List.set] at H
 replace H:=H.yD (α:=yLL)
 refine zT ((fun Z0 Z1 Z2 Z3 Z4 Z5 Z6 Z7 Z8 Z9 fi fK gW ka lc lN rj=>fun m' ρ w86=>∃(xP:Env) (fg:yOA) (QP:Nat) (Xk:Nat) (now:List yLL) (pG:List Value) (fP:yLN) (k:Nat),ρ=upd (upd (upd (upd (upd (upd (upd (upd (upd (upd xP 0<|pp bk 0) 1<|yI iv) 5<|pp b1<|0+(iv:Int).toNat*16+0) 6<|pp b7 0) 7<|pp rK 0) 8<|Sv Ri ((xG s (⟨ja [true] s.qA.length,((sv[iv.toNat]!).qC).qG,((sv[iv.toNat]!).qC).qF⟩:xn)).length) Sa) 9<|Sv IL ((((sv[iv.toNat]!).qC).qG).length) IF) 10<|Sv fg QP Xk) 70<|yI sv.length) 71 (yI k)/\now=List.replicate k (jG s<|s.qA.length+1)/\((k:Int)<=sv.length)/\m'=(sv.length-(k:Int)).toNat/\Fresh W0.heap.size (nz::aC::az::fP::Ns)/\St W0 w86 ((rr fg QP Xk 29 1 pG)::Z0::Z1::Z2::Z3::Z4::Z5::Z6::Z7::Z8::ps) ((qQ true fP pG now)::Z9::fi::fK::gW::ka::lc::lN::rj::Γ)) _ _ _ _ _ _ _ _ _ _ _ _ _ _ _ _ _) ((sv.length-(0:Int)).toNat) ⟨_,(aa b84 0),0,0,([]:List yLL),[],[],0,uE10,(by rfl),qf,rfl,(N.emp.xm 4 [1,2,3,0]<|by simp only[List.length_cons,List.length_append];omega),H.xm 10 15 (zR 0 10) (0::1::zR 8 7) (by simp only[List.length_cons,List.length_append];omega)<|by simp only[List.length_cons,List.length_append];omega⟩ ?_
 clear H N
 rintro m' ρ w87 ⟨xP,fg,QP,Xk,now,pG,fP,k,rfl,rfl,i0,rfl,N,H⟩
 have tE:=H.xk (α:=yLL) 0 rfl 0 rfl qj
 have zl:(List.replicate k<|jG s<|s.qA.length+1).length=k:=List.length_replicate
 refine zcr<|sq 1<|zjn<|xM<|cD rfl (fun h88=>?_)<|fun h88=>?_
 ·refine qW (t_n<|xM<|xe<|xX<|sq 1<|sw<|xW (yS s ap cp ar cr) isAgg27 sizeOf27 rfl (qH (H.cells 6 rfl) 0 3) ?_)
  have awb:=H.base.size
  have ayf:=jL (H.ltN (L:=[nz,aC,az,fP]) [1,7,8,0])<|H.ltK<|K0.behind 9 rfl
  refine sw<|oc (noBags_ok _ s (H.get 4 rfl).1 (H.get 5 rfl).1 qg) ?_
  rintro _ T0 ⟨avF,aIG,axm,aDu,aFo,rfl,M,K⟩ _
  replace N:=N.merge awb ayf M
  replace H:=H.merge K M
  dsimp only[List.cons_append,List.nil_append] at H
  obtain rfl:=H.xk (α:=yLI) 0 rfl 0 rfl qj
  refine sw<|zy H underlying45 ti29 [Sv avF ((jG s<|s.qA.length+1).length) axm] fun b95 w96 H=>?_
  have H0:=H
  obtain⟨Y5,W7,azN,H⟩:=H.jA (α:=yLI) 1 rfl 0 rfl qj
  replace N:Fresh W0.heap.size (Y5::nz::aC::az::fP::Ns):=Fresh.ice N H0 1 W7.1 W7.2<|fun F hF b hb=>(List.mem_append.1<|show F∈[nz,aC,az,fP]++Ns from hF).elim (fun h=>(H0.vV (L:=[nz,aC,az,fP]) [2,8,9,1]) F h b hb) fun h=>H0.jT (K0.behind 10 rfl) F h b hb
  clear H0
  dsimp only[List.set] at H
  refine sw<|zH H 2 rfl 0 rfl underlying45 ti29 rfl qj rfl rfl rfl qw qp qf fun a97 c98 w99 H=>?_
  dsimp only[List.set] at H
  replace H:=H.Q5 2 rfl 0 rfl
  replace N:Fresh W0.heap.size ((fP++Y5)::nz::aC::az::Ns):=(N.xm 5 [4,0,1,2,3]<|by simp only[List.length_cons,List.length_append];omega).join
  refine sq 1<|xU<|b_n<|t_n<|xX<|sw<|zS k 1 rfl rfl qf<|sq 1<|xU<|xu (m':=(sv.length-((k+1):Int)).toNat) qf ⟨_,_,_,_,_,_,_,k+1,uE10,?_,?_,rfl,(N.xm 4 [1,2,3,0]<|by simp only[List.length_cons,List.length_append];omega),H.xm 12 12 (zR 2 10) (0::zR 4 8) (by simp only[List.length_cons,List.length_append];omega)<|by simp only[List.length_cons,List.length_append];omega⟩
  ·exact(List.replicate_succ' ..).symm
  ·omega
 refine zx4<|zcc<|sq 2<|oF rfl<|oL rfl (H.cell 7 rfl rfl)<|oN rfl<|sp (yI 0)<|zjn<|xe<|zT ((fun Z0 Z1 Z2 Z3 Z4 Z5 Z6 Z7 Z8 Z9 fi fK gW ka lc lN rj=>fun m' ρ Jb=>∃(xP:Env) (c:Nat) (ed:List yLL) (iw:List Value) (yE:yLN),ρ=upd (upd (upd (upd (upd (upd (upd (upd (upd (upd (upd xP 0<|pp bk 0) 1<|yI iv) 5<|pp b1<|0+(iv:Int).toNat*16+0) 6<|pp b7 0) 7<|pp rK 0) 8<|Sv Ri ((xG s (⟨ja [true] s.qA.length,((sv[iv.toNat]!).qC).qG,((sv[iv.toNat]!).qC).qF⟩:xn)).length) Sa) 9<|Sv IL ((((sv[iv.toNat]!).qC).qG).length) IF) 10<|Sv fg QP Xk) 82<|Sv ao own.length co) 83<|yI own.length) 84 (yI c)/\((c:Int)<=own.length)/\(ed=nowTo s (⟨ja [true] s.qA.length,((sv[iv.toNat]!).qC).qG,((sv[iv.toNat]!).qC).qF⟩:xn) own iv sv.length c)/\m'=(own.length-(c:Int)).toNat/\Fresh W0.heap.size (nz::aC::az::yE::Ns)/\St W0 Jb ((rr fg QP Xk 29 1 iw)::Z0::Z1::Z2::Z3::Z4::Z5::Z6::Z7::Z8::ps) ((qQ true yE iw ed)::Z9::fi::fK::gW::ka::lc::lN::rj::Γ)) _ _ _ _ _ _ _ _ _ _ _ _ _ _ _ _ _) ((own.length-(0:Int)).toNat) ⟨_,0,(List.replicate k<|jG s<|s.qA.length+1),pG,fP,uE11,qf,(by exact rep_zero qf),rfl,N,H⟩ ?_
 clear H N
 rintro m' ρ MU ⟨xP,c,ed,iw,yE,rfl,i0,i2,rfl,N,H⟩
 have tE:=H.xk (α:=yLL) 0 rfl 0 rfl qj
 refine zcr<|sq 1<|zjn<|xM<|cD rfl (fun ZX=>?_)<|fun ZX=>?_
 ·refine qW (t_n<|xM<|xe<|zcr<|sp (yI c) ?_)
  obtain⟨NW,ZJ,rfl⟩:=H.addr 6 rfl qf
  refine oI rfl rfl<|oL rfl (H.vG 6 rfl c qf)<|sp (yI c)<|sq 1<|zjcc<|sq 1<|sp (yI iv)<|sq 1<|zjn<|vg _ rfl (fun KC=>?_)<|fun KC=>?_
  ·replace KC:=bne_iff_ne.1 KC
   refine c_exit<|t_x<|b_x<|t_n<|xX<|sw<|zS c 1 rfl rfl qf<|sq 1<|xU<|xu (m':=(own.length-((c+1):Int)).toNat) qf ⟨_,c+1,_,_,_,uE11,?_,?_,rfl,N,H⟩
   ·omega
   ·exact i2.trans (nowTo_no ‹_›).symm
  replace KC:=xK KC
  have pl:=puts_len p0 v1 c
  refine qW<|t_n<|zcr<|sw<|xW (yS s ap cp ar cr) isAgg27 sizeOf27 rfl (qH (H.cells 6 rfl) 0 3)<|sw<|xW [Sv wP ((ja [true] s.qA.length).length) Cy,Sv Xv ((((sv[iv.toNat]!).qC).qG).length) Xu,Sv Qj ((((sv[iv.toNat]!).qC).qF).length) Qi] isAgg31 sizeOf31 rfl (qH (H.cells 3 rfl) 0 3)<|sq 1<|sp (yI c) ?_
  obtain⟨aHq,aAQ,awB⟩:=H.rowIsB 4 rfl
  obtain⟨axn,aiJ,abv⟩:=H.rowIsI 2 rfl
  have Le:=H.base.size
  have Oa:=jL (H.ltN (L:=[nz,aC,az,yE]) [1,7,8,0])<|H.ltK<|K0.behind 9 rfl
  refine sw<|oc (puts_ok _ s (⟨ja [true] s.qA.length,((sv[iv.toNat]!).qC).qG,((sv[iv.toNat]!).qC).qF⟩:xn) (xG s (⟨ja [true] s.qA.length,((sv[iv.toNat]!).qC).qG,((sv[iv.toNat]!).qC).qF⟩:xn)) c (H.get 4 rfl).1 (H.get 5 rfl).1 awB (H.get 2 rfl).1 (H.get 3 rfl).1 abv qg qg qg) ?_
  rintro _ Rv ⟨Ks,agc,NR,NQ,pH,rfl,M,K⟩ _
  replace N:=N.merge Le Oa M
  replace H:=H.merge K M
  dsimp only[List.cons_append,List.nil_append] at H
  obtain rfl:=H.xk (α:=yLI) 0 rfl 0 rfl qj
  refine oN rfl<|sp (yI 0)<|zjn<|xe<|zT ((fun Z0 Z1 Z2 Z3 Z4 Z5 Z6 Z7 Z8 Z9 fi fK gW ka lc lN rj xo Ab=>fun m' ρ Nq=>∃(xP:Env) (bP:Nat) (aB:List yLL) (yA:List Value) (jM:yLN),ρ=upd (upd (upd (upd (upd (upd (upd (upd (upd (upd (upd (upd (upd (upd xP 0<|pp bk 0) 1<|yI iv) 5<|pp b1<|0+(iv:Int).toNat*16+0) 6<|pp b7 0) 7<|pp rK 0) 8<|Sv Ri ((xG s (⟨ja [true] s.qA.length,((sv[iv.toNat]!).qC).qG,((sv[iv.toNat]!).qC).qF⟩:xn)).length) Sa) 9<|Sv IL ((((sv[iv.toNat]!).qC).qG).length) IF) 10<|Sv fg QP Xk) 82<|Sv (aa NW ZJ) own.length co) 83<|yI own.length) 84<|yI c) 96<|Sv Ks ((yc s (⟨ja [true] s.qA.length,((sv[iv.toNat]!).qC).qG,((sv[iv.toNat]!).qC).qF⟩:xn) (xG s (⟨ja [true] s.qA.length,((sv[iv.toNat]!).qC).qG,((sv[iv.toNat]!).qC).qF⟩:xn)) c).length) NR) 97<|yI ((yc s (⟨ja [true] s.qA.length,((sv[iv.toNat]!).qC).qG,((sv[iv.toNat]!).qC).qF⟩:xn) (xG s (⟨ja [true] s.qA.length,((sv[iv.toNat]!).qC).qG,((sv[iv.toNat]!).qC).qF⟩:xn)) c).length)) 98 (yI bP)/\((bP:Int)<=((yc s (⟨ja [true] s.qA.length,((sv[iv.toNat]!).qC).qG,((sv[iv.toNat]!).qC).qF⟩:xn) (xG s (⟨ja [true] s.qA.length,((sv[iv.toNat]!).qC).qG,((sv[iv.toNat]!).qC).qF⟩:xn)) c).length))/\(aB=addTo own (yc s (⟨ja [true] s.qA.length,((sv[iv.toNat]!).qC).qG,((sv[iv.toNat]!).qC).qF⟩:xn) (xG s (⟨ja [true] s.qA.length,((sv[iv.toNat]!).qC).qG,((sv[iv.toNat]!).qC).qF⟩:xn)) c) (nowTo s (⟨ja [true] s.qA.length,((sv[iv.toNat]!).qC).qG,((sv[iv.toNat]!).qC).qF⟩:xn) own iv sv.length c) bP)/\m'=(((yc s (⟨ja [true] s.qA.length,((sv[iv.toNat]!).qC).qG,((sv[iv.toNat]!).qC).qF⟩:xn) (xG s (⟨ja [true] s.qA.length,((sv[iv.toNat]!).qC).qG,((sv[iv.toNat]!).qC).qF⟩:xn)) c).length)-(bP:Int)).toNat/\Fresh W0.heap.size (pH::nz::aC::az::jM::Ns)/\St W0 Nq (Z0::(rr fg QP Xk 29 1 yA)::Z1::Z2::Z3::Z4::Z5::Z6::Z7::Z8::Z9::ps) (fi::(qQ true jM yA aB)::fK::gW::ka::lc::lN::rj::xo::Ab::Γ)) _ _ _ _ _ _ _ _ _ _ _ _ _ _ _ _ _ _ _) ((((yc s (⟨ja [true] s.qA.length,((sv[iv.toNat]!).qC).qG,((sv[iv.toNat]!).qC).qF⟩:xn) (xG s (⟨ja [true] s.qA.length,((sv[iv.toNat]!).qC).qG,((sv[iv.toNat]!).qC).qF⟩:xn)) c).length)-(0:Int)).toNat) ⟨_,0,ed,iw,yE,uE14,qf,(by exact i2),rfl,N,H⟩ ?_
  clear H N
  rintro m' ρ MB ⟨xP,bP,aB,yA,jM,rfl,i0,i3,rfl,N,H⟩
  have tE:=H.xk (α:=yLL) 1 rfl 1 rfl qj
  refine zcr<|sq 1<|zjn<|xM<|cD rfl (fun avf=>?_)<|fun avf=>?_
  ·have o1:=p0.own.at (p:=bP) qf
   refine qW<|t_n<|xM<|xe<|zcr<|sq 1 ?_
   obtain⟨aD0,rfl⟩:=H.jB 0 rfl qf
   refine oI rfl rfl ?_
   obtain⟨ZN,Zc,asz,amk,H⟩:=H.yG 0 rfl 0 rfl (iv:=bP) bP qf qf
   refine oL rfl ((H.zt 0 rfl amk qf))<|sq 2<|zjc<|sq 3 ?_
   have H1:=H.yt 11 11 [8,0,1,2,3,4,5,6,7,9,10] [6,7,8,0,1,2,3,4,5,9,10] (by simp only[List.length_cons,List.length_append];omega)<|by simp only[List.length_cons,List.length_append];omega
   have N1:Fresh _ (pH::nz::aC::az::jM::Ns):=N
   have K1:Kept (Ns) ((sF true asz ZN Zc ((yc s (⟨ja [true] s.qA.length,((sv[iv.toNat]!).qC).qG,((sv[iv.toNat]!).qC).qF⟩:xn) (xG s (⟨ja [true] s.qA.length,((sv[iv.toNat]!).qC).qG,((sv[iv.toNat]!).qC).qF⟩:xn)) c)[bP]!))::(qQ true pH NQ<|yc s (⟨ja [true] s.qA.length,((sv[iv.toNat]!).qC).qG,((sv[iv.toNat]!).qC).qF⟩:xn) (xG s (⟨ja [true] s.qA.length,((sv[iv.toNat]!).qC).qG,((sv[iv.toNat]!).qC).qF⟩:xn)) c)::(qQ true jM yA aB)::(qQ true nz PX (((sv[iv.toNat]!).qC).qG))::(sF true lC Xv Xu (((sv[iv.toNat]!).qC).qG))::(sF true gb Qj Qi (((sv[iv.toNat]!).qC).qF))::(qQ true aC bV sv)::(qQ true az bL wi)::Γ):=K0.behind 8 rfl
   replace K1:=K1.cons (F:=jM) 2 rfl rfl
   replace K1:=K1.cons (F:=az) 7 rfl rfl
   replace K1:=K1.cons (F:=aC) 6 rfl rfl
   replace K1:=K1.cons (F:=nz) 3 rfl rfl
   replace K1:=K1.cons (F:=pH) 1 rfl rfl
   refine sw<|zD #[pp bk 0,yI bP] rfl rfl call140 (owner_ok s own ap cp Fp ar cr Fr (aa NW ZJ) co Fo bk (aa b1 0) sv.length cz cF wi.length bH bP H1 N1 K1 qg qg qg) ?_
   clear H H1 N1 K1
   rintro _ RC ⟨rfl,N,H⟩
   obtain⟨n1,n2,n3,n4,n5⟩:=now_pre p0 v1 (c:=c) (bP:=bP) qf qf (j:=(vZ own bP).toNat) qf i3
   obtain⟨YU,rfl⟩:=H.jB 2 rfl qf
   refine oI rfl rfl ?_
   obtain⟨aj0,aeD,atH,TS,H⟩:=H.yG 2 rfl 5 rfl (iv:=vZ own bP) ((vZ own bP:Int).toNat) qf qf
   refine oL rfl ((H.zt 2 rfl TS qf))<|sq 1<|zjn<|xX<|sq 4 ?_
   obtain⟨axU,aIr,rfl⟩:=H.addr 0 rfl qf
   obtain⟨ay3,aAm,aAY,H⟩:=H.yB 0 rfl bP bP qf qf qf
   refine oI rfl rfl<|oL rfl (H.zG 1 rfl 0 rfl)<|sq 1<|sw<|oc (plus_ok _ ((aB[(vZ own bP:Int).toNat]!)[bP]!) ((yc s (⟨ja [true] s.qA.length,((sv[iv.toNat]!).qC).qG,((sv[iv.toNat]!).qC).qF⟩:xn) (xG s (⟨ja [true] s.qA.length,((sv[iv.toNat]!).qC).qG,((sv[iv.toNat]!).qC).qF⟩:xn)) c)[bP]!) 1 (H.get 0 rfl).1 (H.get 6 rfl).1 qg qg qg) ?_
   rintro v146 agK auq avH
   replace H:=H.zV avH auq
   obtain⟨axl,av0,rfl,azL,aBA⟩:=H.yf 0 rfl
   refine oI rfl rfl ?_
   obtain⟨af0,N,azO,H⟩:=H.vJ 0 rfl N<|fun F hF b hb=>(List.mem_append.1<|show F∈[pH,nz,aC,az,jM]++Ns from hF).elim (fun h=>(H.vV (L:=[pH,nz,aC,az,jM]) [7,9,12,13,8]) F h b hb) fun h=>H.jT (K0.behind 14 rfl) F h b hb
   dsimp only[List.set] at H
   have N0:Fresh W0.heap.size (jM::af0::pH::nz::aC::az::Ns):=(N.xm 6 (5::zR 0 5)<|by simp only[List.length_cons,List.length_append];omega)
   obtain⟨ay5,ajf⟩:∃z,z=(aB.set ((vZ own bP:Int).toNat) ((aB[(vZ own bP:Int).toNat]!).set bP (jc ((aB[(vZ own bP:Int).toNat]!)[bP]!) ((yc s (⟨ja [true] s.qA.length,((sv[iv.toNat]!).qC).qG,((sv[iv.toNat]!).qC).qF⟩:xn) (xG s (⟨ja [true] s.qA.length,((sv[iv.toNat]!).qC).qG,((sv[iv.toNat]!).qC).qF⟩:xn)) c)[bP]!) 1))):=⟨_,rfl⟩
   refine sw<|o_pokePart Qs.refl H 9 rfl 0 rfl N0 ((sF true af0 axl av0<|jc ((aB[(vZ own bP:Int).toNat]!)[bP]!) ((yc s (⟨ja [true] s.qA.length,((sv[iv.toNat]!).qC).qG,((sv[iv.toNat]!).qC).qF⟩:xn) (xG s (⟨ja [true] s.qA.length,((sv[iv.toNat]!).qC).qG,((sv[iv.toNat]!).qC).qF⟩:xn)) c)[bP]!) 1)::(sF false Fp ap cp s.qA)::(sF false Fr ar cr s.qB)::(sF false Fo (aa NW ZJ) co own)::(qQ true pH NQ<|yc s (⟨ja [true] s.qA.length,((sv[iv.toNat]!).qC).qG,((sv[iv.toNat]!).qC).qF⟩:xn) (xG s (⟨ja [true] s.qA.length,((sv[iv.toNat]!).qC).qG,((sv[iv.toNat]!).qC).qF⟩:xn)) c)::(qQ true nz PX (((sv[iv.toNat]!).qC).qG))::(sF true lC Xv Xu (((sv[iv.toNat]!).qC).qG))::(sF true gb Qj Qi (((sv[iv.toNat]!).qC).qF))::(qQ true aC bV sv)::(qQ true az bL wi)::Γ) (vY (kept 0 rfl<|QU N0 0 rfl)<|vY (kept 4 rfl<|XA OL 0 rfl N0)<|vY (kept 5 rfl<|XA OL 1 rfl N0)<|vY (kept 6 rfl<|XA OL 2 rfl N0)<|vY (kept 8 rfl<|QU N0 1 rfl)<|vY (kept 10 rfl<|QU N0 2 rfl)<|vY (kept 11 rfl<|away_part sb4 0 rfl<|QU N0 3 rfl)<|vY (kept 12 rfl<|away_part sb4 1 rfl<|QU N0 3 rfl)<|vY (kept 13 rfl<|QU N0 3 rfl)<|vY (kept 14 rfl<|QU N0 4 rfl)<|keeps_old 15 rfl OL 3 rfl N0) ((vZ own bP:Int).toNat) qf rfl TS bP qf rfl sizeOf24 rfl qf rfl ajf fun aig aE9 N H=>(xU<|b_n<|t_n<|xX<|sw<|zS bP 1 rfl rfl qf<|sq 1<|xU<|xu (m':=(((yc s (⟨ja [true] s.qA.length,((sv[iv.toNat]!).qC).qG,((sv[iv.toNat]!).qC).qF⟩:xn) (xG s (⟨ja [true] s.qA.length,((sv[iv.toNat]!).qC).qG,((sv[iv.toNat]!).qC).qF⟩:xn)) c).length)-((bP+1):Int)).toNat) qf ⟨_,bP+1,_,_,_,uE14,?_,?_,rfl,(N.xm 5 [1,2,3,4,0]<|by simp only[List.length_cons,List.length_append];omega),H.xm 12 11 [2,3,4,5,6,7,8,9,1,10,11] [5,0,6,7,8,2,3,4,9,10] (by simp only[List.length_cons,List.length_append];omega)<|by simp only[List.length_cons,List.length_append];omega⟩)
   ·omega
   ·exact add_step i3 rfl ql
  have e3:bP=s.qA.length+1:=by omega
  refine c_exit<|t_x<|t_x<|b_x<|b_n<|t_n<|xX<|sw<|zS c 1 rfl rfl qf<|sq 1<|xU<|xu (m':=(own.length-((c+1):Int)).toNat) qf ⟨_,c+1,_,_,_,uE11,?_,?_,rfl,(N.xm 5 (zR 1 4)<|by simp only[List.length_cons,List.length_append];omega),H.xm 11 10 (zR 1 10) (zR 1 9) (by simp only[List.length_cons,List.length_append];omega)<|by simp only[List.length_cons,List.length_append];omega⟩
  ·omega
  ·exact now_end i3 e3 ‹_›
 have e2:c=s.qA.length:=by omega
 obtain⟨n6,n7⟩:=now_ok p0 v1 qf (j:=iv.toNat) qf i2
 refine zx4<|zcc<|sq 1<|oN rfl<|sp (yI 0)<|zjn<|xe<|zT ((fun Z0 Z1 Z2 Z3 Z4 Z5 Z6 Z7 Z8 Z9 fi fK gW ka lc lN rj=>fun m' ρ Y4=>∃(xP:Env) (fS:Nat) (bags:yLL) (mB:List Value) (g7:yLN),ρ=upd (upd (upd (upd (upd (upd (upd (upd (upd xP 0<|pp bk 0) 1<|yI iv) 5<|pp b1<|0+(iv:Int).toNat*16+0) 6<|pp b7 0) 9<|Sv IL ((((sv[iv.toNat]!).qC).qG).length) IF) 10<|Sv fg QP Xk) 120<|Sv Ri ((xG s (⟨ja [true] s.qA.length,((sv[iv.toNat]!).qC).qG,((sv[iv.toNat]!).qC).qF⟩:xn)).length) Sa) 121<|yI ((xG s (⟨ja [true] s.qA.length,((sv[iv.toNat]!).qC).qG,((sv[iv.toNat]!).qC).qF⟩:xn)).length)) 122 (yI fS)/\bags=restR s (⟨ja [true] s.qA.length,((sv[iv.toNat]!).qC).qG,((sv[iv.toNat]!).qC).qF⟩:xn) (xG s (⟨ja [true] s.qA.length,((sv[iv.toNat]!).qC).qG,((sv[iv.toNat]!).qC).qF⟩:xn)) fS/\((fS:Int)<=((xG s (⟨ja [true] s.qA.length,((sv[iv.toNat]!).qC).qG,((sv[iv.toNat]!).qC).qF⟩:xn)).length))/\m'=(((xG s (⟨ja [true] s.qA.length,((sv[iv.toNat]!).qC).qG,((sv[iv.toNat]!).qC).qF⟩:xn)).length)-(fS:Int)).toNat/\Fresh W0.heap.size (aC::az::yE::g7::Ns)/\St W0 Y4 (Z0::(rr IL ((((sv[iv.toNat]!).qC).qG).length) IF 24 1 mB)::Z1::Z2::Z3::Z4::Z5::Z6::Z7::Z8::ps) (Z9::(qQ true g7 mB bags)::fi::fK::gW::ka::lc::lN::rj::Γ)) _ _ _ _ _ _ _ _ _ _ _ _ _ _ _ _ _) ((((xG s (⟨ja [true] s.qA.length,((sv[iv.toNat]!).qC).qG,((sv[iv.toNat]!).qC).qF⟩:xn)).length)-(0:Int)).toNat) ⟨_,0,(((sv[iv.toNat]!).qC).qG),PX,nz,uE9,(by rfl),qf,rfl,(N.xm 4 [1,2,3,0]<|by simp only[List.length_cons,List.length_append];omega),H⟩ ?_
 clear H N
 rintro m' ρ aFE ⟨xP,fS,bags,mB,g7,rfl,rfl,i0,rfl,N,H⟩
 have Sm:=H.xk (α:=yLI) 1 rfl 1 rfl qj
 have rl:(restR s (⟨ja [true] s.qA.length,((sv[iv.toNat]!).qC).qG,((sv[iv.toNat]!).qC).qF⟩:xn) (xG s (⟨ja [true] s.qA.length,((sv[iv.toNat]!).qC).qG,((sv[iv.toNat]!).qC).qF⟩:xn)) fS).length=s.qA.length:=(restR_len fS).trans y1.XT
 refine zcr<|sq 1<|zjn<|xM<|cD rfl (fun awJ=>?_)<|fun awJ=>?_
 ·have q:=p0.sys.rule (i:=fS) qf
  have qc:=q.1
  have qk:=q.cell
  have b1:=q.2.2.2.2.1
  have p10:=c1.bd (i:=fS) qf
  obtain⟨u1,u2⟩:=restR_row (c:=(s.qB[fS]!).qZ.toNat) p0.sys v1 c1 (show fS<=_ by omega) qk
  have u3:=b1.len
  have u4:=b1.Qp (t:= -((xG s (⟨ja [true] s.qA.length,((sv[iv.toNat]!).qC).qG,((sv[iv.toNat]!).qC).qF⟩:xn))[fS]!)) qf
  refine qW<|t_n<|xM<|xe<|zcr<|sq 1 ?_
  obtain⟨ns,rfl⟩:=H.jB 2 rfl qf
  refine oI rfl rfl<|oL rfl (H.rowInt 2 rfl (iv:=fS) (i:=fS) qf qf)<|sq 2<|zjc<|oF rfl<|oL rfl (H.cell 6 rfl rfl)<|sq 1 ?_
  obtain⟨akv,aDY,rfl⟩:=H.addr 5 rfl qf
  obtain⟨yb,x5,adR,xD,xz,adu,ya,zb,aeh,yk,x3,acX,C3,Dr,ae3,yy,xT,adV,H⟩:=H.QY 5 rfl fS fS qf qf qf
  refine oI rfl rfl<|sw<|xW [yI ((s.qB[fS]!).qZ),yI ((s.qB[fS]!).yJ),Sv yb (((s.qB[fS]!).zU).length) x5,Sv xD (((s.qB[fS]!).jJ).length) xz,Sv ya (((s.qB[fS]!).jK).length) zb,Sv yk (((s.qB[fS]!).jF).length) x3,Sv C3 (((s.qB[fS]!).QL).length) Dr,Sv yy (((s.qB[fS]!).xw).length) xT,Bv ((s.qB[fS]!).jw)] isAgg110 sizeOf110 rfl (qH (H.get 6 rfl) 0 9)<|sw<|zn H ti110 [yI 0,yI 0,yN,yN,yN,yN,yN,yN,Bv false] fun Zm aaO H=>(sw<|zF H 0 [yI ((s.qB[fS]!).qZ),yI ((s.qB[fS]!).yJ),Sv yb (((s.qB[fS]!).zU).length) x5,Sv xD (((s.qB[fS]!).jJ).length) xz,Sv ya (((s.qB[fS]!).jK).length) zb,Sv yk (((s.qB[fS]!).jF).length) x3,Sv C3 (((s.qB[fS]!).QL).length) Dr,Sv yy (((s.qB[fS]!).xw).length) xT,Bv ((s.qB[fS]!).jw)] sizeOf110 fun apB H=>?_)
  dsimp only[List.set] at H
  refine zjn<|vK 2 rfl H [0,1,2,3,4,5,6,7,8,9,10] [0,1,2,3,4,5,6,7,8,9,10,11,12,13,14,15] fun H=>?_
  dsimp only[yg,yL]
  have S:=H.zW (zR 0 11)<|zR 0 16
  refine rtl 0 S ?_
  refine tF 1 rfl rfl S ?_
  refine tL 2 rfl rfl (fun _ h=>h.cell 0 rfl rfl) S ?_
  refine rtl 3 S ?_
  refine tF 4 rfl rfl S ?_
  refine tL 5 rfl rfl (fun _ h=>h.cell 0 rfl rfl) S ?_
  obtain⟨akR,rfl⟩:=H.jB 2 rfl qf
  have S:=H.zW (zR 0 11)<|zR 0 16
  refine tI 6 rfl rfl rfl S ?_
  refine tF 8 rfl rfl S ?_
  refine tL 9 rfl rfl (fun _ h=>h.cell 0 rfl rfl) S ?_
  refine rtl 10 S ?_
  refine rt 11 _ (y_neg ((xG s (⟨ja [true] s.qA.length,((sv[iv.toNat]!).qC).qG,((sv[iv.toNat]!).qC).qF⟩:xn))[fS]!) rfl qf) S ?_
  refine ro 7 rfl ?_
  obtain⟨ajD,afO,aEj,aiI,H⟩:=H.yG 2 rfl 8 rfl (iv:=(s.qB[fS]!).qZ) (((s.qB[fS]!).qZ:Int).toNat) qf qf
  refine zJ (Sv ajD (((restR s (⟨ja [true] s.qA.length,((sv[iv.toNat]!).qC).qG,((sv[iv.toNat]!).qC).qF⟩:xn) (xG s (⟨ja [true] s.qA.length,((sv[iv.toNat]!).qC).qG,((sv[iv.toNat]!).qC).qF⟩:xn)) fS)[((s.qB[fS]!).qZ:Int).toNat]!).length) afO) isAgg24 rfl ((H.zt 2 rfl aiI qf))<|⟨H.pick (zR 0 11)<|zR 1 16,(ro 12 rfl ?_)⟩
  refine oc (plus_ok _ ((restR s (⟨ja [true] s.qA.length,((sv[iv.toNat]!).qC).qG,((sv[iv.toNat]!).qC).qF⟩:xn) (xG s (⟨ja [true] s.qA.length,((sv[iv.toNat]!).qC).qG,((sv[iv.toNat]!).qC).qF⟩:xn)) fS)[((s.qB[fS]!).qZ:Int).toNat]!) ((s.qB[fS]!).zU) (-((xG s (⟨ja [true] s.qA.length,((sv[iv.toNat]!).qC).qG,((sv[iv.toNat]!).qC).qF⟩:xn))[fS]!)) (H.get 0 rfl).1 (H.get 1 rfl).1 qg qg qg) ?_
  rintro aIv awl axx auo
  replace H:=H.zV auo axx
  obtain⟨aud,ayo,rfl,azg,azm⟩:=H.yf 0 rfl
  refine⟨H.pick (zR 1 11)<|zR 1 16,(xy qh<|xZ<|oI rfl rfl ?_)⟩
  obtain⟨aFN,N,aBX,H⟩:=H.vJ 0 rfl N<|fun F hF b hb=>(List.mem_append.1<|show F∈[aC,az,yE,g7]++Ns from hF).elim (fun h=>(H.vV (L:=[aC,az,yE,g7]) [15,16,8,9]) F h b hb) fun h=>H.jT (K0.behind 17 rfl) F h b hb
  dsimp only[List.set] at H
  refine sw<|Qd true H 3 rfl 10 rfl (Sv aud ((jc ((restR s (⟨ja [true] s.qA.length,((sv[iv.toNat]!).qC).qG,((sv[iv.toNat]!).qC).qF⟩:xn) (xG s (⟨ja [true] s.qA.length,((sv[iv.toNat]!).qC).qG,((sv[iv.toNat]!).qC).qF⟩:xn)) fS)[((s.qB[fS]!).qZ:Int).toNat]!) ((s.qB[fS]!).zU) (-((xG s (⟨ja [true] s.qA.length,((sv[iv.toNat]!).qC).qG,((sv[iv.toNat]!).qC).qF⟩:xn))[fS]!))).length) ayo) 0 rfl rfl sizeOf24 rfl rfl (i:=(((s.qB[fS]!).qZ:Int).toNat)) qf qf qm fun abi aBO aum apE H=>?_
  replace N:Fresh W0.heap.size (aum::aC::az::yE::Ns):=(N.xm 5 [4,0,1,2,3]<|by simp only[List.length_cons,List.length_append];omega).repl apE
  dsimp only[List.set] at H
  refine xU<|b_n<|t_n<|xX<|sw<|zS fS 1 rfl rfl qf<|sq 1<|xU<|xu (m':=(((xG s (⟨ja [true] s.qA.length,((sv[iv.toNat]!).qC).qG,((sv[iv.toNat]!).qC).qF⟩:xn)).length)-((fS+1):Int)).toNat) qf ⟨_,fS+1,_,_,_,uE9,?_,?_,rfl,(N.xm 4 [1,2,3,0]<|by simp only[List.length_cons,List.length_append];omega),H.xm 12 19 (zR 2 10) (10::0::zR 12 7) (by simp only[List.length_cons,List.length_append];omega)<|by simp only[List.length_cons,List.length_append];omega⟩
  ·rfl
  ·omega
 have e5:fS=s.qB.length:=by omega
 have e4:restR s (⟨ja [true] s.qA.length,((sv[iv.toNat]!).qC).qG,((sv[iv.toNat]!).qC).qF⟩:xn) (xG s (⟨ja [true] s.qA.length,((sv[iv.toNat]!).qC).qG,((sv[iv.toNat]!).qC).qF⟩:xn)) fS=bagsD s (sv[iv.toNat]!).qC:=by rw[e5];rfl
 refine zx4<|zcc<|sq 1<|sw<|vz #[Sv fg QP Xk,.func (.func 142) #[] #[]] rfl rfl call141<|en func141 ntmps141 ?_
 refine zcr<|sp (Bv false)<|zjc<|sq 1<|sp (.func (.func 142) #[] #[])<|sw<|vz #[Sv fg QP Xk,.func (.func 142) #[] #[]] rfl rfl call165<|en func165 ntmps165 ?_
 refine zcr<|sp (yI 0)<|zjcc<|sq 1<|oN rfl<|sp (yI 0)<|zjn<|xe<|zT ((fun Z0 Z1 Z2 Z3 Z4 Z5 Z6 Z7 Z8 Z9 fi fK gW ka lc lN rj xo Ab=>fun m' ρ abg=>∃(xP:Env) (i:Nat),ρ=upd (upd (upd (upd xP 0<|Sv fg QP Xk) 1<|.func (.func 142) #[] #[]) 7<|yI QP) 8 (yI i)/\((i:Int)<=QP)/\(AllB3 ed i)/\m'=(QP-(i:Int)).toNat/\Fresh W0.heap.size (aC::az::yE::g7::Ns)/\St W0 abg (Z0::Z1::Z2::Z3::Z4::Z5::Z6::Z7::Z8::Z9::ps) (fi::fK::gW::ka::lc::lN::rj::xo::Ab::Γ)) _ _ _ _ _ _ _ _ _ _ _ _ _ _ _ _ _ _ _) ((QP-(0:Int)).toNat) ⟨_,0,uE4,qf,qx,rfl,N,H⟩ ?_
 clear H N
 rintro m' ρ asC ⟨xP,i,rfl,i0,i5,rfl,N,H⟩
 refine zcr<|sq 1<|zjn<|xM<|cD rfl (fun PW=>?_)<|fun PW=>?_
 ·refine qW (t_n<|xM<|xe<|zcr<|sp (yI i)<|sp (yI i)<|zjc<|sp (.func (.func 142) #[] #[])<|sq 1<|sp (yI i) ?_)
  obtain⟨aET,rfl⟩:=H.jB 0 rfl qf
  refine oI rfl rfl ?_
  obtain⟨asA,atS,aFM,aih,H⟩:=H.yG 0 rfl 0 rfl (iv:=i) i qf qf
  refine oL rfl ((H.zt 0 rfl aih qf))<|sw<|vz #[Sv asA ((ed[i]!).length) atS] rfl rfl call142<|en func142 ntmps142 ?_
  refine zcr<|sp (Bv false)<|zjc<|sq 1<|sw<|oq (areBags_ok _ (ed[i]!) (H.get 0 rfl).1) H fun abt H=>sq 2<|zjr<|ret1 (Bv (!(dec<|yF (ed[i]!) (ed[i]!).length))) rfl rfl ⟨_,rfl,(zjn<|cQ rfl (fun zz=>?_)<|fun zz=>?_)⟩
  ·refine zcr (sp (yI i)<|sp (yI i)<|zjr<|zr5<|ret1 (yI i) rfl rfl ⟨_,rfl,(sw<|o_pure (Bv true) (by show some (Value.bool<|decide ((i:Int)>=0))=some (Value.bool true);rw[decide_eq_true qf])<|sp (Bv true)<|zjr<|ret1 (Bv true) rfl rfl ⟨_,rfl,(zjn<|cTr rfl<|zcr<|sp (yI 3)<|zjr<|t_r<|ret1 (yI 3) rfl rfl ⟨_,rfl,?_⟩)⟩)⟩)
   rw[workR_no p2.1 ql ql e2 i2 (j:=i) qf ql]
   exact⟨bV,aC,cF,wi.length,bH,bL,az,rfl,(N.xm 4 [0,1]<|by simp only[List.length_cons,List.length_append];omega),H.xm 10 10 [7,8,9] (zR 5 5) (by simp only[List.length_cons,List.length_append];omega)<|by simp only[List.length_cons,List.length_append];omega⟩
  refine qW<|b_n<|t_n<|xX<|sw<|zS i 1 rfl rfl qf<|sq 1<|xU<|xu (m':=(QP-((i+1):Int)).toNat) qf ⟨_,i+1,uE4,?_,?_,rfl,N,H.xm 10 10 (zR 0 10) (zR 1 9) (by simp only[List.length_cons,List.length_append];omega)<|by simp only[List.length_cons,List.length_append];omega⟩
  ·omega
  ·exact i5.succ ql
 refine zx4<|zcr<|sq 1<|zjr<|ret1 (yI (-1)) rfl rfl ⟨_,rfl,(sp (Bv false)<|sp (Bv false)<|zjr<|ret1 (Bv false) rfl rfl ⟨_,rfl,(zjn<|cFr rfl<|qW<|t_n<|zcr ?_)⟩)⟩
 refine sq 7<|sp (yI iv) ?_
 obtain⟨aun,rfl⟩:=H.jB 0 rfl qf
 refine oI rfl rfl ?_
 obtain⟨aFA,aEr,aCT,aiX,H⟩:=H.yG 0 rfl 0 rfl (iv:=iv) iv.toNat qf qf
 refine oL rfl ((H.zt 0 rfl aiX qf)) ?_
 have afe:=H.base.size
 have aet:=jL (H.ltN (L:=[aC,az,yE,g7]) [8,9,1,2])<|H.ltK<|K0.behind 10 rfl
 refine sw<|oc (Xh _ (ed[iv.toNat]!) (H.get 0 rfl).1 qg) ?_
 rintro _ RZ ⟨nC,aBb,alW,azP,sk,rfl,M,K⟩ _
 replace N:=N.merge afe aet M
 replace H:=H.merge K M
 dsimp only[List.cons_append,List.nil_append] at H
 obtain rfl:=H.xk (α:=yLI) 0 rfl 0 rfl qj
 refine sq 1<|oF rfl ?_
 have H0:=H
 obtain⟨oH,U1,apu,H⟩:=H.jA (α:=yLI) 2 rfl 3 rfl qj
 replace N:Fresh W0.heap.size (oH::sk::aC::az::yE::Ns):=Fresh.ice (N.xm 5 [4,0,1,2,3]<|by simp only[List.length_cons,List.length_append];omega) H0 2 U1.1 U1.2<|fun F hF b hb=>(List.mem_append.1<|show F∈[sk,aC,az,yE]++Ns from hF).elim (fun h=>(H0.vV (L:=[sk,aC,az,yE]) [0,9,10,2]) F h b hb) fun h=>H0.jT (K0.behind 11 rfl) F h b hb
 clear H0
 dsimp only[List.set] at H
 obtain⟨Nb,LH⟩:∃z,z=(sv.set iv.toNat { sv[iv.toNat]! with qC:={ sv[iv.toNat]!.qC with qG:=(restR s (⟨ja [true] s.qA.length,((sv[iv.toNat]!).qC).qG,((sv[iv.toNat]!).qC).qF⟩:xn) (xG s (⟨ja [true] s.qA.length,((sv[iv.toNat]!).qC).qG,((sv[iv.toNat]!).qC).qF⟩:xn)) fS)}}):=⟨_,rfl⟩
 refine sw<|XF (v:=Sv IL ((((sv[iv.toNat]!).qC).qG).length) IF) part_Server_DeskBags H 9 rfl 10 rfl 0 rfl rfl sizeOf29 rfl rfl rfl iv.toNat qf qf LH fun awk aBL SN ajc H=>?_
 dsimp only[List.set] at H
 replace N:Fresh W0.heap.size (SN::sk::az::yE::Ns):=(N.xm 5 [2,0,1,3,4]<|by simp only[List.length_cons,List.length_append];omega).repl ajc
 have aGh:=set_len LH
 refine sq 1<|oF rfl ?_
 have H0:=H
 obtain⟨m5,CM,afp,H⟩:=H.jA (α:=yLL) 1 rfl 4 rfl qj
 replace N:Fresh W0.heap.size (m5::SN::sk::az::Ns):=Fresh.ice (N.xm 4 [3,0,1,2]<|by simp only[List.length_cons,List.length_append];omega) H0 1 CM.1 CM.2<|fun F hF b hb=>(List.mem_append.1<|show F∈[SN,sk,az]++Ns from hF).elim (fun h=>(H0.vV (L:=[SN,sk,az]) [0,2,12]) F h b hb) fun h=>H0.jT (K0.behind 13 rfl) F h b hb
 clear H0
 dsimp only[List.set] at H
 obtain⟨KJ,MJ⟩:∃z,z=(Nb.set iv.toNat { Nb[iv.toNat]! with qC:={ Nb[iv.toNat]!.qC with vX:=ed }}):=⟨_,rfl⟩
 refine sw<|XF (v:=Sv (aa aun 0) QP Xk) part_Server_DeskNow H 9 rfl 1 rfl 0 rfl rfl sizeOf45 rfl rfl rfl iv.toNat qf qf MJ fun aG7 aCp Q0 anN H=>?_
 dsimp only[List.set] at H
 replace N:Fresh W0.heap.size (Q0::sk::az::Ns):=(N.xm 4 [1,0,2,3]<|by simp only[List.length_cons,List.length_append];omega).repl anN
 have aHH:=set_len MJ
 refine sq 1<|oF rfl ?_
 have H0:=H
 obtain⟨aiG,TA,KU,H⟩:=H.jA (α:=yLI) 0 rfl 4 rfl qj
 replace N:Fresh W0.heap.size (aiG::Q0::az::Ns):=Fresh.ice (N.xm 3 [1,0,2]<|by simp only[List.length_cons,List.length_append];omega) H0 0 TA.1 TA.2<|fun F hF b hb=>(List.mem_append.1<|show F∈[Q0,az]++Ns from hF).elim (fun h=>(H0.vV (L:=[Q0,az]) [0,14]) F h b hb) fun h=>H0.jT (K0.behind 15 rfl) F h b hb
 clear H0
 dsimp only[List.set] at H
 obtain⟨Kt,LE⟩:∃z,z=(KJ.set iv.toNat { KJ[iv.toNat]! with qC:={ KJ[iv.toNat]!.qC with qL:=(ed[iv.toNat]!)}}):=⟨_,rfl⟩
 refine sw<|XF (v:=Sv nC ((ed[iv.toNat]!).length) alW) XL H 9 rfl 1 rfl 0 rfl rfl sizeOf29 rfl rfl rfl iv.toNat qf qf LE fun afW aA7 ayg apN H=>?_
 dsimp only[List.set] at H
 replace N:Fresh W0.heap.size (ayg::az::Ns):=(N.xm 3 [1,0,2]<|by simp only[List.length_cons,List.length_append];omega).repl apN
 have aEO:=set_len LE
 refine sq 1<|oF rfl ?_
 obtain⟨Pa,KZ⟩:∃z,z=(Kt.set iv.toNat { Kt[iv.toNat]! with qC:={ Kt[iv.toNat]!.qC with qV:=true }}):=⟨_,rfl⟩
 refine sw<|o_putBool part_Server_DeskWorked H 9 rfl 0 rfl sizeOf4 rfl rfl rfl iv.toNat qf qf KZ fun afE ay7 ZY amJ H=>?_
 dsimp only[List.set] at H
 replace N:Fresh W0.heap.size (ZY::az::Ns):=(N.emp.xm 3 [1,0,2]<|by simp only[List.length_cons,List.length_append];omega).repl amJ
 have aE6:=set_len KZ
 refine zjc<|sq 3<|oF rfl<|oF rfl<|oL rfl (H.cell 8 rfl rfl)<|oN rfl<|sw<|o_makeB H underlying28 ti4 sv.length rfl rfl qf qf qf fun atz akT H=>sq 1<|oF rfl ?_
 obtain⟨LK,N,ajG,H⟩:=H.freezeB 0 rfl N<|fun F hF b hb=>(List.mem_append.1<|show F∈[ZY,az]++Ns from hF).elim (fun h=>(H.vV (L:=[ZY,az]) [0,17]) F h b hb) fun h=>H.jT (K0.behind 18 rfl) F h b hb
 dsimp only[List.set] at H
 obtain⟨Ge,Gj⟩:∃z,z=(Pa.set iv.toNat { Pa[iv.toNat]! with qC:={ Pa[iv.toNat]!.qC with vM:=(List.replicate sv.length<|false)}}):=⟨_,rfl⟩
 refine sw<|XF (v:=Sv (aa atz 0) sv.length sv.length) Xz H 10 rfl 1 rfl 0 rfl rfl sizeOf28 rfl rfl rfl iv.toNat qf qf Gj fun axB anx amo afq H=>?_
 dsimp only[List.set] at H
 replace N:Fresh W0.heap.size (amo::az::Ns):=(N.xm 3 [1,0,2]<|by simp only[List.length_cons,List.length_append];omega).repl afq
 have aGo:=set_len Gj
 have aIK:=(set_got qf Gj).trans List.length_replicate
 refine zjc<|sq 2<|oF rfl ?_
 obtain⟨ac6,acY,adx,WG,U5,Uv,aeJ,akW,aov,TR,Wq,Ul,aoh,ahx,aiT,acZ,adr,aef,Hi,aB8,H⟩:=H.partS_DeskD zC 10 rfl 0 rfl rfl iv.toNat qf
 refine oL rfl (H.zt 10 rfl (Hi 4 _ rfl) qf)<|sp (yI iv) ?_
 obtain⟨aD7,aFR,rfl⟩:=H.addr 2 rfl qf
 refine oI rfl rfl ?_
 have N0:Fresh W0.heap.size (amo::az::Ns):=N
 obtain⟨ay4,Lu⟩:∃z,z=(Ge.set iv.toNat { Ge[iv.toNat]! with qC:={ Ge[iv.toNat]!.qC with vM:=(((Ge[iv.toNat]!).qC.vM).set iv.toNat true)}}):=⟨_,rfl⟩
 refine sw<|o_pokeBool Xz H 6 rfl N0 ((sF false Fp ap cp s.qA)::(sF false Fr ar cr s.qB)::(sF false Fo ao co own)::(qQ true az bL wi)::Γ) (vY (kept 21 rfl<|XA OL 0 rfl N0)<|vY (kept 22 rfl<|XA OL 1 rfl N0)<|vY (kept 23 rfl<|XA OL 2 rfl N0)<|vY (kept 25 rfl<|QU N0 0 rfl)<|keeps_old 26 rfl OL 3 rfl N0) iv.toNat qf rfl (Hi 4 _ rfl) iv.toNat qf sizeOf4 rfl qf rfl Lu fun aIk axt N H=>?_
 have aGV:=set_len Lu
 refine zjc<|sp (yI 0)<|zjr<|ret1 (yI 0) rfl rfl ⟨_,rfl,?_⟩
 rw[workR_0 p2.1 ql ql e2 i2 (fun j hj=>i5 j qf)<|fun z=>work_sets qf LH MJ LE KZ Gj Lu e4 z rfl]
 exact⟨anx,axt,cF,wi.length,bH,bL,az,rfl,N,H.xm 12 5 [9,10,11] [1,2,3,0,4] (by simp only[List.length_cons,List.length_append];omega)<|by simp only[List.length_cons,List.length_append];omega⟩
theorem do_ok(s:qO)(own:yLI)(ap:yOA)(cp:Nat)(Fp:yLN)(ar:yOA)(cr:Nat)(Fr:yLN)(ao:yOA)(co:Nat)(Fo:yLN)(sv:List zu)(wi:List zk)(bk:Nat)(n:Nat)(eB:yOA)(ee:Nat)(cz:Nat)(bV:List Value)(aC:yLN)(cF:yOA)(j9:Nat)(bH:Nat)(bL:List Value)(az:yLN)(d:xH)(H:St W0 w ((.box bk [Sv eB ee cz,Sv cF j9 bH,yI s.qN,Sv ap s.qA.length cp,Sv ar s.qB.length cr,Sv ao own.length co] 74)::(rr eB ee cz 49 16 bV)::(rr cF j9 bH 77 4 bL)::ps) ((sF false Fp ap cp s.qA)::(sF false Fr ar cr s.qB)::(sF false Fo ao co own)::(qQ true aC bV sv)::(qQ true az bL wi)::Γ))(N:Fresh W0.heap.size (aC::az::Ns))(K0:Kept Ns Γ)(p0:Giv s own n)(p1:Vh s own n (⟨sv,wi⟩:zN))(p2:VL d)(OL:∀f∈(sF false Fp ap cp s.qA::sF false Fr ar cr s.qB::sF false Fo ao co own::Γ),∀b∈f.F,b<W0.heap.size):Calls Tryz.prog 52 #[pp bk 0,.agg #[yI d.xJ,yI d.fA,yI d.fB]] w (fun e w'=>∃v,e=.returned v/\∃(pU:List Value) (pE:yLN) (qs:yOA) (q8:Nat) (qd:Nat) (px:List Value) (rf:yLN),v=yI ((doM s own (⟨sv,wi⟩:zN) d).2)/\Fresh W0.heap.size (pE::rf::Ns)/\St W0 w' ((.box bk [Sv eB ee cz,Sv qs q8 qd,yI s.qN,Sv ap s.qA.length cp,Sv ar s.qB.length cr,Sv ao own.length co] 74)::(rr eB ee cz 49 16 pU)::(rr qs q8 qd 77 4 px)::ps) ((sF false Fp ap cp s.qA)::(sF false Fr ar cr s.qB)::(sF false Fo ao co own)::(qQ true pE pU ((doM s own (⟨sv,wi⟩:zN) d).1.qE))::(qQ true rf px ((doM s own (⟨sv,wi⟩:zN) d).1.x9))::Γ)):=by
 refine en func52 ntmps52 ?_
 have auv:=qM (H.get 0 rfl).1
 obtain rfl:=H.xk (α:=zu) 1 rfl 3 rfl qj
 obtain rfl:=H.xk (α:=zk) 2 rfl 4 rfl qj
 have g4:=p0.few
 have l1:sv.length=n:=p1.len
 have l2:wi.length<=12:=p1.few
 have d1:=p2.1
 have d2:=p2.2.1
 have d3:=p2.2.2.1
 refine zcr<|sw<|jq H [yI d.xJ,yI d.fA,yI d.fB] fun b1 w2 H=>sp (yI 0)<|zjcc<|oF rfl<|oL rfl (H.cell 0 rfl rfl)<|zjn<|xe<|zcc<|sp (Bv ((d.xJ:Int) == 3))<|sp (Bv ((d.xJ:Int) == 3))<|zjn<|c_cut (fun ρ w3=>∃(xP:Env) (t8:Bool),ρ=upd (upd (upd (upd xP 0<|pp bk 0) 3<|pp b1 0) 7<|yI d.xJ) 8 (Bv t8)/\(t8=true<->(d.xJ=3\/d.xJ=4))/\Fresh W0.heap.size (aC::az::Ns)/\St W0 w3 ((.box b1 [yI d.xJ,yI d.fA,yI d.fB] 44)::(.box bk [Sv eB sv.length cz,Sv cF wi.length bH,yI s.qN,Sv ap s.qA.length cp,Sv ar s.qB.length cr,Sv ao own.length co] 74)::(rr eB sv.length cz 49 16 bV)::(rr cF wi.length bH 77 4 bL)::ps) ((sF false Fp ap cp s.qA)::(sF false Fr ar cr s.qB)::(sF false Fo ao co own)::(qQ true aC bV sv)::(qQ true az bL wi)::Γ)) ?_ ?_
 ·refine cE rfl (fun h4=>?_) (fun h4=>?_)
  ·refine qW (meet ⟨_,(d.xJ:Int) == 3,uE4,?_,N,H⟩)
   ·exact beq_iff_eq.trans ⟨fun h=>by omega,fun h=>by omega⟩
  refine xX<|sp (Bv ((d.xJ:Int) == 4))<|sp (Bv ((d.xJ:Int) == 4))<|xU<|meet ⟨_,(d.xJ:Int) == 4,uE4,?_,N,H⟩
  ·exact beq_iff_eq.trans ⟨fun h=>by omega,fun h=>by omega⟩
 clear H N
 rintro ρ w5 ⟨xP,t8,rfl,j8,N,H⟩
 refine t_n<|vg _ rfl (fun h6=>?_)<|fun h6=>?_
 ·(have k8:=j8.1 ql)
  refine zcr<|sq 1<|sw<|xW [yI d.xJ,yI d.fA,yI d.fB] isAgg44 sizeOf44 rfl (qH (H.cells 0 rfl) 0 3)<|sw<|vz #[pp bk 0,.agg #[yI d.xJ,yI d.fA,yI d.fB]] rfl rfl call93<|en func93 ntmps93 ?_
  refine zcr<|sw<|jq H [yI d.xJ,yI d.fA,yI d.fB] fun b7 w8 H=>sp (yI 0)<|zjcc<|sq 1<|oF rfl<|oL rfl (H.cell 0 rfl rfl)<|sw<|vz #[pp bk 0,yI d.fA] rfl rfl call95<|en func95 ntmps95 ?_
  refine zcr<|sp (Bv false)<|zjc<|sq 3<|oF rfl<|oF rfl<|oL rfl (H.cell 2 rfl rfl)<|sw<|vz #[Sv eB sv.length cz] rfl rfl call137<|en func137 ntmps137 ?_
  refine zcr<|sp (yI 0)<|zjc<|sq 1<|oN rfl<|sq 1<|zjr<|ret1 (yI sv.length) rfl rfl ⟨_,rfl,(sw<|o_sub sv.length 1 rfl rfl qf<|sw<|oq (XI w8 d.fA 0<|sv.length-1) H fun w9 H=>sq 1<|zjr<|ret1 (Bv<|inR d.fA 0<|sv.length-1) rfl rfl ⟨_,rfl,(sp (Bv (!(inR d.fA 0<|sv.length-1)))<|sp (Bv (!(inR d.fA 0<|sv.length-1))) ?_)⟩)⟩
  cases cZ:(!(inR d.fA 0 (sv.length-1)))
  ·replace cZ:=xf cZ
   replace cZ:=QM.1 cZ
   refine qJ 12 rfl rfl<|sq 1<|qJ 12 rfl rfl<|oF rfl<|qJ 12 rfl rfl<|oL rfl (H.cell 0 rfl rfl)<|qJ 12 rfl rfl<|sw<|vz #[pp bk 0,yI d.fB] rfl rfl call95<|en func95 ntmps95 ?_
   refine zcr<|sp (Bv false)<|zjc<|sq 3<|oF rfl<|oF rfl<|oL rfl (H.cell 2 rfl rfl)<|sw<|vz #[Sv eB sv.length cz] rfl rfl call137<|en func137 ntmps137 ?_
   refine zcr<|sp (yI 0)<|zjc<|sq 1<|oN rfl<|sq 1<|zjr<|ret1 (yI sv.length) rfl rfl ⟨_,rfl,(sw<|o_sub sv.length 1 rfl rfl qf<|sw<|oq (XI w9 d.fB 0<|sv.length-1) H fun G7 H=>sq 1<|zjr<|ret1 (Bv<|inR d.fB 0<|sv.length-1) rfl rfl ⟨_,rfl,(qJ 12 rfl rfl<|sp (Bv (!(inR d.fB 0<|sv.length-1)))<|sp (Bv (!(inR d.fB 0<|sv.length-1)))<|sp (Bv (!(inR d.fB 0<|sv.length-1))) ?_)⟩)⟩
   cases mo:(!(inR d.fB 0 (sv.length-1)))
   ·replace mo:=xf mo
    replace mo:=QM.1 mo
    refine qJ 19 rfl rfl<|oF rfl<|qJ 19 rfl rfl<|oL rfl (H.cell 0 rfl rfl)<|qJ 19 rfl rfl<|oF rfl<|qJ 19 rfl rfl<|oL rfl (H.cell 0 rfl rfl)<|qJ 19 rfl rfl<|sq 2<|zjn<|cE rfl (fun rV=>?_)<|fun rV=>?_
    ·refine zcr (sp (yI 2)<|zjr<|t_r<|ret1 (yI 2) rfl rfl ⟨_,rfl,?_⟩)
     replace H:=H.erases [0]
     dsimp only[zL,List.eraseIdx,List.set] at H
     refine sp (yI 2)<|zjr<|b_r<|t_r<|ret1 (yI 2) rfl rfl ⟨_,rfl,?_⟩
     rw[Vq qf<|by(right;right;omega)]
     all_goals exact⟨bV,aC,cF,wi.length,bH,bL,az,rfl,N,H.xm 4 5 [1,2,3] (zR 0 5) (by simp only[List.length_cons,List.length_append];omega)<|by simp only[List.length_cons,List.length_append];omega⟩
    refine qW<|t_n<|xM<|vK 1 rfl H [0,1,2,3,4] [0,1,2,3,4] fun H=>?_
    dsimp only[yg,yL]
    have S:=H.zW (zR 0 5)<|zR 0 5
    refine rtl 0 S ?_
    refine rtl 1 S ?_
    refine tF 2 rfl rfl S ?_
    refine tF 3 rfl rfl S ?_
    refine tL 4 rfl rfl (fun _ h=>h.cell 2 rfl rfl) S ?_
    refine tF 5 rfl rfl S ?_
    refine tL 6 rfl rfl (fun _ h=>h.cell 0 rfl rfl) S ?_
    obtain⟨l7,rfl⟩:=H.jB 3 rfl qf
    refine tI 7 rfl rfl rfl (H.pick (zR 0 5)<|zR 0 5) ?_
    obtain⟨cn,cw,ir,bM,bJ,fO,cM,cW,kf,bO,bI,fQ,cS,cX,ki,cu,ch,ii,bD,bG,gr,bi,bn,fk,bT,bR,ik,bm,bj,fu,bQ,bS,il,bE,bF,gA,acv,H⟩:=H.part_ServerD Qs.refl 3 rfl 3 rfl rfl d.fA.toNat qf
    refine rt 8 _ (Qg (off:=0+(d.fA:Int).toNat*16) (cs:=[yI (((sv[d.fA.toNat]!).qC).qP),Sv cn ((((sv[d.fA.toNat]!).qC).qG).length) cw,Sv bM ((((sv[d.fA.toNat]!).qC).qF).length) bJ,Bv (((sv[d.fA.toNat]!).qC).qV),Sv cM ((((sv[d.fA.toNat]!).qC).vM).length) cW,Sv bO ((((sv[d.fA.toNat]!).qC).qL).length) bI,Sv cS ((((sv[d.fA.toNat]!).qC).vX).length) cX,Sv cu ((((sv[d.fA.toNat]!).qC).x8).length) ch,yI (((sv[d.fA.toNat]!).qI).qP),Sv bD ((((sv[d.fA.toNat]!).qI).qG).length) bG,Sv bi ((((sv[d.fA.toNat]!).qI).qF).length) bn,Bv (((sv[d.fA.toNat]!).qI).qV),Sv bT ((((sv[d.fA.toNat]!).qI).vM).length) bR,Sv bm ((((sv[d.fA.toNat]!).qI).qL).length) bj,Sv bQ ((((sv[d.fA.toNat]!).qI).vX).length) bS,Sv bE ((((sv[d.fA.toNat]!).qI).x8).length) bF]) isAgg49 sizeOf49 rfl<|fun _ h=>(fun r v hv=>h.zt 3 rfl (acv r v hv) qf)) (H.pick (zR 0 5)<|zR 12 5) ?_
    refine ro 9 rfl<|zn H ti49 [yI 0,yN,yN,Bv false,yN,yN,yN,yN,yI 0,yN,yN,Bv false,yN,yN,yN,yN] fun I9 Pz H=>⟨H.pick (zR 1 5)<|zR 12 5,(xy qh<|xZ ?_)⟩
    refine sw<|zF H 0 [yI (((sv[d.fA.toNat]!).qC).qP),Sv cn ((((sv[d.fA.toNat]!).qC).qG).length) cw,Sv bM ((((sv[d.fA.toNat]!).qC).qF).length) bJ,Bv (((sv[d.fA.toNat]!).qC).qV),Sv cM ((((sv[d.fA.toNat]!).qC).vM).length) cW,Sv bO ((((sv[d.fA.toNat]!).qC).qL).length) bI,Sv cS ((((sv[d.fA.toNat]!).qC).vX).length) cX,Sv cu ((((sv[d.fA.toNat]!).qC).x8).length) ch,yI (((sv[d.fA.toNat]!).qI).qP),Sv bD ((((sv[d.fA.toNat]!).qI).qG).length) bG,Sv bi ((((sv[d.fA.toNat]!).qI).qF).length) bn,Bv (((sv[d.fA.toNat]!).qI).qV),Sv bT ((((sv[d.fA.toNat]!).qI).vM).length) bR,Sv bm ((((sv[d.fA.toNat]!).qI).qL).length) bj,Sv bQ ((((sv[d.fA.toNat]!).qI).vX).length) bS,Sv bE ((((sv[d.fA.toNat]!).qI).x8).length) bF] sizeOf49 fun Ke H=>?_
    dsimp only[List.set] at H
    refine zjc<|oF rfl<|oF rfl<|oL rfl (H.cell 0 rfl rfl)<|oF rfl<|oL rfl (H.cell 1 rfl rfl)<|oF rfl<|oL rfl (H.cell 1 rfl rfl)<|sw<|jE [yI (((sv[d.fA.toNat]!).qC).qP),yI d.fA,yI d.fB,yN] [(0,yI (((sv[d.fA.toNat]!).qC).qP)),(1,yI d.fA),(2,yI d.fB)]<|sw<|zn H ti77 [yI 0,yI 0,yI 0,yN] fun sK D1 H=>sw<|zF H 0 [yI (((sv[d.fA.toNat]!).qC).qP),yI d.fA,yI d.fB,yN] sizeOf77 fun D0 H=>?_
    dsimp only[List.set] at H
    refine zjn<|xM<|xe<|xM<|xM<|c_cut (fun ρ Fq=>∃(xP:Env) (t56:Bool),ρ=upd (upd (upd (upd (upd xP 0<|pp bk 0) 3<|pp b7 0) 5<|pp I9 0) 6<|pp sK 0) 56 (Bv t56)/\(Sav7 t56 d.xJ<|sv[d.fA.toNat]!)/\Fresh W0.heap.size (aC::az::Ns)/\St W0 Fq ((.box sK [yI (((sv[d.fA.toNat]!).qC).qP),yI d.fA,yI d.fB,yN] 77)::(.box I9 [yI (((sv[d.fA.toNat]!).qC).qP),Sv cn ((((sv[d.fA.toNat]!).qC).qG).length) cw,Sv bM ((((sv[d.fA.toNat]!).qC).qF).length) bJ,Bv (((sv[d.fA.toNat]!).qC).qV),Sv cM ((((sv[d.fA.toNat]!).qC).vM).length) cW,Sv bO ((((sv[d.fA.toNat]!).qC).qL).length) bI,Sv cS ((((sv[d.fA.toNat]!).qC).vX).length) cX,Sv cu ((((sv[d.fA.toNat]!).qC).x8).length) ch,yI (((sv[d.fA.toNat]!).qI).qP),Sv bD ((((sv[d.fA.toNat]!).qI).qG).length) bG,Sv bi ((((sv[d.fA.toNat]!).qI).qF).length) bn,Bv (((sv[d.fA.toNat]!).qI).qV),Sv bT ((((sv[d.fA.toNat]!).qI).vM).length) bR,Sv bm ((((sv[d.fA.toNat]!).qI).qL).length) bj,Sv bQ ((((sv[d.fA.toNat]!).qI).vX).length) bS,Sv bE ((((sv[d.fA.toNat]!).qI).x8).length) bF] 49)::(.box b7 [yI d.xJ,yI d.fA,yI d.fB] 44)::(.box b1 [yI d.xJ,yI d.fA,yI d.fB] 44)::(.box bk [Sv (aa l7 0) sv.length cz,Sv cF wi.length bH,yI s.qN,Sv ap s.qA.length cp,Sv ar s.qB.length cr,Sv ao own.length co] 74)::(rr (aa l7 0) sv.length cz 49 16 bV)::(rr cF wi.length bH 77 4 bL)::ps) ((sF true ir cn cw (((sv[d.fA.toNat]!).qC).qG))::(sF true fO bM bJ (((sv[d.fA.toNat]!).qC).qF))::(sF true kf cM cW (((sv[d.fA.toNat]!).qC).vM))::(sF true fQ bO bI (((sv[d.fA.toNat]!).qC).qL))::(sF true ki cS cX (((sv[d.fA.toNat]!).qC).vX))::(sF true ii cu ch (((sv[d.fA.toNat]!).qC).x8))::(sF true gr bD bG (((sv[d.fA.toNat]!).qI).qG))::(sF true fk bi bn (((sv[d.fA.toNat]!).qI).qF))::(sF true ik bT bR (((sv[d.fA.toNat]!).qI).vM))::(sF true fu bm bj (((sv[d.fA.toNat]!).qI).qL))::(sF true il bQ bS (((sv[d.fA.toNat]!).qI).vX))::(sF true gA bE bF (((sv[d.fA.toNat]!).qI).x8))::(sF false Fp ap cp s.qA)::(sF false Fr ar cr s.qB)::(sF false Fo ao co own)::(qQ true aC bV sv)::(qQ true az bL wi)::Γ)) ?_ ?_
    ·refine xX (oF rfl<|oL rfl (H.cell 2 rfl rfl)<|sp (Bv ((d.xJ:Int) == 3))<|sp (Bv ((d.xJ:Int) == 3)) ?_)
     cases oz:((d.xJ:Int) == 3)
     ·replace oz:=ne_of_beq_false oz
      refine xO [61,62,63]<|sp (Bv false)<|sp (Bv false)<|xU<|meet ⟨_,false,uE5,?_,N,H⟩
      ·exact sav7_3 qf
     replace oz:=eq_of_beq oz
     refine qJ 60 rfl rfl<|sw<|xW [yI (((sv[d.fA.toNat]!).qC).qP),Sv cn ((((sv[d.fA.toNat]!).qC).qG).length) cw,Sv bM ((((sv[d.fA.toNat]!).qC).qF).length) bJ,Bv (((sv[d.fA.toNat]!).qC).qV),Sv cM ((((sv[d.fA.toNat]!).qC).vM).length) cW,Sv bO ((((sv[d.fA.toNat]!).qC).qL).length) bI,Sv cS ((((sv[d.fA.toNat]!).qC).vX).length) cX,Sv cu ((((sv[d.fA.toNat]!).qC).x8).length) ch,yI (((sv[d.fA.toNat]!).qI).qP),Sv bD ((((sv[d.fA.toNat]!).qI).qG).length) bG,Sv bi ((((sv[d.fA.toNat]!).qI).qF).length) bn,Bv (((sv[d.fA.toNat]!).qI).qV),Sv bT ((((sv[d.fA.toNat]!).qI).vM).length) bR,Sv bm ((((sv[d.fA.toNat]!).qI).qL).length) bj,Sv bQ ((((sv[d.fA.toNat]!).qI).vX).length) bS,Sv bE ((((sv[d.fA.toNat]!).qI).x8).length) bF] isAgg49 sizeOf49 rfl (qH (H.cells 1 rfl) 0 16)<|qJ 60 rfl rfl<|sw<|vz #[.agg #[yI (((sv[d.fA.toNat]!).qC).qP),Sv cn ((((sv[d.fA.toNat]!).qC).qG).length) cw,Sv bM ((((sv[d.fA.toNat]!).qC).qF).length) bJ,Bv (((sv[d.fA.toNat]!).qC).qV),Sv cM ((((sv[d.fA.toNat]!).qC).vM).length) cW,Sv bO ((((sv[d.fA.toNat]!).qC).qL).length) bI,Sv cS ((((sv[d.fA.toNat]!).qC).vX).length) cX,Sv cu ((((sv[d.fA.toNat]!).qC).x8).length) ch,yI (((sv[d.fA.toNat]!).qI).qP),Sv bD ((((sv[d.fA.toNat]!).qI).qG).length) bG,Sv bi ((((sv[d.fA.toNat]!).qI).qF).length) bn,Bv (((sv[d.fA.toNat]!).qI).qV),Sv bT ((((sv[d.fA.toNat]!).qI).vM).length) bR,Sv bm ((((sv[d.fA.toNat]!).qI).qL).length) bj,Sv bQ ((((sv[d.fA.toNat]!).qI).vX).length) bS,Sv bE ((((sv[d.fA.toNat]!).qI).x8).length) bF]] rfl rfl call133<|en func133 ntmps133 ?_
     refine zcr<|sw<|jq H [yI (((sv[d.fA.toNat]!).qC).qP),Sv cn ((((sv[d.fA.toNat]!).qC).qG).length) cw,Sv bM ((((sv[d.fA.toNat]!).qC).qF).length) bJ,Bv (((sv[d.fA.toNat]!).qC).qV),Sv cM ((((sv[d.fA.toNat]!).qC).vM).length) cW,Sv bO ((((sv[d.fA.toNat]!).qC).qL).length) bI,Sv cS ((((sv[d.fA.toNat]!).qC).vX).length) cX,Sv cu ((((sv[d.fA.toNat]!).qC).x8).length) ch,yI (((sv[d.fA.toNat]!).qI).qP),Sv bD ((((sv[d.fA.toNat]!).qI).qG).length) bG,Sv bi ((((sv[d.fA.toNat]!).qI).qF).length) bn,Bv (((sv[d.fA.toNat]!).qI).qV),Sv bT ((((sv[d.fA.toNat]!).qI).vM).length) bR,Sv bm ((((sv[d.fA.toNat]!).qI).qL).length) bj,Sv bQ ((((sv[d.fA.toNat]!).qI).vX).length) bS,Sv bE ((((sv[d.fA.toNat]!).qI).x8).length) bF] fun b28 JJ H=>(sp (Bv false)<|zjc<|oF rfl<|oF rfl<|oL rfl (H.cell 0 rfl rfl)<|oF rfl<|oF rfl<|oL rfl (H.cell 0 rfl rfl)<|sp (Bv ((((sv[d.fA.toNat]!).qI).qP:Int) == (((sv[d.fA.toNat]!).qC).qP)))<|sp (Bv ((((sv[d.fA.toNat]!).qI).qP:Int) == (((sv[d.fA.toNat]!).qC).qP))) ?_)
     cases pn:((((sv[d.fA.toNat]!).qI).qP:Int) == (((sv[d.fA.toNat]!).qC).qP))
     ·replace pn:=ne_of_beq_false pn
      refine xO [11,12,13]<|sp (Bv false)<|sp (Bv false)<|zjr<|ret1 (Bv false) rfl rfl ⟨_,rfl,?_⟩
      replace H:=H.erases [0]
      dsimp only[zL,List.eraseIdx,List.set] at H
      refine qJ 60 rfl rfl<|sp (Bv true)<|sp (Bv true)<|sp (Bv true)<|xU<|meet ⟨_,true,uE5,?_,N,H⟩
      ·exact sav7_2 qf ql
     replace pn:=eq_of_beq pn
     refine qJ 10 rfl rfl<|oF rfl<|qJ 10 rfl rfl<|oF rfl<|qJ 10 rfl rfl<|oL rfl (H.cell 0 rfl rfl)<|sq 2<|zjr<|ret1 (Bv (((sv[d.fA.toNat]!).qI).qV)) rfl rfl ⟨_,rfl,?_⟩
     replace H:=H.erases [0]
     dsimp only[zL,List.eraseIdx,List.set] at H
     refine qJ 60 rfl rfl<|sq 3<|xU<|meet ⟨_,!(((sv[d.fA.toNat]!).qI).qV),uE5,?_,N,H⟩
     ·exact sav7_1 qf ql rfl
    clear H N
    rintro ρ w31 ⟨xP,t56,rfl,j7,N,H⟩
    refine t_n<|c_cut (fun ρ Pn=>∃(xP:Env) (Mz:Bool),ρ=upd (upd (upd (upd (upd xP 0<|pp bk 0) 3<|pp b7 0) 5<|pp I9 0) 6<|pp sK 0) 56 (Bv Mz)/\(Sav Mz d.xJ<|sv[d.fA.toNat]!)/\Fresh W0.heap.size (aC::az::Ns)/\St W0 Pn ((.box sK [yI (((sv[d.fA.toNat]!).qC).qP),yI d.fA,yI d.fB,yN] 77)::(.box I9 [yI (((sv[d.fA.toNat]!).qC).qP),Sv cn ((((sv[d.fA.toNat]!).qC).qG).length) cw,Sv bM ((((sv[d.fA.toNat]!).qC).qF).length) bJ,Bv (((sv[d.fA.toNat]!).qC).qV),Sv cM ((((sv[d.fA.toNat]!).qC).vM).length) cW,Sv bO ((((sv[d.fA.toNat]!).qC).qL).length) bI,Sv cS ((((sv[d.fA.toNat]!).qC).vX).length) cX,Sv cu ((((sv[d.fA.toNat]!).qC).x8).length) ch,yI (((sv[d.fA.toNat]!).qI).qP),Sv bD ((((sv[d.fA.toNat]!).qI).qG).length) bG,Sv bi ((((sv[d.fA.toNat]!).qI).qF).length) bn,Bv (((sv[d.fA.toNat]!).qI).qV),Sv bT ((((sv[d.fA.toNat]!).qI).vM).length) bR,Sv bm ((((sv[d.fA.toNat]!).qI).qL).length) bj,Sv bQ ((((sv[d.fA.toNat]!).qI).vX).length) bS,Sv bE ((((sv[d.fA.toNat]!).qI).x8).length) bF] 49)::(.box b7 [yI d.xJ,yI d.fA,yI d.fB] 44)::(.box b1 [yI d.xJ,yI d.fA,yI d.fB] 44)::(.box bk [Sv (aa l7 0) sv.length cz,Sv cF wi.length bH,yI s.qN,Sv ap s.qA.length cp,Sv ar s.qB.length cr,Sv ao own.length co] 74)::(rr (aa l7 0) sv.length cz 49 16 bV)::(rr cF wi.length bH 77 4 bL)::ps) ((sF true ir cn cw (((sv[d.fA.toNat]!).qC).qG))::(sF true fO bM bJ (((sv[d.fA.toNat]!).qC).qF))::(sF true kf cM cW (((sv[d.fA.toNat]!).qC).vM))::(sF true fQ bO bI (((sv[d.fA.toNat]!).qC).qL))::(sF true ki cS cX (((sv[d.fA.toNat]!).qC).vX))::(sF true ii cu ch (((sv[d.fA.toNat]!).qC).x8))::(sF true gr bD bG (((sv[d.fA.toNat]!).qI).qG))::(sF true fk bi bn (((sv[d.fA.toNat]!).qI).qF))::(sF true ik bT bR (((sv[d.fA.toNat]!).qI).vM))::(sF true fu bm bj (((sv[d.fA.toNat]!).qI).qL))::(sF true il bQ bS (((sv[d.fA.toNat]!).qI).vX))::(sF true gA bE bF (((sv[d.fA.toNat]!).qI).x8))::(sF false Fp ap cp s.qA)::(sF false Fr ar cr s.qB)::(sF false Fo ao co own)::(qQ true aC bV sv)::(qQ true az bL wi)::Γ)) ?_ ?_
    ·refine vg _ rfl (fun Q2=>?_) (fun Q2=>?_)
     ·refine qW (meet ⟨_,t56,uE5,?_,N,H⟩)
      ·exact sav7_tb j7 ql
     refine xX<|oF rfl<|oL rfl (H.cell 2 rfl rfl)<|sp (Bv ((d.xJ:Int) == 4))<|sp (Bv ((d.xJ:Int) == 4)) ?_
     cases sE:((d.xJ:Int) == 4)
     ·replace sE:=ne_of_beq_false sE
      refine xO (zR 69 4)<|sp (Bv false)<|sp (Bv false)<|xU<|meet ⟨_,false,uE5,?_,N,H⟩
      ·exact sav7_f j7 ql qf
     replace sE:=eq_of_beq sE
     refine qJ 68 rfl rfl<|oF rfl<|qJ 68 rfl rfl<|oF rfl<|qJ 68 rfl rfl<|oL rfl (H.cell 1 rfl rfl)<|qJ 68 rfl rfl<|sp (Bv ((((sv[d.fA.toNat]!).qC).qP:Int) == 0))<|sp (Bv ((((sv[d.fA.toNat]!).qC).qP:Int) == 0))<|sp (Bv ((((sv[d.fA.toNat]!).qC).qP:Int) == 0))<|xU<|meet ⟨_,(((sv[d.fA.toNat]!).qC).qP:Int) == 0,uE5,?_,N,H⟩
     ·exact sav_b4 qf
    clear H N
    rintro ρ Na ⟨xP,Mz,rfl,j56,N,H⟩
    refine t_n<|vg _ rfl (fun h36=>?_)<|fun h36=>?_
    ·refine zcr (sp (yI 4)<|zjr<|b_r<|t_r<|ret1 (yI 4) rfl rfl ⟨_,rfl,?_⟩)
     replace H:=H.erases [2,1,0]
     dsimp only[zL,List.eraseIdx,List.set] at H
     refine sp (yI 4)<|zjr<|b_r<|t_r<|ret1 (yI 4) rfl rfl ⟨_,rfl,?_⟩
     (rcases j56.1 ql with ⟨z1,z2⟩|⟨z1,z2⟩ <;> first|rw[doR_post4 z1 ⟨⟨by omega,by omega⟩,⟨by omega,by omega⟩,by omega⟩ z2]|rw[doR_back4 z1 ⟨⟨by omega,by omega⟩,⟨by omega,by omega⟩,by omega⟩ z2])
     all_goals exact⟨bV,aC,cF,wi.length,bH,bL,az,rfl,N,H.xm 4 17 [1,2,3] (zR 12 5) (by simp only[List.length_cons,List.length_append];omega)<|by simp only[List.length_cons,List.length_append];omega⟩
    refine zcr<|sq 2<|oF rfl<|oF rfl<|oL rfl (H.cell 4 rfl rfl)<|oN rfl<|sp (Bv ((wi.length:Int) == 12))<|sp (Bv ((wi.length:Int) == 12))<|zjn<|cE rfl (fun Az=>?_)<|fun Az=>?_
    ·refine zcr (sp (yI 3)<|zjr<|b_r<|t_r<|ret1 (yI 3) rfl rfl ⟨_,rfl,?_⟩)
     replace H:=H.erases [2,1,0]
     dsimp only[zL,List.eraseIdx,List.set] at H
     refine sp (yI 3)<|zjr<|b_r<|t_r<|ret1 (yI 3) rfl rfl ⟨_,rfl,?_⟩
     (rcases k8 with z1|z1 <;> first|rw[doR_post3 z1 ⟨⟨by omega,by omega⟩,⟨by omega,by omega⟩,by omega⟩ ((j56.2 ql).1 z1) qf]|rw[doR_back3 z1 ⟨⟨by omega,by omega⟩,⟨by omega,by omega⟩,by omega⟩ ((j56.2 ql).2 z1) qf])
     all_goals exact⟨bV,aC,cF,wi.length,bH,bL,az,rfl,N,H.xm 4 17 [1,2,3] (zR 12 5) (by simp only[List.length_cons,List.length_append];omega)<|by simp only[List.length_cons,List.length_append];omega⟩
    refine zcr<|oF rfl<|oL rfl (H.cell 2 rfl rfl)<|sp (Bv ((d.xJ:Int) == 3))<|sp (Bv ((d.xJ:Int) == 3))<|zjn ?_
    replace H:=H.nilRow 24 1
    replace H:=H.yD (α:=yLI)
    refine c_cut (fun ρ R0=>∃(xP:Env) (km:Int) (kO:yOA) (kU:Nat) (k0:Nat) (A5:yLL) (ws:List Value) (wq:yLN),ρ=upd (upd xP 0<|pp bk 0) 6 (pp sK 0)/\((d.xJ=3/\km=(sv[d.fA.toNat]!).qC.qP/\A5=((sv[d.fA.toNat]!).qI.vX)[d.fB.toNat]!)\/(d.xJ=4/\km=(sv[d.fA.toNat]!).qC.qP-1/\A5=((sv[d.fA.toNat]!).qC.x8)[d.fB.toNat]!))/\Fresh W0.heap.size (aC::az::wq::Ns)/\St W0 R0 ((rr kO kU k0 24 1 ws)::(.box sK [yI km,yI d.fA,yI d.fB,Sv kO kU k0] 77)::(.box I9 [yI (((sv[d.fA.toNat]!).qC).qP),Sv cn ((((sv[d.fA.toNat]!).qC).qG).length) cw,Sv bM ((((sv[d.fA.toNat]!).qC).qF).length) bJ,Bv (((sv[d.fA.toNat]!).qC).qV),Sv cM ((((sv[d.fA.toNat]!).qC).vM).length) cW,Sv bO ((((sv[d.fA.toNat]!).qC).qL).length) bI,Sv cS ((((sv[d.fA.toNat]!).qC).vX).length) cX,Sv cu ((((sv[d.fA.toNat]!).qC).x8).length) ch,yI (((sv[d.fA.toNat]!).qI).qP),Sv bD ((((sv[d.fA.toNat]!).qI).qG).length) bG,Sv bi ((((sv[d.fA.toNat]!).qI).qF).length) bn,Bv (((sv[d.fA.toNat]!).qI).qV),Sv bT ((((sv[d.fA.toNat]!).qI).vM).length) bR,Sv bm ((((sv[d.fA.toNat]!).qI).qL).length) bj,Sv bQ ((((sv[d.fA.toNat]!).qI).vX).length) bS,Sv bE ((((sv[d.fA.toNat]!).qI).x8).length) bF] 49)::(.box b7 [yI d.xJ,yI d.fA,yI d.fB] 44)::(.box b1 [yI d.xJ,yI d.fA,yI d.fB] 44)::(.box bk [Sv (aa l7 0) sv.length cz,Sv cF wi.length bH,yI s.qN,Sv ap s.qA.length cp,Sv ar s.qB.length cr,Sv ao own.length co] 74)::(rr (aa l7 0) sv.length cz 49 16 bV)::(rr cF wi.length bH 77 4 bL)::ps) ((qQ true wq ws A5)::(sF true ir cn cw (((sv[d.fA.toNat]!).qC).qG))::(sF true fO bM bJ (((sv[d.fA.toNat]!).qC).qF))::(sF true kf cM cW (((sv[d.fA.toNat]!).qC).vM))::(sF true fQ bO bI (((sv[d.fA.toNat]!).qC).qL))::(sF true ki cS cX (((sv[d.fA.toNat]!).qC).vX))::(sF true ii cu ch (((sv[d.fA.toNat]!).qC).x8))::(sF true gr bD bG (((sv[d.fA.toNat]!).qI).qG))::(sF true fk bi bn (((sv[d.fA.toNat]!).qI).qF))::(sF true ik bT bR (((sv[d.fA.toNat]!).qI).vM))::(sF true fu bm bj (((sv[d.fA.toNat]!).qI).qL))::(sF true il bQ bS (((sv[d.fA.toNat]!).qI).vX))::(sF true gA bE bF (((sv[d.fA.toNat]!).qI).x8))::(sF false Fp ap cp s.qA)::(sF false Fr ar cr s.qB)::(sF false Fo ao co own)::(qQ true aC bV sv)::(qQ true az bL wi)::Γ)) ?_ ?_
    ·refine cE rfl (fun ZO=>?_) (fun ZO=>?_)
     ·have y1:jy s own n d.fA.toNat (sv[d.fA.toNat]!).qC/\jy s own n d.fA.toNat (sv[d.fA.toNat]!).qI:=p1.srv d.fA.toNat qf
      have y2:=y1.2.nowIn p0 ((j56.2 ql).1 ql).2 (j:=d.fB.toNat) qf
      have y4:=y2.2.1
      refine xX<|oF rfl<|oF rfl<|oL rfl (H.cell 2 rfl rfl)<|oF rfl<|oL rfl (H.cell 3 rfl rfl) ?_
      obtain⟨VX,o41,rfl⟩:=H.addr 11 rfl qf
      obtain⟨aEa,aCF,aIw,H⟩:=H.yB 11 rfl d.fB d.fB.toNat qf qf qf
      refine oI rfl rfl<|oL rfl (H.zG 1 rfl 0 rfl) ?_
      have axV:=H.base.size
      have as8:=jL (H.ltN (L:=[aC,az]) [18,19])<|H.ltK<|K0.behind 20 rfl
      refine sw<|oc (Xh _ ((((sv[d.fA.toNat]!).qI).vX)[d.fB.toNat]!) (H.get 0 rfl).1 qg) ?_
      rintro _ w45 ⟨aoO,axq,ao1,auR,axs,rfl,M,K⟩ _
      replace N:=N.merge axV as8 M
      replace H:=H.merge K M
      dsimp only[List.cons_append,List.nil_append] at H
      obtain rfl:=H.xk (α:=yLI) 0 rfl 0 rfl qj
      refine oF rfl<|sw<|zh H 2 [yI (((sv[d.fA.toNat]!).qC).qP),yI d.fA,yI d.fB,Sv aoO (((((sv[d.fA.toNat]!).qI).vX)[d.fB.toNat]!).length) ao1] sizeOf29 fun w50 H=>?_
      dsimp only[List.set] at H
      refine xU<|meet ⟨_,((sv[d.fA.toNat]!).qC).qP,aoO,((((sv[d.fA.toNat]!).qI).vX)[d.fB.toNat]!).length,ao1,((((sv[d.fA.toNat]!).qI).vX)[d.fB.toNat]!),auR,axs,uE2,?_,(N.xm 3 [1,2,0]<|by simp only[List.length_cons,List.length_append];omega),H.xm 9 21 (0::zR 2 7) (0::zR 4 17) (by simp only[List.length_cons,List.length_append];omega)<|by simp only[List.length_cons,List.length_append];omega⟩
      ·exact .inl ⟨by omega,rfl,rfl⟩
     have y1:jy s own n d.fA.toNat (sv[d.fA.toNat]!).qC/\jy s own n d.fA.toNat (sv[d.fA.toNat]!).qI:=p1.srv d.fA.toNat qf
     have y0:=y1.1.rnd
     have y5:=(j56.2 ql).2 qf
     have y2:=y1.1.lastIn p0 y5 (j:=d.fB.toNat) qf
     have y4:=y2.2.1
     refine zcr<|oF rfl<|oL rfl (H.cell 1 rfl rfl)<|sw<|o_sub (((sv[d.fA.toNat]!).qC).qP) 1 rfl rfl qf<|oF rfl<|sw<|zh H 1 [yI ((((sv[d.fA.toNat]!).qC).qP)-1),yI d.fA,yI d.fB,yN] sizeOf2 fun w51 H=>?_
     dsimp only[List.set] at H
     refine zjn<|xX<|oF rfl<|oF rfl<|oL rfl (H.cell 2 rfl rfl)<|oF rfl<|oL rfl (H.cell 3 rfl rfl) ?_
     obtain⟨b52,o53,rfl⟩:=H.addr 6 rfl qf
     obtain⟨aC0,aGO,aEv,H⟩:=H.yB 6 rfl d.fB d.fB.toNat qf qf qf
     refine oI rfl rfl<|oL rfl (H.zG 1 rfl 0 rfl) ?_
     have atQ:=H.base.size
     have ayb:=jL (H.ltN (L:=[aC,az]) [18,19])<|H.ltK<|K0.behind 20 rfl
     refine sw<|oc (Xh _ ((((sv[d.fA.toNat]!).qC).x8)[d.fB.toNat]!) (H.get 0 rfl).1 qg) ?_
     rintro _ w57 ⟨aga,aEz,afL,K9,asI,rfl,M,K⟩ _
     replace N:=N.merge atQ ayb M
     replace H:=H.merge K M
     dsimp only[List.cons_append,List.nil_append] at H
     obtain rfl:=H.xk (α:=yLI) 0 rfl 0 rfl qj
     refine oF rfl<|sw<|zh H 2 [yI ((((sv[d.fA.toNat]!).qC).qP)-1),yI d.fA,yI d.fB,Sv aga (((((sv[d.fA.toNat]!).qC).x8)[d.fB.toNat]!).length) afL] sizeOf29 fun w62 H=>?_
     dsimp only[List.set] at H
     refine xU<|meet ⟨_,(((sv[d.fA.toNat]!).qC).qP)-1,aga,((((sv[d.fA.toNat]!).qC).x8)[d.fB.toNat]!).length,afL,((((sv[d.fA.toNat]!).qC).x8)[d.fB.toNat]!),K9,asI,uE2,?_,(N.xm 3 [1,2,0]<|by simp only[List.length_cons,List.length_append];omega),H.xm 9 21 (0::zR 2 7) (0::zR 4 17) (by simp only[List.length_cons,List.length_append];omega)<|by simp only[List.length_cons,List.length_append];omega⟩
     ·exact .inr ⟨by omega,rfl,rfl⟩
    clear H N
    rintro ρ w63 ⟨xP,km,kO,kU,k0,A5,ws,wq,rfl,j82,N,H⟩
    refine b_n<|t_n<|xM<|vK 4 rfl H [1,2,3,4,5,6] [0,1,2,3,4,5,6,7,8,9,10,11,12,13,14,15,16,17] fun H=>?_
    dsimp only[yg,yL]
    have S:=H.zW (zR 1 6)<|zR 0 18
    refine rtl 0 S ?_
    refine rtl 1 S ?_
    refine rtl 2 S ?_
    refine tF 3 rfl rfl S ?_
    refine tF 4 rfl rfl S ?_
    refine tL 5 rfl rfl (fun _ h=>h.cell 4 rfl rfl) S ?_
    refine rt 6 _ (Qg (cs:=[yI km,yI d.fA,yI d.fB,Sv kO kU k0]) isAgg77 sizeOf77 rfl<|fun _ h=>qH (h.cells 0 rfl) 0 4) S ?_
    refine ro 7 rfl<|zy H underlying37 ti77 [yI km,yI d.fA,yI d.fB,Sv kO kU k0] fun KN w66 H=>⟨H.pick (zR 2 6)<|zR 0 18,(ro 8 rfl ?_)⟩
    have H0:=H
    obtain⟨YG,L8,avh,H⟩:=H.jA (α:=yLI) 1 rfl 0 rfl qj
    replace N:Fresh W0.heap.size (YG::aC::az::Ns):=Fresh.ice (N.xm 3 [2,0,1]<|by simp only[List.length_cons,List.length_append];omega) H0 1 L8.1 L8.2<|fun F hF b hb=>(List.mem_append.1<|show F∈[aC,az]++Ns from hF).elim (fun h=>(H0.vV (L:=[aC,az]) [16,17]) F h b hb) fun h=>H0.jT (K0.behind 18 rfl) F h b hb
    clear H0
    dsimp only[List.set] at H
    refine zH H 8 rfl 0 rfl underlying37 ti77 rfl qj rfl rfl rfl qw qp qf fun VQ YH w69 H=>?_
    dsimp only[List.set] at H
    replace H:=H.snoc_ParcelD 18 rfl km d.fA d.fB 0 rfl
    replace N:Fresh W0.heap.size ((az++YG)::aC::Ns):=(N.xm 3 [2,0,1]<|by simp only[List.length_cons,List.length_append];omega).join
    refine⟨H.pick (zR 2 6)<|zR 2 18,(xy qh<|xZ<|sq 1<|oF rfl<|oF rfl<|sw<|zh H 6 [Sv (aa l7 0) sv.length cz,Sv VQ (wi.length+1) YH,yI s.qN,Sv ap s.qA.length cp,Sv ar s.qB.length cr,Sv ao own.length co] sizeOf37 fun w73 H=>?_)⟩
    dsimp only[List.set] at H
    refine zjc<|sp (yI 0)<|zjr<|ret1 (yI 0) rfl rfl ⟨_,rfl,?_⟩
    replace H:=H.erases [4,3,2,1,0]
    dsimp only[zL,List.eraseIdx,List.set] at H
    refine sp (yI 0)<|zjr<|b_r<|t_r<|ret1 (yI 0) rfl rfl ⟨_,rfl,?_⟩
    (rcases j82 with ⟨z1,z2,z3⟩|⟨z1,z2,z3⟩ <;> first|rw[doR_post0 z1 ⟨⟨by omega,by omega⟩,⟨by omega,by omega⟩,by omega⟩ ((j56.2 ql).1 z1) qf,←z2,←z3]|rw[doR_back0 z1 ⟨⟨by omega,by omega⟩,⟨by omega,by omega⟩,by omega⟩ ((j56.2 ql).2 z1) qf,←z2,←z3])
    all_goals exact⟨bV,aC,VQ,wi.length+1,YH,bL++[Value.int .i64 km,Value.int .i64 d.fA,Value.int .i64 d.fB,Value.slice kO kU k0],(az++YG),rfl,(N.xm 2 [1,0]<|by simp only[List.length_cons,List.length_append];omega),H.xm 4 20 [1,2,3] [15,16,17,18,0] (by simp only[List.length_cons,List.length_append];omega)<|by simp only[List.length_cons,List.length_append];omega⟩
   replace mo:=xq mo
   replace mo:=QZ mo
   refine xO (zR 20 5)<|sp (Bv true)<|zjn<|cTr rfl<|zcr<|sp (yI 2)<|zjr<|t_r<|ret1 (yI 2) rfl rfl ⟨_,rfl,?_⟩
   replace H:=H.erases [0]
   dsimp only[zL,List.eraseIdx,List.set] at H
   refine sp (yI 2)<|zjr<|b_r<|t_r<|ret1 (yI 2) rfl rfl ⟨_,rfl,?_⟩
   rw[Vq qf<|by(right;left;show ¬(0<=d.fB/\d.fB<=(sv.length:Int)-1);omega)]
   all_goals exact⟨bV,aC,cF,wi.length,bH,bL,az,rfl,N,H.xm 4 5 [1,2,3] (zR 0 5) (by simp only[List.length_cons,List.length_append];omega)<|by simp only[List.length_cons,List.length_append];omega⟩
  replace cZ:=xq cZ
  replace cZ:=QZ cZ
  refine xO (zR 13 5)<|sp (Bv true)<|sp (Bv true)<|xO (zR 20 5)<|sp (Bv true)<|zjn<|cTr rfl<|zcr<|sp (yI 2)<|zjr<|t_r<|ret1 (yI 2) rfl rfl ⟨_,rfl,?_⟩
  replace H:=H.erases [0]
  dsimp only[zL,List.eraseIdx,List.set] at H
  refine sp (yI 2)<|zjr<|b_r<|t_r<|ret1 (yI 2) rfl rfl ⟨_,rfl,?_⟩
  rw[Vq qf<|by(left;show ¬(0<=d.fA/\d.fA<=(sv.length:Int)-1);omega)]
  all_goals exact⟨bV,aC,cF,wi.length,bH,bL,az,rfl,N,H.xm 4 5 [1,2,3] (zR 0 5) (by simp only[List.length_cons,List.length_append];omega)<|by simp only[List.length_cons,List.length_append];omega⟩
 (have k8:¬(d.xJ=3\/d.xJ=4):=fun z=>by have z:=j8.2 z;simp_all)
 refine zcc<|sp (Bv ((d.xJ:Int) == 6))<|sp (Bv ((d.xJ:Int) == 6))<|zjn<|c_cut (fun ρ w74=>∃(xP:Env) (t14:Bool),ρ=upd (upd (upd xP 0<|pp bk 0) 3<|pp b1 0) 14 (Bv t14)/\(t14=true<->(d.xJ=6\/d.xJ=7\/d.xJ=8))/\Fresh W0.heap.size (aC::az::Ns)/\St W0 w74 ((.box b1 [yI d.xJ,yI d.fA,yI d.fB] 44)::(.box bk [Sv eB sv.length cz,Sv cF wi.length bH,yI s.qN,Sv ap s.qA.length cp,Sv ar s.qB.length cr,Sv ao own.length co] 74)::(rr eB sv.length cz 49 16 bV)::(rr cF wi.length bH 77 4 bL)::ps) ((sF false Fp ap cp s.qA)::(sF false Fr ar cr s.qB)::(sF false Fo ao co own)::(qQ true aC bV sv)::(qQ true az bL wi)::Γ)) ?_ ?_
 ·refine cE rfl (fun h75=>?_) (fun h75=>?_)
  ·refine qW (meet ⟨_,(d.xJ:Int) == 6,uE3,?_,N,H⟩)
   ·exact beq_iff_eq.trans ⟨fun h=>by omega,fun h=>by omega⟩
  refine zcr<|sp (Bv ((d.xJ:Int) == 7))<|sp (Bv ((d.xJ:Int) == 7))<|zjn<|cE rfl (fun h76=>?_)<|fun h76=>?_
  ·refine qW (meet ⟨_,(d.xJ:Int) == 7,uE3,?_,N,H⟩)
   ·exact beq_iff_eq.trans ⟨fun h=>by omega,fun h=>by omega⟩
  refine xX<|sp (Bv ((d.xJ:Int) == 8))<|sp (Bv ((d.xJ:Int) == 8))<|xU<|meet ⟨_,(d.xJ:Int) == 8,uE3,?_,N,H⟩
  ·exact beq_iff_eq.trans ⟨fun h=>by omega,fun h=>by omega⟩
 clear H N
 rintro ρ w77 ⟨xP,t14,rfl,j14,N,H⟩
 refine t_n<|vg _ rfl (fun h78=>?_)<|fun h78=>?_
 ·(have k14:=j14.1 ql)
  refine zcr<|sq 1<|sw<|xW [yI d.xJ,yI d.fA,yI d.fB] isAgg44 sizeOf44 rfl (qH (H.cells 0 rfl) 0 3)<|sw<|vz #[pp bk 0,.agg #[yI d.xJ,yI d.fA,yI d.fB]] rfl rfl call94<|en func94 ntmps94 ?_
  refine zcr<|sw<|jq H [yI d.xJ,yI d.fA,yI d.fB] fun Ia Te H=>sp (yI 0)<|zjn<|xM<|xM<|vK 1 rfl H [0,1,2,3,4] [0,1,2,3,4] fun H=>?_
  dsimp only[yg,yL]
  have S:=H.zW (zR 0 5)<|zR 0 5
  refine tF 0 rfl rfl S ?_
  refine tL 1 rfl rfl (fun _ h=>h.cell 0 rfl rfl) S ?_
  refine rtl 2 S ?_
  refine rtl 3 S ?_
  refine tF 4 rfl rfl S ?_
  refine tF 5 rfl rfl S ?_
  refine tL 6 rfl rfl (fun _ h=>h.cell 2 rfl rfl) S ?_
  refine ro 7 rfl<|vz #[Sv cF wi.length bH] rfl rfl call134<|en func134 ntmps134 ?_
  refine zcr<|sp (yI 0)<|zjc<|sq 1<|oN rfl<|sq 1<|zjr<|ret1 (yI wi.length) rfl rfl ⟨_,rfl,(⟨H.pick (zR 0 5)<|zR 0 5,(xy qh<|xZ<|sq 1<|zjn<|cD rfl (fun h82=>?_)<|fun h82=>?_)⟩)⟩
  ·refine zcr (sp (yI 2)<|zjr<|t_r<|ret1 (yI 2) rfl rfl ⟨_,rfl,?_⟩)
   replace H:=H.erases [0]
   dsimp only[zL,List.eraseIdx,List.set] at H
   refine sp (yI 2)<|zjr<|b_r<|t_r<|ret1 (yI 2) rfl rfl ⟨_,rfl,?_⟩
   rw[Vp qf qf]
   all_goals exact⟨bV,aC,cF,wi.length,bH,bL,az,rfl,N,H.xm 4 5 [1,2,3] (zR 0 5) (by simp only[List.length_cons,List.length_append];omega)<|by simp only[List.length_cons,List.length_append];omega⟩
  have y1:ParcelOk s own n (wi[d.fA.toNat]!):=p1.wire d.fA.toNat<|by show _<wi.length;omega
  have y2:=y1.1
  have y3:=y1.2.1
  have y5:jy s own n (wi[d.fA.toNat]!).fTo.toNat (sv[(wi[d.fA.toNat]!).fTo.toNat]!).qC:=(p1.srv _ qf).1
  refine qW<|t_n<|zcc<|oF rfl<|oL rfl (H.cell 0 rfl rfl)<|sp (Bv ((d.xJ:Int) != 8))<|zjn<|vg ((d.xJ:Int) != 8) rfl (fun wM=>?_)<|fun wM=>?_
  ·replace wM:=bne_iff_ne.1 wM
   refine xM<|vK 2 rfl H [0,1,2,3,4] [0,1,2,3,4] fun H=>?_
   dsimp only[yg,yL]
   have S:=H.zW (zR 0 5)<|zR 0 5
   refine rtl 0 S ?_
   refine rtl 1 S ?_
   refine rtl 2 S ?_
   refine tF 3 rfl rfl S ?_
   refine tF 4 rfl rfl S ?_
   refine tL 5 rfl rfl (fun _ h=>h.cell 2 rfl rfl) S ?_
   refine tF 6 rfl rfl S ?_
   refine tL 7 rfl rfl (fun _ h=>h.cell 0 rfl rfl) S ?_
   obtain⟨lh,rfl⟩:=H.jB 4 rfl qf
   refine tI 8 rfl rfl rfl (H.pick (zR 0 5)<|zR 0 5) ?_
   obtain⟨wn,t0,am2,ahY,H⟩:=H.part_ParcelD Qs.refl 4 rfl 4 rfl rfl d.fA.toNat qf
   refine rt 9 _ (Qg (off:=0+(d.fA:Int).toNat*4) (cs:=[yI ((wi[d.fA.toNat]!).qP),yI ((wi[d.fA.toNat]!).QO),yI ((wi[d.fA.toNat]!).fTo),Sv wn (((wi[d.fA.toNat]!).qG).length) t0]) isAgg77 sizeOf77 rfl<|fun _ h=>(fun r v hv=>h.zt 4 rfl (ahY r v hv) qf)) (H.pick (zR 0 5)<|zR 1 5) ?_
   refine xy qh<|xZ<|sw<|vz #[pp bk 0,.agg #[yI ((wi[d.fA.toNat]!).qP),yI ((wi[d.fA.toNat]!).QO),yI ((wi[d.fA.toNat]!).fTo),Sv wn (((wi[d.fA.toNat]!).qG).length) t0]] rfl rfl call135<|en func135 ntmps135 ?_
   refine zcr<|sw<|jq H [yI ((wi[d.fA.toNat]!).qP),yI ((wi[d.fA.toNat]!).QO),yI ((wi[d.fA.toNat]!).fTo),Sv wn (((wi[d.fA.toNat]!).qG).length) t0] fun b88 w89 H=>sp (yI 0)<|zjn<|xM<|vK 3 rfl H [0,1,2,3,4,5] [0,1,2,3,4,5] fun H=>?_
   dsimp only[yg,yL]
   have S:=H.zW (zR 0 6)<|zR 0 6
   refine rtl 0 S ?_
   refine rtl 1 S ?_
   refine tF 2 rfl rfl S ?_
   refine tF 3 rfl rfl S ?_
   refine tL 4 rfl rfl (fun _ h=>h.cell 3 rfl rfl) S ?_
   refine tF 5 rfl rfl S ?_
   refine tL 6 rfl rfl (fun _ h=>h.cell 0 rfl rfl) S ?_
   refine xy qh<|xZ ?_
   obtain⟨Vn,rfl⟩:=H.jB 4 rfl qf
   refine oI rfl rfl<|oF rfl<|sq 1<|zjn<|xM<|xM<|vK 1 rfl H [0,1,2,3,4,5] [0,1,2,3,4,5] fun H=>?_
   dsimp only[yg,yL]
   have S:=H.zW (zR 0 6)<|zR 0 6
   refine rtl 0 S ?_
   refine rtl 1 S ?_
   refine tF 2 rfl rfl S ?_
   obtain⟨ahK,agk,aeW,aay,aaF,aaP,ask,aqC,asu,ab4,abZ,aa5,arS,arY,asd,ai4,ajy,afs,Eu,H⟩:=H.jQ zC 4 rfl 4 rfl rfl (((wi[d.fA.toNat]!).fTo).toNat) qf
   have S:=H.zW (zR 0 6)<|zR 6 6
   refine rt 3 _ (jU (off:=0+((wi[d.fA.toNat]!).fTo:Int).toNat*16+0+3) isAgg4 rfl<|fun _ h=>(h.zt 4 rfl (Eu 3 _ rfl) qf)) S ?_
   refine rtp 4 (Bv (!(((sv[((wi[d.fA.toNat]!).fTo).toNat]!).qC).qV))) S ?_
   refine rtp 5 (Bv (!(((sv[((wi[d.fA.toNat]!).fTo).toNat]!).qC).qV))) S ?_
   cases Kg:(!(((sv[((wi[d.fA.toNat]!).fTo).toNat]!).qC).qV))
   ·replace Kg:=xf Kg
    have y6:=y5.got ql
    have y7:=y6.2.1
    obtain⟨y8,y9⟩:=plusPre p0.sys y6.2.2.1 y1.2.2.1
    have S:=H.zW (zR 0 6)<|zR 6 6
    refine rgl 6 21 S ?_
    refine rgl 7 21 S ?_
    refine gF 8 rfl rfl S ?_
    refine rg 9 _ 21 (jU (off:=0+((wi[d.fA.toNat]!).fTo:Int).toNat*16+0+0) isAgg2 rfl<|fun _ h=>(h.zt 4 rfl (Eu 0 _ rfl) qf)) S ?_
    refine gF 10 rfl rfl S ?_
    refine gL 11 rfl rfl (fun _ h=>h.cell 0 rfl rfl) S ?_
    refine rgp 12 (Bv ((((sv[((wi[d.fA.toNat]!).fTo).toNat]!).qC).qP:Int) != ((wi[d.fA.toNat]!).qP))) 21 S ?_
    refine rtp 13 (Bv ((((sv[((wi[d.fA.toNat]!).fTo).toNat]!).qC).qP:Int) != ((wi[d.fA.toNat]!).qP))) S ?_
    refine rtp 14 (Bv ((((sv[((wi[d.fA.toNat]!).fTo).toNat]!).qC).qP:Int) != ((wi[d.fA.toNat]!).qP))) S ?_
    cases Mx:((((sv[((wi[d.fA.toNat]!).fTo).toNat]!).qC).qP:Int) != ((wi[d.fA.toNat]!).qP))
    ·replace Mx:=xK Mx
     have S:=H.zW (zR 0 6)<|zR 6 6
     refine rgl 15 30 S ?_
     refine rgl 16 30 S ?_
     refine gF 17 rfl rfl S ?_
     refine rg 18 _ 30 (jU (off:=0+((wi[d.fA.toNat]!).fTo:Int).toNat*16+0+4) isAgg28 rfl<|fun _ h=>(h.zt 4 rfl (Eu 4 _ rfl) qf)) S ?_
     refine gF 19 rfl rfl S ?_
     refine gL 20 rfl rfl (fun _ h=>h.cell 0 rfl rfl) S ?_
     obtain⟨b97,o98,rfl⟩:=H.addr 2 rfl qf
     refine gI 21 rfl rfl rfl (H.pick (zR 0 6)<|zR 6 6)<|jC [22] qh qm<|Xj rfl (e:=30) rfl rfl (zJ (Bv ((((sv[((wi[d.fA.toNat]!).fTo).toNat]!).qC).vM)[((wi[d.fA.toNat]!).QO).toNat]!)) isAgg4 rfl (H.elemBool 2 rfl ((wi[d.fA.toNat]!).QO) qf qf)<|⟨H.pick (zR 0 6)<|zR 6 6,(xy qh<|xZ<|sq 1<|zjn<|vg _ rfl (fun K2=>?_)<|fun K2=>?_)⟩) jD
     ·refine zcr (sp (yI 0)<|zjr<|t_r<|ret1 (yI 0) rfl rfl ⟨_,rfl,?_⟩)
      replace H:=H.erases [0]
      dsimp only[zL,List.eraseIdx,List.set] at H
      refine sp (yI 0)<|zjc<|sp (yI 0)<|sp (Bv false)<|zjn<|cFr rfl<|qW<|t_n<|zcc<|oF rfl<|oL rfl (H.cell 0 rfl rfl)<|sp (Bv ((d.xJ:Int) != 7))<|zjn<|vg ((d.xJ:Int) != 7) rfl (fun ry=>?_)<|fun ry=>?_
      ·replace ry:=bne_iff_ne.1 ry
       refine vK 4 rfl H [0,1,2,3] [0,1,2,3,4,5,6,7,8,9,10,11] fun H=>?_
       dsimp only[yg,yL]
       have S:=H.zW (zR 0 4)<|zR 0 12
       refine rtl 0 S ?_
       refine rtl 1 S ?_
       refine rtl 2 S ?_
       refine tF 3 rfl rfl S ?_
       refine tF 4 rfl rfl S ?_
       refine tL 5 rfl rfl (fun _ h=>h.cell 2 rfl rfl) S ?_
       refine tF 6 rfl rfl S ?_
       refine tL 7 rfl rfl (fun _ h=>h.cell 0 rfl rfl) S ?_
       refine tF 8 rfl rfl S ?_
       refine tL 9 rfl rfl (fun _ h=>h.cell 0 rfl rfl) S ?_
       refine rt 10 _ (y_add d.fA 1 rfl rfl qf) S ?_
       refine ro 11 rfl<|zD #[Sv (aa lh 0) wi.length bH,yI d.fA,yI<|d.fA+1] rfl rfl call136 (delP H 4 rfl 11 rfl d.fA.toNat qf qf qf) ?_
       rintro _ Jb ⟨aeR,aeM,rfl,UN,H⟩
       replace N:Fresh W0.heap.size (aeM::aC::Ns):=Fresh.less (N.xm 2 [1,0]<|by simp only[List.length_cons,List.length_append];omega) UN.1 UN.2
       refine⟨H.pick (zR 0 4)<|zR 1 12,(xy qh<|xZ<|sq 1<|oF rfl<|oF rfl<|sw<|zh H 2 [Sv (aa Vn 0) sv.length cz,Sv (aa lh 0) ((wi.eraseIdx d.fA.toNat).length) bH,yI s.qN,Sv ap s.qA.length cp,Sv ar s.qB.length cr,Sv ao own.length co] sizeOf37 fun abe H=>?_)⟩
       dsimp only[List.set] at H
       refine zjc<|sp (yI 0)<|zjr<|ret1 (yI 0) rfl rfl ⟨_,rfl,?_⟩
       replace H:=H.erases [0]
       dsimp only[zL,List.eraseIdx,List.set] at H
       refine sp (yI 0)<|zjr<|b_r<|t_r<|ret1 (yI 0) rfl rfl ⟨_,rfl,?_⟩
       rw[doR_stale6 qf qf<|stale_or<|by exact .inr<|.inr ql]
       all_goals exact⟨bV,aC,(aa lh 0),(wi.eraseIdx d.fA.toNat).length,bH,aeR,aeM,rfl,(N.xm 2 [1,0]<|by simp only[List.length_cons,List.length_append];omega),H.xm 4 13 [1,2,3] [8,9,10,11,0] (by simp only[List.length_cons,List.length_append];omega)<|by simp only[List.length_cons,List.length_append];omega⟩
      replace ry:=xK ry
      refine qW<|t_n<|zcr<|sp (yI 0)<|zjr<|ret1 (yI 0) rfl rfl ⟨_,rfl,?_⟩
      replace H:=H.erases [0]
      dsimp only[zL,List.eraseIdx,List.set] at H
      refine sp (yI 0)<|zjr<|b_r<|t_r<|ret1 (yI 0) rfl rfl ⟨_,rfl,?_⟩
      rw[VI qf qf<|stale_or<|by exact .inr<|.inr ql]
      all_goals exact⟨bV,aC,(aa lh 0),wi.length,bH,bL,az,rfl,N,H.xm 4 12 [1,2,3] (zR 7 5) (by simp only[List.length_cons,List.length_append];omega)<|by simp only[List.length_cons,List.length_append];omega⟩
     refine qW<|t_n<|xM<|vK 2 rfl H [0,1,2,3,4,5] [0,1,2,3,4,5,6,7,8,9,10,11] fun H=>?_
     dsimp only[yg,yL]
     have S:=H.zW (zR 0 6)<|zR 0 12
     refine rtl 0 S ?_
     refine rtl 1 S ?_
     refine tF 2 rfl rfl S ?_
     refine rt 3 _ (jU (off:=0+((wi[d.fA.toNat]!).fTo:Int).toNat*16+0+5) isAgg29 rfl<|fun _ h=>(h.zt 4 rfl (Eu 5 _ rfl) qf)) S ?_
     refine tF 4 rfl rfl S ?_
     refine tL 5 rfl rfl (fun _ h=>h.cell 0 rfl rfl) S ?_
     refine xy qh<|xZ ?_
     have aj7:=H.base.size
     have aps:=jL (H.ltN (L:=[aC,az]) [10,11])<|H.ltK<|K0.behind 12 rfl
     refine sw<|oc (added_ok _ (((sv[((wi[d.fA.toNat]!).fTo).toNat]!).qC).qL) ((wi[d.fA.toNat]!).qG) (H.get 3 rfl).1 (H.get 6 rfl).1 qg qg) ?_
     rintro _ aj2 ⟨yq,aB3,tx,aCb,aBg,rfl,M,K⟩ _
     replace N:=N.merge aj7 aps M
     replace H:=H.merge K M
     dsimp only[List.cons_append,List.nil_append] at H
     obtain rfl:=H.xk (α:=yLI) 0 rfl 0 rfl qj
     refine sq 1<|zjcc<|sq 1 ?_
     obtain⟨Mt,aAG,abV⟩:=H.Vg (α:=yLI) 0 rfl 0 rfl qj
     refine sw<|oq (areBags_ok _ (QB (((sv[((wi[d.fA.toNat]!).fTo).toNat]!).qC).qL) ((wi[d.fA.toNat]!).qG)) abV) H fun ata H=>sq 1<|zjn<|cQ rfl (fun aaE=>?_)<|fun aaE=>?_
     ·refine zcr (sp (yI 3)<|zjr<|t_r<|ret1 (yI 3) rfl rfl ⟨_,rfl,?_⟩)
      replace H:=H.erases [1,0]
      dsimp only[zL,List.eraseIdx,List.set] at H
      refine sp (yI 3)<|zjc<|sp (yI 3)<|sp (Bv true)<|zjn<|cTr rfl<|zcr<|sp (yI 3)<|sp (yI 3)<|zjr<|t_r<|ret1 (yI 3) rfl rfl ⟨_,rfl,?_⟩
      replace H:=H.erases [0]
      dsimp only[zL,List.eraseIdx,List.set] at H
      refine sp (yI 3)<|zjr<|b_r<|t_r<|ret1 (yI 3) rfl rfl ⟨_,rfl,?_⟩
      rw[doR_come3 qf qf (fresh_and ql ql ql) ql]
      all_goals exact⟨bV,aC,(aa lh 0),wi.length,bH,bL,az,rfl,(N.xm 3 [1,2]<|by simp only[List.length_cons,List.length_append];omega),H.xm 4 13 [1,2,3] (zR 8 5) (by simp only[List.length_cons,List.length_append];omega)<|by simp only[List.length_cons,List.length_append];omega⟩
     refine qW<|t_n<|zcr<|sq 3<|oF rfl ?_
     have H0:=H
     obtain⟨ajF,Wd,azB,H⟩:=H.jA (α:=yLI) 0 rfl 0 rfl qj
     replace N:Fresh W0.heap.size (ajF::aC::az::Ns):=Fresh.ice N H0 0 Wd.1 Wd.2<|fun F hF b hb=>(List.mem_append.1<|show F∈[aC,az]++Ns from hF).elim (fun h=>(H0.vV (L:=[aC,az]) [11,12]) F h b hb) fun h=>H0.jT (K0.behind 13 rfl) F h b hb
     clear H0
     dsimp only[List.set] at H
     obtain⟨FD,GY⟩:∃z,z=(sv.set (((wi[d.fA.toNat]!).fTo).toNat) { sv[((wi[d.fA.toNat]!).fTo).toNat]! with qC:={ sv[((wi[d.fA.toNat]!).fTo).toNat]!.qC with qL:=QB (((sv[((wi[d.fA.toNat]!).fTo).toNat]!).qC).qL) ((wi[d.fA.toNat]!).qG)}}):=⟨_,rfl⟩
     refine sw<|XF (v:=Sv yq ((QB (((sv[((wi[d.fA.toNat]!).fTo).toNat]!).qC).qL) ((wi[d.fA.toNat]!).qG)).length) tx) XL H 5 rfl 12 rfl 0 rfl rfl sizeOf29 rfl rfl rfl (((wi[d.fA.toNat]!).fTo).toNat) qf qf GY fun Nq Tw ape aop H=>?_
     dsimp only[List.set] at H
     replace N:Fresh W0.heap.size (ape::az::Ns):=(N.xm 3 [1,0,2]<|by simp only[List.length_cons,List.length_append];omega).repl aop
     obtain⟨u1,u2⟩:=come_len qf GY y7
     refine zjn<|xM<|vK 2 rfl H [0,1,2,3,4,5,6] [0,1,2,3,4,5,6,7,8,9,10,11,12,13,14] fun H=>?_
     dsimp only[yg,yL]
     have S:=H.zW (zR 0 7)<|zR 0 15
     refine rtl 0 S ?_
     refine rtl 1 S ?_
     refine tF 2 rfl rfl S ?_
     obtain⟨aed,aee,acV,WK,UC,YR,aof,alr,ae8,UA,YQ,Yz,anC,amB,aoD,adL,ad9,adh,V0,H⟩:=H.jQ zC 5 rfl 0 rfl rfl (((wi[d.fA.toNat]!).fTo).toNat) qf
     have S:=H.zW (zR 0 7)<|zR 6 15
     refine rt 3 _ (jU (off:=0+((wi[d.fA.toNat]!).fTo:Int).toNat*16+0+4) isAgg28 rfl<|fun _ h=>(h.zt 5 rfl (V0 4 _ rfl) qf)) S ?_
     refine tF 4 rfl rfl S ?_
     refine tL 5 rfl rfl (fun _ h=>h.cell 1 rfl rfl) S ?_
     refine xy qh<|xZ ?_
     obtain⟨Nl,aEH,rfl⟩:=H.addr 2 rfl qf
     refine oI rfl rfl ?_
     have N0:Fresh W0.heap.size (ape::az::Ns):=N
     obtain⟨aAv,NS⟩:∃z,z=(FD.set (((wi[d.fA.toNat]!).fTo).toNat) { FD[((wi[d.fA.toNat]!).fTo).toNat]! with qC:={ FD[((wi[d.fA.toNat]!).fTo).toNat]!.qC with vM:=(((FD[((wi[d.fA.toNat]!).fTo).toNat]!).qC.vM).set (((wi[d.fA.toNat]!).QO).toNat) true)}}):=⟨_,rfl⟩
     refine sw<|o_pokeBool Xz H 6 rfl N0 ((sF false Fp ap cp s.qA)::(sF false Fr ar cr s.qB)::(sF false Fo ao co own)::(qQ true az bL wi)::Γ) (vY (kept 16 rfl<|XA OL 0 rfl N0)<|vY (kept 17 rfl<|XA OL 1 rfl N0)<|vY (kept 18 rfl<|XA OL 2 rfl N0)<|vY (kept 20 rfl<|QU N0 0 rfl)<|keeps_old 21 rfl OL 3 rfl N0) (((wi[d.fA.toNat]!).fTo).toNat) qf rfl (V0 4 _ rfl) (((wi[d.fA.toNat]!).QO).toNat) qf sizeOf4 rfl qf rfl NS fun NM aat N H=>zjc<|sp (yI 0)<|zjr<|ret1 (yI 0) rfl rfl ⟨_,rfl,?_⟩
     replace H:=H.erases [1,0]
     dsimp only[zL,List.eraseIdx,List.set] at H
     refine sp (yI 0)<|zjc<|sp (yI 0)<|sp (Bv false)<|zjn<|cFr rfl<|qW<|t_n<|zcc<|oF rfl<|oL rfl (H.cell 0 rfl rfl)<|sp (Bv ((d.xJ:Int) != 7))<|zjn<|vg ((d.xJ:Int) != 7) rfl (fun OQ=>?_)<|fun OQ=>?_
     ·replace OQ:=bne_iff_ne.1 OQ
      refine vK 4 rfl H [0,1,2,3] [0,1,2,3,4] fun H=>?_
      dsimp only[yg,yL]
      have S:=H.zW (zR 0 4)<|zR 0 5
      refine rtl 0 S ?_
      refine rtl 1 S ?_
      refine rtl 2 S ?_
      refine tF 3 rfl rfl S ?_
      refine tF 4 rfl rfl S ?_
      refine tL 5 rfl rfl (fun _ h=>h.cell 2 rfl rfl) S ?_
      refine tF 6 rfl rfl S ?_
      refine tL 7 rfl rfl (fun _ h=>h.cell 0 rfl rfl) S ?_
      refine tF 8 rfl rfl S ?_
      refine tL 9 rfl rfl (fun _ h=>h.cell 0 rfl rfl) S ?_
      refine rt 10 _ (y_add d.fA 1 rfl rfl qf) S ?_
      refine ro 11 rfl<|zD #[Sv (aa lh 0) wi.length bH,yI d.fA,yI<|d.fA+1] rfl rfl call136 (delP H 4 rfl 4 rfl d.fA.toNat qf qf qf) ?_
      rintro _ aGk ⟨ajA,akV,rfl,Xs,H⟩
      replace N:Fresh W0.heap.size (akV::aat::Ns):=Fresh.less (N.xm 2 [1,0]<|by simp only[List.length_cons,List.length_append];omega) Xs.1 Xs.2
      refine⟨H.pick (zR 0 4)<|zR 1 5,(xy qh<|xZ<|sq 1<|oF rfl<|oF rfl<|sw<|zh H 2 [Sv (aa Vn 0) sv.length cz,Sv (aa lh 0) ((wi.eraseIdx d.fA.toNat).length) bH,yI s.qN,Sv ap s.qA.length cp,Sv ar s.qB.length cr,Sv ao own.length co] sizeOf37 fun avn H=>?_)⟩
      dsimp only[List.set] at H
      refine zjc<|sp (yI 0)<|zjr<|ret1 (yI 0) rfl rfl ⟨_,rfl,?_⟩
      replace H:=H.erases [0]
      dsimp only[zL,List.eraseIdx,List.set] at H
      refine sp (yI 0)<|zjr<|b_r<|t_r<|ret1 (yI 0) rfl rfl ⟨_,rfl,?_⟩
      rw[doR_come6 qf qf (fresh_and ql ql ql) ql<|got_sets qf GY NS]
      all_goals exact⟨Tw,aat,(aa lh 0),(wi.eraseIdx d.fA.toNat).length,bH,ajA,akV,rfl,(N.xm 2 [1,0]<|by simp only[List.length_cons,List.length_append];omega),H.xm 4 6 [1,2,3] [2,3,4,1,0] (by simp only[List.length_cons,List.length_append];omega)<|by simp only[List.length_cons,List.length_append];omega⟩
     replace OQ:=xK OQ
     refine qW<|t_n<|zcr<|sp (yI 0)<|zjr<|ret1 (yI 0) rfl rfl ⟨_,rfl,?_⟩
     replace H:=H.erases [0]
     dsimp only[zL,List.eraseIdx,List.set] at H
     refine sp (yI 0)<|zjr<|b_r<|t_r<|ret1 (yI 0) rfl rfl ⟨_,rfl,?_⟩
     rw[doR_come7 qf qf (fresh_and ql ql ql) ql<|got_sets qf GY NS]
     all_goals exact⟨Tw,aat,(aa lh 0),wi.length,bH,bL,az,rfl,N,H.xm 4 5 [1,2,3] [1,2,3,0,4] (by simp only[List.length_cons,List.length_append];omega)<|by simp only[List.length_cons,List.length_append];omega⟩
    replace Mx:=bne_iff_ne.1 Mx
    refine zZ (zR 15 8) 8 (H.pick (zR 0 6)<|zR 6 6)<|xy qh<|xZ<|sp (Bv true)<|zjn<|cTr rfl<|zcr<|sp (yI 0)<|zjr<|t_r<|ret1 (yI 0) rfl rfl ⟨_,rfl,?_⟩
    replace H:=H.erases [0]
    dsimp only[zL,List.eraseIdx,List.set] at H
    refine sp (yI 0)<|zjc<|sp (yI 0)<|sp (Bv false)<|zjn<|cFr rfl<|qW<|t_n<|zcc<|oF rfl<|oL rfl (H.cell 0 rfl rfl)<|sp (Bv ((d.xJ:Int) != 7))<|zjn<|vg ((d.xJ:Int) != 7) rfl (fun Bg=>?_)<|fun Bg=>?_
    ·replace Bg:=bne_iff_ne.1 Bg
     refine vK 4 rfl H [0,1,2,3] [0,1,2,3,4,5,6,7,8,9,10,11] fun H=>?_
     dsimp only[yg,yL]
     have S:=H.zW (zR 0 4)<|zR 0 12
     refine rtl 0 S ?_
     refine rtl 1 S ?_
     refine rtl 2 S ?_
     refine tF 3 rfl rfl S ?_
     refine tF 4 rfl rfl S ?_
     refine tL 5 rfl rfl (fun _ h=>h.cell 2 rfl rfl) S ?_
     refine tF 6 rfl rfl S ?_
     refine tL 7 rfl rfl (fun _ h=>h.cell 0 rfl rfl) S ?_
     refine tF 8 rfl rfl S ?_
     refine tL 9 rfl rfl (fun _ h=>h.cell 0 rfl rfl) S ?_
     refine rt 10 _ (y_add d.fA 1 rfl rfl qf) S ?_
     refine ro 11 rfl<|zD #[Sv (aa lh 0) wi.length bH,yI d.fA,yI<|d.fA+1] rfl rfl call136 (delP H 4 rfl 11 rfl d.fA.toNat qf qf qf) ?_
     rintro _ aEA ⟨amE,amP,rfl,UR,H⟩
     replace N:Fresh W0.heap.size (amP::aC::Ns):=Fresh.less (N.xm 2 [1,0]<|by simp only[List.length_cons,List.length_append];omega) UR.1 UR.2
     refine⟨H.pick (zR 0 4)<|zR 1 12,(xy qh<|xZ<|sq 1<|oF rfl<|oF rfl<|sw<|zh H 2 [Sv (aa Vn 0) sv.length cz,Sv (aa lh 0) ((wi.eraseIdx d.fA.toNat).length) bH,yI s.qN,Sv ap s.qA.length cp,Sv ar s.qB.length cr,Sv ao own.length co] sizeOf37 fun Y3 H=>?_)⟩
     dsimp only[List.set] at H
     refine zjc<|sp (yI 0)<|zjr<|ret1 (yI 0) rfl rfl ⟨_,rfl,?_⟩
     replace H:=H.erases [0]
     dsimp only[zL,List.eraseIdx,List.set] at H
     refine sp (yI 0)<|zjr<|b_r<|t_r<|ret1 (yI 0) rfl rfl ⟨_,rfl,?_⟩
     rw[doR_stale6 qf qf<|stale_or<|by exact .inr<|.inl ql]
     all_goals exact⟨bV,aC,(aa lh 0),(wi.eraseIdx d.fA.toNat).length,bH,amE,amP,rfl,(N.xm 2 [1,0]<|by simp only[List.length_cons,List.length_append];omega),H.xm 4 13 [1,2,3] [8,9,10,11,0] (by simp only[List.length_cons,List.length_append];omega)<|by simp only[List.length_cons,List.length_append];omega⟩
    replace Bg:=xK Bg
    refine qW<|t_n<|zcr<|sp (yI 0)<|zjr<|ret1 (yI 0) rfl rfl ⟨_,rfl,?_⟩
    replace H:=H.erases [0]
    dsimp only[zL,List.eraseIdx,List.set] at H
    refine sp (yI 0)<|zjr<|b_r<|t_r<|ret1 (yI 0) rfl rfl ⟨_,rfl,?_⟩
    rw[VI qf qf<|stale_or<|by exact .inr<|.inl ql]
    all_goals exact⟨bV,aC,(aa lh 0),wi.length,bH,bL,az,rfl,N,H.xm 4 12 [1,2,3] (zR 7 5) (by simp only[List.length_cons,List.length_append];omega)<|by simp only[List.length_cons,List.length_append];omega⟩
   replace Kg:=xq Kg
   refine zZ (zR 6 7) 7 (H.pick (zR 0 6)<|zR 6 6) ?_
   have S:=H.zW (zR 0 6)<|zR 6 6
   refine rtp 13 (Bv true) S ?_
   refine rtp 14 (Bv true) S ?_
   refine zZ (zR 15 8) 8 (H.pick (zR 0 6)<|zR 6 6)<|xy qh<|xZ<|sp (Bv true)<|zjn<|cTr rfl<|zcr<|sp (yI 0)<|zjr<|t_r<|ret1 (yI 0) rfl rfl ⟨_,rfl,?_⟩
   replace H:=H.erases [0]
   dsimp only[zL,List.eraseIdx,List.set] at H
   refine sp (yI 0)<|zjc<|sp (yI 0)<|sp (Bv false)<|zjn<|cFr rfl<|qW<|t_n<|zcc<|oF rfl<|oL rfl (H.cell 0 rfl rfl)<|sp (Bv ((d.xJ:Int) != 7))<|zjn<|vg ((d.xJ:Int) != 7) rfl (fun My=>?_)<|fun My=>?_
   ·replace My:=bne_iff_ne.1 My
    refine vK 4 rfl H [0,1,2,3] [0,1,2,3,4,5,6,7,8,9,10,11] fun H=>?_
    dsimp only[yg,yL]
    have S:=H.zW (zR 0 4)<|zR 0 12
    refine rtl 0 S ?_
    refine rtl 1 S ?_
    refine rtl 2 S ?_
    refine tF 3 rfl rfl S ?_
    refine tF 4 rfl rfl S ?_
    refine tL 5 rfl rfl (fun _ h=>h.cell 2 rfl rfl) S ?_
    refine tF 6 rfl rfl S ?_
    refine tL 7 rfl rfl (fun _ h=>h.cell 0 rfl rfl) S ?_
    refine tF 8 rfl rfl S ?_
    refine tL 9 rfl rfl (fun _ h=>h.cell 0 rfl rfl) S ?_
    refine rt 10 _ (y_add d.fA 1 rfl rfl qf) S ?_
    refine ro 11 rfl<|zD #[Sv (aa lh 0) wi.length bH,yI d.fA,yI<|d.fA+1] rfl rfl call136 (delP H 4 rfl 11 rfl d.fA.toNat qf qf qf) ?_
    rintro _ Y4 ⟨akJ,ak6,rfl,WQ,H⟩
    replace N:Fresh W0.heap.size (ak6::aC::Ns):=Fresh.less (N.xm 2 [1,0]<|by simp only[List.length_cons,List.length_append];omega) WQ.1 WQ.2
    refine⟨H.pick (zR 0 4)<|zR 1 12,(xy qh<|xZ<|sq 1<|oF rfl<|oF rfl<|sw<|zh H 2 [Sv (aa Vn 0) sv.length cz,Sv (aa lh 0) ((wi.eraseIdx d.fA.toNat).length) bH,yI s.qN,Sv ap s.qA.length cp,Sv ar s.qB.length cr,Sv ao own.length co] sizeOf37 fun avg H=>?_)⟩
    dsimp only[List.set] at H
    refine zjc<|sp (yI 0)<|zjr<|ret1 (yI 0) rfl rfl ⟨_,rfl,?_⟩
    replace H:=H.erases [0]
    dsimp only[zL,List.eraseIdx,List.set] at H
    refine sp (yI 0)<|zjr<|b_r<|t_r<|ret1 (yI 0) rfl rfl ⟨_,rfl,?_⟩
    rw[doR_stale6 qf qf<|stale_or<|by exact .inl ql]
    all_goals exact⟨bV,aC,(aa lh 0),(wi.eraseIdx d.fA.toNat).length,bH,akJ,ak6,rfl,(N.xm 2 [1,0]<|by simp only[List.length_cons,List.length_append];omega),H.xm 4 13 [1,2,3] [8,9,10,11,0] (by simp only[List.length_cons,List.length_append];omega)<|by simp only[List.length_cons,List.length_append];omega⟩
   replace My:=xK My
   refine qW<|t_n<|zcr<|sp (yI 0)<|zjr<|ret1 (yI 0) rfl rfl ⟨_,rfl,?_⟩
   replace H:=H.erases [0]
   dsimp only[zL,List.eraseIdx,List.set] at H
   refine sp (yI 0)<|zjr<|b_r<|t_r<|ret1 (yI 0) rfl rfl ⟨_,rfl,?_⟩
   rw[VI qf qf<|stale_or<|by exact .inl ql]
   all_goals exact⟨bV,aC,(aa lh 0),wi.length,bH,bL,az,rfl,N,H.xm 4 12 [1,2,3] (zR 7 5) (by simp only[List.length_cons,List.length_append];omega)<|by simp only[List.length_cons,List.length_append];omega⟩
  replace wM:=xK wM
  refine qW<|t_n<|zcc<|oF rfl<|oL rfl (H.cell 0 rfl rfl)<|sp (Bv ((d.xJ:Int) != 7))<|zjn<|vg ((d.xJ:Int) != 7) rfl (fun Kz=>?_)<|fun Kz=>?_
  ·replace Kz:=bne_iff_ne.1 Kz
   refine vK 4 rfl H [0,1,2,3] [0,1,2,3,4] fun H=>?_
   dsimp only[yg,yL]
   have S:=H.zW (zR 0 4)<|zR 0 5
   refine rtl 0 S ?_
   refine rtl 1 S ?_
   refine rtl 2 S ?_
   refine tF 3 rfl rfl S ?_
   refine tF 4 rfl rfl S ?_
   refine tL 5 rfl rfl (fun _ h=>h.cell 2 rfl rfl) S ?_
   refine tF 6 rfl rfl S ?_
   refine tL 7 rfl rfl (fun _ h=>h.cell 0 rfl rfl) S ?_
   refine tF 8 rfl rfl S ?_
   refine tL 9 rfl rfl (fun _ h=>h.cell 0 rfl rfl) S ?_
   refine rt 10 _ (y_add d.fA 1 rfl rfl qf) S ?_
   refine ro 11 rfl ?_
   obtain⟨acm,rfl⟩:=H.jB 4 rfl qf
   refine zD #[Sv (aa acm 0) wi.length bH,yI d.fA,yI<|d.fA+1] rfl rfl call136 (delP H 4 rfl 4 rfl d.fA.toNat qf qf qf) ?_
   rintro _ akO ⟨aow,alS,rfl,V6,H⟩
   replace N:Fresh W0.heap.size (alS::aC::Ns):=Fresh.less (N.xm 2 [1,0]<|by simp only[List.length_cons,List.length_append];omega) V6.1 V6.2
   refine⟨H.pick (zR 0 4)<|zR 1 5,(xy qh<|xZ<|sq 1<|oF rfl<|oF rfl<|sw<|zh H 2 [Sv eB sv.length cz,Sv (aa acm 0) ((wi.eraseIdx d.fA.toNat).length) bH,yI s.qN,Sv ap s.qA.length cp,Sv ar s.qB.length cr,Sv ao own.length co] sizeOf37 fun atY H=>?_)⟩
   dsimp only[List.set] at H
   refine zjc<|sp (yI 0)<|zjr<|ret1 (yI 0) rfl rfl ⟨_,rfl,?_⟩
   replace H:=H.erases [0]
   dsimp only[zL,List.eraseIdx,List.set] at H
   refine sp (yI 0)<|zjr<|b_r<|t_r<|ret1 (yI 0) rfl rfl ⟨_,rfl,?_⟩
   rw[doR_drop qf qf]
   all_goals exact⟨bV,aC,(aa acm 0),(wi.eraseIdx d.fA.toNat).length,bH,aow,alS,rfl,(N.xm 2 [1,0]<|by simp only[List.length_cons,List.length_append];omega),H.xm 4 6 [1,2,3] [1,2,3,4,0] (by simp only[List.length_cons,List.length_append];omega)<|by simp only[List.length_cons,List.length_append];omega⟩
  replace Kz:=xK Kz
  refine qW<|t_n<|zcr<|sp (yI 0)<|zjr<|ret1 (yI 0) rfl rfl ⟨_,rfl,?_⟩
  replace H:=H.erases [0]
  dsimp only[zL,List.eraseIdx,List.set] at H
  refine sp (yI 0)<|zjr<|b_r<|t_r<|ret1 (yI 0) rfl rfl ⟨_,rfl,?_⟩
  (exfalso;omega)
  all_goals exact⟨bV,aC,cF,wi.length,bH,bL,az,rfl,N,H.xm 4 5 [1,2,3] (zR 0 5) (by simp only[List.length_cons,List.length_append];omega)<|by simp only[List.length_cons,List.length_append];omega⟩
 (have k14:¬(d.xJ=6\/d.xJ=7\/d.xJ=8):=fun z=>by have z:=j14.2 z;simp_all)
 refine qW<|b_n<|t_n<|zcc<|sq 1<|oF rfl<|oL rfl (H.cell 0 rfl rfl)<|sw<|vz #[pp bk 0,yI d.fA] rfl rfl call95<|en func95 ntmps95 ?_
 refine zcr<|sp (Bv false)<|zjc<|sq 3<|oF rfl<|oF rfl<|oL rfl (H.cell 1 rfl rfl)<|sw<|vz #[Sv eB sv.length cz] rfl rfl call137<|en func137 ntmps137 ?_
 refine zcr<|sp (yI 0)<|zjc<|sq 1<|oN rfl<|sq 1<|zjr<|ret1 (yI sv.length) rfl rfl ⟨_,rfl,(sw<|o_sub sv.length 1 rfl rfl qf<|sw<|oq (XI w77 d.fA 0<|sv.length-1) H fun aiP H=>sq 1<|zjr<|ret1 (Bv<|inR d.fA 0<|sv.length-1) rfl rfl ⟨_,rfl,(sp (Bv (!(inR d.fA 0<|sv.length-1)))<|zjn<|vg _ rfl (fun Bh=>?_)<|fun Bh=>?_)⟩)⟩
 ·replace Bh:=xq Bh
  replace Bh:=QZ Bh
  refine zcr<|sp (yI 2)<|zjr<|t_r<|ret1 (yI 2) rfl rfl ⟨_,rfl,?_⟩
  rw[Vr qf<|by show ¬(0<=d.fA/\d.fA<=(sv.length:Int)-1);omega]
  all_goals exact⟨bV,aC,cF,wi.length,bH,bL,az,rfl,N,H.xm 4 5 [1,2,3] (zR 0 5) (by simp only[List.length_cons,List.length_append];omega)<|by simp only[List.length_cons,List.length_append];omega⟩
 replace Bh:=xf Bh
 replace Bh:=QM.1 Bh
 refine qW<|t_n<|xM<|vK 2 rfl H [0,1,2,3] [0,1,2,3,4] fun H=>?_
 dsimp only[yg,yL]
 have S:=H.zW (zR 0 4)<|zR 0 5
 refine rtl 0 S ?_
 refine rtl 1 S ?_
 refine tF 2 rfl rfl S ?_
 refine tF 3 rfl rfl S ?_
 refine tL 4 rfl rfl (fun _ h=>h.cell 1 rfl rfl) S ?_
 refine tF 5 rfl rfl S ?_
 refine tL 6 rfl rfl (fun _ h=>h.cell 0 rfl rfl) S ?_
 refine xy qh<|xZ ?_
 obtain⟨Rl,rfl⟩:=H.jB 2 rfl qf
 refine oI rfl rfl<|sq 1<|zjcc<|oF rfl<|oL rfl (H.cell 0 rfl rfl)<|zjn<|xe<|zcr<|sp (Bv ((d.xJ:Int) == 1))<|sp (Bv ((d.xJ:Int) == 1))<|zjn<|cE rfl (fun asY=>?_)<|fun asY=>?_
 ·refine zcr (sq 1<|oF rfl<|oL rfl (H.cell 0 rfl rfl) ?_)
  have H1:=H.yt 4 5 [1,2,3,0] [0,1,2,3,4] (by simp only[List.length_cons,List.length_append];omega)<|by simp only[List.length_cons,List.length_append];omega
  have N1:Fresh _ (aC::az::Ns):=N
  have K1:Kept (Ns) (Γ):=K0.behind 0 rfl
  refine sw<|zD #[pp bk 0,yI d.fA] rfl rfl call96 (work_ok s own ap cp Fp ar cr Fr ao co Fo sv wi bk _ (aa Rl 0) sv.length cz bV aC cF wi.length bH bL az d.fA H1 N1 K1 qg qg qg<|xQ (zQ OL 0 rfl)<|xQ (zQ OL 1 rfl)<|xQ (zQ OL 2 rfl)<|XX OL 3 rfl) ?_
  clear H H1 N1 K1
  rintro _ aw4 ⟨akd,aoq,ahS,azp,aku,MF,af9,rfl,N,H⟩
  obtain rfl:=H.xk (α:=zk) 2 rfl 4 rfl qj
  refine sq 1<|zjr<|b_r<|t_r<|ret1 (yI ((workM s own (⟨sv,wi⟩:zN) d.fA.toNat).2)) rfl rfl ⟨_,rfl,?_⟩
  rw[doR_work qf ⟨by omega,by omega⟩]
  all_goals exact⟨akd,aoq,ahS,((workM s own (⟨sv,wi⟩:zN) d.fA.toNat).1.x9).length,aku,MF,af9,rfl,N,H.xm 4 5 [0,1,2] (zR 0 5) (by simp only[List.length_cons,List.length_append];omega)<|by simp only[List.length_cons,List.length_append];omega⟩
 refine zcr<|sp (Bv ((d.xJ:Int) == 5))<|sp (Bv ((d.xJ:Int) == 5))<|zjn<|cE rfl (fun awj=>?_)<|fun awj=>?_
 ·refine zcr (sq 1<|oF rfl<|oL rfl (H.cell 0 rfl rfl)<|sw<|vz #[pp bk 0,yI d.fA] rfl rfl call97<|en func97 ntmps97 ?_)
  refine zcr<|sp (yI 0)<|zjc<|sq 2<|oF rfl<|oF rfl<|oL rfl (H.cell 1 rfl rfl)<|sq 1<|oI rfl rfl<|sq 1<|zjcc<|sq 2<|oF rfl<|oF rfl ?_
  obtain⟨ada,adj,adJ,gM,gJ,su,ahE,agR,ajj,nt,nv,De,ahq,ak8,aeF,adm,ad7,adF,qS,H⟩:=H.jQ zC 2 rfl 3 rfl rfl d.fA.toNat qf
  refine oL rfl (H.zt 2 rfl (qS 3 _ rfl) qf)<|sp (Bv (!(((sv[d.fA.toNat]!).qC).qV)))<|sp (Bv (!(((sv[d.fA.toNat]!).qC).qV))) ?_
  cases RE:(!(((sv[d.fA.toNat]!).qC).qV))
  ·replace RE:=xf RE
   have y1:jy s own n d.fA.toNat (sv[d.fA.toNat]!).qC/\jy s own n d.fA.toNat (sv[d.fA.toNat]!).qI:=p1.srv d.fA.toNat qf
   have y6:=y1.1.got ql
   obtain⟨y8,y9⟩:=plusPre p0.sys y1.1.all y6.2.2.1
   have y10:=(y1.1.small p0).bags
   have y11:=y10.1
   have y12:=y1.1.sumLen
   have y0:=y1.1.rnd
   refine qJ 21 rfl rfl<|sq 1<|qJ 21 rfl rfl<|sq 1<|qJ 21 rfl rfl<|oF rfl<|qJ 21 rfl rfl<|oF rfl<|qJ 21 rfl rfl<|oL rfl (H.zt 2 rfl (qS 4 _ rfl) qf)<|qJ 21 rfl rfl<|sw<|oq (containsB_ok _ (((sv[d.fA.toNat]!).qC).vM) false (H.get 2 rfl).1) H fun abg H=>sp (Bv<|anyTo (fun k=>false == (((sv[d.fA.toNat]!).qC).vM)[k]!) (((sv[d.fA.toNat]!).qC).vM).length)<|sp (Bv<|anyTo (fun k=>false == (((sv[d.fA.toNat]!).qC).vM)[k]!) (((sv[d.fA.toNat]!).qC).vM).length) ?_
   cases PW:(anyTo (fun k=>false == (((sv[d.fA.toNat]!).qC).vM)[k]!) (((sv[d.fA.toNat]!).qC).vM).length)
   ·refine qJ 29 rfl rfl (sq 1<|qJ 29 rfl rfl<|sq 1<|qJ 29 rfl rfl ?_)
    obtain⟨kI,kH,Pi,g8,hJ,Km,lR,lH,Sf,hY,gU,Kh,lU,lD,Rp,kD,kz,Py,iR,i8,LP,f5,gn,Iz,kE,kq,Pu,f7,gh,In,ko,kF,Po,iM,iN,N7,anv,H⟩:=H.part_ServerD Qs.refl 2 rfl 9 rfl rfl d.fA.toNat qf
    refine sw<|xW [yI (((sv[d.fA.toNat]!).qC).qP),Sv kI ((((sv[d.fA.toNat]!).qC).qG).length) kH,Sv g8 ((((sv[d.fA.toNat]!).qC).qF).length) hJ,Bv (((sv[d.fA.toNat]!).qC).qV),Sv lR ((((sv[d.fA.toNat]!).qC).vM).length) lH,Sv hY ((((sv[d.fA.toNat]!).qC).qL).length) gU,Sv lU ((((sv[d.fA.toNat]!).qC).vX).length) lD,Sv kD ((((sv[d.fA.toNat]!).qC).x8).length) kz,yI (((sv[d.fA.toNat]!).qI).qP),Sv iR ((((sv[d.fA.toNat]!).qI).qG).length) i8,Sv f5 ((((sv[d.fA.toNat]!).qI).qF).length) gn,Bv (((sv[d.fA.toNat]!).qI).qV),Sv kE ((((sv[d.fA.toNat]!).qI).vM).length) kq,Sv f7 ((((sv[d.fA.toNat]!).qI).qL).length) gh,Sv ko ((((sv[d.fA.toNat]!).qI).vX).length) kF,Sv iM ((((sv[d.fA.toNat]!).qI).x8).length) iN] isAgg49 sizeOf49 rfl (fun r v hv=>H.zt 2 rfl (anv r v hv) qf)<|qJ 29 rfl rfl<|sw<|vz #[.agg #[yI (((sv[d.fA.toNat]!).qC).qP),Sv kI ((((sv[d.fA.toNat]!).qC).qG).length) kH,Sv g8 ((((sv[d.fA.toNat]!).qC).qF).length) hJ,Bv (((sv[d.fA.toNat]!).qC).qV),Sv lR ((((sv[d.fA.toNat]!).qC).vM).length) lH,Sv hY ((((sv[d.fA.toNat]!).qC).qL).length) gU,Sv lU ((((sv[d.fA.toNat]!).qC).vX).length) lD,Sv kD ((((sv[d.fA.toNat]!).qC).x8).length) kz,yI (((sv[d.fA.toNat]!).qI).qP),Sv iR ((((sv[d.fA.toNat]!).qI).qG).length) i8,Sv f5 ((((sv[d.fA.toNat]!).qI).qF).length) gn,Bv (((sv[d.fA.toNat]!).qI).qV),Sv kE ((((sv[d.fA.toNat]!).qI).vM).length) kq,Sv f7 ((((sv[d.fA.toNat]!).qI).qL).length) gh,Sv ko ((((sv[d.fA.toNat]!).qI).vX).length) kF,Sv iM ((((sv[d.fA.toNat]!).qI).x8).length) iN]] rfl rfl call133<|en func133 ntmps133 ?_
    refine zcr<|sw<|jq H [yI (((sv[d.fA.toNat]!).qC).qP),Sv kI ((((sv[d.fA.toNat]!).qC).qG).length) kH,Sv g8 ((((sv[d.fA.toNat]!).qC).qF).length) hJ,Bv (((sv[d.fA.toNat]!).qC).qV),Sv lR ((((sv[d.fA.toNat]!).qC).vM).length) lH,Sv hY ((((sv[d.fA.toNat]!).qC).qL).length) gU,Sv lU ((((sv[d.fA.toNat]!).qC).vX).length) lD,Sv kD ((((sv[d.fA.toNat]!).qC).x8).length) kz,yI (((sv[d.fA.toNat]!).qI).qP),Sv iR ((((sv[d.fA.toNat]!).qI).qG).length) i8,Sv f5 ((((sv[d.fA.toNat]!).qI).qF).length) gn,Bv (((sv[d.fA.toNat]!).qI).qV),Sv kE ((((sv[d.fA.toNat]!).qI).vM).length) kq,Sv f7 ((((sv[d.fA.toNat]!).qI).qL).length) gh,Sv ko ((((sv[d.fA.toNat]!).qI).vX).length) kF,Sv iM ((((sv[d.fA.toNat]!).qI).x8).length) iN] fun Of abH H=>(sp (Bv false)<|zjc<|oF rfl<|oF rfl<|oL rfl (H.cell 0 rfl rfl)<|oF rfl<|oF rfl<|oL rfl (H.cell 0 rfl rfl)<|sp (Bv ((((sv[d.fA.toNat]!).qI).qP:Int) == (((sv[d.fA.toNat]!).qC).qP)))<|sp (Bv ((((sv[d.fA.toNat]!).qI).qP:Int) == (((sv[d.fA.toNat]!).qC).qP))) ?_)
    cases Ad:((((sv[d.fA.toNat]!).qI).qP:Int) == (((sv[d.fA.toNat]!).qC).qP))
    ·replace Ad:=ne_of_beq_false Ad
     refine xO [11,12,13]<|sp (Bv false)<|sp (Bv false)<|zjr<|ret1 (Bv false) rfl rfl ⟨_,rfl,?_⟩
     replace H:=H.erases [0]
     dsimp only[zL,List.eraseIdx,List.set] at H
     refine qJ 29 rfl rfl<|sp (Bv true)<|sp (Bv true)<|zjn<|cTr rfl<|zcr<|sp (yI 4)<|zjr<|t_r<|ret1 (yI 4) rfl rfl ⟨_,rfl,(sp (yI 4)<|zjr<|b_r<|t_r<|ret1 (yI 4) rfl rfl ⟨_,rfl,?_⟩)⟩
     rw[doR_adv4 qf ⟨by omega,by omega⟩<|by rintro⟨h1,h2,h3,h4⟩;contradiction]
     all_goals exact⟨bV,aC,cF,wi.length,bH,bL,az,rfl,N,H.xm 4 23 [1,2,3] (zR 18 5) (by simp only[List.length_cons,List.length_append];omega)<|by simp only[List.length_cons,List.length_append];omega⟩
    replace Ad:=eq_of_beq Ad
    refine qJ 10 rfl rfl<|oF rfl<|qJ 10 rfl rfl<|oF rfl<|qJ 10 rfl rfl<|oL rfl (H.cell 0 rfl rfl)<|sq 2<|zjr<|ret1 (Bv (((sv[d.fA.toNat]!).qI).qV)) rfl rfl ⟨_,rfl,?_⟩
    replace H:=H.erases [0]
    dsimp only[zL,List.eraseIdx,List.set] at H
    refine qJ 29 rfl rfl<|sq 2<|zjn<|vg _ rfl (fun tQ=>?_)<|fun tQ=>?_
    ·replace tQ:=xq tQ
     refine zcr<|sp (yI 4)<|zjr<|t_r<|ret1 (yI 4) rfl rfl ⟨_,rfl,(sp (yI 4)<|zjr<|b_r<|t_r<|ret1 (yI 4) rfl rfl ⟨_,rfl,?_⟩)⟩
     rw[doR_adv4 qf ⟨by omega,by omega⟩<|by rintro⟨h1,h2,h3,h4⟩;simp_all]
     all_goals exact⟨bV,aC,cF,wi.length,bH,bL,az,rfl,N,H.xm 4 23 [1,2,3] (zR 18 5) (by simp only[List.length_cons,List.length_append];omega)<|by simp only[List.length_cons,List.length_append];omega⟩
    replace tQ:=xf tQ
    refine qW<|t_n<|xM<|c_lateC 2 (fun ρ w203=>∃(xP:Env) (aaq:yOA) (ZQ:Nat) (OP:List Value) (TM:yLN),ρ=upd (upd (upd (upd xP 0<|pp bk 0) 5<|pp Rl<|0+(d.fA:Int).toNat*16) 48<|Sv aaq (((((sv[d.fA.toNat]!).qC).qG).length)+1) ZQ) 53 (Sv nt ((((sv[d.fA.toNat]!).qC).qL).length) nv)/\(bV[d.fA.toNat*16+5]? =some (Sv nt ((((sv[d.fA.toNat]!).qC).qL).length) nv))/\Fresh W0.heap.size (aC::az::Ns)/\St W0 w203 ((rr aaq (((((sv[d.fA.toNat]!).qC).qG).length)+1) ZQ 24 1<|OP++[Sv gM ((((sv[d.fA.toNat]!).qC).qF).length) gJ])::(.box b1 [yI d.xJ,yI d.fA,yI d.fB] 44)::(.box bk [Sv (aa Rl 0) sv.length cz,Sv cF wi.length bH,yI s.qN,Sv ap s.qA.length cp,Sv ar s.qB.length cr,Sv ao own.length co] 74)::(rr (aa Rl 0) sv.length cz 49 16 bV)::(rr cF wi.length bH 77 4 bL)::ps) ((qQ true (TM++su) (OP++[Sv gM ((((sv[d.fA.toNat]!).qC).qF).length) gJ]) ((((sv[d.fA.toNat]!).qC).qG)++[((sv[d.fA.toNat]!).qC).qF]))::(sF true su gM gJ (((sv[d.fA.toNat]!).qC).qF))::(sF true De nt nv (((sv[d.fA.toNat]!).qC).qL))::(sF false Fp ap cp s.qA)::(sF false Fr ar cr s.qB)::(sF false Fo ao co own)::(qQ true aC bV sv)::(qQ true az bL wi)::Γ)) rfl H [0,1,2,3] [0,1,2,3,4,5,6,7,8,9,10,11,12,13,14,15,16,17,18,19,20,21,22] (fun H=>?_) ?_
    ·dsimp only[yg,yL]
     have S:=H.zW (zR 0 4)<|zR 0 23
     refine rtl 0 S ?_
     refine rtl 1 S ?_
     refine tF 2 rfl rfl S ?_
     refine tF 3 rfl rfl S ?_
     refine rt 4 _ (jU (off:=0+(d.fA:Int).toNat*16+0+1) isAgg29 rfl<|fun _ h=>(h.zt 2 rfl (qS 1 _ rfl) qf)) S ?_
     refine rtl 6 S ?_
     refine rtl 7 S ?_
     refine tF 8 rfl rfl S ?_
     refine tF 9 rfl rfl S ?_
     refine rt 10 _ (jU (off:=0+(d.fA:Int).toNat*16+0+2) isAgg24 rfl<|fun _ h=>(h.zt 2 rfl (qS 2 _ rfl) qf)) S ?_
     refine rtl 13 S ?_
     refine rtl 14 S ?_
     refine tF 15 rfl rfl S ?_
     refine tF 16 rfl rfl S ?_
     refine rt 17 _ (jU (off:=0+(d.fA:Int).toNat*16+0+5) isAgg29 rfl<|fun _ h=>(h.zt 2 rfl (qS 5 _ rfl) qf)) S ?_
     refine jC [5,11] qh qm<|yV rfl ?_<|yV rfl ?_ jD
     ·have ajS:=H.base.size
      have aj4:=jL (H.ltN (L:=[aC,az]) [21,22])<|H.ltK<|K0.behind 23 rfl
      refine oc (Xh _ (((sv[d.fA.toNat]!).qC).qG) (H.get 12 rfl).1 qg) ?_
      rintro _ aH9 ⟨aCh,aj5,aza,aph,amZ,rfl,M,K⟩ _
      replace N:=N.merge ajS aj4 M
      replace H:=H.merge K M
      dsimp only[List.cons_append,List.nil_append] at H
      obtain rfl:=H.xk (α:=yLI) 0 rfl 0 rfl qj
      refine⟨H.pick (zR 1 4)<|zR 1 23,(ro 11 rfl<|zy H underlying29 ti24 [Sv gM ((((sv[d.fA.toNat]!).qC).qF).length) gJ] fun aHv aHk H=>⟨H.pick (zR 2 4)<|zR 1 23,(ro 12 rfl<|zH H 1 rfl 0 rfl underlying29 ti24 rfl qj rfl rfl rfl qw qp qf fun awP auA ap0 H=>?_)⟩)⟩
      dsimp only[List.set] at H
      replace H:=H.Q5 0 rfl 14 rfl
      refine⟨H.pick (zR 2 4)<|zR 2 23,(xy qh ((meet ⟨_,awP,auA,aph,amZ,uE4,(qS 5 _ rfl),(N.xm 3 [1,2]<|by simp only[List.length_cons,List.length_append];omega),H.xm 6 25 (zR 1 5) (0::15::17::zR 20 5) (by simp only[List.length_cons,List.length_append];omega)<|by simp only[List.length_cons,List.length_append];omega⟩)))⟩
     refine zy H underlying29 ti24 [Sv gM ((((sv[d.fA.toNat]!).qC).qF).length) gJ] fun aHj al5 H=>⟨H.pick (zR 1 4)<|zR 0 23,(ro 5 rfl ?_)⟩
     have alh:=H.base.size
     have ai0:=jL (H.ltN (L:=[aC,az]) [21,22])<|H.ltK<|K0.behind 23 rfl
     refine oc (Xh _ (((sv[d.fA.toNat]!).qC).qG) (H.get 12 rfl).1 qg) ?_
     rintro _ aEg ⟨aB0,aAl,azx,ahA,ahZ,rfl,M,K⟩ _
     replace N:=N.merge alh ai0 M
     replace H:=H.merge K M
     dsimp only[List.cons_append,List.nil_append] at H
     obtain rfl:=H.xk (α:=yLI) 0 rfl 0 rfl qj
     refine⟨H.pick (zR 2 4)<|zR 1 23,(ro 12 rfl<|zH H 0 rfl 1 rfl underlying29 ti24 rfl qj rfl rfl rfl qw qp qf fun Io JH aIE H=>?_)⟩
     dsimp only[List.set] at H
     replace H:=H.Q5 0 rfl 14 rfl
     refine⟨H.pick (zR 2 4)<|zR 2 23,(xy qh ((meet ⟨_,Io,JH,ahA,ahZ,uE4,(qS 5 _ rfl),(N.xm 3 [1,2]<|by simp only[List.length_cons,List.length_append];omega),H.xm 6 25 [0,2,3,4,5] (0::15::17::zR 20 5) (by simp only[List.length_cons,List.length_append];omega)<|by simp only[List.length_cons,List.length_append];omega⟩)))⟩
    clear H N
    rintro ρ aCJ ⟨xP,aaq,ZQ,OP,TM,rfl,aAK,N,H⟩
    obtain⟨aH8,Td,axS⟩:=H.Vg (α:=yLI) 0 rfl 0 rfl qj
    have afP:=H.base.size
    have ahN:=jL (H.ltN (L:=[aC,az]) [6,7])<|H.ltK<|K0.behind 8 rfl
    refine sw<|oc (args_eq (by rw[←Td])<|added_ok _ ((((sv[d.fA.toNat]!).qC).qG)++[((sv[d.fA.toNat]!).qC).qF]) (((sv[d.fA.toNat]!).qC).qL) (Td▸axS) (H.get 2 rfl).1 qg qg) ?_
    rintro _ afW ⟨aBZ,aAk,NA,aBH,azo,rfl,M,K⟩ _
    replace N:=N.merge afP ahN M
    replace H:=H.merge K M
    dsimp only[List.cons_append,List.nil_append] at H
    obtain rfl:=H.xk (α:=yLI) 0 rfl 0 rfl qj
    refine sq 1<|zjcc<|sq 1 ?_
    obtain⟨sS,an9,awh⟩:=H.Vg (α:=yLI) 0 rfl 0 rfl qj
    refine sw<|oq (areBags_ok _ (QB ((((sv[d.fA.toNat]!).qC).qG)++[((sv[d.fA.toNat]!).qC).qF]) (((sv[d.fA.toNat]!).qC).qL)) awh) H fun aFO H=>sq 1<|zjn<|cQ rfl (fun awn=>?_)<|fun awn=>?_
    ·refine zcr (sp (yI 3)<|zjr<|t_r<|ret1 (yI 3) rfl rfl ⟨_,rfl,?_⟩)
     replace H:=H.erases [1,0]
     dsimp only[zL,List.eraseIdx,List.set] at H
     refine sp (yI 3)<|zjr<|b_r<|t_r<|ret1 (yI 3) rfl rfl ⟨_,rfl,?_⟩
     rw[doR_adv3 qf ⟨by omega,by omega⟩ ⟨by assumption,allGot_of ql,by assumption,by assumption⟩ ql]
     all_goals exact⟨bV,aC,cF,wi.length,bH,bL,az,rfl,(N.xm 3 [1,2]<|by simp only[List.length_cons,List.length_append];omega),H.xm 4 9 [1,2,3] (zR 4 5) (by simp only[List.length_cons,List.length_append];omega)<|by simp only[List.length_cons,List.length_append];omega⟩
    refine qW<|t_n<|zcr<|sq 2<|oF rfl<|sw<|xW (yS s ap cp ar cr) isAgg27 sizeOf27 rfl (qH (H.cells 3 rfl) 2 3)<|sw<|oq (around_ok _ s (H.get 4 rfl).1 (H.get 5 rfl).1) H fun aIg H=>sq 1<|zjn<|xM ?_
    have H0:=H
    obtain⟨Pc,VP,azF,H⟩:=H.jA (α:=yLI) 0 rfl 0 rfl qj
    replace N:Fresh W0.heap.size (Pc::aC::az::Ns):=Fresh.ice N H0 0 VP.1 VP.2<|fun F hF b hb=>(List.mem_append.1<|show F∈[aC,az]++Ns from hF).elim (fun h=>(H0.vV (L:=[aC,az]) [7,8]) F h b hb) fun h=>H0.jT (K0.behind 9 rfl) F h b hb
    clear H0
    dsimp only[List.set] at H
    have aBW:=H.isCap 0 rfl
    obtain⟨aba,aa8,rfl⟩:=H.addr 0 rfl qf
    obtain⟨Zn,aad,aoK,LK,N,H⟩:=H.splitLast 0 rfl N s.qA.length qf
    refine vK 3 rfl H [0,1,2,3,4,5] [0,1,2,3,4,5,6,7,8,9,10,11,12] fun H=>?_
    dsimp only[yg,yL]
    have S:=H.zW (zR 0 6)<|zR 0 13
    refine rtl 0 S ?_
    refine rtl 1 S ?_
    refine rtl 2 S ?_
    refine tF 3 rfl rfl S ?_
    refine tF 4 rfl rfl S ?_
    obtain⟨aei,adE,ady,TJ,Tf,T8,an4,apl,alf,TL,Ui,V5,uz,wv,ank,adg,adQ,adM,M2,H⟩:=H.jQ zC 4 rfl 11 rfl rfl d.fA.toNat qf
    have S:=H.zW (zR 0 6)<|zR 6 13
    refine rt 5 _ (jU (off:=0+(d.fA:Int).toNat*16+0+0) isAgg2 rfl<|fun _ h=>(h.zt 4 rfl (M2 0 _ rfl) qf)) S ?_
    refine rt 6 _ (y_add (((sv[d.fA.toNat]!).qC).qP) 1 rfl rfl qf) S ?_
    refine rtl 7 S ?_
    refine rtl 8 S ?_
    refine rtl 10 S ?_
    refine rtl 11 S ?_
    refine tI 12 rfl rfl rfl S ?_
    refine tL 13 rfl rfl (fun _ h=>h.zG 2 rfl 0 rfl) S ?_
    refine rtl 14 S ?_
    refine rtl 15 S ?_
    refine tF 16 rfl rfl S ?_
    refine tF 17 rfl rfl S ?_
    refine rt 18 _ (jU (off:=0+(d.fA:Int).toNat*16+0+6) isAgg45 rfl<|fun _ h=>(h.zt 4 rfl (M2 6 _ rfl) qf)) S ?_
    refine ro 9 rfl<|o_headV s.qA.length (List.length_take_of_le (l:=QB ((((sv[d.fA.toNat]!).qC).qG)++[((sv[d.fA.toNat]!).qC).qF]) (((sv[d.fA.toNat]!).qC).qL)) qf) underlying29 ti24 rfl rfl qf qf<|⟨H.pick (zR 0 6)<|zR 6 13,(ro 19 rfl ?_)⟩
    refine jE [yI ((((sv[d.fA.toNat]!).qC).qP)+1),Sv (aa aba aa8) (((QB ((((sv[d.fA.toNat]!).qC).qG)++[((sv[d.fA.toNat]!).qC).qF]) (((sv[d.fA.toNat]!).qC).qL)).take s.qA.length).length) NA,Sv Zn (((QB ((((sv[d.fA.toNat]!).qC).qG)++[((sv[d.fA.toNat]!).qC).qF]) (((sv[d.fA.toNat]!).qC).qL))[s.qA.length]!).length) aad,Bv false,yN,yN,yN,Sv uz ((((sv[d.fA.toNat]!).qC).vX).length) wv] [(0,yI ((((sv[d.fA.toNat]!).qC).qP)+1)),(1,Sv (aa aba aa8) (((QB ((((sv[d.fA.toNat]!).qC).qG)++[((sv[d.fA.toNat]!).qC).qF]) (((sv[d.fA.toNat]!).qC).qL)).take s.qA.length).length) NA),(2,Sv Zn (((QB ((((sv[d.fA.toNat]!).qC).qG)++[((sv[d.fA.toNat]!).qC).qF]) (((sv[d.fA.toNat]!).qC).qL))[s.qA.length]!).length) aad),(7,Sv uz ((((sv[d.fA.toNat]!).qC).vX).length) wv)]<|⟨H.pick (zR 0 6)<|zR 6 13,(xy qh<|xZ<|sq 1<|oF rfl ?_)⟩
    replace H:=H.addNil (α:=Bool)
    replace H:=H.addNil (α:=yLI)
    replace H:=H.addNil (α:=yLL)
    replace N:Fresh W0.heap.size (aC::aoK::LK::az::Ns):=(N.xm 4 [2,0,1,3]<|by simp only[List.length_cons,List.length_append];omega)
    obtain⟨aFW,aFk,avl,avz,aAj,N,H⟩:=H.takePart part_Server_DeskNow 20 rfl N d.fA.toNat qf rfl<|M2 6 _ rfl
    replace H:=H.mk_DeskD ((((sv[d.fA.toNat]!).qC).qP)+1) 11 rfl 12 rfl false 4 rfl 3 rfl 2 rfl 0 rfl
    replace N:Fresh W0.heap.size ((aoK++LK++[]++[]++[]++avl)::avz::az::Ns):=(N.emp.emp.emp.xm 8 [5,6,0,1,2,3,4,7]<|by simp only[List.length_cons,List.length_append];omega).join.join.join.join.join
    obtain⟨aAw,WX⟩:∃z,z=((sv.set d.fA.toNat { sv[d.fA.toNat]! with qC:={ sv[d.fA.toNat]!.qC with vX:=[]}}).set d.fA.toNat { ((sv.set d.fA.toNat { sv[d.fA.toNat]! with qC:={ sv[d.fA.toNat]!.qC with vX:=[]}})[d.fA.toNat]!) with qC:=(⟨(((sv[d.fA.toNat]!).qC).qP)+1,((QB ((((sv[d.fA.toNat]!).qC).qG)++[((sv[d.fA.toNat]!).qC).qF]) (((sv[d.fA.toNat]!).qC).qL)).take s.qA.length),(QB ((((sv[d.fA.toNat]!).qC).qG)++[((sv[d.fA.toNat]!).qC).qF]) (((sv[d.fA.toNat]!).qC).qL))[s.qA.length]!,false,([]:List Bool),([]:yLL),([]:List yLL),((sv[d.fA.toNat]!).qC).vX⟩:zA)}):=⟨_,rfl⟩
    refine sw<|o_putHole (v:=.agg #[yI ((((sv[d.fA.toNat]!).qC).qP)+1),Sv (aa aba aa8) (((QB ((((sv[d.fA.toNat]!).qC).qG)++[((sv[d.fA.toNat]!).qC).qF]) (((sv[d.fA.toNat]!).qC).qL)).take s.qA.length).length) NA,Sv Zn (((QB ((((sv[d.fA.toNat]!).qC).qG)++[((sv[d.fA.toNat]!).qC).qF]) (((sv[d.fA.toNat]!).qC).qL))[s.qA.length]!).length) aad,Bv false,yN,yN,yN,Sv uz ((((sv[d.fA.toNat]!).qC).vX).length) wv]) zC H 4 rfl 2 rfl 0 rfl rfl sizeOf47 rfl rfl rfl d.fA.toNat qf qf WX ⟨by show _<=_*16+_;omega,by show _*16+_<_+8;omega⟩ fun axX apb afZ ajX H=>?_
    dsimp only[List.set] at H
    replace N:Fresh W0.heap.size (afZ::az::Ns):=(N.xm 3 [1,0,2]<|by simp only[List.length_cons,List.length_append];omega).repl ajX
    refine zjc<|sp (yI 0)<|zjr<|ret1 (yI 0) rfl rfl ⟨_,rfl,?_⟩
    replace H:=H.erases [1,0]
    dsimp only[zL,List.eraseIdx,List.set] at H
    refine sp (yI 0)<|zjr<|b_r<|t_r<|ret1 (yI 0) rfl rfl ⟨_,rfl,?_⟩
    rw[doR_adv0 qf ⟨by omega,by omega⟩ ⟨by assumption,allGot_of ql,by assumption,by assumption⟩ ql<|adv_sets qf rfl WX]
    all_goals exact⟨apb,afZ,cF,wi.length,bH,bL,az,rfl,N,H.xm 4 26 [1,2,3] [21,22,23,0,25] (by simp only[List.length_cons,List.length_append];omega)<|by simp only[List.length_cons,List.length_append];omega⟩
   refine xO (zR 30 5)<|sp (Bv true)<|zjn<|cTr rfl<|zcr<|sp (yI 4)<|zjr<|t_r<|ret1 (yI 4) rfl rfl ⟨_,rfl,(sp (yI 4)<|zjr<|b_r<|t_r<|ret1 (yI 4) rfl rfl ⟨_,rfl,?_⟩)⟩
   rw[doR_adv4 qf ⟨by omega,by omega⟩<|by rintro⟨h1,h2,h3,h4⟩;exact notGot_of ql h2]
   all_goals exact⟨bV,aC,cF,wi.length,bH,bL,az,rfl,N,H.xm 4 11 [1,2,3] (zR 6 5) (by simp only[List.length_cons,List.length_append];omega)<|by simp only[List.length_cons,List.length_append];omega⟩
  replace RE:=xq RE
  refine xO (zR 22 6)<|sp (Bv true)<|sp (Bv true)<|xO (zR 30 5)<|sp (Bv true)<|zjn<|cTr rfl<|zcr<|sp (yI 4)<|zjr<|t_r<|ret1 (yI 4) rfl rfl ⟨_,rfl,(sp (yI 4)<|zjr<|b_r<|t_r<|ret1 (yI 4) rfl rfl ⟨_,rfl,?_⟩)⟩
  rw[doR_adv4 qf ⟨by omega,by omega⟩<|by rintro⟨h1,h2,h3,h4⟩;simp_all]
  all_goals exact⟨bV,aC,cF,wi.length,bH,bL,az,rfl,N,H.xm 4 11 [1,2,3] (zR 6 5) (by simp only[List.length_cons,List.length_append];omega)<|by simp only[List.length_cons,List.length_append];omega⟩
 refine zcr<|sp (Bv ((d.xJ:Int) == 2))<|sp (Bv ((d.xJ:Int) == 2))<|zjn<|cE rfl (fun ayG=>?_)<|fun ayG=>?_
 ·refine xX (sq 3<|oF rfl ?_)
  obtain⟨IC,JL,adH,Cz,CF,YA,KP,Oq,ane,CS,CQ,YE,Oc,Lf,aor,H8,Jg,aec,agy,H⟩:=H.jQ zC 2 rfl 3 rfl rfl d.fA.toNat qf
  refine sw<|xW [yI (((sv[d.fA.toNat]!).qC).qP),Sv IC ((((sv[d.fA.toNat]!).qC).qG).length) JL,Sv Cz ((((sv[d.fA.toNat]!).qC).qF).length) CF,Bv (((sv[d.fA.toNat]!).qC).qV),Sv KP ((((sv[d.fA.toNat]!).qC).vM).length) Oq,Sv CS ((((sv[d.fA.toNat]!).qC).qL).length) CQ,Sv Oc ((((sv[d.fA.toNat]!).qC).vX).length) Lf,Sv H8 ((((sv[d.fA.toNat]!).qC).x8).length) Jg] isAgg47 sizeOf47 rfl (fun r v hv=>H.zt 2 rfl (agy r v hv) qf) ?_
  have y1:jy s own n d.fA.toNat (sv[d.fA.toNat]!).qC/\jy s own n d.fA.toNat (sv[d.fA.toNat]!).qI:=p1.srv d.fA.toNat qf
  have y2:=y1.1.small p0
  have ap8:=H.base.size
  have alb:=jL (H.ltN (L:=[aC,az]) [9,10])<|H.ltK<|K0.behind 11 rfl
  refine sw<|oc (Vf _ ((sv[d.fA.toNat]!).qC) (H.get 0 rfl).1 (H.get 1 rfl).1 (H.get 2 rfl).1 (H.get 3 rfl).1 (H.get 4 rfl).1 (H.get 5 rfl).1 qg) ?_
  rintro _ aEK ⟨Jx,Ih,Ie,DD,DB,CK,LO,MG,MH,DM,Df,Ck,KT,Nx,O2,IX,J3,ID,rfl,M,K⟩ _
  replace N:=N.merge ap8 alb M
  replace H:=H.merge K M
  dsimp only[List.cons_append,List.nil_append] at H
  refine sq 1<|oF rfl ?_
  replace H:=H.mk_DeskD (((sv[d.fA.toNat]!).qC).qP) 0 rfl 1 rfl (((sv[d.fA.toNat]!).qC).qV) 2 rfl 3 rfl 4 rfl 5 rfl
  replace N:Fresh W0.heap.size ((Ie++CK++MH++Ck++O2++ID)::aC::az::Ns):=N.join.join.join.join.join
  obtain⟨aAM,YB⟩:∃z,z=(sv.set d.fA.toNat { sv[d.fA.toNat]! with qI:=(⟨((sv[d.fA.toNat]!).qC).qP,((sv[d.fA.toNat]!).qC).qG,((sv[d.fA.toNat]!).qC).qF,((sv[d.fA.toNat]!).qC).qV,((sv[d.fA.toNat]!).qC).vM,((sv[d.fA.toNat]!).qC).qL,((sv[d.fA.toNat]!).qC).vX,((sv[d.fA.toNat]!).qC).x8⟩:zA)}):=⟨_,rfl⟩
  refine sw<|XF (v:=.agg #[yI (((sv[d.fA.toNat]!).qC).qP),Sv Jx ((((sv[d.fA.toNat]!).qC).qG).length) Ih,Sv DD ((((sv[d.fA.toNat]!).qC).qF).length) DB,Bv (((sv[d.fA.toNat]!).qC).qV),Sv LO ((((sv[d.fA.toNat]!).qC).vM).length) MG,Sv DM ((((sv[d.fA.toNat]!).qC).qL).length) Df,Sv KT ((((sv[d.fA.toNat]!).qC).vX).length) Nx,Sv IX ((((sv[d.fA.toNat]!).qC).x8).length) J3]) Qh H 2 rfl 16 rfl 0 rfl rfl sizeOf47 rfl rfl rfl d.fA.toNat qf qf YB fun aCz ah0 ake amS H=>?_
  dsimp only[List.set] at H
  replace N:Fresh W0.heap.size (ake::az::Ns):=(N.xm 3 [1,0,2]<|by simp only[List.length_cons,List.length_append];omega).repl amS
  refine xU<|b_n<|t_n<|zcr<|sp (yI 0)<|zjr<|ret1 (yI 0) rfl rfl ⟨_,rfl,?_⟩
  rw[doR_save qf ⟨by omega,by omega⟩ YB]
  all_goals exact⟨ah0,ake,cF,wi.length,bH,bL,az,rfl,N,H.xm 4 19 [1,2,3] [14,15,16,0,18] (by simp only[List.length_cons,List.length_append];omega)<|by simp only[List.length_cons,List.length_append];omega⟩
 refine zcr<|sp (Bv ((d.xJ:Int) == 9))<|sp (Bv ((d.xJ:Int) == 9))<|zjn<|cE rfl (fun axf=>?_)<|fun axf=>?_
 ·refine xX (sq 3<|oF rfl ?_)
  obtain⟨IY,IOz,ad3,Dg,CG,WV,OX,KY,af4,BZ,Du,Vv,Kp,ON,akb,Jk,Jp,ac4,alG,H⟩:=H.jQ Qh 2 rfl 3 rfl rfl d.fA.toNat qf
  refine sw<|xW [yI (((sv[d.fA.toNat]!).qI).qP),Sv IY ((((sv[d.fA.toNat]!).qI).qG).length) IOz,Sv Dg ((((sv[d.fA.toNat]!).qI).qF).length) CG,Bv (((sv[d.fA.toNat]!).qI).qV),Sv OX ((((sv[d.fA.toNat]!).qI).vM).length) KY,Sv BZ ((((sv[d.fA.toNat]!).qI).qL).length) Du,Sv Kp ((((sv[d.fA.toNat]!).qI).vX).length) ON,Sv Jk ((((sv[d.fA.toNat]!).qI).x8).length) Jp] isAgg47 sizeOf47 rfl (fun r v hv=>H.zt 2 rfl (alG r v hv) qf) ?_
  have y1:jy s own n d.fA.toNat (sv[d.fA.toNat]!).qC/\jy s own n d.fA.toNat (sv[d.fA.toNat]!).qI:=p1.srv d.fA.toNat qf
  have y3:=y1.2.small p0
  have ai9:=H.base.size
  have aj9:=jL (H.ltN (L:=[aC,az]) [9,10])<|H.ltK<|K0.behind 11 rfl
  refine sw<|oc (Vf _ ((sv[d.fA.toNat]!).qI) (H.get 0 rfl).1 (H.get 1 rfl).1 (H.get 2 rfl).1 (H.get 3 rfl).1 (H.get 4 rfl).1 (H.get 5 rfl).1 qg) ?_
  rintro _ aGH ⟨IS,II,Id,C1,Di,Dc,Ni,K6,Nt,BU,DQ,DH,NY,Ob,KX,IW,Jc,JZ,rfl,M,K⟩ _
  replace N:=N.merge ai9 aj9 M
  replace H:=H.merge K M
  dsimp only[List.cons_append,List.nil_append] at H
  refine sq 1<|oF rfl ?_
  replace H:=H.mk_DeskD (((sv[d.fA.toNat]!).qI).qP) 0 rfl 1 rfl (((sv[d.fA.toNat]!).qI).qV) 2 rfl 3 rfl 4 rfl 5 rfl
  replace N:Fresh W0.heap.size ((Id++Dc++Nt++DH++KX++JZ)::aC::az::Ns):=N.join.join.join.join.join
  obtain⟨azz,Yp⟩:∃z,z=(sv.set d.fA.toNat { sv[d.fA.toNat]! with qC:=(⟨((sv[d.fA.toNat]!).qI).qP,((sv[d.fA.toNat]!).qI).qG,((sv[d.fA.toNat]!).qI).qF,((sv[d.fA.toNat]!).qI).qV,((sv[d.fA.toNat]!).qI).vM,((sv[d.fA.toNat]!).qI).qL,((sv[d.fA.toNat]!).qI).vX,((sv[d.fA.toNat]!).qI).x8⟩:zA)}):=⟨_,rfl⟩
  refine sw<|XF (v:=.agg #[yI (((sv[d.fA.toNat]!).qI).qP),Sv IS ((((sv[d.fA.toNat]!).qI).qG).length) II,Sv C1 ((((sv[d.fA.toNat]!).qI).qF).length) Di,Bv (((sv[d.fA.toNat]!).qI).qV),Sv Ni ((((sv[d.fA.toNat]!).qI).vM).length) K6,Sv BU ((((sv[d.fA.toNat]!).qI).qL).length) DQ,Sv NY ((((sv[d.fA.toNat]!).qI).vX).length) Ob,Sv IW ((((sv[d.fA.toNat]!).qI).x8).length) Jc]) zC H 2 rfl 16 rfl 0 rfl rfl sizeOf47 rfl rfl rfl d.fA.toNat qf qf Yp fun aGM apY ai5 aoN H=>?_
  dsimp only[List.set] at H
  replace N:Fresh W0.heap.size (ai5::az::Ns):=(N.xm 3 [1,0,2]<|by simp only[List.length_cons,List.length_append];omega).repl aoN
  refine xU<|b_n<|t_n<|zcr<|sp (yI 0)<|zjr<|ret1 (yI 0) rfl rfl ⟨_,rfl,?_⟩
  rw[doR_crash qf ⟨by omega,by omega⟩ Yp]
  all_goals exact⟨apY,ai5,cF,wi.length,bH,bL,az,rfl,N,H.xm 4 19 [1,2,3] [14,15,16,0,18] (by simp only[List.length_cons,List.length_append];omega)<|by simp only[List.length_cons,List.length_append];omega⟩
 refine qW<|b_n<|t_n<|zcr<|sp (yI 0)<|zjr<|ret1 (yI 0) rfl rfl ⟨_,rfl,?_⟩
 (exfalso;omega)
 all_goals exact⟨bV,aC,cF,wi.length,bH,bL,az,rfl,N,H.xm 4 5 [1,2,3] (zR 0 5) (by simp only[List.length_cons,List.length_append];omega)<|by simp only[List.length_cons,List.length_append];omega⟩
theorem maxI_ok(w:World)(l:yLI){al:yOA}{cl:Nat}{Fl:yLN}(hl:zP w Fl al cl l)(p0:1<=l.length):Calls Tryz.prog 114 #[Sv al l.length cl] w (Ret (fun v w'=>v=yI (maxL l)) w):=by
 refine en func114 ntmps114 ?_
 have H:=(St.start w).arg hl
 have C5:=qM hl
 clear hl
 have N:=Fresh.nil w.heap.size
 refine zcr<|sp (yI 0)<|zjcc<|sq 1<|oN rfl<|sp (Bv<|decide ((l.length:Int)<1))<|zjn<|cD rfl (fun h1=>?_)<|fun h1=>?_
 ·exfalso;omega
 refine qW<|t_n<|zcr<|sq 1 ?_
 obtain⟨b2,o3,rfl⟩:=H.addr 0 rfl qf
 refine oI rfl rfl<|oL rfl (H.vG 0 rfl 0 qf)<|sq 1<|zjcc<|sp (yI 1)<|zjn<|xe<|zT ((fun Z0=>fun m' ρ w5=>∃(xP:Env) (m:Int) (i:Nat),ρ=upd (upd (upd xP 0<|Sv (aa b2 o3) l.length cl) 3<|yI m) 4 (yI i)/\m=maxTo l i/\((i:Int)<=l.length)/\(1<=i)/\m'=(l.length-(i:Int)).toNat/\Fresh w.heap.size []/\St w w5 [] [Z0]) _) ((l.length-(1:Int)).toNat) ⟨_,l[0]!,1,uE3,(by exact(maxTo_one l).symm),qf,qf,rfl,N,H⟩ ?_
 clear H N
 rintro m' ρ w6 ⟨xP,m,i,rfl,rfl,i0,i2,rfl,N,H⟩
 refine zcc<|sp (yI i)<|sq 1<|oN rfl<|sq 1<|zjn<|cD rfl (fun h7=>?_)<|fun h7=>?_
 ·refine qW (t_n<|xM<|xe<|xX<|sq 2<|sp (yI i)<|oI rfl rfl<|oL rfl (H.vG 0 rfl i qf)<|sw<|o_max (maxTo l i) (l[i]!) rfl rfl<|sq 1<|xU<|b_n<|t_n<|xX<|sp (yI i)<|sw<|zS i 1 rfl rfl qf<|sq 1<|xU<|xu (m':=(l.length-((i+1):Int)).toNat) qf ⟨_,_,i+1,uE3,?_,?_,?_,rfl,N,H⟩)
  ·rfl
  ·omega
  ·omega
 refine zx4<|zcr<|sq 2<|zjr<|rH1 (yI<|maxTo l i) H ?_
 obtain rfl:i=l.length:=by omega
 rfl
theorem validOwners_ok(w:World)(s:qO)(own:yLI)(xh:zP w xY qU qR s.qA)(xI:zP w zX xC xx s.qB)(ff:zP w qa jz iA own)(p0:Qr s)(p1:Still s)(p2:own.length=s.qA.length)(p3:∃n,Xw own n):Calls Tryz.prog 110 #[.agg #[yI s.qN,Sv qU s.qA.length qR,Sv xC s.qB.length xx],Sv jz own.length iA] w (Ret (fun v w'=>v=Bv true) w):=by
 refine en func110 ntmps110 ?_
 have H:=(((St.start w).arg ff).arg xI).arg xh
 clear xh xI ff
 have N:=Fresh.nil w.heap.size
 obtain⟨n,p4⟩:=p3
 have e1:=max_own p4
 have e2:=p4.one
 have e3:=min_own p4
 have e4:=p4.bds.1
 refine zcr<|sw<|jq H (yS s qU qR xC xx) fun b1 w2 H=>sp (Bv false)<|zjcc<|sw<|xW (yS s qU qR xC xx) isAgg27 sizeOf27 rfl (qH (H.cells 0 rfl) 0 3)<|sw<|oq (validSystem_ok _ s (H.get 0 rfl).1 (H.get 1 rfl).1) H fun w4 H=>sp (Bv (!(dec<|Qr s)))<|sp (Bv (!(dec<|Qr s))) ?_
 cases h6:(!(dec (Qr s)))
 ·replace h6:=xf h6
  replace h6:=Qz h6
  refine qJ 9 rfl rfl<|sw<|xW (yS s qU qR xC xx) isAgg27 sizeOf27 rfl (qH (H.cells 0 rfl) 0 3)<|qJ 9 rfl rfl<|sw<|oq (canMeltAny_ok _ s (H.get 0 rfl).1 (H.get 1 rfl).1) H fun w8 H=>sp (Bv<|dec (¬Still s))<|sp (Bv<|dec (¬Still s)) ?_
  cases dD:(dec (¬Still s))
  ·replace dD:=vF dD
   refine qJ 13 rfl rfl<|sq 1<|qJ 13 rfl rfl<|oN rfl<|qJ 13 rfl rfl<|oF rfl<|qJ 13 rfl rfl<|oL rfl (H.cell 0 rfl rfl)<|qJ 13 rfl rfl<|oN rfl<|qJ 13 rfl rfl<|sq 2<|zjn<|vg _ rfl (fun cZ=>?_)<|fun cZ=>?_
   ·replace cZ:=bne_iff_ne.1 cZ
    exfalso;omega
   replace cZ:=xK cZ
   refine qW<|t_n<|zcc<|sq 1<|sw<|oq (maxI_ok _ own (H.get 2 rfl).1 qg) H fun Dv H=>sw<|zS (maxL own) 1 rfl rfl qf<|sp (yI 0)<|zjn<|xe<|zT ((fun Z0 Z1 Z2 Z3=>fun m' ρ H7=>∃(xP:Env) (i:Nat),ρ=upd (upd (upd xP 1<|Sv jz own.length iA) 23<|yI ((maxL own)+1)) 24 (yI i)/\((i:Int)<=((maxL own)+1))/\m'=(((maxL own)+1)-(i:Int)).toNat/\Fresh w.heap.size []/\St w H7 [Z0] [Z1,Z2,Z3]) _ _ _ _) ((((maxL own)+1)-(0:Int)).toNat) ⟨_,0,uE3,qf,rfl,N,H⟩ ?_
   clear H N
   rintro m' ρ If ⟨xP,i,rfl,i0,rfl,N,H⟩
   refine zcr<|sq 1<|zjn<|xM<|cD rfl (fun GF=>?_)<|fun GF=>?_
   ·refine qW (t_n<|xM<|xe<|zcr<|sp (yI i)<|sp (yI i)<|zjc<|sp (yI i)<|sp (Bv ((i:Int) == 4))<|sp (Bv ((i:Int) == 4)) ?_)
    cases lF:((i:Int) == 4)
    ·replace lF:=ne_of_beq_false lF
     refine qJ 29 rfl rfl<|sq 1<|qJ 29 rfl rfl<|sp (yI i)<|qJ 29 rfl rfl<|sw<|oq (containsI_ok _ own i (H.get 2 rfl).1) H fun KA H=>qJ 29 rfl rfl<|sq 2<|zjn<|cQ rfl (fun oZ=>?_)<|fun oZ=>?_
     ·exfalso;exact absurd (p4.all i qf qf) ql
     refine qW<|b_n<|t_n<|xX<|sw<|zS i 1 rfl rfl qf<|sq 1<|xU<|xu (m':=(((maxL own)+1)-((i+1):Int)).toNat) qf ⟨_,i+1,uE3,?_,rfl,N,H⟩
     ·omega
    replace lF:=eq_of_beq lF
    refine xO (zR 30 4)<|sp (Bv true)<|zjn<|cTr rfl<|zcr<|sp (Bv false)<|zjr<|zr5<|rH1 (Bv false) H ?_
    exfalso;omega
   refine zx4<|zcr<|sq 1<|sw<|oq (minI_ok _ own (H.get 2 rfl).1 qg) H fun D1 H=>sp (Bv<|decide ((minL own:Int)>=0))<|sp (Bv<|decide ((minL own:Int)>=0))<|zjr<|rH1 (Bv<|decide ((minL own:Int)>=0)) H ?_
   rw[decide_eq_true<|show minL own>=0 by omega]
  ·exact absurd p1<|Qz dD
 ·exact absurd p0<|vF<|xq h6
theorem tissueCode_ok(w:World)(s:qO)(own:yLI)(t:xn){zK:yOA}{zI:Nat}{jY:yLN}{vC:yOA}{vk:Nat}{Qe:yLN}{zg:yOA}{zf:Nat}{je:yLN}(xh:zP w xY qU qR s.qA)(xI:zP w zX xC xx s.qB)(ff:zP w qa jz iA own)(ve:zP w jY zK zI t.xF)(jd:zP w Qe vC vk t.qG)(zB:zP w je zg zf t.qF)(p0:Qr s)(p1:Still s)(p2:own.length=s.qA.length)(p3:∃n,Xw own n)(p4:vU s t)(p5:Whole t):Calls Tryz.prog 66 #[.agg #[yI s.qN,Sv qU s.qA.length qR,Sv xC s.qB.length xx],Sv jz own.length iA,.agg #[Sv zK t.xF.length zI,Sv vC t.qG.length vk,Sv zg t.qF.length zf]] w (Ret (fun v w'=>v=yI 0) w):=by
 refine en func66 ntmps66 ?_
 have H:=((((((St.start w).arg zB).arg jd).arg ve).arg ff).arg xI).arg xh
 clear xh xI ff ve jd zB
 refine zcr<|sw<|jq H (yS s qU qR xC xx) fun b1 w2 H=>sw<|jq H (yT t zK zI vC vk zg zf) fun b3 w4 H=>sp (yI 0)<|zjcc<|sw<|xW (yS s qU qR xC xx) isAgg27 sizeOf27 rfl (qH (H.cells 1 rfl) 0 3)<|sq 1<|sw<|oq (validOwners_ok _ s own (H.get 0 rfl).1 (H.get 1 rfl).1 (H.get 2 rfl).1 qg qg qg qg) H fun w6 H=>sp (Bv !true)<|sp (Bv !true) ?_
 cases h8:(!true)
 ·replace h8:=xf h8
  refine qJ 11 rfl rfl<|sw<|xW (yS s qU qR xC xx) isAgg27 sizeOf27 rfl (qH (H.cells 1 rfl) 0 3)<|qJ 11 rfl rfl<|sw<|xW (yT t zK zI vC vk zg zf) isAgg31 sizeOf31 rfl (qH (H.cells 0 rfl) 0 3)<|qJ 11 rfl rfl<|sw<|oq (isWhole_ok _ s t (H.get 0 rfl).1 (H.get 1 rfl).1 (H.get 3 rfl).1 (H.get 4 rfl).1 (H.get 5 rfl).1) H fun sI H=>qJ 11 rfl rfl<|sq 2<|zjn<|vg _ rfl (fun h=>absurd ⟨⟨p0,p4⟩,p5⟩<|vF<|xq h)<|fun lw=>?_
  replace lw:=xf lw
  replace lw:=Qz lw
  refine qW<|t_n<|zcr<|sp (yI 0)<|zjr<|rH1 (yI 0) H ?_
  rfl
 replace h8:=xq h8
 refine xO (zR 12 4)<|sp (Bv true)<|zjn<|cTr rfl<|zcr<|sp (yI 1)<|zjr<|t_r<|rH1 (yI 1) H ?_
 exfalso;contradiction
end
end Go.Proofs.YtghikkinnchndaaGreat
