/- Walks and laws, printed by program and by hand: what each function comes to, for all arguments, part 6. -/
import Derived.Test.YtghikkinnchndaaGreatA5
import Derived.Shelf.Bits.Mul64
namespace Go.Proofs.YtghikkinnchndaaGreat
open Go.Proofs.Tryz
set_option linter.unusedVariables false
set_option linter.unusedSimpArgs false
set_option maxRecDepth 100000
set_option maxHeartbeats 4000000
open Go.RowKit
open Go.Proofs.Tryz
open Go.Proofs.YtghikkinnchndaaGreat.Tot (tot)
open Go.Proofs.YtghikkinnchndaaGreat.Mark (cnt mrk mkd mkd_mark cnt_mark)
variable {Bq vX zH:yLN} {Ns:List yLN} {W0 w:World} {q8 xG xf:yOA} {ps:List Prv} {t u:TypeId} {x y:Operand} {Γ:List Fact}
section
theorem l08Servers_ok (w:World) (dQ:yLI) {AG:yOA} {A3:Nat} {Rk:yLN} (A8:zP w Rk AG A3 dQ) (p0:∃ n,Vt dQ n):Calls Tryz.prog 101 #[Sv AG dQ.length A3] w (Ret (fun v w' =>v=yI (srvTo dQ dQ.length)) w):=by
 refine en func101 ntmps101 ?_
 have H:=(St.start w).arg A8
 have aqR:=qO A8
 clear A8
 have N:=Fresh.nil w.heap.size
 obtain ⟨m,p1⟩:=p0
 have p2:=p1.one
 refine zcr<|sp (yI 0)<|zjc<|sp (yI 0)<|zjcc<|sp (yI 0)<|zjn<|xg<|zU ((fun Z0=>fun m' ρ w1=>∃ (xI:Env) (fY:Int) (i:Nat),ρ=upd (upd (upd xI 0<|Sv AG dQ.length A3) 3<|yI fY) 4 (yI i)/\fY=srvTo dQ i/\((i:Int)<=dQ.length)/\m' =(dQ.length - (i:Int)).toNat/\Fresh w.heap.size []/\St w w1 [] [Z0]) _) ((dQ.length - (0:Int)).toNat) ⟨_,0,0,uE3,(by rfl),qf,rfl,N,H⟩ ?_
 clear H N
 rintro m' ρ w2 ⟨xI,fY,i,rfl,rfl,i0,rfl,N,H⟩
 have p3:=srvTo_bd p1 i qf
 refine zcc<|sp (yI i)<|sq 1<|oN rfl<|sq 1<|zjn<|cD rfl (fun h3=>?_)<|fun h3=>?_
 ·have p4:=p1.bds.2 i qf
  refine xk<|t_n<|xH<|xg<|xZ<|sq 2<|sp (yI i) ?_
  obtain ⟨b4,o5,rfl⟩:=H.addr 0 rfl qf
  refine oI rfl rfl<|oL rfl (H.jd 0 rfl i qf)<|sw<|zV (dQ[i]!) 1 rfl rfl qf<|sw<|oq (l00Max_ok w2 (srvTo dQ i) ((dQ[i]!)+1)) H fun w8 H=>sq 1<|xW<|b_n<|t_n<|xZ<|sp (yI i)<|sw<|zV i 1 rfl rfl qf<|sq 1<|xW<|xq (m' :=(dQ.length - ((i+1):Int)).toNat) qf ⟨_,_,i+1,uE3,?_,?_,rfl,N,H⟩
  ·rfl
  ·omega
 refine zx4<|zcr<|sq 2<|zjr<|rH1 (yI<|srvTo dQ i) H ?_
 rw [show i=dQ.length by omega]
theorem begin_spec (s:qM) (own:yLI) (ap:yOA) (cp:Nat) (Fp:yLN) (ar:yOA) (cr:Nat) (Fr:yLN) (ao:yOA) (co:Nat) (Fo:yLN) (t:xh) (tA:yOA) (cA:Nat) (FA:yLN) (tB:yOA) (cB:Nat) (FB:yLN) (tU:yOA) (cU:Nat) (FU:yLN) (sb:Nat) (tb:Nat) (n:Nat) (H:St W0 w ((.box sb (yS s ap cp ar cr) 27)::(.box tb (yT t tA cA tB cB tU cU) 31)::ps) ((sF false Fp ap cp s.qA)::(sF false Fr ar cr s.qB)::(sF false Fo ao co own)::(sF false FA tA cA t.xn)::(sF false FB tB cB t.qG)::(sF false FU tU cU t.qE)::Γ)) (N:Fresh W0.heap.size (Ns)) (K0:Kept Ns Γ) (p0:Giv s own n) (p1:Vt own n) (p2:vM s t) (OL:∀ f∈(sF false Fp ap cp s.qA::sF false Fr ar cr s.qB::sF false Fo ao co own::sF false FA tA cA t.xn::sF false FB tB cB t.qG::sF false FU tU cU t.qE::Γ),∀ b∈f.F,b < W0.heap.size):Calls Tryz.prog 62 #[pp sb 0,Sv ao own.length co,pp tb 0] w (fun e w' =>∃ v,e=.returned v/\∃ (bk:Nat) (eG:yOA) (eo:Nat) (cC:Nat) (bZ:List Value) (aF:yLN) (cM:yOA) (ke:Nat) (bJ:Nat) (bM:List Value) (az:yLN),v=pp bk 0/\Fresh W0.heap.size (aF::az::Ns)/\St W0 w' ((.box sb (yS s ap cp ar cr) 27)::(.box tb (yT t tA cA tB cB tU cU) 31)::(.box bk [pp sb 0,Sv ao own.length co,Sv eG eo cC,Sv cM ke bJ] 86)::(rr eG eo cC 49 16 bZ)::(rr cM ke bJ 77 4 bM)::ps) ((sF false Fp ap cp s.qA)::(sF false Fr ar cr s.qB)::(sF false Fo ao co own)::(sF false FA tA cA t.xn)::(sF false FB tB cB t.qG)::(sF false FU tU cU t.qE)::(qL true aF bZ ((qW s own t n).qF))::(qL true az bM ((qW s own t n).zu))::Γ)):=by
 refine en func62 ntmps62 ?_
 have ug:=qO (H.get 0 rfl).1
 have th:=qO (H.get 1 rfl).1
 have sy:=qO (H.get 2 rfl).1
 have RB:=qO (H.get 3 rfl).1
 have TG:=qO (H.get 4 rfl).1
 have RD:=qO (H.get 5 rfl).1
 have e1:=srvTo_all p1
 have e2:=p1.one
 have e3:∃ n,Vt own n:=⟨n,p1⟩
 have e4:=p1.bds.1
 have p6:own.length=s.qA.length:=p0.len
 have p7:=p0.sys.1.2.1
 have p8:zF s=s.qA.length:=rfl
 have p9:=p0.sys.1.1
 have p11:=p2.2.1
 have b3:=(jc p2.2.2.2.1).1
 refine zcr<|sq 1<|zjc<|sq 2<|sw<|jb [pp sb 0,Sv ao own.length co,yN,yN] [(0,pp sb 0),(1,Sv ao own.length co)]<|sw<|jq H [pp sb 0,Sv ao own.length co,yN,yN] fun b1 w2 H=>sq 1<|zjcc<|sp (yI 0)<|zjn<|xg ?_
 replace H:=H.nilRow 49 16
 replace H:=H.jZ (α:=zA)
 refine zU ((fun Z0 Z1 Z2 Z3 Z4 Z5 Z6 Z7=>fun m' ρ w3=>∃ (xI:Env) (k:Nat) (gq:yOA) (XY:Nat) (gt:Nat) (cq:List zA) (yx:List Value) (qU:yLN),ρ=upd (upd (upd (upd (upd xI 0<|pp sb 0) 1<|Sv ao own.length co) 2<|pp tb 0) 7<|pp b1 0) 8 (yI k)/\cq=QB s own t k/\((k:Int)<=(srvTo own own.length))/\m' =((srvTo own own.length) - (k:Int)).toNat/\Fresh W0.heap.size (qU::Ns)/\St W0 w3 ((rr gq XY gt 49 16 yx)::(.box b1 [pp sb 0,Sv ao own.length co,Sv gq XY gt,yN] 86)::Z0::Z1::ps) ((qL true qU yx cq)::Z2::Z3::Z4::Z5::Z6::Z7::Γ)) _ _ _ _ _ _ _ _) (((srvTo own own.length) - (0:Int)).toNat) ⟨_,0,none,0,0,([]:List zA),[],[],uE5,(by rfl),qf,rfl,N.emp,H⟩ ?_
 clear H N
 rintro m' ρ w4 ⟨xI,k,gq,XY,gt,cq,yx,qU,rfl,rfl,i0,rfl,N,H⟩
 have wl:=H.xe (α:=zA) 0 rfl 0 rfl qj
 have kl:=beginTo_len s own t k
 refine zcc<|sp (yI k)<|sq 1<|sw<|oq (l08Servers_ok _ own (H.get 3 rfl).1 qg) H fun w6 H=>sq 1<|zjn<|cD rfl (fun h8=>?_)<|fun h8=>?_
 ·refine xk (t_n<|xH<|xg<|zcr<|sq 2<|oF rfl<|oL rfl (H.cell 2 rfl rfl)<|sw<|jE H underlying24 ti2 s.qP.toNat rfl rfl qf qf qf fun b9 DN H=>sw<|jb [yI 0,yN,Sv (aa b9 0) s.qP.toNat s.qP.toNat,Bv false,yN,yN,yN,yN] [(2,Sv (aa b9 0) s.qP.toNat s.qP.toNat)]<|sw<|xU H ti47 [yI 0,yN,yN,Bv false,yN,yN,yN,yN] fun sI KA H=>(sw<|zC H 0 [yI 0,yN,Sv (aa b9 0) s.qP.toNat s.qP.toNat,Bv false,yN,yN,yN,yN] sizeOf47 fun II H=>?_))
  try dsimp only [List.set] at H
  refine zjcc<|sp (yI 0)<|zjn<|xg ?_
  replace H:=H.nilRow 24 1
  replace H:=H.jZ (α:=yLI)
  refine zU ((fun Z0 Z1 Z2 Z3 Z4 Z5 Z6 Z7 Z8 Z9 fH fZ=>fun m' ρ w14=>∃ (xI:Env) (c:Nat) (Vh:yOA) (XF:Nat) (Ve:Nat) (aV:yLL) (QV:List Value) (vU:yLN),ρ=upd (upd (upd (upd (upd (upd (upd xI 0<|pp sb 0) 1<|Sv ao own.length co) 2<|pp tb 0) 7<|pp b1 0) 8<|yI k) 9<|pp sI 0) 10 (yI c)/\aV=yP s own t k c/\((c:Int)<=own.length)/\m' =(own.length - (c:Int)).toNat/\Fresh W0.heap.size (qU::vU::Ns)/\St W0 w14 ((rr Vh XF Ve 24 1 QV)::(.box sI [yI 0,Sv Vh XF Ve,Sv (aa b9 0) s.qP.toNat s.qP.toNat,Bv false,yN,yN,yN,yN] 47)::Z0::Z1::Z2::Z3::Z4::ps) ((qL true vU QV aV)::Z5::Z6::Z7::Z8::Z9::fH::fZ::Γ)) _ _ _ _ _ _ _ _ _ _ _ _) ((own.length - (0:Int)).toNat) ⟨_,0,none,0,0,([]:yLL),[],[],uE7,(by rfl),qf,rfl,(N.emp.qY 2 [1,0]<|by simp only [List.length_cons,List.length_append];omega),H⟩ ?_
  clear H N
  rintro m' ρ PG ⟨xI,c,Vh,XF,Ve,aV,QV,vU,rfl,rfl,i0,rfl,N,H⟩
  have rE:=H.xe (α:=yLI) 0 rfl 0 rfl qj
  have bl:(yP s own t k c).length=c:=begTo_len
  refine zcc<|sp (yI c)<|sq 1<|oN rfl<|sq 1<|zjn<|cD rfl (fun UD=>?_)<|fun UD=>?_
  ·refine xk (t_n<|xH<|xg<|zcr<|sq 1<|sp (yI c) ?_)
   obtain ⟨lT,o18,rfl⟩:=H.addr 4 rfl qf
   refine oI rfl rfl<|oL rfl (H.jd 4 rfl c qf)<|sp (yI k)<|sq 1<|zjn<|cE rfl (fun Bk=>?_)<|fun Bk=>?_
   ·refine zY 3 rfl H [0,1,2,3,4,5,6] [0,1,2,3,4,5,6,7] fun H=>?_
    dsimp only [jR,yE]
    have S:=H.zK (zR 0 7)<|zR 0 8
    refine tF 0 rfl rfl S ?_
    refine tL 1 rfl rfl (fun _ h=>h.cell 1 rfl rfl) S ?_
    refine rtl 2 S ?_
    refine rtl 3 S ?_
    refine tF 4 rfl rfl S ?_
    refine tL 5 rfl rfl (fun _ h=>h.cell 6 rfl rfl) S ?_
    refine rtp 6 (yI c) S ?_
    obtain ⟨wt,o23,rfl⟩:=H.addr 6 rfl qf
    obtain ⟨au8,axG,aGV,H⟩:=H.yD 6 rfl c c qf qf qf
    refine tI 7 rfl rfl rfl (H.pick (zR 0 7)<|zR 2 8)<|ro 8 rfl<|zB (Sv au8 ((t.qG[c]!).length) axG) isAgg24 rfl (H.vW 1 rfl 0 rfl)<|⟨H.pick (zR 0 7)<|zR 2 8,(ro 9 rfl ?_)⟩
    try (have b2:=(jc (p2.2.2.2.2 c qf).1).1)
    have aGb:=H.base.size
    have aIt:=jB (H.ltN (L:=[qU,vU]) [3,2])<|H.ltK<|K0.behind 10 rfl
    refine oc (X6 _ (t.qG[c]!) (H.get 0 rfl).1 qg) ?_
    rintro v31 Rf r31 x30
    replace H:=H.zI x30 r31
    obtain ⟨a32,c33,rfl,aDv,aIG⟩:=H.jW 0 rfl
    refine ⟨H.pick (zR 1 7)<|zR 2 8,(ro 10 rfl<|zx H underlying29 ti24 [Sv a32 ((t.qG[c]!).length) c33] fun b36 w37 H=>⟨H.pick (zR 2 7)<|zR 2 8,(xy qh<|xM ?_)⟩)⟩
    obtain ⟨G41,N,aFH,H⟩:=H.ve 1 rfl N<|fun F hF b hb=>(List.mem_append.1<|show F∈[qU,vU]++Ns from hF).elim (fun h=>(H.vg (L:=[qU,vU]) [3,2]) F h b hb) fun h=>H.jH (K0.behind 10 rfl) F h b hb
    try dsimp only [List.set] at H
    refine sw<|zJ H 2 rfl 0 rfl underlying29 ti24 rfl qj rfl rfl rfl qw qp qf fun a38 c39 w40 H=>?_
    try dsimp only [List.set] at H
    replace H:=H.QR 3 rfl 0 rfl
    replace N:Fresh W0.heap.size ((vU++G41)::qU::Ns):=(N.qY 3 [2,0,1]<|by simp only [List.length_cons,List.length_append];omega).join
    refine oF rfl<|sw<|xO H 3 [yI 0,Sv a38 (XF+1) c39,Sv (aa b9 0) s.qP.toNat s.qP.toNat,Bv false,yN,yN,yN,yN] sizeOf29 fun w43 H=>?_
    try dsimp only [List.set] at H
    refine xW<|b_n<|t_n<|xZ<|sp (yI c)<|sw<|zV c 1 rfl rfl qf<|sq 1<|xW<|xq (m' :=(own.length - ((c+1):Int)).toNat) qf ⟨_,c+1,_,_,_,_,_,_,uE7,?_,?_,rfl,(N.qY 2 [1,0]<|by simp only [List.length_cons,List.length_append];omega),H.qY 9 12 (zR 2 7) (0::zR 5 7) (by simp only [List.length_cons,List.length_append];omega)<|by simp only [List.length_cons,List.length_append];omega⟩
    ·first | exact begTo_yes ql | exact begTo_no ql
    ·omega
   refine zY 3 rfl H [0,1,2,3,4,5,6] [0,1,2,3,4,5,6,7] fun H=>?_
   dsimp only [jR,yE]
   have S:=H.zK (zR 0 7)<|zR 0 8
   refine tF 0 rfl rfl S ?_
   refine tL 1 rfl rfl (fun _ h=>h.cell 1 rfl rfl) S ?_
   refine rtl 2 S ?_
   refine rtl 3 S ?_
   refine tF 4 rfl rfl S ?_
   refine tL 5 rfl rfl (fun _ h=>h.cell 5 rfl rfl) S ?_
   refine ro 6 rfl<|jE H underlying24 ti2 s.qP.toNat rfl rfl qf qf qf fun b45 S8 H=>⟨H.pick (zR 1 7)<|zR 0 8,(ro 7 rfl<|zx H underlying29 ti24 [Sv (aa b45 0) s.qP.toNat s.qP.toNat] fun b47 w48 H=>⟨H.pick (zR 2 7)<|zR 0 8,(xy qh<|xM ?_)⟩)⟩
   obtain ⟨iF,N,ayo,H⟩:=H.ve 1 rfl N<|fun F hF b hb=>(List.mem_append.1<|show F∈[qU,vU]++Ns from hF).elim (fun h=>(H.vg (L:=[qU,vU]) [1,0]) F h b hb) fun h=>H.jH (K0.behind 8 rfl) F h b hb
   try dsimp only [List.set] at H
   refine sw<|zJ H 2 rfl 0 rfl underlying29 ti24 rfl qj rfl rfl rfl qw qp qf fun Us YF w51 H=>?_
   try dsimp only [List.set] at H
   replace H:=H.QR 1 rfl 0 rfl
   replace N:Fresh W0.heap.size ((vU++iF)::qU::Ns):=(N.qY 3 [2,0,1]<|by simp only [List.length_cons,List.length_append];omega).join
   refine oF rfl<|sw<|xO H 3 [yI 0,Sv Us (XF+1) YF,Sv (aa b9 0) s.qP.toNat s.qP.toNat,Bv false,yN,yN,yN,yN] sizeOf29 fun w54 H=>?_
   try dsimp only [List.set] at H
   refine xW<|b_n<|t_n<|xZ<|sp (yI c)<|sw<|zV c 1 rfl rfl qf<|sq 1<|xW<|xq (m' :=(own.length - ((c+1):Int)).toNat) qf ⟨_,c+1,_,_,_,_,_,_,uE7,?_,?_,rfl,(N.qY 2 [1,0]<|by simp only [List.length_cons,List.length_append];omega),H.qY 9 10 (zR 2 7) (0::zR 3 7) (by simp only [List.length_cons,List.length_append];omega)<|by simp only [List.length_cons,List.length_append];omega⟩
   ·first | exact begTo_yes ql | exact begTo_no ql
   ·omega
  refine zx4<|zcc<|sq 1 ?_
  obtain ⟨PU,o56,rfl⟩:=H.addr 4 rfl qf
  refine oI rfl rfl<|oL rfl (H.jd 4 rfl 0 qf)<|sp (yI k)<|sq 1<|zjn<|cE rfl (fun h58=>?_)<|fun h58=>?_
  ·refine xZ (sq 2<|oF rfl<|oL rfl (H.cell 6 rfl rfl) ?_)
   try (have b2:=(jc (p2.2.2.2.2 c qf).1).1)
   have aoL:=H.base.size
   have aqc:=jB (H.ltN (L:=[qU,vU]) [1,0])<|H.ltK<|K0.behind 8 rfl
   refine sw<|oc (X6 _ t.qE (H.get 7 rfl).1 qg) ?_
   rintro v64 w62 r64 x63
   replace H:=H.zI x63 r64
   obtain ⟨a65,c66,rfl,aDK,aED⟩:=H.jW 0 rfl
   refine oF rfl<|sw<|xO H 2 [yI 0,Sv Vh XF Ve,Sv a65 t.qE.length c66,Bv false,yN,yN,yN,yN] sizeOf24 fun w69 H=>?_
   try dsimp only [List.set] at H
   refine zjn<|zY 4 rfl H [2,3,5,6,7] [0,1,2,3,4,5,6,7] fun H=>?_
   dsimp only [jR,yE]
   have S:=H.zK [2,3,5,6,7]<|zR 0 8
   refine rtl 0 S ?_
   refine rtl 1 S ?_
   refine rtl 2 S ?_
   refine tF 3 rfl rfl S ?_
   refine tF 4 rfl rfl S ?_
   refine tL 5 rfl rfl (fun _ h=>h.cell 2 rfl rfl) S ?_
   refine rt 6 _ (yh (cs:=[yI 0,Sv Vh XF Ve,Sv a65 t.qE.length c66,Bv false,yN,yN,yN,yN]) isAgg47 sizeOf47 rfl<|fun _ h=>qK (h.cells 0 rfl) 0 8) S ?_
   refine ro 7 rfl ?_
   obtain ⟨G71,abm,h73⟩:=H.rowIsR (α:=yLI) 1 rfl 0 rfl qj
   obtain ⟨G74,ahs,h76⟩:=H.rowIsI 0 rfl
   replace H:=H.addNil (α:=Bool)
   replace H:=H.addNil (α:=yLI)
   replace H:=H.addNil (α:=yLL)
   have abI:=H.base.size
   have abr:=jB (H.ltN (L:=[qU,vU]) [4,3])<|H.ltK<|K0.behind 11 rfl
   refine oc (l08Copy_ok _ (⟨0,(yP s own t k c),t.qE,false,([]:List Bool),([]:yLL),([]:List yLL),([]:List yLL)⟩:zn) (by have hz:=(qK (H.cells 2 rfl) 0 8);rw [abm] at hz;exact hz) (abm▸h73) h76 (H.get 2 rfl).1 (H.get 1 rfl).1 (H.get 0 rfl).1 (H.get 0 rfl).1<|by first | assumption | exact sbeg_sm p0.sys p2 qf<|by first | omega | (rw [List.length_replicate];omega)) ?_
   rintro _ w78 ⟨tX,ahU,uz,ajC,ny,oM,aaP,oD,Ar,arv,yr,oP,acr,oH,ZR,dB,yy,are,Bd,asX,et,vb,ahx,tn,agq,dq,rfl,M,K⟩ _
   replace N:=N.merge abI abr M
   replace H:=H.merge K M
   dsimp only [List.cons_append,List.nil_append] at H
   obtain rfl:=H.xe (α:=yLI) 0 rfl 0 rfl qj
   obtain rfl:=H.Qc 1 rfl
   obtain rfl:=H.rowNB 2 rfl
   obtain rfl:=H.xe (α:=yLI) 3 rfl 1 rfl qj
   obtain rfl:=H.xe (α:=yLL) 4 rfl 2 rfl qj
   obtain rfl:=H.xe (α:=yLL) 5 rfl 3 rfl qj
   refine ⟨H.pick [8,9,11,12,13]<|zR 7 8,(ro 8 rfl ?_)⟩
   refine jb [yI 0,Sv Vh XF Ve,Sv a65 t.qE.length c66,Bv false,yN,yN,yN,yN,yI ((⟨0,(yP s own t k c),t.qE,false,([]:List Bool),([]:yLL),([]:List yLL),([]:List yLL)⟩:zn).qN),Sv tX (((⟨0,(yP s own t k c),t.qE,false,([]:List Bool),([]:yLL),([]:List yLL),([]:List yLL)⟩:zn).qG).length) uz,Sv oM (((⟨0,(yP s own t k c),t.qE,false,([]:List Bool),([]:yLL),([]:List yLL),([]:List yLL)⟩:zn).qE).length) oD,Bv ((⟨0,(yP s own t k c),t.qE,false,([]:List Bool),([]:yLL),([]:List yLL),([]:List yLL)⟩:zn).qQ),Sv Ar (((⟨0,(yP s own t k c),t.qE,false,([]:List Bool),([]:yLL),([]:List yLL),([]:List yLL)⟩:zn).vz).length) yr,Sv oP (((⟨0,(yP s own t k c),t.qE,false,([]:List Bool),([]:yLL),([]:List yLL),([]:List yLL)⟩:zn).qJ).length) oH,Sv yy (((⟨0,(yP s own t k c),t.qE,false,([]:List Bool),([]:yLL),([]:List yLL),([]:List yLL)⟩:zn).vJ).length) Bd,Sv vb (((⟨0,(yP s own t k c),t.qE,false,([]:List Bool),([]:yLL),([]:List yLL),([]:List yLL)⟩:zn).xP).length) tn] [(0,.agg #[yI 0,Sv Vh XF Ve,Sv a65 t.qE.length c66,Bv false,yN,yN,yN,yN]),(1,.agg #[yI ((⟨0,(yP s own t k c),t.qE,false,([]:List Bool),([]:yLL),([]:List yLL),([]:List yLL)⟩:zn).qN),Sv tX (((⟨0,(yP s own t k c),t.qE,false,([]:List Bool),([]:yLL),([]:List yLL),([]:List yLL)⟩:zn).qG).length) uz,Sv oM (((⟨0,(yP s own t k c),t.qE,false,([]:List Bool),([]:yLL),([]:List yLL),([]:List yLL)⟩:zn).qE).length) oD,Bv ((⟨0,(yP s own t k c),t.qE,false,([]:List Bool),([]:yLL),([]:List yLL),([]:List yLL)⟩:zn).qQ),Sv Ar (((⟨0,(yP s own t k c),t.qE,false,([]:List Bool),([]:yLL),([]:List yLL),([]:List yLL)⟩:zn).vz).length) yr,Sv oP (((⟨0,(yP s own t k c),t.qE,false,([]:List Bool),([]:yLL),([]:List yLL),([]:List yLL)⟩:zn).qJ).length) oH,Sv yy (((⟨0,(yP s own t k c),t.qE,false,([]:List Bool),([]:yLL),([]:List yLL),([]:List yLL)⟩:zn).vJ).length) Bd,Sv vb (((⟨0,(yP s own t k c),t.qE,false,([]:List Bool),([]:yLL),([]:List yLL),([]:List yLL)⟩:zn).xP).length) tn])]<|⟨H.pick [8,9,11,12,13]<|zR 7 8,(ro 9 rfl ?_)⟩
   refine zx H underlying36 ti49 [yI 0,Sv Vh XF Ve,Sv a65 t.qE.length c66,Bv false,yN,yN,yN,yN,yI ((⟨0,(yP s own t k c),t.qE,false,([]:List Bool),([]:yLL),([]:List yLL),([]:List yLL)⟩:zn).qN),Sv tX (((⟨0,(yP s own t k c),t.qE,false,([]:List Bool),([]:yLL),([]:List yLL),([]:List yLL)⟩:zn).qG).length) uz,Sv oM (((⟨0,(yP s own t k c),t.qE,false,([]:List Bool),([]:yLL),([]:List yLL),([]:List yLL)⟩:zn).qE).length) oD,Bv ((⟨0,(yP s own t k c),t.qE,false,([]:List Bool),([]:yLL),([]:List yLL),([]:List yLL)⟩:zn).qQ),Sv Ar (((⟨0,(yP s own t k c),t.qE,false,([]:List Bool),([]:yLL),([]:List yLL),([]:List yLL)⟩:zn).vz).length) yr,Sv oP (((⟨0,(yP s own t k c),t.qE,false,([]:List Bool),([]:yLL),([]:List yLL),([]:List yLL)⟩:zn).qJ).length) oH,Sv yy (((⟨0,(yP s own t k c),t.qE,false,([]:List Bool),([]:yLL),([]:List yLL),([]:List yLL)⟩:zn).vJ).length) Bd,Sv vb (((⟨0,(yP s own t k c),t.qE,false,([]:List Bool),([]:yLL),([]:List yLL),([]:List yLL)⟩:zn).xP).length) tn] fun b88 w89 H=>(⟨H.pick [9,10,12,13,14]<|zR 7 8,(ro 10 rfl ?_)⟩)
   have H0:=H
   obtain ⟨yn,alj,aEl,H⟩:=H.vK (α:=yLI) 8 rfl 7 rfl qj
   replace N:Fresh W0.heap.size (yn::ny::dB::et::dq::qU::Ns):=Fresh.ice (N.qY 6 (5::zR 0 5)<|by simp only [List.length_cons,List.length_append];omega) H0 8 alj.1 alj.2<|fun F hF b hb=>(List.mem_append.1<|show F∈[ny,dB,et,dq,qU]++Ns from hF).elim (fun h=>(H0.vg (L:=[ny,dB,et,dq,qU]) [0,1,2,3,8]) F h b hb) fun h=>H0.jH (K0.behind 15 rfl) F h b hb
   clear H0
   try dsimp only [List.set] at H
   obtain ⟨CH,N,aKl,H⟩:=H.ve 7 rfl N<|fun F hF b hb=>(List.mem_append.1<|show F∈[yn,ny,dB,et,dq,qU]++Ns from hF).elim (fun h=>(H.vg (L:=[yn,ny,dB,et,dq,qU]) [0,1,2,3,4,9]) F h b hb) fun h=>H.jH (K0.behind 16 rfl) F h b hb
   try dsimp only [List.set] at H
   have H0:=H
   obtain ⟨Fe,Y3,aHM,H⟩:=H.vK (α:=yLI) 1 rfl 2 rfl qj
   replace N:Fresh W0.heap.size (Fe::CH::yn::dB::et::dq::qU::Ns):=Fresh.ice (N.qY 7 [2,0,1,3,4,5,6]<|by simp only [List.length_cons,List.length_append];omega) H0 1 Y3.1 Y3.2<|fun F hF b hb=>(List.mem_append.1<|show F∈[CH,yn,dB,et,dq,qU]++Ns from hF).elim (fun h=>(H0.vg (L:=[CH,yn,dB,et,dq,qU]) [0,1,3,4,5,10]) F h b hb) fun h=>H0.jH (K0.behind 17 rfl) F h b hb
   clear H0
   try dsimp only [List.set] at H
   obtain ⟨sj,N,aB2,H⟩:=H.ve 2 rfl N<|fun F hF b hb=>(List.mem_append.1<|show F∈[Fe,CH,yn,dB,et,dq,qU]++Ns from hF).elim (fun h=>(H.vg (L:=[Fe,CH,yn,dB,et,dq,qU]) [0,1,2,4,5,6,11]) F h b hb) fun h=>H.jH (K0.behind 18 rfl) F h b hb
   try dsimp only [List.set] at H
   obtain ⟨mY,N,aB5,H⟩:=H.freezeB 3 rfl N<|fun F hF b hb=>(List.mem_append.1<|show F∈[sj,Fe,CH,yn,dB,et,dq,qU]++Ns from hF).elim (fun h=>(H.vg (L:=[sj,Fe,CH,yn,dB,et,dq,qU]) [0,1,2,3,5,6,7,12]) F h b hb) fun h=>H.jH (K0.behind 19 rfl) F h b hb
   try dsimp only [List.set] at H
   have H0:=H
   obtain ⟨AU,VI,Mk,H⟩:=H.vK (α:=yLI) 4 rfl 6 rfl qj
   replace N:Fresh W0.heap.size (AU::mY::sj::Fe::CH::yn::et::dq::qU::Ns):=Fresh.ice (N.qY 9 [5,0,1,2,3,4,6,7,8]<|by simp only [List.length_cons,List.length_append];omega) H0 4 VI.1 VI.2<|fun F hF b hb=>(List.mem_append.1<|show F∈[mY,sj,Fe,CH,yn,et,dq,qU]++Ns from hF).elim (fun h=>(H0.vg (L:=[mY,sj,Fe,CH,yn,et,dq,qU]) [0,1,2,3,4,7,8,13]) F h b hb) fun h=>H0.jH (K0.behind 20 rfl) F h b hb
   clear H0
   try dsimp only [List.set] at H
   have H0:=H
   obtain ⟨M9,W7,az5,H⟩:=H.vK (α:=yLL) 5 rfl 8 rfl qj
   replace N:Fresh W0.heap.size (M9::AU::mY::sj::Fe::CH::yn::dq::qU::Ns):=Fresh.ice (N.qY 9 [6,0,1,2,3,4,5,7,8]<|by simp only [List.length_cons,List.length_append];omega) H0 5 W7.1 W7.2<|fun F hF b hb=>(List.mem_append.1<|show F∈[AU,mY,sj,Fe,CH,yn,dq,qU]++Ns from hF).elim (fun h=>(H0.vg (L:=[AU,mY,sj,Fe,CH,yn,dq,qU]) [0,1,2,3,4,5,9,14]) F h b hb) fun h=>H0.jH (K0.behind 21 rfl) F h b hb
   clear H0
   try dsimp only [List.set] at H
   have H0:=H
   obtain ⟨akQ,W9,aAu,H⟩:=H.vK (α:=yLL) 6 rfl 10 rfl qj
   replace N:Fresh W0.heap.size (akQ::M9::AU::mY::sj::Fe::CH::yn::qU::Ns):=Fresh.ice (N.qY 9 [7,0,1,2,3,4,5,6,8]<|by simp only [List.length_cons,List.length_append];omega) H0 6 W9.1 W9.2<|fun F hF b hb=>(List.mem_append.1<|show F∈[M9,AU,mY,sj,Fe,CH,yn,qU]++Ns from hF).elim (fun h=>(H0.vg (L:=[M9,AU,mY,sj,Fe,CH,yn,qU]) [0,1,2,3,4,5,6,15]) F h b hb) fun h=>H0.jH (K0.behind 22 rfl) F h b hb
   clear H0
   try dsimp only [List.set] at H
   refine zJ H 11 rfl 0 rfl underlying36 ti49 rfl qj rfl rfl rfl qw qp qf fun a90 c91 w92 H=>?_
   try dsimp only [List.set] at H
   replace H:=H.snoc_ServerD 16 rfl 0 7 rfl 6 rfl false 14 rfl 13 rfl 12 rfl 12 rfl ((⟨0,(yP s own t k c),t.qE,false,([]:List Bool),([]:yLL),([]:List yLL),([]:List yLL)⟩:zn).qN) 5 rfl 4 rfl ((⟨0,(yP s own t k c),t.qE,false,([]:List Bool),([]:yLL),([]:List yLL),([]:List yLL)⟩:zn).qQ) 3 rfl 2 rfl 1 rfl 0 rfl
   replace N:Fresh W0.heap.size ((qU++(yn++CH++[]++[]++[]++[]++Fe++sj++mY++AU++M9++akQ))::Ns):=(N.emp.emp.emp.emp.qY 13 [11,10,0,1,2,3,9,8,7,6,5,4,12]<|by simp only [List.length_cons,List.length_append];omega).join.join.join.join.join.join.join.join.join.join.join.swap.join
   refine ⟨H.pick [9,10,12,13,14]<|zR 16 8,(xy qh<|xM<|sq 1<|oF rfl<|oF rfl<|sw<|xO H 12 [pp sb 0,Sv (aa PU o56) own.length co,Sv a90 (XY+1) c91,yN] sizeOf36 fun Pv H=>?_)⟩
   try dsimp only [List.set] at H
   refine xW<|b_n<|t_n<|xZ<|sp (yI k)<|sw<|zV k 1 rfl rfl qf<|sq 1<|xW<|xq (m' :=((srvTo own own.length) - ((k+1):Int)).toNat) qf ⟨_,k+1,_,_,_,_,_,_,uE5,?_,?_,rfl,N,H.qY 15 24 (zR 11 4) (0::zR 18 6) (by simp only [List.length_cons,List.length_append];omega)<|by simp only [List.length_cons,List.length_append];omega⟩
   ·exact sbegin_snoc qf<|by first | exact (if_pos ql).symm | exact (if_neg ql).symm
   ·omega
  refine xk<|t_n<|zY 4 rfl H [1,4,5,6] [0,1,2,3,4,5,6,7] fun H=>?_
  dsimp only [jR,yE]
  have S:=H.zK [1,4,5,6]<|zR 0 8
  refine rtl 0 S ?_
  refine rtl 1 S ?_
  refine rtl 2 S ?_
  refine tF 3 rfl rfl S ?_
  refine tF 4 rfl rfl S ?_
  refine tL 5 rfl rfl (fun _ h=>h.cell 1 rfl rfl) S ?_
  refine rt 6 _ (yh (cs:=[yI 0,Sv Vh XF Ve,Sv (aa b9 0) s.qP.toNat s.qP.toNat,Bv false,yN,yN,yN,yN]) isAgg47 sizeOf47 rfl<|fun _ h=>qK (h.cells 0 rfl) 0 8) S ?_
  refine ro 7 rfl ?_
  obtain ⟨MV,TS,auW⟩:=H.rowIsR (α:=yLI) 0 rfl 0 rfl qj
  obtain ⟨wD,apX,aa1⟩:=H.rowIsI 2 rfl
  replace H:=H.addNil (α:=Bool)
  replace H:=H.addNil (α:=yLI)
  replace H:=H.addNil (α:=yLL)
  have aib:=H.base.size
  have agK:=jB (H.ltN (L:=[qU,vU]) [4,3])<|H.ltK<|K0.behind 11 rfl
  refine oc (l08Copy_ok _ (⟨0,(yP s own t k c),(List.replicate s.qP.toNat (0:Int)),false,([]:List Bool),([]:yLL),([]:List yLL),([]:List yLL)⟩:zn) (by have hz:=(qK (H.cells 1 rfl) 0 8);rw [TS] at hz;exact hz.to<|by simp only [List.length_replicate] <;> rfl) (TS▸auW) (rep_at apX aa1) (H.get 2 rfl).1 (H.get 1 rfl).1 (H.get 0 rfl).1 (H.get 0 rfl).1<|by first | assumption | exact sbeg_sm p0.sys p2 qf<|by first | omega | (rw [List.length_replicate];omega)) ?_
  rintro _ Lu ⟨ri,ac7,ry,adR,kE,ms,Wo,my,tQ,agV,uJ,mn,Wi,nc,Ui,di,vf,afV,uv,aqB,dO,qT,ady,qd,adC,cR,rfl,M,K⟩ _
  replace N:=N.merge aib agK M
  replace H:=H.merge K M
  dsimp only [List.cons_append,List.nil_append] at H
  obtain rfl:=H.xe (α:=yLI) 0 rfl 0 rfl qj
  obtain rfl:=H.Qc 1 rfl
  obtain rfl:=H.rowNB 2 rfl
  obtain rfl:=H.xe (α:=yLI) 3 rfl 1 rfl qj
  obtain rfl:=H.xe (α:=yLL) 4 rfl 2 rfl qj
  obtain rfl:=H.xe (α:=yLL) 5 rfl 3 rfl qj
  refine ⟨H.pick [7,10,11,12]<|zR 7 8,(ro 8 rfl ?_)⟩
  refine jb [yI 0,Sv Vh XF Ve,Sv (aa b9 0) s.qP.toNat s.qP.toNat,Bv false,yN,yN,yN,yN,yI ((⟨0,(yP s own t k c),(List.replicate s.qP.toNat (0:Int)),false,([]:List Bool),([]:yLL),([]:List yLL),([]:List yLL)⟩:zn).qN),Sv ri (((⟨0,(yP s own t k c),(List.replicate s.qP.toNat (0:Int)),false,([]:List Bool),([]:yLL),([]:List yLL),([]:List yLL)⟩:zn).qG).length) ry,Sv ms (((⟨0,(yP s own t k c),(List.replicate s.qP.toNat (0:Int)),false,([]:List Bool),([]:yLL),([]:List yLL),([]:List yLL)⟩:zn).qE).length) my,Bv ((⟨0,(yP s own t k c),(List.replicate s.qP.toNat (0:Int)),false,([]:List Bool),([]:yLL),([]:List yLL),([]:List yLL)⟩:zn).qQ),Sv tQ (((⟨0,(yP s own t k c),(List.replicate s.qP.toNat (0:Int)),false,([]:List Bool),([]:yLL),([]:List yLL),([]:List yLL)⟩:zn).vz).length) uJ,Sv mn (((⟨0,(yP s own t k c),(List.replicate s.qP.toNat (0:Int)),false,([]:List Bool),([]:yLL),([]:List yLL),([]:List yLL)⟩:zn).qJ).length) nc,Sv vf (((⟨0,(yP s own t k c),(List.replicate s.qP.toNat (0:Int)),false,([]:List Bool),([]:yLL),([]:List yLL),([]:List yLL)⟩:zn).vJ).length) uv,Sv qT (((⟨0,(yP s own t k c),(List.replicate s.qP.toNat (0:Int)),false,([]:List Bool),([]:yLL),([]:List yLL),([]:List yLL)⟩:zn).xP).length) qd] [(0,.agg #[yI 0,Sv Vh XF Ve,Sv (aa b9 0) s.qP.toNat s.qP.toNat,Bv false,yN,yN,yN,yN]),(1,.agg #[yI ((⟨0,(yP s own t k c),(List.replicate s.qP.toNat (0:Int)),false,([]:List Bool),([]:yLL),([]:List yLL),([]:List yLL)⟩:zn).qN),Sv ri (((⟨0,(yP s own t k c),(List.replicate s.qP.toNat (0:Int)),false,([]:List Bool),([]:yLL),([]:List yLL),([]:List yLL)⟩:zn).qG).length) ry,Sv ms (((⟨0,(yP s own t k c),(List.replicate s.qP.toNat (0:Int)),false,([]:List Bool),([]:yLL),([]:List yLL),([]:List yLL)⟩:zn).qE).length) my,Bv ((⟨0,(yP s own t k c),(List.replicate s.qP.toNat (0:Int)),false,([]:List Bool),([]:yLL),([]:List yLL),([]:List yLL)⟩:zn).qQ),Sv tQ (((⟨0,(yP s own t k c),(List.replicate s.qP.toNat (0:Int)),false,([]:List Bool),([]:yLL),([]:List yLL),([]:List yLL)⟩:zn).vz).length) uJ,Sv mn (((⟨0,(yP s own t k c),(List.replicate s.qP.toNat (0:Int)),false,([]:List Bool),([]:yLL),([]:List yLL),([]:List yLL)⟩:zn).qJ).length) nc,Sv vf (((⟨0,(yP s own t k c),(List.replicate s.qP.toNat (0:Int)),false,([]:List Bool),([]:yLL),([]:List yLL),([]:List yLL)⟩:zn).vJ).length) uv,Sv qT (((⟨0,(yP s own t k c),(List.replicate s.qP.toNat (0:Int)),false,([]:List Bool),([]:yLL),([]:List yLL),([]:List yLL)⟩:zn).xP).length) qd])] ?_
  refine ⟨H.pick [7,10,11,12]<|zR 7 8,(ro 9 rfl ?_)⟩
  refine zx H underlying36 ti49 [yI 0,Sv Vh XF Ve,Sv (aa b9 0) s.qP.toNat s.qP.toNat,Bv false,yN,yN,yN,yN,yI ((⟨0,(yP s own t k c),(List.replicate s.qP.toNat (0:Int)),false,([]:List Bool),([]:yLL),([]:List yLL),([]:List yLL)⟩:zn).qN),Sv ri (((⟨0,(yP s own t k c),(List.replicate s.qP.toNat (0:Int)),false,([]:List Bool),([]:yLL),([]:List yLL),([]:List yLL)⟩:zn).qG).length) ry,Sv ms (((⟨0,(yP s own t k c),(List.replicate s.qP.toNat (0:Int)),false,([]:List Bool),([]:yLL),([]:List yLL),([]:List yLL)⟩:zn).qE).length) my,Bv ((⟨0,(yP s own t k c),(List.replicate s.qP.toNat (0:Int)),false,([]:List Bool),([]:yLL),([]:List yLL),([]:List yLL)⟩:zn).qQ),Sv tQ (((⟨0,(yP s own t k c),(List.replicate s.qP.toNat (0:Int)),false,([]:List Bool),([]:yLL),([]:List yLL),([]:List yLL)⟩:zn).vz).length) uJ,Sv mn (((⟨0,(yP s own t k c),(List.replicate s.qP.toNat (0:Int)),false,([]:List Bool),([]:yLL),([]:List yLL),([]:List yLL)⟩:zn).qJ).length) nc,Sv vf (((⟨0,(yP s own t k c),(List.replicate s.qP.toNat (0:Int)),false,([]:List Bool),([]:yLL),([]:List yLL),([]:List yLL)⟩:zn).vJ).length) uv,Sv qT (((⟨0,(yP s own t k c),(List.replicate s.qP.toNat (0:Int)),false,([]:List Bool),([]:yLL),([]:List yLL),([]:List yLL)⟩:zn).xP).length) qd] fun SX SK H=>(⟨H.pick [8,11,12,13]<|zR 7 8,(ro 10 rfl ?_)⟩)
  have H0:=H
  obtain ⟨jN,Vi,apj,H⟩:=H.vK (α:=yLI) 7 rfl 7 rfl qj
  replace N:Fresh W0.heap.size (jN::kE::di::dO::cR::qU::Ns):=Fresh.ice (N.qY 6 (5::zR 0 5)<|by simp only [List.length_cons,List.length_append];omega) H0 7 Vi.1 Vi.2<|fun F hF b hb=>(List.mem_append.1<|show F∈[kE,di,dO,cR,qU]++Ns from hF).elim (fun h=>(H0.vg (L:=[kE,di,dO,cR,qU]) [0,1,2,3,8]) F h b hb) fun h=>H0.jH (K0.behind 15 rfl) F h b hb
  clear H0
  try dsimp only [List.set] at H
  obtain ⟨gB,N,aoy,H⟩:=H.ve 9 rfl N<|fun F hF b hb=>(List.mem_append.1<|show F∈[jN,kE,di,dO,cR,qU]++Ns from hF).elim (fun h=>(H.vg (L:=[jN,kE,di,dO,cR,qU]) [0,1,2,3,4,9]) F h b hb) fun h=>H.jH (K0.behind 16 rfl) F h b hb
  try dsimp only [List.set] at H
  have H0:=H
  obtain ⟨j9,US,ML,H⟩:=H.vK (α:=yLI) 1 rfl 2 rfl qj
  replace N:Fresh W0.heap.size (j9::gB::jN::di::dO::cR::qU::Ns):=Fresh.ice (N.qY 7 [2,0,1,3,4,5,6]<|by simp only [List.length_cons,List.length_append];omega) H0 1 US.1 US.2<|fun F hF b hb=>(List.mem_append.1<|show F∈[gB,jN,di,dO,cR,qU]++Ns from hF).elim (fun h=>(H0.vg (L:=[gB,jN,di,dO,cR,qU]) [0,1,3,4,5,10]) F h b hb) fun h=>H0.jH (K0.behind 17 rfl) F h b hb
  clear H0
  try dsimp only [List.set] at H
  obtain ⟨rq,N,aoi,H⟩:=H.ve 2 rfl N<|fun F hF b hb=>(List.mem_append.1<|show F∈[j9,gB,jN,di,dO,cR,qU]++Ns from hF).elim (fun h=>(H.vg (L:=[j9,gB,jN,di,dO,cR,qU]) [0,1,2,4,5,6,11]) F h b hb) fun h=>H.jH (K0.behind 18 rfl) F h b hb
  try dsimp only [List.set] at H
  obtain ⟨wL,N,aAD,H⟩:=H.freezeB 3 rfl N<|fun F hF b hb=>(List.mem_append.1<|show F∈[rq,j9,gB,jN,di,dO,cR,qU]++Ns from hF).elim (fun h=>(H.vg (L:=[rq,j9,gB,jN,di,dO,cR,qU]) [0,1,2,3,5,6,7,12]) F h b hb) fun h=>H.jH (K0.behind 19 rfl) F h b hb
  try dsimp only [List.set] at H
  have H0:=H
  obtain ⟨A6,Wp,OZ,H⟩:=H.vK (α:=yLI) 4 rfl 6 rfl qj
  replace N:Fresh W0.heap.size (A6::wL::rq::j9::gB::jN::dO::cR::qU::Ns):=Fresh.ice (N.qY 9 [5,0,1,2,3,4,6,7,8]<|by simp only [List.length_cons,List.length_append];omega) H0 4 Wp.1 Wp.2<|fun F hF b hb=>(List.mem_append.1<|show F∈[wL,rq,j9,gB,jN,dO,cR,qU]++Ns from hF).elim (fun h=>(H0.vg (L:=[wL,rq,j9,gB,jN,dO,cR,qU]) [0,1,2,3,4,7,8,13]) F h b hb) fun h=>H0.jH (K0.behind 20 rfl) F h b hb
  clear H0
  try dsimp only [List.set] at H
  have H0:=H
  obtain ⟨Ms,YC,aBB,H⟩:=H.vK (α:=yLL) 5 rfl 8 rfl qj
  replace N:Fresh W0.heap.size (Ms::A6::wL::rq::j9::gB::jN::cR::qU::Ns):=Fresh.ice (N.qY 9 [6,0,1,2,3,4,5,7,8]<|by simp only [List.length_cons,List.length_append];omega) H0 5 YC.1 YC.2<|fun F hF b hb=>(List.mem_append.1<|show F∈[A6,wL,rq,j9,gB,jN,cR,qU]++Ns from hF).elim (fun h=>(H0.vg (L:=[A6,wL,rq,j9,gB,jN,cR,qU]) [0,1,2,3,4,5,9,14]) F h b hb) fun h=>H0.jH (K0.behind 21 rfl) F h b hb
  clear H0
  try dsimp only [List.set] at H
  have H0:=H
  obtain ⟨apo,Uy,az3,H⟩:=H.vK (α:=yLL) 6 rfl 10 rfl qj
  replace N:Fresh W0.heap.size (apo::Ms::A6::wL::rq::j9::gB::jN::qU::Ns):=Fresh.ice (N.qY 9 [7,0,1,2,3,4,5,6,8]<|by simp only [List.length_cons,List.length_append];omega) H0 6 Uy.1 Uy.2<|fun F hF b hb=>(List.mem_append.1<|show F∈[Ms,A6,wL,rq,j9,gB,jN,qU]++Ns from hF).elim (fun h=>(H0.vg (L:=[Ms,A6,wL,rq,j9,gB,jN,qU]) [0,1,2,3,4,5,6,15]) F h b hb) fun h=>H0.jH (K0.behind 22 rfl) F h b hb
  clear H0
  try dsimp only [List.set] at H
  refine zJ H 10 rfl 0 rfl underlying36 ti49 rfl qj rfl rfl rfl qw qp qf fun abb acm LW H=>?_
  try dsimp only [List.set] at H
  replace H:=H.snoc_ServerD 16 rfl 0 7 rfl 6 rfl false 14 rfl 13 rfl 12 rfl 12 rfl ((⟨0,(yP s own t k c),(List.replicate s.qP.toNat (0:Int)),false,([]:List Bool),([]:yLL),([]:List yLL),([]:List yLL)⟩:zn).qN) 5 rfl 4 rfl ((⟨0,(yP s own t k c),(List.replicate s.qP.toNat (0:Int)),false,([]:List Bool),([]:yLL),([]:List yLL),([]:List yLL)⟩:zn).qQ) 3 rfl 2 rfl 1 rfl 0 rfl
  replace N:Fresh W0.heap.size ((qU++(jN++gB++[]++[]++[]++[]++j9++rq++wL++A6++Ms++apo))::Ns):=(N.emp.emp.emp.emp.qY 13 [11,10,0,1,2,3,9,8,7,6,5,4,12]<|by simp only [List.length_cons,List.length_append];omega).join.join.join.join.join.join.join.join.join.join.join.swap.join
  refine ⟨H.pick [8,11,12,13]<|zR 16 8,(xy qh<|xM<|sq 1<|oF rfl<|oF rfl<|sw<|xO H 11 [pp sb 0,Sv (aa PU o56) own.length co,Sv abb (XY+1) acm,yN] sizeOf36 fun ajO H=>?_)⟩
  try dsimp only [List.set] at H
  refine xW<|b_n<|t_n<|xZ<|sp (yI k)<|sw<|zV k 1 rfl rfl qf<|sq 1<|xW<|xq (m' :=((srvTo own own.length) - ((k+1):Int)).toNat) qf ⟨_,k+1,_,_,_,_,_,_,uE5,?_,?_,rfl,N,H.qY 14 24 (zR 10 4) (0::zR 18 6) (by simp only [List.length_cons,List.length_append];omega)<|by simp only [List.length_cons,List.length_append];omega⟩
  ·exact sbegin_snoc qf<|by first | exact (if_pos ql).symm | exact (if_neg ql).symm
  ·omega
 refine zx4<|zcr<|sq 2<|zjr ?_
 replace H:=H.nilRow 77 4
 replace H:=H.jZ (α:=zk)
 refine ret1 (pp b1 0) rfl rfl ⟨_,rfl,?_⟩
 obtain rfl:k=n:=by omega
 exact ⟨b1,gq,XY,gt,yx,qU,none,0,0,[],[],rfl,(N.emp.qY 2 [1,0]<|by simp only [List.length_cons,List.length_append];omega),H.qY 5 8 [3,4,2,1,0] [2,3,4,5,6,7,1,0] (by simp only [List.length_cons,List.length_append];omega)<|by simp only [List.length_cons,List.length_append];omega⟩
theorem dNextDeed_ok (ah:List UInt8) (ip:Int) (sd:Int) (bs:Nat) (ac:yOA) (cc:Nat) (Fc:yLN) (sb:Nat) (ao:yOA) (no:Nat) (co:Nat) (bk:Nat) (eG:yOA) (eo:Nat) (cC:Nat) (cM:yOA) (ke:Nat) (bJ:Nat) (H:St W0 w ((.box bs [Sv ac ah.length cc,yI ip,.int .u64 sd] 116)::(.box bk [pp sb 0,Sv ao no co,Sv eG eo cC,Sv cM ke bJ] 86)::ps) ((sF false Fc ac cc ah)::Γ)) (N:Fresh W0.heap.size (Ns)) (K0:Kept Ns Γ) (q0:0<=ip/\ip<=40000) (q1:1<=eo/\eo<=4) (q2:ke<=12):Calls Tryz.prog 63 #[pp bs 0,pp bk 0] w (fun e w' =>∃ v,e=.returned v/\∃ (lx:Int) (AN:Int) (k_:Int) (a_:Int) (b_:Int),(ip<=lx/\lx<=ip+20)/\(DrawnD eo ⟨k_,a_,b_⟩)/\v=.agg #[yI k_,yI a_,yI b_]/\Fresh W0.heap.size (Ns)/\St W0 w' ((.box bs [Sv ac ah.length cc,yI lx,.int .u64 AN] 116)::(.box bk [pp sb 0,Sv ao no co,Sv eG eo cC,Sv cM ke bJ] 86)::ps) ((sF false Fc ac cc ah)::Γ)):=by
 refine en func63 ntmps63 ?_
 have mw:=qO (H.get 0 rfl).1
 refine zcr<|sw<|xU H ti44 [yI 0,yI 0,yI 0] fun b1 w2 H=>zjc<|sq 2<|oF rfl<|oF rfl<|oL rfl (H.cell 2 rfl rfl)<|oN rfl<|sq 1<|zjc<|sq 2 ?_
 have H1:=H.yw 3 1 [1,0,2] [0] (by simp only [List.length_cons,List.length_append];omega)<|by simp only [List.length_cons,List.length_append];omega
 have N1:Fresh _ (Ns):=N
 have K1:Kept (Ns) (Γ):=K0.behind 0 rfl
 refine sw<|zy #[pp bs 0,yI eo] rfl rfl call59 (yM ah ip sd bs ac cc Fc eo H1 N1 K1 qg) ?_
 clear H H1 N1 K1
 rintro _ w3 ⟨I8,Gs,fo,hx5,hx6,rfl,N,H⟩
 refine sq 1<|zjc<|sq 1<|sw<|o_buildF H underlying24 ti2 [yI 1,yI 1,yI 2,yI 2,yI 3,yI 3,yI 3,yI 4,yI 5,yI 5,yI 5,yI 6,yI 6,yI 6,yI 6,yI 7,yI 8,yI 9,yI 1,yI 2] rfl (by simp [Value.cells]) rfl qj qj fun yv KD H=>sw<|zX #[pp bs 0,Sv (aa yv 0) 20 20] rfl rfl call104<|en func104 ntmps104 ?_
 refine zcr<|sp (yI 0)<|zjc<|sq 3<|oN rfl ?_
 have H1:=H.yw 4 1 [1,0,2,3] [0] (by simp only [List.length_cons,List.length_append];omega)<|by simp only [List.length_cons,List.length_append];omega
 have N1:Fresh _ (Ns):=N
 have K1:Kept (Ns) (Γ):=K0.behind 0 rfl
 refine sw<|zy #[pp bs 0,yI 20] rfl rfl call59 (yM ah I8 Gs bs ac cc Fc (20:Int) H1 N1 K1 qg) ?_
 clear H H1 N1 K1
 rintro _ KA ⟨gE,mJ,Ab,avt,abJ,rfl,N,H⟩
 replace H:=H.boxRowI 1 [1,1,2,2,3,3,3,4,5,5,5,6,6,6,6,7,8,9,1,2] 20
 try dsimp only [List.set] at H
 refine oI rfl rfl<|oL rfl (H.rowInt 1 rfl (iv:=Ab) (i:=Ab.toNat) qf qf)<|sq 1<|zjr<|ret1 (yI ([1,1,2,2,3,3,3,4,5,5,5,6,6,6,6,7,8,9,1,2][Ab.toNat]!)) rfl rfl ⟨_,rfl,(sq 1<|sw<|jb [yI ([1,1,2,2,3,3,3,4,5,5,5,6,6,6,6,7,8,9,1,2][Ab.toNat]!),yI fo,yI 0] [(0,yI ([1,1,2,2,3,3,3,4,5,5,5,6,6,6,6,7,8,9,1,2][Ab.toNat]!)),(1,yI fo)]<|sw<|xU H ti44 [yI 0,yI 0,yI 0] fun Rc Rr H=>?_)⟩
 refine sw<|zC H 0 [yI ([1,1,2,2,3,3,3,4,5,5,5,6,6,6,6,7,8,9,1,2][Ab.toNat]!),yI fo,yI 0] sizeOf44 fun SS H=>?_
 try dsimp only [List.set] at H
 refine zjn<|xH<|xH ?_
 have kb:=kinds20_in _ (by omega:(Ab:Int).toNat < 20)
 obtain ⟨kd,hkd⟩:∃ z:Int,([1,1,2,2,3,3,3,4,5,5,5,6,6,6,6,7,8,9,1,2][Ab.toNat]! :Int)=z:=⟨_,rfl⟩
 rw [show kinds20=[1,1,2,2,3,3,3,4,5,5,5,6,6,6,6,7,8,9,1,2] from rfl,hkd] at kb
 rw [hkd] at H
 refine xZ<|oF rfl<|oL rfl (H.cell 0 rfl rfl)<|zjn<|xg<|zcc<|sp (Bv ((kd:Int) == 3))<|sp (Bv ((kd:Int) == 3))<|zjn<|c_cut (fun ρ Ot=>∃ (xI:Env) (t24:Bool),ρ=upd (upd (upd (upd (upd (upd (upd (upd xI 0<|pp bs 0) 1<|pp bk 0) 4<|pp b1 0) 5<|yI eo) 6<|yI fo) 7<|pp Rc 0) 23<|yI kd) 24 (Bv t24)/\(t24=true<->(kd=3\/kd=4))/\Fresh W0.heap.size (Ns)/\St W0 Ot ((.box Rc [yI kd,yI fo,yI 0] 44)::(.box bs [Sv ac ah.length cc,yI gE,.int .u64 mJ] 116)::(rr (aa yv 0) 20 20 2 1 ([1,1,2,2,3,3,3,4,5,5,5,6,6,6,6,7,8,9,1,2].map<|Value.int .i64))::(.box b1 [yI 0,yI 0,yI 0] 44)::(.box bk [pp sb 0,Sv ao no co,Sv eG eo cC,Sv cM ke bJ] 86)::ps) ((sF false Fc ac cc ah)::Γ)) ?_ ?_
 ·refine cE rfl (fun Ri=>?_) (fun Ri=>?_)
  ·try (have k24:=j24.1 ql)
   refine xk<|meet ⟨_,(kd:Int) == 3,uE8,?_,N,H⟩
   ·first | exact iff_of_true rfl qf | exact beq_iff_eq.trans ⟨fun h=>by omega,fun h=>by omega⟩
  try (have k24:¬ (kd=3\/kd=4):=fun z=>by have z:=j24.2 z;simp_all)
  refine xZ<|sp (Bv ((kd:Int) == 4))<|sp (Bv ((kd:Int) == 4))<|xW<|meet ⟨_,(kd:Int) == 4,uE8,?_,N,H⟩
  ·first | exact iff_of_true rfl qf | exact beq_iff_eq.trans ⟨fun h=>by omega,fun h=>by omega⟩
 clear H N
 rintro ρ JE ⟨xI,t24,rfl,j24,N,H⟩
 refine t_n<|vk _ rfl (fun h25=>?_)<|fun h25=>?_
 ·try (have k24:=j24.1 ql)
  refine zcr<|sq 1<|sw<|zV fo 1 rfl rfl qf<|sq 1<|sw<|o_rem (fo+1) eo rfl rfl qf qf qf<|oF rfl<|sw<|xO H 0 [yI kd,yI fo,yI ((fo+1) % eo)] sizeOf2 fun Ky H=>?_
  try dsimp only [List.set] at H
  refine zjc<|sq 1<|sp (Bv<|decide ((eo:Int) > 2))<|sp (Bv<|decide ((eo:Int) > 2)) ?_
  cases oY:(decide ((eo:Int) > 2))
  ·replace oY:=of_decide_eq_false oY
   refine zM [35,36]<|sp (Bv false)<|zjn<|cFr rfl<|xk<|b_n<|t_n<|zcr<|sw<|zi [yI kd,yI fo,yI ((fo+1) % eo)] isAgg44 sizeOf44 rfl (qK (H.cells 0 rfl) 0 3)<|sw<|zC H 3 [yI kd,yI fo,yI ((fo+1) % eo)] sizeOf44 fun P6 H=>?_
   try dsimp only [List.set] at H
   refine zjr<|retC H 3 rfl rfl isAgg44 sizeOf44 rfl ⟨_,rfl,(⟨gE,mJ,kd,fo,(fo+1) % eo,qf,(by exact drawnD_of kb qf (by first | omega | exact emod_999 qf) qf<|by intros;omega),rfl,N,H.qY 5 1 [1,4] [0] (by simp only [List.length_cons,List.length_append];omega)<|by simp only [List.length_cons,List.length_append];omega⟩)⟩
  replace oY:=of_decide_eq_true oY
  refine qV 34 rfl rfl<|sq 1<|qV 34 rfl rfl ?_
  have H1:=H.yw 5 1 [1,0,2,3,4] [0] (by simp only [List.length_cons,List.length_append];omega)<|by simp only [List.length_cons,List.length_append];omega
  have N1:Fresh _ (Ns):=N
  have K1:Kept (Ns) (Γ):=K0.behind 0 rfl
  refine sw<|zy #[pp bs 0,yI 2] rfl rfl call58 (dOne_ok ah gE mJ bs ac cc Fc (2:Int) H1 N1 K1 qg) ?_
  clear H H1 N1 K1
  rintro _ Rf ⟨O7,Mg,axE,TK,rfl,N,H⟩
  refine sp (Bv axE)<|zjn<|vk _ rfl (fun Rw=>?_)<|fun Rw=>?_
  ·refine xZ (sq 1<|sw<|zV fo 2 rfl rfl qf<|sq 1<|sw<|o_rem (fo+2) eo rfl rfl qf qf qf<|oF rfl<|sw<|xO H 1 [yI kd,yI fo,yI ((fo+2) % eo)] sizeOf2 fun PJ H=>?_)
   try dsimp only [List.set] at H
   refine xW<|b_n<|t_n<|zcr<|sw<|zi [yI kd,yI fo,yI ((fo+2) % eo)] isAgg44 sizeOf44 rfl (qK (H.cells 1 rfl) 0 3)<|sw<|zC H 3 [yI kd,yI fo,yI ((fo+2) % eo)] sizeOf44 fun w37 H=>?_
   try dsimp only [List.set] at H
   refine zjr<|retC H 3 rfl rfl isAgg44 sizeOf44 rfl ⟨_,rfl,(⟨O7,Mg,kd,fo,(fo+2) % eo,qf,(by exact drawnD_of kb qf (by first | omega | exact emod_999 qf) qf<|by intros;omega),rfl,N,H.qY 5 1 [0,4] [0] (by simp only [List.length_cons,List.length_append];omega)<|by simp only [List.length_cons,List.length_append];omega⟩)⟩
  refine xk<|b_n<|t_n<|zcr<|sw<|zi [yI kd,yI fo,yI ((fo+1) % eo)] isAgg44 sizeOf44 rfl (qK (H.cells 1 rfl) 0 3)<|sw<|zC H 3 [yI kd,yI fo,yI ((fo+1) % eo)] sizeOf44 fun TO H=>?_
  try dsimp only [List.set] at H
  refine zjr<|retC H 3 rfl rfl isAgg44 sizeOf44 rfl ⟨_,rfl,(⟨O7,Mg,kd,fo,(fo+1) % eo,qf,(by exact drawnD_of kb qf (by first | omega | exact emod_999 qf) qf<|by intros;omega),rfl,N,H.qY 5 1 [0,4] [0] (by simp only [List.length_cons,List.length_append];omega)<|by simp only [List.length_cons,List.length_append];omega⟩)⟩
 try (have k24:¬ (kd=3\/kd=4):=fun z=>by have z:=j24.2 z;simp_all)
 refine zcc<|sp (Bv ((kd:Int) == 6))<|sp (Bv ((kd:Int) == 6))<|zjn<|c_cut (fun ρ U7=>∃ (xI:Env) (t43:Bool),ρ=upd (upd (upd (upd (upd xI 0<|pp bs 0) 1<|pp bk 0) 4<|pp b1 0) 7<|pp Rc 0) 43 (Bv t43)/\(t43=true<->(kd=6\/kd=7\/kd=8))/\Fresh W0.heap.size (Ns)/\St W0 U7 ((.box Rc [yI kd,yI fo,yI 0] 44)::(.box bs [Sv ac ah.length cc,yI gE,.int .u64 mJ] 116)::(rr (aa yv 0) 20 20 2 1 ([1,1,2,2,3,3,3,4,5,5,5,6,6,6,6,7,8,9,1,2].map<|Value.int .i64))::(.box b1 [yI 0,yI 0,yI 0] 44)::(.box bk [pp sb 0,Sv ao no co,Sv eG eo cC,Sv cM ke bJ] 86)::ps) ((sF false Fc ac cc ah)::Γ)) ?_ ?_
 ·refine cE rfl (fun P9=>?_) (fun P9=>?_)
  ·try (have k43:=j43.1 ql)
   refine xk<|meet ⟨_,(kd:Int) == 6,uE5,?_,N,H⟩
   ·first | exact iff_of_true rfl qf | exact beq_iff_eq.trans ⟨fun h=>by omega,fun h=>by omega⟩
  try (have k43:¬ (kd=6\/kd=7\/kd=8):=fun z=>by have z:=j43.2 z;simp_all)
  refine zcr<|sp (Bv ((kd:Int) == 7))<|sp (Bv ((kd:Int) == 7))<|zjn<|cE rfl (fun sB=>?_)<|fun sB=>?_
  ·try (have k43:=j43.1 ql)
   refine xk<|meet ⟨_,(kd:Int) == 7,uE5,?_,N,H⟩
   ·first | exact iff_of_true rfl qf | exact beq_iff_eq.trans ⟨fun h=>by omega,fun h=>by omega⟩
  try (have k43:¬ (kd=6\/kd=7\/kd=8):=fun z=>by have z:=j43.2 z;simp_all)
  refine xZ<|sp (Bv ((kd:Int) == 8))<|sp (Bv ((kd:Int) == 8))<|xW<|meet ⟨_,(kd:Int) == 8,uE5,?_,N,H⟩
  ·first | exact iff_of_true rfl qf | exact beq_iff_eq.trans ⟨fun h=>by omega,fun h=>by omega⟩
 clear H N
 rintro ρ TT ⟨xI,t43,rfl,j43,N,H⟩
 refine t_n<|vk _ rfl (fun h43=>?_)<|fun h43=>?_
 ·try (have k43:=j43.1 ql)
  refine zY 3 rfl H [0,2,3,4] [0] fun H=>?_
  dsimp only [jR,yE]
  have S:=H.zK [0,2,3,4] [0]
  refine rtl 0 S ?_
  refine rtl 1 S ?_
  refine rtl 2 S ?_
  refine tF 3 rfl rfl S ?_
  refine tF 4 rfl rfl S ?_
  refine tL 5 rfl rfl (fun _ h=>h.cell 3 rfl rfl) S ?_
  refine tN 6 rfl rfl S ?_
  refine rtl 7 S ?_
  refine ro 8 rfl ?_
  have H1:=H.yw 5 1 [1,0,2,3,4] [0] (by simp only [List.length_cons,List.length_append];omega)<|by simp only [List.length_cons,List.length_append];omega
  have N1:Fresh _ (Ns):=N
  have K1:Kept (Ns) (Γ):=K0.behind 0 rfl
  refine zy #[pp bs 0,yI 12] rfl rfl call59 (yM ah gE mJ bs ac cc Fc (12:Int) H1 N1 K1 qg) ?_
  clear H H1 N1 K1
  rintro _ w45 ⟨ZN,aaF,Ef,L8,Ag,rfl,N,H⟩
  refine ⟨H.pick (zR 1 4) [0],?_⟩
  have S:=H.zK (zR 1 4) [0]
  refine rt 9 _ (y_quo Ef 11 rfl rfl qf qf) S ?_
  refine rt 10 _ (y_add ke (Ef / 11) rfl rfl qf) S ?_
  refine xy qh<|xM ?_
  have H1:=H.yw 5 1 [0,1,2,3,4] [0] (by simp only [List.length_cons,List.length_append];omega)<|by simp only [List.length_cons,List.length_append];omega
  have N1:Fresh _ (Ns):=N
  have K1:Kept (Ns) (Γ):=K0.behind 0 rfl
  refine sw<|zy #[pp bs 0,yI<|ke+(Ef / 11)] rfl rfl call59 (yM ah ZN aaF bs ac cc Fc (ke+(Ef / 11)) H1 N1 K1 qg) ?_
  clear H H1 N1 K1
  rintro _ w52 ⟨axn,axT,Ik,aIE,aHc,rfl,N,H⟩
  refine oF rfl<|sw<|xO H 1 [yI kd,yI Ik,yI 0] sizeOf2 fun w59 H=>?_
  try dsimp only [List.set] at H
  refine xW<|b_n<|t_n<|zcr<|sw<|zi [yI kd,yI Ik,yI 0] isAgg44 sizeOf44 rfl (qK (H.cells 1 rfl) 0 3)<|sw<|zC H 3 [yI kd,yI Ik,yI 0] sizeOf44 fun w60 H=>?_
  try dsimp only [List.set] at H
  refine zjr<|retC H 3 rfl rfl isAgg44 sizeOf44 rfl ⟨_,rfl,(⟨axn,axT,kd,Ik,0,qf,(by exact drawnD_of kb qf (by first | omega | exact emod_999 qf) qf<|by intros;omega),rfl,N,H.qY 5 1 [0,4] [0] (by simp only [List.length_cons,List.length_append];omega)<|by simp only [List.length_cons,List.length_append];omega⟩)⟩
 try (have k43:¬ (kd=6\/kd=7\/kd=8):=fun z=>by have z:=j43.2 z;simp_all)
 refine xk<|b_n<|t_n<|zcr<|sw<|zi [yI kd,yI fo,yI 0] isAgg44 sizeOf44 rfl (qK (H.cells 0 rfl) 0 3)<|sw<|zC H 3 [yI kd,yI fo,yI 0] sizeOf44 fun w61 H=>?_
 try dsimp only [List.set] at H
 refine zjr<|retC H 3 rfl rfl isAgg44 sizeOf44 rfl ⟨_,rfl,(⟨gE,mJ,kd,fo,0,qf,(by exact drawnD_of kb qf (by first | omega | exact emod_999 qf) qf<|by intros;omega),rfl,N,H.qY 5 1 [1,4] [0] (by simp only [List.length_cons,List.length_append];omega)<|by simp only [List.length_cons,List.length_append];omega⟩)⟩
theorem dWould_ok (s:qM) (own:yLI) (ap:yOA) (cp:Nat) (Fp:yLN) (ar:yOA) (cr:Nat) (Fr:yLN) (ao:yOA) (co:Nat) (Fo:yLN) (sb:Nat) (sv:List zA) (wi:List zk) (bk:Nat) (n:Nat) (eG:yOA) (eo:Nat) (cC:Nat) (bZ:List Value) (aF:yLN) (cM:yOA) (ke:Nat) (bJ:Nat) (bM:List Value) (az:yLN) (d:xm) (H:St W0 w ((.box bk [pp sb 0,Sv ao own.length co,Sv eG eo cC,Sv cM ke bJ] 86)::(.box sb (yS s ap cp ar cr) 27)::(rr eG eo cC 49 16 bZ)::(rr cM ke bJ 77 4 bM)::ps) ((sF false Fp ap cp s.qA)::(sF false Fr ar cr s.qB)::(sF false Fo ao co own)::(qL true aF bZ sv)::(qL true az bM wi)::Γ)) (N:Fresh W0.heap.size (aF::az::Ns)) (K0:Kept Ns Γ) (p0:Giv s own n) (p1:Vu s own n (⟨sv,wi⟩:zQ)) (p2:DrawnD sv.length d):Calls Tryz.prog 64 #[pp bk 0,.agg #[yI d.xE,yI d.fA,yI d.fB]] w (fun e w' =>∃ v,e=.returned v/\∃ (v_:Bool),v=Bv v_/\Fresh W0.heap.size (aF::az::Ns)/\St W0 w' ((.box bk [pp sb 0,Sv ao own.length co,Sv eG eo cC,Sv cM ke bJ] 86)::(.box sb (yS s ap cp ar cr) 27)::(rr eG eo cC 49 16 bZ)::(rr cM ke bJ 77 4 bM)::ps) ((sF false Fp ap cp s.qA)::(sF false Fr ar cr s.qB)::(sF false Fo ao co own)::(qL true aF bZ sv)::(qL true az bM wi)::Γ)):=by
 refine en func64 ntmps64 ?_
 have ug:=qO (H.get 0 rfl).1
 have th:=qO (H.get 1 rfl).1
 have sy:=qO (H.get 2 rfl).1
 obtain rfl:=H.xe (α:=zA) 2 rfl 3 rfl qj
 obtain rfl:=H.xe (α:=zk) 3 rfl 4 rfl qj
 have g1:=p0.sys
 have g2:=p0.len
 have g3:=p0.own
 have g4:=p0.few
 have l1:sv.length=n:=p1.len
 have l2:wi.length<=12:=p1.few
 have d1:=p2.1.1
 have d2:=p2.1.2.1
 have d3:=p2.1.2.2.1
 have d4:=p2.2
 refine zcr<|sw<|jq H [yI d.xE,yI d.fA,yI d.fB] fun b1 w2 H=>sp (Bv false)<|zjcc<|oF rfl<|oL rfl (H.cell 0 rfl rfl)<|zjn<|xg<|zcr<|sp (Bv ((d.xE:Int) == 1))<|sp (Bv ((d.xE:Int) == 1))<|zjn<|cE rfl (fun h3=>?_)<|fun h3=>?_
 ·refine xH (zY 6 rfl H [0,1,2,3,4] [0,1,2,3,4] fun H=>?_)
  dsimp only [jR,yE]
  have S:=H.zK (zR 0 5)<|zR 0 5
  refine rtl 0 S ?_
  refine rtl 1 S ?_
  refine tF 2 rfl rfl S ?_
  refine tF 3 rfl rfl S ?_
  refine tL 4 rfl rfl (fun _ h=>h.cell 1 rfl rfl) S ?_
  refine tF 5 rfl rfl S ?_
  refine tL 6 rfl rfl (fun _ h=>h.cell 0 rfl rfl) S ?_
  refine xy qh<|xM ?_
  obtain ⟨b5,rfl⟩:=H.jg 3 rfl qf
  refine oI rfl rfl<|oF rfl<|oF rfl ?_
  obtain ⟨RM,Rt,Tn,Km,Jj,IX,ZQ,abf,acI,I9,JJ,J8,aaL,abk,aaX,Tj,STz,SM,hx7,H⟩:=H.vV zg 3 rfl 3 rfl rfl d.fA.toNat qf
  refine oL rfl (H.xX 3 rfl (hx7 3 _ rfl) qf)<|sp (Bv (!(((sv[d.fA.toNat]!).qC).qQ)))<|sp (Bv (!(((sv[d.fA.toNat]!).qC).qQ)))<|zjr<|b_r<|t_r<|ret1 (Bv (!(((sv[d.fA.toNat]!).qC).qQ))) rfl rfl ⟨_,rfl,(⟨!(((sv[d.fA.toNat]!).qC).qQ),rfl,N,H.qY 5 11 (zR 1 4) (zR 6 5) (by simp only [List.length_cons,List.length_append];omega)<|by simp only [List.length_cons,List.length_append];omega⟩)⟩
 refine zcr<|sp (Bv ((d.xE:Int) == 3))<|sp (Bv ((d.xE:Int) == 3))<|zjn<|cE rfl (fun h8=>?_)<|fun h8=>?_
 ·refine zcr (oF rfl<|oL rfl (H.cell 0 rfl rfl)<|oF rfl<|oL rfl (H.cell 0 rfl rfl)<|sp (Bv ((d.fA:Int) != d.fB))<|sp (Bv ((d.fA:Int) != d.fB)) ?_)
  cases h9:((d.fA:Int) != d.fB)
  ·replace h9:=xR h9
   refine zM (zR 30 4)<|sp (Bv false)<|sp (Bv false)<|zjr<|b_r<|t_r<|ret1 (Bv false) rfl rfl ⟨_,rfl,(⟨false,rfl,N,H.qY 5 5 (zR 1 4) (zR 0 5) (by simp only [List.length_cons,List.length_append];omega)<|by simp only [List.length_cons,List.length_append];omega⟩)⟩
  replace h9:=bne_iff_ne.1 h9
  refine qV 29 rfl rfl<|sq 1<|qV 29 rfl rfl<|oF rfl<|qV 29 rfl rfl<|oL rfl (H.cell 0 rfl rfl)<|qV 29 rfl rfl<|sw<|zX #[pp bk 0,yI d.fA] rfl rfl call105<|en func105 ntmps105 ?_
  refine zcr<|sp (Bv false)<|zjc<|sq 2<|oF rfl<|oF rfl<|oL rfl (H.cell 1 rfl rfl)<|sq 1 ?_
  obtain ⟨yv,rfl⟩:=H.jg 3 rfl qf
  refine oI rfl rfl<|sq 1<|zjn<|xH<|zY 2 rfl H [0,1,2,3,4] [0,1,2,3,4] fun H=>?_
  dsimp only [jR,yE]
  have S:=H.zK (zR 0 5)<|zR 0 5
  refine rtl 0 S ?_
  refine rtl 1 S ?_
  refine tF 2 rfl rfl S ?_
  refine tF 3 rfl rfl S ?_
  obtain ⟨MC,MR,K5,Ee,Eo,DU,Tg,S3,R9,Fg,ED,EO,TB,R0,S4,PS,M0,Ma,BS,H⟩:=H.vV jI 3 rfl 3 rfl rfl d.fA.toNat qf
  have S:=H.zK (zR 0 5)<|zR 6 5
  refine rt 4 _ (jL (off:=0+(d.fA:Int).toNat * 16+8+0) isAgg2 rfl<|fun _ h=>(h.xX 3 rfl (BS 0 _ rfl) qf)) S ?_
  refine rtl 5 S ?_
  refine rtl 6 S ?_
  refine tF 7 rfl rfl S ?_
  refine tF 8 rfl rfl S ?_
  obtain ⟨alE,agX,akC,aaJ,aa5,acc,ass,arI,arH,abj,aa8,acx,ard,arV,asI,ajL,akq,ajY,abJ,H⟩:=H.vV zg 3 rfl 9 rfl rfl d.fA.toNat qf
  have S:=H.zK (zR 0 5)<|zR 12 5
  refine rt 9 _ (jL (off:=0+(d.fA:Int).toNat * 16+0+0) isAgg2 rfl<|fun _ h=>(h.xX 3 rfl (abJ 0 _ rfl) qf)) S ?_
  refine rtp 10 (Bv ((((sv[d.fA.toNat]!).qH).qN:Int) == (((sv[d.fA.toNat]!).qC).qN))) S ?_
  refine rtp 11 (Bv ((((sv[d.fA.toNat]!).qH).qN:Int) == (((sv[d.fA.toNat]!).qC).qN))) S ?_
  cases UD:((((sv[d.fA.toNat]!).qH).qN:Int) == (((sv[d.fA.toNat]!).qC).qN))
  ·replace UD:=ne_of_beq_false UD
   refine jA (zR 12 5) 5 (H.pick (zR 0 5)<|zR 12 5)<|xy qh<|xM<|sp (Bv false)<|sp (Bv false)<|zjr<|ret1 (Bv false) rfl rfl ⟨_,rfl,(sp (Bv false)<|sp (Bv false)<|zjr<|b_r<|t_r<|ret1 (Bv false) rfl rfl ⟨_,rfl,(⟨false,rfl,N,H.qY 5 17 (zR 1 4) (zR 12 5) (by simp only [List.length_cons,List.length_append];omega)<|by simp only [List.length_cons,List.length_append];omega⟩)⟩)⟩
  replace UD:=eq_of_beq UD
  have S:=H.zK (zR 0 5)<|zR 12 5
  refine rgl 12 24 S ?_
  refine rgl 13 24 S ?_
  refine gF 14 rfl rfl S ?_
  refine gF 15 rfl rfl S ?_
  refine rg 16 _ 24 (jL (off:=0+(d.fA:Int).toNat * 16+8+3) isAgg4 rfl<|fun _ h=>(h.xX 3 rfl (BS 3 _ rfl) qf)) S ?_
  refine xy qh<|xM<|sq 2<|zjr<|ret1 (Bv (((sv[d.fA.toNat]!).qH).qQ)) rfl rfl ⟨_,rfl,(sq 2<|zjr<|b_r<|t_r<|ret1 (Bv (((sv[d.fA.toNat]!).qH).qQ)) rfl rfl ⟨_,rfl,(⟨((sv[d.fA.toNat]!).qH).qQ,rfl,N,H.qY 5 17 (zR 1 4) (zR 12 5) (by simp only [List.length_cons,List.length_append];omega)<|by simp only [List.length_cons,List.length_append];omega⟩)⟩)⟩
 refine zcr<|sp (Bv ((d.xE:Int) == 4))<|sp (Bv ((d.xE:Int) == 4))<|zjn<|cE rfl (fun Kw=>?_)<|fun Kw=>?_
 ·refine xH (zY 2 rfl H [0,1,2,3,4] [0,1,2,3,4] fun H=>?_)
  dsimp only [jR,yE]
  have S:=H.zK (zR 0 5)<|zR 0 5
  refine tF 0 rfl rfl S ?_
  refine tL 1 rfl rfl (fun _ h=>h.cell 0 rfl rfl) S ?_
  refine tF 2 rfl rfl S ?_
  refine tL 3 rfl rfl (fun _ h=>h.cell 0 rfl rfl) S ?_
  refine rtp 4 (Bv ((d.fA:Int) != d.fB)) S ?_
  refine rtp 5 (Bv ((d.fA:Int) != d.fB)) S ?_
  cases h19:((d.fA:Int) != d.fB)
  ·replace h19:=xR h19
   refine jA (zR 6 12) 12 (H.pick (zR 0 5)<|zR 0 5)<|xy qh<|xM<|sp (Bv false)<|sp (Bv false)<|zjr<|b_r<|t_r<|ret1 (Bv false) rfl rfl ⟨_,rfl,(⟨false,rfl,N,H.qY 5 5 (zR 1 4) (zR 0 5) (by simp only [List.length_cons,List.length_append];omega)<|by simp only [List.length_cons,List.length_append];omega⟩)⟩
  replace h19:=bne_iff_ne.1 h19
  have S:=H.zK (zR 0 5)<|zR 0 5
  refine rgl 6 42 S ?_
  refine rgl 7 42 S ?_
  refine gF 8 rfl rfl S ?_
  refine gF 9 rfl rfl S ?_
  refine gL 10 rfl rfl (fun _ h=>h.cell 1 rfl rfl) S ?_
  refine gF 11 rfl rfl S ?_
  refine gL 12 rfl rfl (fun _ h=>h.cell 0 rfl rfl) S ?_
  obtain ⟨KE,rfl⟩:=H.jg 3 rfl qf
  have S:=H.zK (zR 0 5)<|zR 0 5
  refine gI 13 rfl rfl rfl S ?_
  refine gF 14 rfl rfl S ?_
  refine gF 15 rfl rfl S ?_
  obtain ⟨aqN,aq0,ami,ZG,aaI,acC,arC,asv,asQ,ab6,abh,acg,asy,ar1,aq7,apQ,ag2,af0,atB,H⟩:=H.vV zg 3 rfl 3 rfl rfl d.fA.toNat qf
  have S:=H.zK (zR 0 5)<|zR 6 5
  refine rg 16 _ 42 (jL (off:=0+(d.fA:Int).toNat * 16+0+0) isAgg2 rfl<|fun _ h=>(h.xX 3 rfl (atB 0 _ rfl) qf)) S ?_
  refine rgp 17 (Bv<|decide ((((sv[d.fA.toNat]!).qC).qN:Int) > 0)) 42 S ?_
  refine xy qh<|xM<|sp (Bv<|decide ((((sv[d.fA.toNat]!).qC).qN:Int) > 0))<|sp (Bv<|decide ((((sv[d.fA.toNat]!).qC).qN:Int) > 0))<|zjr<|b_r<|t_r<|ret1 (Bv<|decide ((((sv[d.fA.toNat]!).qC).qN:Int) > 0)) rfl rfl ⟨_,rfl,(⟨decide ((((sv[d.fA.toNat]!).qC).qN:Int) > 0),rfl,N,H.qY 5 11 (zR 1 4) (zR 6 5) (by simp only [List.length_cons,List.length_append];omega)<|by simp only [List.length_cons,List.length_append];omega⟩)⟩
 refine zcr<|sp (Bv ((d.xE:Int) == 5))<|sp (Bv ((d.xE:Int) == 5))<|zjn<|cE rfl (fun Ri=>?_)<|fun Ri=>?_
 ·refine zcc (sp (yI 0)<|zjn<|xg<|zU ((fun Z0 Z1 Z2 Z3 Z4 Z5 Z6 Z7 Z8 Z9=>fun m' ρ JE=>∃ (xI:Env) (b:Nat),ρ=upd (upd (upd xI 0<|pp bk 0) 3<|pp b1 0) 5 (yI b)/\(b<=((sv[d.fA.toNat]!).qC).vz.length)/\m' =(((sv[d.fA.toNat]!).qC).vz.length - b:Nat)/\Fresh W0.heap.size (aF::az::Ns)/\St W0 JE (Z0::Z1::Z2::Z3::Z4::ps) (Z5::Z6::Z7::Z8::Z9::Γ)) _ _ _ _ _ _ _ _ _ _) ((((sv[d.fA.toNat]!).qC).vz.length - 0:Nat)) ⟨_,0,uE3,qf,rfl,N,H⟩ ?_)
  clear H N
  rintro m' ρ Ea ⟨xI,b,rfl,i1,rfl,N,H⟩
  have y1:((sv[d.fA.toNat]!).qC).vz.length<=1000000:=((p1.srv d.fA.toNat qf).1.small p0).got
  refine xH<|xH<|zY 1 rfl H [0,1,2,3,4] [0,1,2,3,4] fun H=>?_
  dsimp only [jR,yE]
  have S:=H.zK (zR 0 5)<|zR 0 5
  refine rtp 0 (yI b) S ?_
  refine rtl 1 S ?_
  refine rtl 2 S ?_
  refine tF 3 rfl rfl S ?_
  refine tF 4 rfl rfl S ?_
  refine tL 5 rfl rfl (fun _ h=>h.cell 1 rfl rfl) S ?_
  refine tF 6 rfl rfl S ?_
  refine tL 7 rfl rfl (fun _ h=>h.cell 0 rfl rfl) S ?_
  obtain ⟨b27,rfl⟩:=H.jg 3 rfl qf
  have S:=H.zK (zR 0 5)<|zR 0 5
  refine tI 8 rfl rfl rfl S ?_
  refine tF 9 rfl rfl S ?_
  refine tF 10 rfl rfl S ?_
  obtain ⟨anS,alc,afz,Zl,aaT,acA,ar3,aq9,asl,Zt,ZM,acN,ar9,asr,arp,ak7,apx,ana,DM,H⟩:=H.vV zg 3 rfl 3 rfl rfl d.fA.toNat qf
  have S:=H.zK (zR 0 5)<|zR 6 5
  refine rt 11 _ (jL (off:=0+(d.fA:Int).toNat * 16+0+4) isAgg28 rfl<|fun _ h=>(h.xX 3 rfl (DM 4 _ rfl) qf)) S ?_
  refine tN 12 rfl rfl S ?_
  refine xy qh<|xM<|sq 1<|zjn<|cD rfl (fun DO=>?_)<|fun DO=>?_
  ·refine xk (t_n<|xH<|xg<|xH<|zY 3 rfl H [0,1,2,3,4] [0,1,2,3,4,5,6,7,8,9,10] fun H=>?_)
   dsimp only [jR,yE]
   have S:=H.zK (zR 0 5)<|zR 0 11
   refine rtl 0 S ?_
   refine rtl 1 S ?_
   refine tF 2 rfl rfl S ?_
   refine tF 3 rfl rfl S ?_
   refine tL 4 rfl rfl (fun _ h=>h.cell 1 rfl rfl) S ?_
   refine tF 5 rfl rfl S ?_
   refine tL 6 rfl rfl (fun _ h=>h.cell 0 rfl rfl) S ?_
   refine tI 7 rfl rfl rfl S ?_
   refine tF 8 rfl rfl S ?_
   refine tF 9 rfl rfl S ?_
   refine rt 10 _ (jL (off:=0+(d.fA:Int).toNat * 16+0+4) isAgg28 rfl<|fun _ h=>(h.xX 3 rfl (DM 4 _ rfl) qf)) S ?_
   refine rtp 11 (yI b) S ?_
   refine xy qh<|xM ?_
   obtain ⟨SI,o33,rfl⟩:=H.addr 2 rfl qf
   refine oI rfl rfl<|oL rfl (H.elemBoolN 2 rfl b qf)<|sq 1<|zjn<|vk _ rfl (fun Rw=>?_)<|fun Rw=>?_
   ·replace Rw:=xN Rw
    refine zcr<|sp (Bv false)<|zjr<|zr5<|b_r<|t_r<|ret1 (Bv false) rfl rfl ⟨_,rfl,(⟨false,rfl,N,H.qY 5 11 (zR 1 4) (zR 6 5) (by simp only [List.length_cons,List.length_append];omega)<|by simp only [List.length_cons,List.length_append];omega⟩)⟩
   replace Rw:=xJ Rw
   refine xk<|b_n<|t_n<|xZ<|sp (yI b)<|sw<|zV b 1 rfl rfl qf<|sq 1<|xW<|xq (m' :=(((sv[d.fA.toNat]!).qC).vz.length - (b+1):Nat)) qf ⟨_,b+1,uE3,?_,rfl,N,H.qY 5 11 (zR 0 5) (zR 6 5) (by simp only [List.length_cons,List.length_append];omega)<|by simp only [List.length_cons,List.length_append];omega⟩
   ·omega
  refine zx4<|xH<|zY 2 rfl H [0,1,2,3,4] [0,1,2,3,4,5,6,7,8,9,10] fun H=>?_
  dsimp only [jR,yE]
  have S:=H.zK (zR 0 5)<|zR 0 11
  refine rtl 0 S ?_
  refine rtl 1 S ?_
  refine tF 2 rfl rfl S ?_
  refine tF 3 rfl rfl S ?_
  refine tL 4 rfl rfl (fun _ h=>h.cell 1 rfl rfl) S ?_
  refine tF 5 rfl rfl S ?_
  refine tL 6 rfl rfl (fun _ h=>h.cell 0 rfl rfl) S ?_
  refine tI 7 rfl rfl rfl S ?_
  refine tF 8 rfl rfl S ?_
  refine tF 9 rfl rfl S ?_
  refine rt 10 _ (jL (off:=0+(d.fA:Int).toNat * 16+0+3) isAgg4 rfl<|fun _ h=>(h.xX 3 rfl (DM 3 _ rfl) qf)) S ?_
  refine rtp 11 (Bv (((sv[d.fA.toNat]!).qC).qQ)) S ?_
  cases PY:(((sv[d.fA.toNat]!).qC).qQ)
  ·refine jA (zR 12 4) 4 (H.pick (zR 0 5)<|zR 0 11)<|xy qh<|xM<|sp (Bv false)<|sp (Bv false)<|zjr<|b_r<|t_r<|ret1 (Bv false) rfl rfl ⟨_,rfl,(⟨false,rfl,N,H.qY 5 11 (zR 1 4) (zR 6 5) (by simp only [List.length_cons,List.length_append];omega)<|by simp only [List.length_cons,List.length_append];omega⟩)⟩
  have S:=H.zK (zR 0 5)<|zR 0 11
  refine rgl 12 100 S ?_
  refine gF 13 rfl rfl S ?_
  refine gL 14 rfl rfl (fun _ h=>h.cell 0 rfl rfl) S ?_
  refine jw [15] qh qm<|r_opG rfl (e:=100) rfl rfl (zX #[pp bk 0,yI d.fA] rfl rfl call105<|en func105 ntmps105 ?_) jy
  refine zcr<|sp (Bv false)<|zjc<|sq 2<|oF rfl<|oF rfl<|oL rfl (H.cell 1 rfl rfl)<|sq 1<|oI rfl rfl<|sq 1<|zjn<|xH<|zY 2 rfl H [0,1,2,3,4] [0,1,2,3,4,5,6,7,8,9,10] fun H=>?_
  dsimp only [jR,yE]
  have S:=H.zK (zR 0 5)<|zR 0 11
  refine rtl 0 S ?_
  refine rtl 1 S ?_
  refine tF 2 rfl rfl S ?_
  refine tF 3 rfl rfl S ?_
  obtain ⟨ajT,ajM,aot,aaB,ZD,aak,ar6,arZ,asV,acb,aa4,ZX,ash,asp,asa,afW,amv,aoT,akV,H⟩:=H.vV jI 3 rfl 9 rfl rfl d.fA.toNat qf
  have S:=H.zK (zR 0 5)<|zR 6 11
  refine rt 4 _ (jL (off:=0+(d.fA:Int).toNat * 16+8+0) isAgg2 rfl<|fun _ h=>(h.xX 3 rfl (akV 0 _ rfl) qf)) S ?_
  refine rtl 5 S ?_
  refine rtl 6 S ?_
  refine tF 7 rfl rfl S ?_
  refine tF 8 rfl rfl S ?_
  refine rt 9 _ (jL (off:=0+(d.fA:Int).toNat * 16+0+0) isAgg2 rfl<|fun _ h=>(h.xX 3 rfl (DM 0 _ rfl) qf)) S ?_
  refine rtp 10 (Bv ((((sv[d.fA.toNat]!).qH).qN:Int) == (((sv[d.fA.toNat]!).qC).qN))) S ?_
  refine rtp 11 (Bv ((((sv[d.fA.toNat]!).qH).qN:Int) == (((sv[d.fA.toNat]!).qC).qN))) S ?_
  cases sB:((((sv[d.fA.toNat]!).qH).qN:Int) == (((sv[d.fA.toNat]!).qC).qN))
  ·replace sB:=ne_of_beq_false sB
   refine jA (zR 12 5) 5 (H.pick (zR 0 5)<|zR 6 11)<|xy qh<|xM<|sp (Bv false)<|sp (Bv false)<|zjr<|ret1 (Bv false) rfl rfl ⟨_,rfl,(⟨H.pick (zR 0 5)<|zR 6 11,(xy qh<|xM<|sp (Bv false)<|sp (Bv false)<|zjr<|b_r<|t_r<|ret1 (Bv false) rfl rfl ⟨_,rfl,(⟨false,rfl,N,H.qY 5 17 (zR 1 4) (zR 12 5) (by simp only [List.length_cons,List.length_append];omega)<|by simp only [List.length_cons,List.length_append];omega⟩)⟩)⟩)⟩
  replace sB:=eq_of_beq sB
  have S:=H.zK (zR 0 5)<|zR 6 11
  refine rgl 12 24 S ?_
  refine rgl 13 24 S ?_
  refine gF 14 rfl rfl S ?_
  refine gF 15 rfl rfl S ?_
  refine rg 16 _ 24 (jL (off:=0+(d.fA:Int).toNat * 16+8+3) isAgg4 rfl<|fun _ h=>(h.xX 3 rfl (akV 3 _ rfl) qf)) S ?_
  refine xy qh<|xM<|sq 2<|zjr<|ret1 (Bv (((sv[d.fA.toNat]!).qH).qQ)) rfl rfl ⟨_,rfl,(⟨H.pick (zR 0 5)<|zR 6 11,(xy qh<|xM<|sq 2<|zjr<|b_r<|t_r<|ret1 (Bv (((sv[d.fA.toNat]!).qH).qQ)) rfl rfl ⟨_,rfl,?_⟩)⟩)⟩
  exact ⟨((sv[d.fA.toNat]!).qH).qQ,rfl,N,H.qY 5 17 (zR 1 4) (zR 12 5) (by simp only [List.length_cons,List.length_append];omega)<|by simp only [List.length_cons,List.length_append];omega⟩
 refine zcc<|sp (Bv ((d.xE:Int) == 6))<|sp (Bv ((d.xE:Int) == 6))<|zjn<|cE rfl (fun h42=>?_)<|fun h42=>?_
 ·refine xk (t_n<|vk ((d.xE:Int) == 6) rfl (fun h43=>?_)<|fun h=>absurd h42<|ne_of_beq_false h)
  replace h43:=eq_of_beq h43
  refine xH<|zY 2 rfl H [0,1,2,3,4] [0,1,2,3,4] fun H=>?_
  dsimp only [jR,yE]
  have S:=H.zK (zR 0 5)<|zR 0 5
  refine tF 0 rfl rfl S ?_
  refine tL 1 rfl rfl (fun _ h=>h.cell 0 rfl rfl) S ?_
  refine rtl 2 S ?_
  refine rtl 3 S ?_
  refine tF 4 rfl rfl S ?_
  refine tF 5 rfl rfl S ?_
  refine tL 6 rfl rfl (fun _ h=>h.cell 1 rfl rfl) S ?_
  refine tN 7 rfl rfl S ?_
  refine xy qh<|xM<|sq 2<|zjr<|b_r<|t_r<|ret1 (Bv<|decide ((d.fA:Int) < wi.length)) rfl rfl ⟨_,rfl,(⟨decide ((d.fA:Int) < wi.length),rfl,N,H.qY 5 5 (zR 1 4) (zR 0 5) (by simp only [List.length_cons,List.length_append];omega)<|by simp only [List.length_cons,List.length_append];omega⟩)⟩
 refine zcr<|sp (Bv ((d.xE:Int) == 7))<|sp (Bv ((d.xE:Int) == 7))<|zjn<|cE rfl (fun Db=>?_)<|fun Db=>?_
 ·refine xk (t_n<|vk ((d.xE:Int) == 7) rfl (fun h46=>?_)<|fun h=>absurd Db<|ne_of_beq_false h)
  replace h46:=eq_of_beq h46
  refine xH<|zY 2 rfl H [0,1,2,3,4] [0,1,2,3,4] fun H=>?_
  dsimp only [jR,yE]
  have S:=H.zK (zR 0 5)<|zR 0 5
  refine tF 0 rfl rfl S ?_
  refine tL 1 rfl rfl (fun _ h=>h.cell 0 rfl rfl) S ?_
  refine rtl 2 S ?_
  refine rtl 3 S ?_
  refine tF 4 rfl rfl S ?_
  refine tF 5 rfl rfl S ?_
  refine tL 6 rfl rfl (fun _ h=>h.cell 1 rfl rfl) S ?_
  refine tN 7 rfl rfl S ?_
  refine xy qh<|xM<|sq 2<|zjr<|b_r<|t_r<|ret1 (Bv<|decide ((d.fA:Int) < wi.length)) rfl rfl ⟨_,rfl,(⟨decide ((d.fA:Int) < wi.length),rfl,N,H.qY 5 5 (zR 1 4) (zR 0 5) (by simp only [List.length_cons,List.length_append];omega)<|by simp only [List.length_cons,List.length_append];omega⟩)⟩
 refine xZ<|sp (Bv ((d.xE:Int) == 8))<|sp (Bv ((d.xE:Int) == 8))<|zjn<|cE rfl (fun PV=>?_)<|fun PV=>?_
 ·refine xH (zY 2 rfl H [0,1,2,3,4] [0,1,2,3,4] fun H=>?_)
  dsimp only [jR,yE]
  have S:=H.zK (zR 0 5)<|zR 0 5
  refine tF 0 rfl rfl S ?_
  refine tL 1 rfl rfl (fun _ h=>h.cell 0 rfl rfl) S ?_
  refine rtl 2 S ?_
  refine rtl 3 S ?_
  refine tF 4 rfl rfl S ?_
  refine tF 5 rfl rfl S ?_
  refine tL 6 rfl rfl (fun _ h=>h.cell 1 rfl rfl) S ?_
  refine tN 7 rfl rfl S ?_
  refine xy qh<|xM<|sq 2<|zjr<|b_r<|t_r<|ret1 (Bv<|decide ((d.fA:Int) < wi.length)) rfl rfl ⟨_,rfl,(⟨decide ((d.fA:Int) < wi.length),rfl,N,H.qY 5 5 (zR 1 4) (zR 0 5) (by simp only [List.length_cons,List.length_append];omega)<|by simp only [List.length_cons,List.length_append];omega⟩)⟩
 refine xk<|b_n<|t_n<|zcr<|sp (Bv true)<|zjr<|ret1 (Bv true) rfl rfl ⟨_,rfl,(⟨true,rfl,N,H.qY 5 5 (zR 1 4) (zR 0 5) (by simp only [List.length_cons,List.length_append];omega)<|by simp only [List.length_cons,List.length_append];omega⟩)⟩
theorem dDeeds_ok (ah:List UInt8) (ip:Int) (sd:Int) (bs:Nat) (ac:yOA) (cc:Nat) (Fc:yLN) (s:qM) (own:yLI) (ap:yOA) (cp:Nat) (Fp:yLN) (ar:yOA) (cr:Nat) (Fr:yLN) (ao:yOA) (co:Nat) (Fo:yLN) (t:xh) (tA:yOA) (cA:Nat) (FA:yLN) (tB:yOA) (cB:Nat) (FB:yLN) (tU:yOA) (cU:Nat) (FU:yLN) (sb:Nat) (tb:Nat) (fi:Int) (n:Nat) (H:St W0 w ((.box bs [Sv ac ah.length cc,yI ip,.int .u64 sd] 116)::(.box sb (yS s ap cp ar cr) 27)::(.box tb (yT t tA cA tB cB tU cU) 31)::ps) ((sF false Fc ac cc ah)::(sF false Fp ap cp s.qA)::(sF false Fr ar cr s.qB)::(sF false Fo ao co own)::(sF false FA tA cA t.xn)::(sF false FB tB cB t.qG)::(sF false FU tU cU t.qE)::Γ)) (N:Fresh W0.heap.size (Ns)) (K0:Kept Ns Γ) (q0:0<=ip/\ip<=30000) (p0:Giv s own n) (p1:Vt own n) (p2:vM s t) (p3:1<=fi/\fi<=40) (OL:∀ f∈(sF false Fc ac cc ah::sF false Fp ap cp s.qA::sF false Fr ar cr s.qB::sF false Fo ao co own::sF false FA tA cA t.xn::sF false FB tB cB t.qG::sF false FU tU cU t.qE::Γ),∀ b∈f.F,b < W0.heap.size):Calls Tryz.prog 25 #[pp bs 0,pp sb 0,Sv ao own.length co,pp tb 0,yI fi] w (fun e w' =>∃ v,e=.returned v/\∃ (lx:Int) (AN:Int) (nh:List xm) (rad:yOA) (rnd:Nat) (rcd:Nat) (rxd:List Value) (rFd:yLN),(ip<=lx/\lx<=ip+5000)/\(Deeds nh/\(nh.length:Int)<=fi)/\v=Sv rad rnd rcd/\Fresh W0.heap.size (rFd::Ns)/\St W0 w' ((.box bs [Sv ac ah.length cc,yI lx,.int .u64 AN] 116)::(.box sb (yS s ap cp ar cr) 27)::(.box tb (yT t tA cA tB cB tU cU) 31)::(rr rad rnd rcd 44 3 rxd)::ps) ((sF false Fc ac cc ah)::(sF false Fp ap cp s.qA)::(sF false Fr ar cr s.qB)::(sF false Fo ao co own)::(sF false FA tA cA t.xn)::(sF false FB tB cB t.qG)::(sF false FU tU cU t.qE)::(qL true rFd rxd nh)::Γ)):=by
 refine en func25 ntmps25 ?_
 have mw:=qO (H.get 0 rfl).1
 have ug:=qO (H.get 1 rfl).1
 have th:=qO (H.get 2 rfl).1
 have sy:=qO (H.get 3 rfl).1
 have RB:=qO (H.get 4 rfl).1
 have TG:=qO (H.get 5 rfl).1
 have RD:=qO (H.get 6 rfl).1
 have e2:=p1.one
 have bl:(qW s own t n).qF.length=n:=beginTo_len s own t n
 refine zcr<|sq 1<|zjc<|sw<|jk H underlying34 ti44 fun b1 w2 H=>sq 1<|zjc<|sq 3 ?_
 have H1:=H.yw 4 7 [2,3,0,1] [1,2,3,4,5,6,0] (by simp only [List.length_cons,List.length_append];omega)<|by simp only [List.length_cons,List.length_append];omega
 have N1:Fresh _ (Ns):=N
 have K1:Kept (Ns) ((sF false Fc ac cc ah)::Γ):=K0.behind 1 rfl
 refine sw<|zy #[pp sb 0,Sv ao own.length co,pp tb 0] rfl rfl call62 (begin_spec s own ap cp Fp ar cr Fr ao co Fo t tA cA FA tB cB FB tU cU FU sb tb n H1 N1 K1 qg qg qg<|zf (zZ OL 1 rfl)<|zf (zZ OL 2 rfl)<|zf (zZ OL 3 rfl)<|zf (zZ OL 4 rfl)<|zf (zZ OL 5 rfl)<|zf (zZ OL 6 rfl)<|zf (zZ OL 0 rfl)<|olds_drop OL 7 rfl) ?_
 clear H H1 N1 K1
 rintro _ w3 ⟨Ga,oX,rn7,H6,rx9,E7,vp,aDF,abY,Jc,Ld,rfl,N,H⟩
 obtain rfl:=H.xe (α:=zA) 3 rfl 6 rfl qj
 obtain rfl:=H.xe (α:=zk) 4 rfl 7 rfl qj
 refine sq 1<|zjcc<|sq 2<|sw<|zV fi 1 rfl rfl qf ?_
 have H1:=H.yw 7 9 [6,0,1,2,3,4,5] [8,0,1,2,3,4,5,6,7] (by simp only [List.length_cons,List.length_append];omega)<|by simp only [List.length_cons,List.length_append];omega
 have N1:Fresh _ (E7::Ld::Ns):=N
 have K1:Kept (Ns) ((sF false Fp ap cp s.qA)::(sF false Fr ar cr s.qB)::(sF false Fo ao co own)::(sF false FA tA cA t.xn)::(sF false FB tB cB t.qG)::(sF false FU tU cU t.qE)::(qL true E7 rx9 ((qW s own t n).qF))::(qL true Ld Jc ((qW s own t n).zu))::Γ):=K0.behind 8 rfl
 replace K1:=K1.cons (F:=Ld) 7 rfl rfl
 replace K1:=K1.cons (F:=E7) 6 rfl rfl
 refine sw<|zy #[pp bs 0,yI<|fi+1] rfl rfl call59 (yM ah ip sd bs ac cc Fc (fi+1) H1 N1 K1 qg) ?_
 clear H H1 N1 K1
 rintro _ UJ ⟨RF,Eb,Ti,Jb,aca,rfl,N,H⟩
 refine sq 1<|zjn<|xg ?_
 replace H:=H.boxRow 6 rfl 3 0 rfl qj
 try dsimp only [List.set] at H
 replace H:=H.jZ (α:=xm)
 replace H:St _ _ ((.box bs [Sv ac ah.length cc,yI RF,.int .u64 Eb] 116)::(.box sb (yS s ap cp ar cr) 27)::(.box tb (yT t tA cA tB cB tU cU) 31)::(.box Ga [pp sb 0,Sv ao own.length co,Sv oX (((qW s own t n).qF).length) H6,Sv vp (((qW s own t n).zu).length) abY] 86)::(rr oX (((qW s own t n).qF).length) H6 49 16 rx9)::(rr vp (((qW s own t n).zu).length) abY 77 4 Jc)::(rr (aa b1 0) 0 0 44 3 [])::ps) ((qL true [] [] ([]:List xm))::(sF false Fc ac cc ah)::(sF false Fp ap cp s.qA)::(sF false Fr ar cr s.qB)::(sF false Fo ao co own)::(sF false FA tA cA t.xn)::(sF false FB tB cB t.qG)::(sF false FU tU cU t.qE)::(qL true E7 rx9 ((qW s own t n).qF))::(qL true Ld Jc ((qW s own t n).zu))::Γ):=H
 refine zU ((fun Z0 Z1 Z2 Z3 Z4 Z5 Z6 Z7 Z8=>fun m' ρ Nw=>∃ (xI:Env) (yY:yOA) (yV:Nat) (yX:Nat) (out:List xm) (Qv:List Value) (Ql:yLN) (k:Int) (QO:yOA) (QM:Nat) (QN:Nat) (eQ:List zk) (Xw:List Value) (jS:yLN) (cq:List zA) (yx:List Value) (qU:yLN) (eH:Int) (dA:Int),ρ=upd (upd (upd (upd (upd (upd xI 0<|pp bs 0) 1<|pp sb 0) 2<|Sv ao own.length co) 11<|Sv yY yV yX) 12<|pp Ga 0) 13 (yI k)/\(ip<=eH/\eH+100 * k<=ip+4100)/\(0<=k/\(out.length:Int)+k<=fi)/\(Ql=[])/\(Deeds out)/\(Vu s own n (⟨cq,eQ⟩:zQ))/\m' =k.toNat/\Fresh W0.heap.size (Ql::jS::qU::Ns)/\St W0 Nw ((.box bs [Sv ac ah.length cc,yI eH,.int .u64 dA] 116)::Z0::Z1::(.box Ga [pp sb 0,Sv ao own.length co,Sv oX (((qW s own t n).qF).length) H6,Sv QO QM QN] 86)::(rr oX (((qW s own t n).qF).length) H6 49 16 yx)::(rr QO QM QN 77 4 Xw)::(rr yY yV yX 44 3 Qv)::ps) ((qL true Ql Qv out)::Z2::Z3::Z4::Z5::Z6::Z7::Z8::(qL true qU yx cq)::(qL true jS Xw eQ)::Γ)) _ _ _ _ _ _ _ _ _) (Ti.toNat) ⟨_,(aa b1 0),0,0,([]:List xm),[],[],Ti,vp,((qW s own t n).zu).length,abY,(qW s own t n).zu,Jc,Ld,(qW s own t n).qF,rx9,E7,RF,Eb,uE6,qf,qy,(by rfl),(by exact Deeds.nil),(by exact begin_ok p0 p2),rfl,(N.emp.qY 3 [0,2,1]<|by simp only [List.length_cons,List.length_append];omega),H⟩ ?_
 clear H N
 rintro m' ρ JE ⟨xI,yY,yV,yX,out,Qv,Ql,k,QO,QM,QN,eQ,Xw,jS,cq,yx,qU,eH,dA,rfl,i1,i2,i3,i4,i5,rfl,N,H⟩
 have Vq:=H.xe (α:=xm) 6 rfl 0 rfl qj
 have VE:=H.xe (α:=zk) 5 rfl 9 rfl qj
 have wl:=H.xe (α:=zA) 4 rfl 8 rfl qj
 have tl:cq.length=n:=i5.len
 have tf:eQ.length<=12:=i5.few
 obtain rfl:=i3
 refine zcc<|sp (yI k)<|sp (Bv<|decide ((k:Int) > 0))<|zjn<|cD rfl (fun h25=>?_)<|fun h25=>?_
 ·refine xk (t_n<|xH<|xg<|zcr<|sq 2 ?_)
  have H1:=H.yw 7 10 [0,3,1,2,4,5,6] [1,0,2,3,4,5,6,7,8,9] (by simp only [List.length_cons,List.length_append];omega)<|by simp only [List.length_cons,List.length_append];omega
  have N1:Fresh _ ([]::jS::qU::Ns):=N
  have K1:Kept (Ns) ((qL true [] Qv out)::(sF false Fp ap cp s.qA)::(sF false Fr ar cr s.qB)::(sF false Fo ao co own)::(sF false FA tA cA t.xn)::(sF false FB tB cB t.qG)::(sF false FU tU cU t.qE)::(qL true qU yx cq)::(qL true jS Xw eQ)::Γ):=K0.behind 9 rfl
  replace K1:=K1.cons (F:=qU) 7 rfl rfl
  replace K1:=K1.cons (F:=jS) 8 rfl rfl
  replace K1:=K1.cons (F:=[]) 0 rfl rfl
  refine sw<|zy #[pp bs 0,pp Ga 0] rfl rfl call63 (dNextDeed_ok ah eH dA bs ac cc Fc sb ao own.length co Ga oX (((qW s own t n).qF).length) H6 QO QM QN H1 N1 K1 qg qg qg) ?_
  clear H H1 N1 K1
  rintro _ Ky ⟨at5,atd,O7,Mg,ao6,aaW,DM,rfl,N,H⟩
  refine sw<|xU H ti44 [yI 0,yI 0,yI 0] fun b35 PJ H=>sw<|zC H 0 [yI O7,yI Mg,yI ao6] sizeOf44 fun w37 H=>?_
  try dsimp only [List.set] at H
  refine zjcc<|sp (yI 0)<|zjn<|xg<|zU ((fun Z0 Z1 Z2 Z3 Z4 Z5 Z6 Z7 Z8 Z9 fH fZ iw kH mh mj=>fun m' ρ TO=>∃ (xI:Env) (tq:Nat) (dl:Int) (dp:Int) (cz:Int) (nQ:Int) (nN:Int),ρ=upd (upd (upd (upd (upd (upd (upd (upd xI 0<|pp bs 0) 1<|pp sb 0) 2<|Sv ao own.length co) 11<|Sv yY yV yX) 12<|pp Ga 0) 13<|yI k) 14<|pp b35 0) 15 (yI tq)/\(ip<=dl/\dl+100 * k+25 * (3 - tq)<=ip+4195)/\(DrawnD n ⟨cz,nQ,nN⟩)/\(tq<=3)/\m' =(3 - tq:Nat)/\Fresh W0.heap.size ([]::jS::qU::Ns)/\St W0 TO ((.box b35 [yI cz,yI nQ,yI nN] 44)::(.box bs [Sv ac ah.length cc,yI dl,.int .u64 dp] 116)::Z0::Z1::Z2::Z3::Z4::Z5::ps) (Z6::Z7::Z8::Z9::fH::fZ::iw::kH::mh::mj::Γ)) _ _ _ _ _ _ _ _ _ _ _ _ _ _ _ _) ((3 - 0:Nat)) ⟨_,0,at5,atd,O7,Mg,ao6,uE8,qf,(by rw [← bl];assumption),qf,rfl,N,H⟩ ?_
  clear H N
  rintro m' ρ U7 ⟨xI,tq,dl,dp,cz,nQ,nN,rfl,j1,j2,j3,rfl,N,H⟩
  have j4:DrawnD cq.length ⟨cz,nQ,nN⟩:=by rw [tl];exact j2
  refine zcc<|sq 1<|sp (Bv<|decide ((tq:Int) < 3))<|sp (Bv<|decide ((tq:Int) < 3)) ?_
  cases P9:(decide ((tq:Int) < 3))
  ·replace P9:=of_decide_eq_false P9
   refine zM [37,38,39]<|sp (Bv false)<|zjn<|cFr rfl<|zx4<|zcr<|sq 1<|sw<|zi [yI cz,yI nQ,yI nN] isAgg44 sizeOf44 rfl (qK (H.cells 0 rfl) 0 3)<|sw<|zx H underlying34 ti44 [yI cz,yI nQ,yI nN] fun oW TT H=>sw<|zJ H 8 rfl 0 rfl underlying34 ti44 rfl qj rfl rfl rfl qw qp qf fun a43 c44 w45 H=>?_
   try dsimp only [List.set] at H
   replace H:=H.snoc_DeedD 1 rfl cz nQ nN
   replace N:Fresh W0.heap.size (([]++[])::jS::qU::Ns):=(Fresh.join<|Fresh.swap<|N.emp)
   refine sq 1<|zjn<|xZ<|sq 1<|sw<|zi [yI cz,yI nQ,yI nN] isAgg44 sizeOf44 rfl (qK (H.cells 1 rfl) 0 3) ?_
   have dd:=j2.1
   have tk:=i5
   have H1:=H.yw 9 11 [3,4,6,7,0,1,2,5,8] [3,4,5,9,10,0,1,2,6,7,8] (by simp only [List.length_cons,List.length_append];omega)<|by simp only [List.length_cons,List.length_append];omega
   have N1:Fresh _ (qU::jS::([]++[])::Ns):=(N.qY 3 [2,1,0]<|by simp only [List.length_cons,List.length_append];omega)
   have K1:Kept (Ns) ((qL true ([]++[]) (Qv++[yI cz,yI nQ,yI nN])<|out++[(⟨cz,nQ,nN⟩:xm)])::(sF false Fc ac cc ah)::(qL true [] Qv out)::(sF false FA tA cA t.xn)::(sF false FB tB cB t.qG)::(sF false FU tU cU t.qE)::Γ):=K0.behind 6 rfl
   replace K1:=K1.cons (F:=([]++[])) 0 rfl rfl
   refine sw<|zy #[pp Ga 0,.agg #[yI cz,yI nQ,yI nN]] rfl rfl call65 (sdo_ok s own ap cp Fp ar cr Fr ao co Fo sb cq eQ Ga _ oX (((qW s own t n).qF).length) H6 yx qU QO QM QN Xw jS (⟨cz,nQ,nN⟩:xm) H1 N1 K1 qg qg qg<|zf (zZ OL 1 rfl)<|zf (zZ OL 2 rfl)<|zf (zZ OL 3 rfl)<|zf (old_nil rfl)<|zf (zZ OL 0 rfl)<|zf (old_nil rfl)<|zf (zZ OL 4 rfl)<|zf (zZ OL 5 rfl)<|zf (zZ OL 6 rfl)<|olds_drop OL 7 rfl) ?_
   clear H H1 N1 K1
   rintro _ S8 ⟨aJa,Sk,aFR,aEs,aJ6,aHB,aEC,rfl,N,H⟩
   obtain rfl:=H.xe (α:=zk) 3 rfl 4 rfl qj
   refine xW<|b_n<|t_n<|xZ<|sp (yI k)<|sw<|o_sub k 1 rfl rfl qf<|sq 1<|xW<|xq (m' :=(k - 1).toNat) qf ⟨_,_,_,_,_,_,_,_,_,_,_,_,_,_,_,_,_,_,_,uE6,?_,?_,?_,?_,?_,rfl,(N.qY 3 [2,1,0]<|by simp only [List.length_cons,List.length_append];omega),H.qY 9 11 [6,1,7,0,2,3,8] [5,6,0,1,2,8,9,10,3,4] (by simp only [List.length_cons,List.length_append];omega)<|by simp only [List.length_cons,List.length_append];omega⟩
   ·omega
   ·simp;omega
   ·rfl
   ·exact i4.snoc dd
   ·exact doM_ok p0 tk dd
  replace P9:=of_decide_eq_true P9
  refine qV 36 rfl rfl<|sq 1<|qV 36 rfl rfl ?_
  have H1:=H.yw 8 10 [1,0,2,3,4,5,6,7] [0,1,2,3,4,5,6,7,8,9] (by simp only [List.length_cons,List.length_append];omega)<|by simp only [List.length_cons,List.length_append];omega
  have N1:Fresh _ ([]::jS::qU::Ns):=N
  have K1:Kept (Ns) ((qL true [] Qv out)::(sF false Fp ap cp s.qA)::(sF false Fr ar cr s.qB)::(sF false Fo ao co own)::(sF false FA tA cA t.xn)::(sF false FB tB cB t.qG)::(sF false FU tU cU t.qE)::(qL true qU yx cq)::(qL true jS Xw eQ)::Γ):=K0.behind 9 rfl
  replace K1:=K1.cons (F:=qU) 7 rfl rfl
  replace K1:=K1.cons (F:=jS) 8 rfl rfl
  replace K1:=K1.cons (F:=[]) 0 rfl rfl
  refine sw<|zy #[pp bs 0,yI 6] rfl rfl call58 (dOne_ok ah dl dp bs ac cc Fc (6:Int) H1 N1 K1 qg) ?_
  clear H H1 N1 K1
  rintro _ w55 ⟨Ik,Ba,aj3,ak4,rfl,N,H⟩
  refine qV 36 rfl rfl<|sp (Bv !aj3)<|sp (Bv !aj3)<|zjn<|vk _ rfl (fun h61=>?_)<|fun h61=>?_
  ·replace h61:=xN h61
   refine xk<|t_n<|xH<|xg<|zcr<|sq 4<|oF rfl<|sw<|zi [Sv oX (((qW s own t n).qF).length) H6,Sv QO QM QN] isAgg39 sizeOf39 rfl (qK (H.cells 2 rfl) 2 2)<|sw<|jb [pp sb 0,Sv ao own.length co,Sv oX (((qW s own t n).qF).length) H6,Sv QO QM QN] [(0,pp sb 0),(1,Sv ao own.length co),(2,.agg #[Sv oX (((qW s own t n).qF).length) H6,Sv QO QM QN])]<|sw<|jq H [pp sb 0,Sv ao own.length co,Sv oX (((qW s own t n).qF).length) H6,Sv QO QM QN] fun b62 w63 H=>sq 1<|zjc<|sw<|zi [yI cz,yI nQ,yI nN] isAgg44 sizeOf44 rfl (qK (H.cells 2 rfl) 0 3)<|sw<|xU H ti44 [yI 0,yI 0,yI 0] fun b64 w65 H=>sw<|zC H 0 [yI cz,yI nQ,yI nN] sizeOf44 fun w66 H=>?_
   try dsimp only [List.set] at H
   refine zjcc<|sq 1<|sw<|zi [yI cz,yI nQ,yI nN] isAgg44 sizeOf44 rfl (qK (H.cells 0 rfl) 0 3) ?_
   have H1:=H.yw 10 10 [1,5,7,8,0,2,3,4,6,9] [2,3,4,8,9,0,1,5,6,7] (by simp only [List.length_cons,List.length_append];omega)<|by simp only [List.length_cons,List.length_append];omega
   have N1:Fresh _ (qU::jS::[]::Ns):=(N.qY 3 [2,1,0]<|by simp only [List.length_cons,List.length_append];omega)
   have K1:Kept (Ns) ((sF false Fc ac cc ah)::(qL true [] Qv out)::(sF false FA tA cA t.xn)::(sF false FB tB cB t.qG)::(sF false FU tU cU t.qE)::Γ):=K0.behind 5 rfl
   replace K1:=K1.cons (F:=[]) 1 rfl rfl
   refine sw<|zy #[pp b62 0,.agg #[yI cz,yI nQ,yI nN]] rfl rfl call64 (dWould_ok s own ap cp Fp ar cr Fr ao co Fo sb cq eQ b62 _ oX (((qW s own t n).qF).length) H6 yx qU QO QM QN Xw jS (⟨cz,nQ,nN⟩:xm) H1 N1 K1 qg qg qg) ?_
   clear H H1 N1 K1
   rintro _ w67 ⟨aGG,rfl,N,H⟩
   refine zjn<|vk _ rfl (fun h70=>?_)<|fun h70=>?_
   ·refine c_exit (t_x<|b_o rfl<|t_x<|t_x<|b_x<|t_n<|zcr<|sq 1<|sw<|zi [yI cz,yI nQ,yI nN] isAgg44 sizeOf44 rfl (qK (H.cells 6 rfl) 0 3)<|sw<|zx H underlying34 ti44 [yI cz,yI nQ,yI nN] fun b71 Rh H=>sw<|zJ H 10 rfl 0 rfl underlying34 ti44 rfl qj rfl rfl rfl qw qp qf fun a73 c74 w75 H=>?_)
    try dsimp only [List.set] at H
    replace H:=H.snoc_DeedD 6 rfl cz nQ nN
    replace N:Fresh W0.heap.size (([]++[])::qU::jS::Ns):=(Fresh.join<|Fresh.swap ((N.qY 3 [2,0,1]<|by simp only [List.length_cons,List.length_append];omega).emp))
    refine sq 1<|zjn<|xZ<|sq 1<|sw<|zi [yI cz,yI nQ,yI nN] isAgg44 sizeOf44 rfl (qK (H.cells 7 rfl) 0 3) ?_
    have dd:=j2.1
    have tk:=i5
    have H1:=H.yw 11 11 [8,2,3,4,0,1,5,6,7,9,10] [1,2,3,4,5,0,6,7,8,9,10] (by simp only [List.length_cons,List.length_append];omega)<|by simp only [List.length_cons,List.length_append];omega
    have N1:Fresh _ (qU::jS::([]++[])::Ns):=(N.qY 3 [1,2,0]<|by simp only [List.length_cons,List.length_append];omega)
    have K1:Kept (Ns) ((qL true ([]++[]) (Qv++[yI cz,yI nQ,yI nN])<|out++[(⟨cz,nQ,nN⟩:xm)])::(sF false Fc ac cc ah)::(qL true [] Qv out)::(sF false FA tA cA t.xn)::(sF false FB tB cB t.qG)::(sF false FU tU cU t.qE)::Γ):=K0.behind 6 rfl
    replace K1:=K1.cons (F:=([]++[])) 0 rfl rfl
    refine sw<|zy #[pp Ga 0,.agg #[yI cz,yI nQ,yI nN]] rfl rfl call65 (sdo_ok s own ap cp Fp ar cr Fr ao co Fo sb cq eQ Ga _ oX (((qW s own t n).qF).length) H6 yx qU QO QM QN Xw jS (⟨cz,nQ,nN⟩:xm) H1 N1 K1 qg qg qg<|zf (zZ OL 1 rfl)<|zf (zZ OL 2 rfl)<|zf (zZ OL 3 rfl)<|zf (old_nil rfl)<|zf (zZ OL 0 rfl)<|zf (old_nil rfl)<|zf (zZ OL 4 rfl)<|zf (zZ OL 5 rfl)<|zf (zZ OL 6 rfl)<|olds_drop OL 7 rfl) ?_
    clear H H1 N1 K1
    rintro _ w76 ⟨SQ,aKF,aG0,aDX,Il,aKd,aHF,rfl,N,H⟩
    obtain rfl:=H.xe (α:=zk) 3 rfl 4 rfl qj
    refine xW<|b_n<|t_n<|xZ<|sp (yI k)<|sw<|o_sub k 1 rfl rfl qf<|sq 1<|xW<|xq (m' :=(k - 1).toNat) qf ⟨_,_,_,_,_,_,_,_,_,_,_,_,_,_,_,_,_,_,_,uE6,?_,?_,?_,?_,?_,rfl,(N.qY 3 [2,1,0]<|by simp only [List.length_cons,List.length_append];omega),H.qY 11 11 [7,1,9,0,2,3,10] [5,6,0,1,2,8,9,10,3,4] (by simp only [List.length_cons,List.length_append];omega)<|by simp only [List.length_cons,List.length_append];omega⟩
    ·omega
    ·simp;omega
    ·rfl
    ·exact i4.snoc dd
    ·exact doM_ok p0 tk dd
   refine xk<|t_n<|xZ<|sq 2 ?_
   have H1:=H.yw 10 10 [5,7,0,1,2,3,4,6,8,9] [5,0,1,2,3,4,6,7,8,9] (by simp only [List.length_cons,List.length_append];omega)<|by simp only [List.length_cons,List.length_append];omega
   have N1:Fresh _ (qU::jS::[]::Ns):=N
   have K1:Kept (Ns) ((sF false Fp ap cp s.qA)::(sF false Fr ar cr s.qB)::(sF false Fo ao co own)::(qL true qU yx cq)::(qL true jS Xw eQ)::(qL true [] Qv out)::(sF false FA tA cA t.xn)::(sF false FB tB cB t.qG)::(sF false FU tU cU t.qE)::Γ):=K0.behind 9 rfl
   replace K1:=K1.cons (F:=[]) 5 rfl rfl
   replace K1:=K1.cons (F:=jS) 4 rfl rfl
   replace K1:=K1.cons (F:=qU) 3 rfl rfl
   refine sw<|zy #[pp bs 0,pp Ga 0] rfl rfl call63 (dNextDeed_ok ah Ik Ba bs ac cc Fc sb ao own.length co Ga oX (((qW s own t n).qF).length) H6 QO QM QN H1 N1 K1 qg qg qg) ?_
   clear H H1 N1 K1
   rintro _ w85 ⟨aJI,MN,Et,Ex,avm,agk,R8,rfl,N,H⟩
   refine sw<|zC H 7 [yI Et,yI Ex,yI avm] sizeOf44 fun w94 H=>?_
   try dsimp only [List.set] at H
   refine xW<|b_n<|t_n<|xZ<|sq 1<|sw<|zV tq 1 rfl rfl qf<|sq 1<|xW<|xq (m' :=(3 - (tq+1):Nat)) qf ⟨_,tq+1,_,_,_,_,_,uE8,?_,?_,?_,rfl,(N.qY 3 [2,1,0]<|by simp only [List.length_cons,List.length_append];omega),H.qY 10 10 [7,0,1,3,8,4,5,9] [0,6,1,2,3,7,8,9,4,5] (by simp only [List.length_cons,List.length_append];omega)<|by simp only [List.length_cons,List.length_append];omega⟩
   ·omega
   ·rw [← bl];assumption
   ·omega
  replace h61:=xJ h61
  refine zx4<|zcr<|sq 1<|sw<|zi [yI cz,yI nQ,yI nN] isAgg44 sizeOf44 rfl (qK (H.cells 1 rfl) 0 3)<|sw<|zx H underlying34 ti44 [yI cz,yI nQ,yI nN] fun b95 w96 H=>sw<|zJ H 8 rfl 0 rfl underlying34 ti44 rfl qj rfl rfl rfl qw qp qf fun a97 c98 w99 H=>?_
  try dsimp only [List.set] at H
  replace H:=H.snoc_DeedD 1 rfl cz nQ nN
  replace N:Fresh W0.heap.size (([]++[])::jS::qU::Ns):=(Fresh.join<|Fresh.swap<|N.emp)
  refine sq 1<|zjn<|xZ<|sq 1<|sw<|zi [yI cz,yI nQ,yI nN] isAgg44 sizeOf44 rfl (qK (H.cells 2 rfl) 0 3) ?_
  have dd:=j2.1
  have tk:=i5
  have H1:=H.yw 9 11 [3,4,6,7,0,1,2,5,8] [3,4,5,9,10,0,1,2,6,7,8] (by simp only [List.length_cons,List.length_append];omega)<|by simp only [List.length_cons,List.length_append];omega
  have N1:Fresh _ (qU::jS::([]++[])::Ns):=(N.qY 3 [2,1,0]<|by simp only [List.length_cons,List.length_append];omega)
  have K1:Kept (Ns) ((qL true ([]++[]) (Qv++[yI cz,yI nQ,yI nN])<|out++[(⟨cz,nQ,nN⟩:xm)])::(sF false Fc ac cc ah)::(qL true [] Qv out)::(sF false FA tA cA t.xn)::(sF false FB tB cB t.qG)::(sF false FU tU cU t.qE)::Γ):=K0.behind 6 rfl
  replace K1:=K1.cons (F:=([]++[])) 0 rfl rfl
  refine sw<|zy #[pp Ga 0,.agg #[yI cz,yI nQ,yI nN]] rfl rfl call65 (sdo_ok s own ap cp Fp ar cr Fr ao co Fo sb cq eQ Ga _ oX (((qW s own t n).qF).length) H6 yx qU QO QM QN Xw jS (⟨cz,nQ,nN⟩:xm) H1 N1 K1 qg qg qg<|zf (zZ OL 1 rfl)<|zf (zZ OL 2 rfl)<|zf (zZ OL 3 rfl)<|zf (old_nil rfl)<|zf (zZ OL 0 rfl)<|zf (old_nil rfl)<|zf (zZ OL 4 rfl)<|zf (zZ OL 5 rfl)<|zf (zZ OL 6 rfl)<|olds_drop OL 7 rfl) ?_
  clear H H1 N1 K1
  rintro _ an4 ⟨Cz,Dn,aAj,aqz,BX,azl,aCg,rfl,N,H⟩
  obtain rfl:=H.xe (α:=zk) 3 rfl 4 rfl qj
  refine xW<|b_n<|t_n<|xZ<|sp (yI k)<|sw<|o_sub k 1 rfl rfl qf<|sq 1<|xW<|xq (m' :=(k - 1).toNat) qf ⟨_,_,_,_,_,_,_,_,_,_,_,_,_,_,_,_,_,_,_,uE6,?_,?_,?_,?_,?_,rfl,(N.qY 3 [2,1,0]<|by simp only [List.length_cons,List.length_append];omega),H.qY 9 11 [5,1,7,0,2,3,8] [5,6,0,1,2,8,9,10,3,4] (by simp only [List.length_cons,List.length_append];omega)<|by simp only [List.length_cons,List.length_append];omega⟩
  ·omega
  ·simp;omega
  ·rfl
  ·exact i4.snoc dd
  ·exact doM_ok p0 tk dd
 refine zx4<|zcr<|sq 2<|zjr<|ret1 (Sv yY yV yX) rfl rfl ⟨_,rfl,(⟨eH,dA,out,yY,yV,yX,Qv,[],qf,(by exact ⟨i4,by omega⟩),rfl,(N.qY 3 [0]<|by simp only [List.length_cons,List.length_append];omega),H.qY 7 10 [0,1,2,6] [1,2,3,4,5,6,7,0] (by simp only [List.length_cons,List.length_append];omega)<|by simp only [List.length_cons,List.length_append];omega⟩)⟩
theorem a2Deeds_ok (ah:List UInt8) (ac:yOA) (cc:Nat) (Fc:yLN) (s:qM) (own:yLI) (ap:yOA) (cp:Nat) (Fp:yLN) (ar:yOA) (cr:Nat) (Fr:yLN) (ao:yOA) (co:Nat) (Fo:yLN) (t:xh) (tA:yOA) (cA:Nat) (FA:yLN) (tB:yOA) (cB:Nat) (FB:yLN) (tU:yOA) (cU:Nat) (FU:yLN) (n:Nat) (H:St W0 w (ps) ((sF false Fc ac cc ah)::(sF false Fp ap cp s.qA)::(sF false Fr ar cr s.qB)::(sF false Fo ao co own)::(sF false FA tA cA t.xn)::(sF false FB tB cB t.qG)::(sF false FU tU cU t.qE)::Γ)) (N:Fresh W0.heap.size (Ns)) (K0:Kept Ns Γ) (p0:Giv s own n) (p1:Vt own n) (p2:vM s t) (OL:∀ f∈(sF false Fc ac cc ah::sF false Fp ap cp s.qA::sF false Fr ar cr s.qB::sF false Fo ao co own::sF false FA tA cA t.xn::sF false FB tB cB t.qG::sF false FU tU cU t.qE::Γ),∀ b∈f.F,b < W0.heap.size):Calls Tryz.prog 9 #[Sv ac ah.length cc,.agg #[yI s.qP,Sv ap s.qA.length cp,Sv ar s.qB.length cr],Sv ao own.length co,.agg #[Sv tA t.xn.length cA,Sv tB t.qG.length cB,Sv tU t.qE.length cU]] w (fun e w' =>∃ v,e=.returned v/\∃ (nh:List xm) (rad:yOA) (rnd:Nat) (rcd:Nat) (rxd:List Value) (rFd:yLN),(Deeds nh/\(nh.length:Int)<=40)/\v=Sv rad rnd rcd/\Fresh W0.heap.size (rFd::Ns)/\St W0 w' ((rr rad rnd rcd 44 3 rxd)::ps) ((sF false Fc ac cc ah)::(sF false Fp ap cp s.qA)::(sF false Fr ar cr s.qB)::(sF false Fo ao co own)::(sF false FA tA cA t.xn)::(sF false FB tB cB t.qG)::(sF false FU tU cU t.qE)::(qL true rFd rxd nh)::Γ)):=by
 refine en func9 ntmps9 ?_
 have mw:=qO (H.get 0 rfl).1
 have ug:=qO (H.get 1 rfl).1
 have th:=qO (H.get 2 rfl).1
 have sy:=qO (H.get 3 rfl).1
 have RB:=qO (H.get 4 rfl).1
 have TG:=qO (H.get 5 rfl).1
 have RD:=qO (H.get 6 rfl).1
 refine zcr<|sw<|jq H (yS s ap cp ar cr) fun b1 w2 H=>sw<|jq H (yT t tA cA tB cB tU cU) fun b3 w4 H=>sq 1<|zjc<|sq 1<|sw<|zX #[Sv ac ah.length cc] rfl rfl call24<|en func24 ntmps24 ?_
 refine zcr<|sq 1<|zjc<|sq 1<|sw<|jb [Sv ac ah.length cc,yI 0,.int .u64 0] [(0,Sv ac ah.length cc)]<|sw<|jq H [Sv ac ah.length cc,yI 0,.int .u64 0] fun b5 w6 H=>sq 1<|zjr<|ret1 (pp b5 0) rfl rfl ⟨_,rfl,(sq 1 ?_)⟩
 have H1:=H.yw 3 7 [0,2,1] [0,1,2,3,4,5,6] (by simp only [List.length_cons,List.length_append];omega)<|by simp only [List.length_cons,List.length_append];omega
 have N1:Fresh _ (Ns):=N
 have K1:Kept (Ns) (Γ):=K0.behind 0 rfl
 refine sw<|zy #[pp b5 0,pp b1 0,Sv ao own.length co,pp b3 0,yI 40] rfl rfl call25 (dDeeds_ok ah (0:Int) 0 b5 ac cc Fc s own ap cp Fp ar cr Fr ao co Fo t tA cA FA tB cB FB tU cU FU b1 b3 (40:Int) n H1 N1 K1 qg qg qg qg qg<|zf (zZ OL 0 rfl)<|zf (zZ OL 1 rfl)<|zf (zZ OL 2 rfl)<|zf (zZ OL 3 rfl)<|zf (zZ OL 4 rfl)<|zf (zZ OL 5 rfl)<|zf (zZ OL 6 rfl)<|olds_drop OL 7 rfl) ?_
 clear H H1 N1 K1
 rintro _ w7 ⟨dy,R1,ZE,rG,as8,uc,Kc,auX,hx9,azc,rfl,N,H⟩
 obtain rfl:=H.xe (α:=xm) 3 rfl 7 rfl qj
 refine sq 1<|zjr<|ret1 (Sv rG ZE.length uc) rfl rfl ⟨_,rfl,(⟨ZE,rG,ZE.length,uc,Kc,auX,ql,rfl,N,H.qY 4 8 [3] (zR 0 8) (by simp only [List.length_cons,List.length_append];omega)<|by simp only [List.length_cons,List.length_append];omega⟩)⟩
end
section
section
variable {P : Program} {Q : Exit -> Act -> World -> Prop} {n : Nat} {ρ : Env} {W0 w : World} {ps : List Prv} {Γ : List Fact}
 {d:Nat} {op:Op} {ty:TypeId} {pos:String} {af:Array Edge} {K:Env->World->Prop}
theorem o_cvt [Dfr] {s:TypeId} {ds:TypeDesc} {k k' :IntKind} (a:Int) (hs:P.underlying s=some ds) (ht:P.underlying t=some (.int k')) (hx:ev n ρ x=.int k a) (hw:k'.wrap a=a) (h:K (upd ρ d<|.int k' a) w):
 OW P Q ⟨some d,.convert s t x,ty,pos,af,none⟩ n ρ w K:=
 QT _ (by simp [execOp,hx,convert,run_underlying hs,run_underlying ht,Conv.intToInt,hw]) h
theorem o_gtU [Dfr] (a b:Int) {c:Bool} (hx:ev n ρ x=.int .u64 a) (hy:ev n ρ y=.int .u64 b) (hc:decide (a > b)=c) (k:K (upd ρ d<|Bv c) w):OW P Q ⟨some d,.binOp .gtr t x y u,ty,pos,af,none⟩ n ρ w K:=by
 subst hc
 exact QT (Bv<|decide<|a > b) (by simp [execOp,hx,hy,eqGuard,binOp,Op.intCmp]) k
theorem o_copyN [Dfr] {e:TypeId} {z:Value} {fJ b c c2 c3 nn m m1 q cnt:Nat} {A:Addr} {xs kK:List Value} (H:St W0 w ps Γ) (k:Nat) (hp:ps[k]? =some (.row (Sv (some ⟨b,0,none⟩) nn c) e 1 nn xs))
 (hu:P.underlying t=some (.slice e)) (he:TI P e z 1 fJ) (hx:ev n ρ x=Sv (some ⟨b,q,none⟩) m1 c3) (hy:ev n ρ y=Sv (some A) m c2) (hc:Nat.min m m1=cnt) (hl:kK.length=cnt)
 (hn:∀ r u,kK[r]? =some u->w.cell? (A.add r)=some u) (h1:∀ u∈kK,u.oneCell' =true) (ho:q+kK.length<=xs.length)
 (kk:∀ w',St W0 w' (ps.set k<|.row (Sv (some ⟨b,0,none⟩) nn c) e 1 nn<|xs.take q++kK++xs.drop (q+kK.length)) Γ->K (upd ρ d<|.int .i64 cnt) w'):
 OW P Q ⟨some d,.call ⟨.builtin .copy,#[x,y],#[t,u]⟩,ty,pos,af,none⟩ n ρ w K:=by
 obtain ⟨i',hi,LJ,NL,Ls⟩:=info_parts he
 have hz:i'.size=1:=by first | exact LJ | exact NL | exact Ls
 obtain ⟨w',hr,H'⟩:=H.rowSet k hp q kK ho h1 (P:=P)
 have hfc:=run_firstCells_some (P:=P) w 1 cnt A m c2 kK qf hn
 refine QT (.int .i64 cnt) ?_<|kk w' H'
 simp [execOp,resolve,invoke,builtin,hx,hy,Builtin.copy_,run_underlying hu,sizeOf,typeInfo,hi,hz,Builtin.lenOf,hc,hfc,hr,goInt]
end
def mulR:Go.Shelf.Ren:=⟨fun | 212=>164 | 263=>174 | 264=>175 | n=>n,fun | 46=>180 | 51=>198 | 53=>114 | 146=>199 | 148=>201 | n=>n,fun | n=>n⟩
open Go.Shelf Go.Lib in
theorem mulLay:Lays.n212 Tryz.prog mulR:={
 mixed:=by kernel_rfl
 f212:=Tryz.func164.trans (congrArg some qh)
 f263:=Tryz.func174.trans (congrArg some qh)
 f264:=Tryz.func175.trans (congrArg some qh)
 t46:=underlying180
 a46:=isAgg180
 z46:=sizeOf180
 v46:=zeroValue180
 t51:=underlying198
 a51:=isAgg198
 z51:=sizeOf198
 v51:=zeroValue198
 t53:=underlying114
 a53:=isAgg114
 z53:=sizeOf114
 v53:=zeroValue114
 t146:=underlying199
 a146:=isAgg199
 z146:=sizeOf199
 v146:=zeroValue199
 t148:=underlying201
 a148:=isAgg201
 z148:=sizeOf201
 v148:=zeroValue201 }
theorem mul_one (m:Nat) (hm:m<=1000) (w:World):Calls Tryz.prog 164 #[.int .u64 1,.int .u64 m] w fun e w' =>e=.returned (.tuple #[.int .u64 0,.int .u64 m])/\w' =w:=by
 have h:=Go.Proofs.Any.bits_Mul mulLay 1 m qf qf w
 rw [show 1 * m / 18446744073709551616=0 from by omega,show 1 * m % 18446744073709551616=m from by omega] at h
 exact h
theorem repeatB_ok (w:World) (x:List Bool) (xL:Int) {ax:yOA} {cx:Nat} {Fx:yLN} (hx:zP w Fx ax cx x) (p0:x.length=1/\1<=xL/\xL<=1000):
 Calls Tryz.prog 138 #[Sv ax x.length cx,.int .i64 xL] w (Ret (fun v w' =>∃ (ra:yOA) (rn:Nat) (rc:Nat),v=Sv ra rn rc/\Fresh w.heap.size []/\St w w' [rr ra rn rc 4 1 ((vG x xL).map<|Value.bool)] []) w):=by
 obtain ⟨p1,p2,p3⟩:=p0
 obtain ⟨m,rfl⟩:∃ m:Nat,xL=m:=⟨xL.toNat,by omega⟩
 refine en Tryz.func138 Tryz.ntmps138 ?_
 have H:=(St.start w).arg hx
 clear hx
 rw [p1]
 refine xH<|xZ<|sp (Sv none 0 0)<|xW<|t_n<|xH<|xH<|xZ<|sp (.int .i64 m)<|sp (Bv<|decide ((m:Int) < 0))<|xW<|t_n<|vk (decide ((m:Int) < 0)) rfl (fun h=>?_)<|fun h=>?_
 ·have:=of_decide_eq_true h;omega
 refine xk<|t_n<|xH<|xZ<|sp (Sv ax 1 cx)<|sw<|o_len underlying28 ax 1 cx rfl<|sw<|o_cvt 1 underlying3 underlying180 rfl (by rw [IntKind.wrap_u64];omega)<|sp (.int .i64 m)<|sw<|o_cvt m underlying3 underlying180 rfl (by rw [IntKind.wrap_u64];omega)<|sw<|zy (R:=fun v w' =>v=.tuple #[.int .u64 0,.int .u64 m]/\w' =w) #[.int .u64 1,.int .u64 m] rfl rfl call164 ((mul_one m qf _).mono fun e w' h=>⟨_,h.1,rfl,h.2⟩) ?_
 rintro _ w0 ⟨rfl,rfl⟩
 refine sps [.tuple #[.int .u64 0,.int .u64 m],.int .u64 0,.int .u64 m,.int .u64 0,.int .u64 m]<|xW<|t_n<|xH<|xH<|xZ<|sp (.int .u64 0)<|sw<|o_gtU 0 0 (c:=false) rfl rfl qj<|sp (Bv false)<|qV 23 rfl rfl<|sp (.int .u64 m)<|qV 23 rfl rfl<|sw<|o_gtU m 9223372036854775807 (c:=false) rfl rfl qy<|sp (Bv false)<|xW<|t_n<|vk false rfl (fun h=>absurd h qj) fun _=>(xk<|t_n<|xH<|xZ<|sp (.int .u64 m)<|sw<|o_cvt m underlying180 underlying3 rfl (wrap_in qf)<|sw<|o_make1 H underlying28 ti4 (by rfl) m rfl rfl qf qf fun b w1 H=>?_)
 replace H:=H.boxRow 0 rfl 1 m qm qp
 dsimp only [List.set] at H
 refine sp (Sv (some ⟨b,0,none⟩) m m)<|xW<|t_n<|xH<|xZ<|sps [Sv (some ⟨b,0,none⟩) m m,Sv ax 1 cx] ?_
 obtain ⟨bx,ox,rfl⟩:=H.addr 0 rfl qf
 have hb:=H.elemBoolN 0 rfl 0 qf
 refine sw<|o_copyN (q:=0) (cnt:=1) (kK:=[Bv<|x[0]!]) H 0 rfl underlying28 ti4 rfl rfl ?_ rfl (fun r u hu=>?_) (fun u hu=>?_) ?_ fun w2 H=>?_
 ·show min 1 m=1
  omega
 ·cases r with
  | zero=>simp only [List.getElem?_cons_zero,Option.some.injEq] at hu;subst hu;exact hb
  | succ r=>simp at hu
 ·simp only [List.mem_singleton] at hu;subst hu;rfl
 ·simp;omega
 dsimp only [List.set] at H
 refine sp (.int .i64 1)<|xW<|t_n<|xH<|xg<|zU (fun m' ρ w3=>∃ (xI:Env) (k:Nat),ρ=upd (upd xI 7<|Sv (some ⟨b,0,none⟩) m m) 8 (.int .i64 k)/\(1<=k/\k<=m)/\m' =m - k/\St w0 w3 [.row (Sv (some ⟨b,0,none⟩) m m) 4 1 m<|List.replicate k (Bv<|x[0]!)++List.replicate (m - k) (Bv false)] []) (m - 1) ⟨_,1,uE2,by omega,rfl,?_⟩ ?_
 ·have e:List.take 0 (List.replicate m<|Value.bool false)++[Value.bool<|x[0]!]++List.drop (0+[Value.bool<|x[0]!].length) (List.replicate m<|Value.bool false)=List.replicate 1 (Bv<|x[0]!)++List.replicate (m - 1) (Bv false):=by simp
  rw [e] at H
  exact H.pick [0] []
 clear H hb
 rintro m' ρ w3 ⟨xI,k,rfl,hk,rfl,H⟩
 refine xH<|xH<|xZ<|sps [.int .i64 k,Sv (some ⟨b,0,none⟩) m m]<|sw<|o_len underlying28 (some ⟨b,0,none⟩) m m rfl<|sp (Bv<|decide ((k:Int) < m))<|xW<|t_n<|cD rfl (fun h5=>?_)<|fun h5=>?_
 ·refine xk (t_n<|xg<|zY 2 rfl H [] [] fun H=>?_)
  dsimp only [jR,yE]
  obtain ⟨q,hq⟩:∃ q,Nat.min k (m - k)=q:=⟨_,rfl⟩
  have hq1:q=min k (m - k):=hq.symm
  refine rtl 0 (H.pick [] []) ?_
  refine rtl 1 (H.pick [] []) ?_
  refine rtl 2 (H.pick [] []) ?_
  refine rt 3 (Sv (some ⟨b,if m=k then 0 else 0+k * 1,none⟩) (m - k)<|m - k) (fun _ _=>y_from k underlying28 ti4 rfl rfl qf qf) (H.pick [] []) ?_
  refine rtl 4 (H.pick [] []) ?_
  refine rtl 5 (H.pick [] []) ?_
  refine rt 6 (Sv (some ⟨b,0,none⟩) k m) (fun _ _=>y_up k underlying28 ti4 rfl rfl qf) (H.pick [] []) ?_
  rw [if_neg<|show ¬ m=k by omega]
  refine ro 7 rfl<|o_copyN (q:=0+k * 1) (cnt:=q) (kK:=List.replicate q<|Bv<|x[0]!) H 0 rfl underlying28 ti4 rfl rfl hq qm (fun r u hu=>?_) (fun u hu=>?_) ?_ fun w4 H=>⟨H.pick [] [],?_⟩
  ·obtain ⟨hr,hu⟩:=List.getElem?_eq_some_iff.1 hu
   simp only [List.length_replicate] at hr
   simp only [List.getElem_replicate] at hu
   subst hu
   have h:=H.rowGet 0 rfl (i:=r) (v:=Bv<|x[0]!)<|by rw [List.getElem?_append_left qy,List.getElem?_replicate,if_pos qf]
   rw [Addr.add_lit,Nat.zero_add]
   exact h
  ·rw [(List.mem_replicate.1 hu).2];rfl
  ·simp;omega
  dsimp only [List.set] at H
  refine xy qh<|xM<|sw<|zV k q rfl rfl qf<|sp (.int .i64<|k+q)<|xW<|b_n<|xq (m' :=m - (k+q)) qf ⟨_,k+q,uE2,by omega,rfl,?_⟩
  have e:List.take (0+k * 1) (List.replicate k (Value.bool<|x[0]!)++List.replicate (m - k) (Value.bool false))++List.replicate q (Value.bool<|x[0]!)++List.drop (0+k * 1+(List.replicate q<|Value.bool<|x[0]!).length) (List.replicate k (Value.bool<|x[0]!)++List.replicate (m - k) (Value.bool false))=
   List.replicate (k+q) (Bv<|x[0]!)++List.replicate (m - (k+q)) (Bv false):=by
   rw [show 0+k * 1=(List.replicate k<|Value.bool<|x[0]!).length from by simp,List.take_left,List.drop_length_add_append,List.length_replicate,List.drop_replicate,List.replicate_append_replicate,Nat.sub_sub]
  rw [e] at H
  exact H
 ·obtain rfl:k=m:=by omega
  refine zx4<|zcr<|sq 2<|zjr<|rH1 (Sv (some ⟨b,0,none⟩) k k) H ⟨_,_,_,rfl,Fresh.nil _,?_⟩
  have e:List.replicate k (Value.bool<|x[0]!)++List.replicate (k - k) (Value.bool false)=(vG x k).map Value.bool:=by
   rw [Nat.sub_self]
   simp [vG]
  rw [e] at H
  exact H
end
section
variable {qZ xC rD : Nat}
theorem owner_ok (s:qM) (own:yLI) (ap:yOA) (cp:Nat) (Fp:yLN) (ar:yOA) (cr:Nat) (Fr:yLN) (ao:yOA) (co:Nat) (Fo:yLN) (bk:Nat) (eG:yOA) (eo:Nat) (cC:Nat) (cM:yOA) (ke:Nat) (bJ:Nat) (xv:Nat) (H:St W0 w ((.box bk [Sv eG eo cC,Sv cM ke bJ,yI s.qP,Sv ap s.qA.length cp,Sv ar s.qB.length cr,Sv ao own.length co] 74)::ps) ((sF false Fp ap cp s.qA)::(sF false Fr ar cr s.qB)::(sF false Fo ao co own)::Γ)) (N:Fresh W0.heap.size (Ns)) (K0:Kept Ns Γ) (p0:xv<=own.length) (p1:own.length=s.qA.length) (p2:1<=s.qA.length):Calls Tryz.prog 140 #[pp bk 0,yI xv] w (fun e w' =>∃ v,e=.returned v/\v=yI (vC own xv)/\Fresh W0.heap.size (Ns)/\St W0 w' ((.box bk [Sv eG eo cC,Sv cM ke bJ,yI s.qP,Sv ap s.qA.length cp,Sv ar s.qB.length cr,Sv ao own.length co] 74)::ps) ((sF false Fp ap cp s.qA)::(sF false Fr ar cr s.qB)::(sF false Fo ao co own)::Γ)):=by
 refine en func140 ntmps140 ?_
 have ug:=qO (H.get 0 rfl).1
 have th:=qO (H.get 1 rfl).1
 have sy:=qO (H.get 2 rfl).1
 refine zcr<|sp (yI 0)<|zjcc<|sp (yI xv)<|sq 2<|oF rfl<|sw<|zi (yS s ap cp ar cr) isAgg27 sizeOf27 rfl (qK (H.cells 0 rfl) 2 3)<|sw<|oq (around_ok _ s (H.get 0 rfl).1 (H.get 1 rfl).1) H fun w2 H=>sq 1<|zjn<|cE rfl (fun h4=>?_)<|fun h4=>?_
 ·refine zcr (sq 2<|oF rfl<|oL rfl (H.cell 0 rfl rfl) ?_)
  obtain ⟨b5,o6,rfl⟩:=H.addr 2 rfl qf
  refine oI rfl rfl<|oL rfl (H.jd 2 rfl 0 qf)<|sq 1<|zjr<|t_r<|ret1 (yI<|own[0]!) rfl rfl ⟨_,rfl,?_⟩
  first | rw [ownAt_e qf] | rw [ownAt_n qf]
  exact ⟨rfl,N,H.qY 1 3 [0] [0,1,2] (by simp only [List.length_cons,List.length_append];omega)<|by simp only [List.length_cons,List.length_append];omega⟩
 refine xk<|t_n<|zcr<|sq 2<|oF rfl<|oL rfl (H.cell 0 rfl rfl)<|sp (yI xv) ?_
 obtain ⟨b8,o9,rfl⟩:=H.addr 2 rfl qf
 refine oI rfl rfl<|oL rfl (H.jd 2 rfl xv qf)<|sq 1<|zjr<|ret1 (yI<|own[xv]!) rfl rfl ⟨_,rfl,?_⟩
 first | rw [ownAt_e qf] | rw [ownAt_n qf]
 exact ⟨rfl,N,H.qY 1 3 [0] [0,1,2] (by simp only [List.length_cons,List.length_append];omega)<|by simp only [List.length_cons,List.length_append];omega⟩
theorem work_ok (s:qM) (own:yLI) (ap:yOA) (cp:Nat) (Fp:yLN) (ar:yOA) (cr:Nat) (Fr:yLN) (ao:yOA) (co:Nat) (Fo:yLN) (sv:List zA) (wi:List zk) (bk:Nat) (n:Nat) (eG:yOA) (eo:Nat) (cC:Nat) (bZ:List Value) (aF:yLN) (cM:yOA) (ke:Nat) (bJ:Nat) (bM:List Value) (az:yLN) (iv:Int) (H:St W0 w ((.box bk [Sv eG eo cC,Sv cM ke bJ,yI s.qP,Sv ap s.qA.length cp,Sv ar s.qB.length cr,Sv ao own.length co] 74)::(rr eG eo cC 49 16 bZ)::(rr cM ke bJ 77 4 bM)::ps) ((sF false Fp ap cp s.qA)::(sF false Fr ar cr s.qB)::(sF false Fo ao co own)::(qL true aF bZ sv)::(qL true az bM wi)::Γ)) (N:Fresh W0.heap.size (aF::az::Ns)) (K0:Kept Ns Γ) (p0:Giv s own n) (p1:Vu s own n (⟨sv,wi⟩:zQ)) (p2:0<=iv/\iv < n) (OL:∀ f∈(sF false Fp ap cp s.qA::sF false Fr ar cr s.qB::sF false Fo ao co own::Γ),∀ b∈f.F,b < W0.heap.size):Calls Tryz.prog 96 #[pp bk 0,yI iv] w (fun e w' =>∃ v,e=.returned v/\∃ (pB:List Value) (pJ:yLN) (pN:yOA) (pK:Nat) (pi:Nat) (pC:List Value) (pq:yLN),v=yI ((workM s own (⟨sv,wi⟩:zQ) iv.toNat).2)/\Fresh W0.heap.size (pJ::pq::Ns)/\St W0 w' ((.box bk [Sv eG eo cC,Sv pN pK pi,yI s.qP,Sv ap s.qA.length cp,Sv ar s.qB.length cr,Sv ao own.length co] 74)::(rr eG eo cC 49 16 pB)::(rr pN pK pi 77 4 pC)::ps) ((sF false Fp ap cp s.qA)::(sF false Fr ar cr s.qB)::(sF false Fo ao co own)::(qL true pJ pB ((workM s own (⟨sv,wi⟩:zQ) iv.toNat).1.qF))::(qL true pq pC ((workM s own (⟨sv,wi⟩:zQ) iv.toNat).1.zu))::Γ)):=by
 refine en func96 ntmps96 ?_
 have ug:=qO (H.get 0 rfl).1
 have th:=qO (H.get 1 rfl).1
 have sy:=qO (H.get 2 rfl).1
 obtain rfl:=H.xe (α:=zA) 1 rfl 3 rfl qj
 obtain rfl:=H.xe (α:=zk) 2 rfl 4 rfl qj
 have g1:=p0.sys
 have g2:=p0.len
 have g3:=p0.own
 have g4:=p0.few
 have l1:sv.length=n:=p1.len
 have l2:wi.length<=12:=p1.few
 subst l1
 have p5:=p0.sys.1
 have p6:own.length=s.qA.length:=p0.len
 have p7:=p0.sys.1.2.1
 have p8:zF s=s.qA.length:=rfl
 refine zcr<|sp (yI 0)<|zjc<|sq 2<|oF rfl<|oF rfl<|oL rfl (H.cell 0 rfl rfl)<|sp (yI iv) ?_
 obtain ⟨b1,rfl⟩:=H.jg 1 rfl qf
 refine oI rfl rfl<|oF rfl<|sq 1<|zjn<|xH<|xg<|zcr<|sq 2<|oF rfl ?_
 obtain ⟨Xk,Xi,lD,Qg,Qe,f8,zE,Bc,Ak,nL,nE,nI,ze,AW,Bg,sC,sE,sG,wQ,sb4,H⟩:=H.partS_DeskD zg 1 rfl 3 rfl rfl iv.toNat qf
 refine oL rfl (H.xX 1 rfl (wQ 3 _ rfl) qf)<|sq 1<|zjn<|vk _ rfl (fun h5=>?_)<|fun h5=>?_
 ·refine zcr (sp (yI 4)<|zjr<|b_r<|t_r<|ret1 (yI 4) rfl rfl ⟨_,rfl,?_⟩)
  rw [workR_4 ql]
  exact ⟨bZ,aF,cM,wi.length,bJ,bM,az,rfl,N,H.qY 3 11 [0,1,2] (zR 6 5) (by simp only [List.length_cons,List.length_append];omega)<|by simp only [List.length_cons,List.length_append];omega⟩
 refine zcr<|sq 2<|oF rfl<|oL rfl (H.xX 1 rfl (wQ 0 _ rfl) qf)<|sp (Bv ((((sv[iv.toNat]!).qC).qN:Int) == 100))<|sp (Bv ((((sv[iv.toNat]!).qC).qN:Int) == 100))<|zjn<|cE rfl (fun h6=>?_)<|fun h6=>?_
 ·refine zcr (sp (yI 3)<|zjr<|b_r<|t_r<|ret1 (yI 3) rfl rfl ⟨_,rfl,?_⟩)
  first | rw [workR_3 ql ql] | rw [workR_no p2.1 ql ql e2 i2 (j:=i) qf ql]
  exact ⟨bZ,aF,cM,wi.length,bJ,bM,az,rfl,N,H.qY 3 11 [0,1,2] (zR 6 5) (by simp only [List.length_cons,List.length_append];omega)<|by simp only [List.length_cons,List.length_append];omega⟩
 have y1:jf s own sv.length iv.toNat (sv[iv.toNat]!).qC:=(p1.srv iv.toNat qf).1
 have v1:=view_ok p0 y1
 have c1:=X7 p0.sys v1
 have c2:=c1.1
 have y10:=(y1.small p0).bags
 refine xk<|b_n<|t_n<|zcr<|sq 2<|oF rfl<|sw<|zi (yS s ap cp ar cr) isAgg27 sizeOf27 rfl (qK (H.cells 0 rfl) 2 3)<|sw<|xU H ti27 [yI 0,yN,yN] fun b7 w8 H=>sw<|zC H 0 (yS s ap cp ar cr) sizeOf27 fun w9 H=>?_
 try dsimp only [List.set] at H
 refine zjn<|xH<|c_lateC 1 (fun ρ w14=>∃ (xI:Env) (wy:yOA) (IOz:Nat) (sH:Nat) (xz:Nat),ρ=upd (upd (upd (upd (upd (upd xI 0<|pp bk 0) 1<|yI iv) 5<|pp b1<|0+(iv:Int).toNat * 16+0) 6<|pp b7 0) 7<|pp sH 0) 55 (.agg #[Sv wy ((vG [true] s.qA.length).length) IOz,Sv Xk ((((sv[iv.toNat]!).qC).qG).length) Xi,Sv Qg ((((sv[iv.toNat]!).qC).qE).length) Qe])/\(bZ[iv.toNat * 16+1]? =some (Sv Xk ((((sv[iv.toNat]!).qC).qG).length) Xi))/\(bZ[iv.toNat * 16+2]? =some (Sv Qg ((((sv[iv.toNat]!).qC).qE).length) Qe))/\Fresh W0.heap.size (aF::az::Ns)/\St W0 w14 ((.box sH [yN,yN,yN] 31)::(rr wy ((vG [true] s.qA.length).length) IOz 4 1 ((vG [true] s.qA.length).map<|Value.bool))::(rr (aa xz 0) 1 1 4 1 ([true].map<|Value.bool))::(.box b7 (yS s ap cp ar cr) 27)::(.box bk [Sv (aa b1 0) sv.length cC,Sv cM wi.length bJ,yI s.qP,Sv ap s.qA.length cp,Sv ar s.qB.length cr,Sv ao own.length co] 74)::(rr (aa b1 0) sv.length cC 49 16 bZ)::(rr cM wi.length bJ 77 4 bM)::ps) ((sF true lD Xk Xi (((sv[iv.toNat]!).qC).qG))::(sF true f8 Qg Qe (((sv[iv.toNat]!).qC).qE))::(sF false Fp ap cp s.qA)::(sF false Fr ar cr s.qB)::(sF false Fo ao co own)::(qL true aF bZ sv)::(qL true az bM wi)::Γ)) rfl H [0,1,2,3] [0,1,2,3,4,5,6,7,8,9,10] (fun H=>?_) ?_
 ·dsimp only [jR,yE]
  refine yR (fun ρ SS=>∃ (xI:Env) (Ii:yOA) (Ir:Nat) (Wt:Nat) (Rc:Nat),ρ=upd (upd (upd (upd (upd (upd (upd (upd xI 0<|pp bk 0) 1<|yI iv) 5<|pp b1<|0+(iv:Int).toNat * 16+0) 6<|pp b7 0) 7<|pp Wt 0) 46<|Sv Ii ((vG [true] s.qA.length).length) Ir) 50<|Sv Xk ((((sv[iv.toNat]!).qC).qG).length) Xi) 54 (Sv Qg ((((sv[iv.toNat]!).qC).qE).length) Qe)/\(bZ[iv.toNat * 16+1]? =some (Sv Xk ((((sv[iv.toNat]!).qC).qG).length) Xi))/\(bZ[iv.toNat * 16+2]? =some (Sv Qg ((((sv[iv.toNat]!).qC).qE).length) Qe))/\Fresh W0.heap.size (aF::az::Ns)/\St W0 SS ((.box Wt [yN,yN,yN] 31)::(rr Ii ((vG [true] s.qA.length).length) Ir 4 1 ((vG [true] s.qA.length).map<|Value.bool))::(rr (aa Rc 0) 1 1 4 1 ([true].map<|Value.bool))::(.box b7 (yS s ap cp ar cr) 27)::(.box bk [Sv (aa b1 0) sv.length cC,Sv cM wi.length bJ,yI s.qP,Sv ap s.qA.length cp,Sv ar s.qB.length cr,Sv ao own.length co] 74)::(rr (aa b1 0) sv.length cC 49 16 bZ)::(rr cM wi.length bJ 77 4 bM)::ps) ((sF true lD Xk Xi (((sv[iv.toNat]!).qC).qG))::(sF true f8 Qg Qe (((sv[iv.toNat]!).qC).qE))::(sF true Ak zE Bc (((sv[iv.toNat]!).qC).vz))::(sF true nI nL nE (((sv[iv.toNat]!).qC).qJ))::(sF true Bg ze AW (((sv[iv.toNat]!).qC).vJ))::(sF true sG sC sE (((sv[iv.toNat]!).qC).xP))::(sF false Fp ap cp s.qA)::(sF false Fr ar cr s.qB)::(sF false Fo ao co own)::(qL true aF bZ sv)::(qL true az bM wi)::Γ)) 1 #[true,true,true,true,true,true,true,true,true,true,true,true,true,false,true] ?_ fun L20=>?_
  ·rintro ρ Ot ⟨xI,Ii,Ir,Wt,Rc,rfl,ayn,axv,N,H⟩
   refine ro 13 rfl<|jb [Sv Ii ((vG [true] s.qA.length).length) Ir,Sv Xk ((((sv[iv.toNat]!).qC).qG).length) Xi,Sv Qg ((((sv[iv.toNat]!).qC).qE).length) Qe] [(0,Sv Ii ((vG [true] s.qA.length).length) Ir),(1,Sv Xk ((((sv[iv.toNat]!).qC).qG).length) Xi),(2,Sv Qg ((((sv[iv.toNat]!).qC).qE).length) Qe)]<|⟨H.pick (zR 3 4)<|zR 0 11,(xy qh<|?_)⟩
   exact meet ⟨_,Ii,Ir,Wt,Rc,uE6,ayn,axv,N,H.qY 7 11 (zR 0 7) (0::1::zR 6 5) (by simp only [List.length_cons,List.length_append];omega)<|by simp only [List.length_cons,List.length_append];omega⟩
  refine yR (fun ρ P6=>∃ (xI:Env) (b25:Nat) (IA:Nat),ρ=upd (upd (upd (upd (upd (upd (upd (upd (upd xI 0<|pp bk 0) 1<|yI iv) 5<|pp b1<|0+(iv:Int).toNat * 16+0) 6<|pp b7 0) 7<|pp IA 0) 42<|Sv (aa b25 0) 1 1) 45<|yI s.qA.length) 50<|Sv Xk ((((sv[iv.toNat]!).qC).qG).length) Xi) 54 (Sv Qg ((((sv[iv.toNat]!).qC).qE).length) Qe)/\(bZ[iv.toNat * 16+1]? =some (Sv Xk ((((sv[iv.toNat]!).qC).qG).length) Xi))/\(bZ[iv.toNat * 16+2]? =some (Sv Qg ((((sv[iv.toNat]!).qC).qE).length) Qe))/\Fresh W0.heap.size (aF::az::Ns)/\St W0 P6 ((.box IA [yN,yN,yN] 31)::(.box b25 [Bv true] 4)::(.box b7 (yS s ap cp ar cr) 27)::(.box bk [Sv (aa b1 0) sv.length cC,Sv cM wi.length bJ,yI s.qP,Sv ap s.qA.length cp,Sv ar s.qB.length cr,Sv ao own.length co] 74)::(rr (aa b1 0) sv.length cC 49 16 bZ)::(rr cM wi.length bJ 77 4 bM)::ps) ((sF true lD Xk Xi (((sv[iv.toNat]!).qC).qG))::(sF true f8 Qg Qe (((sv[iv.toNat]!).qC).qE))::(sF true Ak zE Bc (((sv[iv.toNat]!).qC).vz))::(sF true nI nL nE (((sv[iv.toNat]!).qC).qJ))::(sF true Bg ze AW (((sv[iv.toNat]!).qC).vJ))::(sF true sG sC sE (((sv[iv.toNat]!).qC).xP))::(sF false Fp ap cp s.qA)::(sF false Fr ar cr s.qB)::(sF false Fo ao co own)::(qL true aF bZ sv)::(qL true az bM wi)::Γ)) 2 #[true,true,true,true,false,true,true,true,true,true,true,true,true,false,true] ?_ fun L27=>?_
  ·rintro ρ Rf ⟨xI,b25,IA,rfl,E9,TK,N,H⟩
   refine ro 4 rfl ?_
   replace H:=H.boxRowB 1 [true] 1
   try dsimp only [List.set] at H
   obtain ⟨G32,anw,DQ⟩:=H.rowIsB 1 rfl
   have aGw:=H.base.size
   refine oc (args_eq (by rw [← anw])<|repeatB_ok _ [true] s.qA.length (anw▸DQ) qg) ?_
   rintro _ PJ ⟨TL,aHV,bL,rfl,M,K⟩ _
   replace H:=H.merge K M
   dsimp only [List.cons_append,List.nil_append] at H
   obtain rfl:=H.rowNB 0 rfl
   refine ⟨H.pick (zR 3 4)<|zR 0 11,(je L20 ⟨_,TL,bL,IA,b25,uE8,E9,TK,N,H.qY 7 11 (1::0::zR 2 5) (zR 0 11) (by simp only [List.length_cons,List.length_append];omega)<|by simp only [List.length_cons,List.length_append];omega⟩)⟩
  have S:=H.zK (zR 0 4)<|zR 0 11
  refine tF 1 rfl rfl S ?_
  refine tL 2 rfl rfl (fun _ h=>h.cell 0 rfl rfl) S ?_
  refine tN 3 rfl rfl S ?_
  refine rtl 5 S ?_
  refine rtl 6 S ?_
  refine tF 7 rfl rfl S ?_
  refine rt 8 _ (jL (off:=0+(iv:Int).toNat * 16+0+1) isAgg29 rfl<|fun _ h=>(h.xX 2 rfl (wQ 1 _ rfl) qf)) S ?_
  refine rtl 9 S ?_
  refine rtl 10 S ?_
  refine tF 11 rfl rfl S ?_
  refine rt 12 _ (jL (off:=0+(iv:Int).toNat * 16+0+2) isAgg24 rfl<|fun _ h=>(h.xX 2 rfl (wQ 2 _ rfl) qf)) S ?_
  refine jw [0,14] qh qm<|jT rfl ?_<|jT rfl ?_ jy
  ·refine zx H underlying28 ti4 [Bv true] fun oW TT H=>⟨H.pick (zR 1 4)<|zR 0 11,(jw [4,14] qh qm<|jT rfl ?_<|jT rfl ?_ jy)⟩
   ·replace H:=H.boxRowB 0 [true] 1
    try dsimp only [List.set] at H
    obtain ⟨G43,Zz,Db⟩:=H.rowIsB 0 rfl
    have aD1:=H.base.size
    refine oc (args_eq (by rw [← Zz])<|repeatB_ok _ [true] s.qA.length (Zz▸Db) qg) ?_
    rintro _ w47 ⟨S5,aKq,SN,rfl,M,K⟩ _
    replace H:=H.merge K M
    dsimp only [List.cons_append,List.nil_append] at H
    obtain rfl:=H.rowNB 0 rfl
    refine ⟨H.pick (zR 2 4)<|zR 0 11,(jw [13,14] qh qm<|jT rfl ?_<|jT rfl ?_ jy)⟩
    ·refine jb [Sv S5 ((vG [true] s.qA.length).length) SN,Sv Xk ((((sv[iv.toNat]!).qC).qG).length) Xi,Sv Qg ((((sv[iv.toNat]!).qC).qE).length) Qe] [(0,Sv S5 ((vG [true] s.qA.length).length) SN),(1,Sv Xk ((((sv[iv.toNat]!).qC).qG).length) Xi),(2,Sv Qg ((((sv[iv.toNat]!).qC).qE).length) Qe)] (⟨H.pick (zR 2 4)<|zR 0 11,(ro 14 rfl<|xU H ti31 [yN,yN,yN] fun b52 w53 H=>⟨H.pick (zR 3 4)<|zR 0 11,(xy qh<|?_)⟩)⟩)
     exact meet ⟨_,S5,SN,b52,oW,uE6,(wQ 1 _ rfl),(wQ 2 _ rfl),N,H.qY 7 11 (zR 0 7) (0::1::zR 6 5) (by simp only [List.length_cons,List.length_append];omega)<|by simp only [List.length_cons,List.length_append];omega⟩
    refine xU H ti31 [yN,yN,yN] fun Wh w55 H=>⟨H.pick (zR 3 4)<|zR 0 11,(je L20 ⟨_,S5,SN,Wh,oW,uE8,(wQ 1 _ rfl),(wQ 2 _ rfl),N,H⟩)⟩
   refine xU H ti31 [yN,yN,yN] fun b56 w57 H=>⟨H.pick (zR 2 4)<|zR 0 11,(je L27 ⟨_,oW,b56,uE9,(wQ 1 _ rfl),(wQ 2 _ rfl),N,H⟩)⟩
  refine xU H ti31 [yN,yN,yN] fun b58 w59 H=>⟨H.pick (zR 1 4)<|zR 0 11,(ro 0 rfl<|zx H underlying28 ti4 [Bv true] fun b60 w61 H=>⟨H.pick (zR 2 4)<|zR 0 11,(je L27 ⟨_,b60,b58,uE9,(wQ 1 _ rfl),(wQ 2 _ rfl),N,H.qY 6 11 [1,0,2,3,4,5] (zR 0 11) (by simp only [List.length_cons,List.length_append];omega)<|by simp only [List.length_cons,List.length_append];omega⟩)⟩)⟩
 clear H N
 rintro ρ w62 ⟨xI,wy,IOz,sH,xz,rfl,amQ,aEe,N,H⟩
 refine sw<|zC H 0 [Sv wy ((vG [true] s.qA.length).length) IOz,Sv Xk ((((sv[iv.toNat]!).qC).qG).length) Xi,Sv Qg ((((sv[iv.toNat]!).qC).qE).length) Qe] sizeOf31 fun w65 H=>?_
 try dsimp only [List.set] at H
 refine zjc<|sw<|zi (yS s ap cp ar cr) isAgg27 sizeOf27 rfl (qK (H.cells 3 rfl) 0 3)<|sw<|zi [Sv wy ((vG [true] s.qA.length).length) IOz,Sv Xk ((((sv[iv.toNat]!).qC).qG).length) Xi,Sv Qg ((((sv[iv.toNat]!).qC).qE).length) Qe] isAgg31 sizeOf31 rfl (qK (H.cells 0 rfl) 0 3) ?_
 obtain ⟨G66,aEv,h68⟩:=H.rowIsB 1 rfl
 have aIC:=H.base.size
 refine sw<|oc (firstChoice_ok _ s (⟨vG [true] s.qA.length,((sv[iv.toNat]!).qC).qG,((sv[iv.toNat]!).qC).qE⟩:xh) (H.get 2 rfl).1 (H.get 3 rfl).1 h68 (H.get 0 rfl).1 (H.get 1 rfl).1 qg qg) ?_
 rintro _ w70 ⟨Sr,aEH,RR,rfl,M,K⟩ _
 replace H:=H.merge K M
 dsimp only [List.cons_append,List.nil_append] at H
 obtain rfl:=H.Qc 0 rfl
 refine sq 1<|zjc<|sq 2<|oF rfl ?_
 obtain ⟨apd,amy,aoD,acK,Zh,ZP,arf,asP,asF,abl,aaA,aba,arb,asS,asm,agm,aoB,ap3,awM,aGS,H⟩:=H.partS_DeskD zg 6 rfl 5 rfl rfl iv.toNat qf
 refine oL rfl (H.xX 6 rfl (awM 1 _ rfl) qf) ?_
 have atJ:=H.base.size
 have at9:=jB (H.ltN (L:=[aF,az]) [11,12])<|H.ltK<|K0.behind 13 rfl
 refine sw<|oc (Q3 _ (((sv[iv.toNat]!).qC).qG) (H.get 0 rfl).1 qg) ?_
 rintro _ w79 ⟨JK,aFA,I1,SQ,md,rfl,M,K⟩ _
 replace N:=N.merge atJ at9 M
 replace H:=H.merge K M
 dsimp only [List.cons_append,List.nil_append] at H
 obtain rfl:=H.xe (α:=yLI) 0 rfl 0 rfl qj
 refine sq 1<|zjc<|sw<|jk H underlying45 ti29 fun b84 w85 H=>sq 1<|zjcc<|sq 2<|oF rfl<|oF rfl<|oL rfl (H.cell 7 rfl rfl)<|oN rfl<|sp (yI 0)<|zjn<|xg ?_
 replace H:=H.boxRow 0 rfl 1 0 rfl qj
 try dsimp only [List.set] at H
 replace H:=H.jZ (α:=yLL)
 refine zU ((fun Z0 Z1 Z2 Z3 Z4 Z5 Z6 Z7 Z8 Z9 fH fZ iw kH mh mj sf=>fun m' ρ w86=>∃ (xI:Env) (fm:yOA) (QD:Nat) (Q4:Nat) (now:List yLL) (pG:List Value) (fX:yLN) (k:Nat),ρ=upd (upd (upd (upd (upd (upd (upd (upd (upd (upd xI 0<|pp bk 0) 1<|yI iv) 5<|pp b1<|0+(iv:Int).toNat * 16+0) 6<|pp b7 0) 7<|pp sH 0) 8<|Sv Sr ((xw s (⟨vG [true] s.qA.length,((sv[iv.toNat]!).qC).qG,((sv[iv.toNat]!).qC).qE⟩:xh)).length) RR) 9<|Sv JK ((((sv[iv.toNat]!).qC).qG).length) I1) 10<|Sv fm QD Q4) 70<|yI sv.length) 71 (yI k)/\now=List.replicate k (ji s<|s.qA.length+1)/\((k:Int)<=sv.length)/\m' =(sv.length - (k:Int)).toNat/\Fresh W0.heap.size (md::aF::az::fX::Ns)/\St W0 w86 ((rr fm QD Q4 29 1 pG)::Z0::Z1::Z2::Z3::Z4::Z5::Z6::Z7::Z8::ps) ((qL true fX pG now)::Z9::fH::fZ::iw::kH::mh::mj::sf::Γ)) _ _ _ _ _ _ _ _ _ _ _ _ _ _ _ _ _) ((sv.length - (0:Int)).toNat) ⟨_,(aa b84 0),0,0,([]:List yLL),[],[],0,uE10,(by rfl),qf,rfl,(N.emp.qY 4 [1,2,3,0]<|by simp only [List.length_cons,List.length_append];omega),H.qY 10 15 (zR 0 10) (0::1::zR 8 7) (by simp only [List.length_cons,List.length_append];omega)<|by simp only [List.length_cons,List.length_append];omega⟩ ?_
 clear H N
 rintro m' ρ w87 ⟨xI,fm,QD,Q4,now,pG,fX,k,rfl,rfl,i0,rfl,N,H⟩
 have vo:=H.xe (α:=yLL) 0 rfl 0 rfl qj
 have zl:(List.replicate k<|ji s<|s.qA.length+1).length=k:=List.length_replicate
 refine zcr<|sq 1<|zjn<|xH<|cD rfl (fun h88=>?_)<|fun h88=>?_
 ·refine xk (t_n<|xH<|xg<|xZ<|sq 1<|sw<|zi (yS s ap cp ar cr) isAgg27 sizeOf27 rfl (qK (H.cells 6 rfl) 0 3) ?_)
  have atS:=H.base.size
  have au4:=jB (H.ltN (L:=[md,aF,az,fX]) [1,7,8,0])<|H.ltK<|K0.behind 9 rfl
  refine sw<|oc (noBags_ok _ s (H.get 4 rfl).1 (H.get 5 rfl).1 qg) ?_
  rintro _ VP ⟨ayB,aDS,Nh,aGc,aIg,rfl,M,K⟩ _
  replace N:=N.merge atS au4 M
  replace H:=H.merge K M
  dsimp only [List.cons_append,List.nil_append] at H
  obtain rfl:=H.xe (α:=yLI) 0 rfl 0 rfl qj
  refine sw<|zx H underlying45 ti29 [Sv ayB ((ji s<|s.qA.length+1).length) Nh] fun b95 w96 H=>?_
  have H0:=H
  obtain ⟨aaQ,VY,aDe,H⟩:=H.vK (α:=yLI) 1 rfl 0 rfl qj
  replace N:Fresh W0.heap.size (aaQ::md::aF::az::fX::Ns):=Fresh.ice N H0 1 VY.1 VY.2<|fun F hF b hb=>(List.mem_append.1<|show F∈[md,aF,az,fX]++Ns from hF).elim (fun h=>(H0.vg (L:=[md,aF,az,fX]) [2,8,9,1]) F h b hb) fun h=>H0.jH (K0.behind 10 rfl) F h b hb
  clear H0
  try dsimp only [List.set] at H
  refine sw<|zJ H 2 rfl 0 rfl underlying45 ti29 rfl qj rfl rfl rfl qw qp qf fun a97 c98 w99 H=>?_
  try dsimp only [List.set] at H
  replace H:=H.QR 2 rfl 0 rfl
  replace N:Fresh W0.heap.size ((fX++aaQ)::md::aF::az::Ns):=(N.qY 5 [4,0,1,2,3]<|by simp only [List.length_cons,List.length_append];omega).join
  refine sq 1<|xW<|b_n<|t_n<|xZ<|sw<|zV k 1 rfl rfl qf<|sq 1<|xW<|xq (m' :=(sv.length - ((k+1):Int)).toNat) qf ⟨_,_,_,_,_,_,_,k+1,uE10,?_,?_,rfl,(N.qY 4 [1,2,3,0]<|by simp only [List.length_cons,List.length_append];omega),H.qY 12 12 (zR 2 10) (0::zR 4 8) (by simp only [List.length_cons,List.length_append];omega)<|by simp only [List.length_cons,List.length_append];omega⟩
  ·exact (List.replicate_succ' ..).symm
  ·omega
 refine zx4<|zcc<|sq 2<|oF rfl<|oL rfl (H.cell 7 rfl rfl)<|oN rfl<|sp (yI 0)<|zjn<|xg<|zU ((fun Z0 Z1 Z2 Z3 Z4 Z5 Z6 Z7 Z8 Z9 fH fZ iw kH mh mj sf=>fun m' ρ JU=>∃ (xI:Env) (c:Nat) (eh:List yLL) (g0:List Value) (yB:yLN),ρ=upd (upd (upd (upd (upd (upd (upd (upd (upd (upd (upd xI 0<|pp bk 0) 1<|yI iv) 5<|pp b1<|0+(iv:Int).toNat * 16+0) 6<|pp b7 0) 7<|pp sH 0) 8<|Sv Sr ((xw s (⟨vG [true] s.qA.length,((sv[iv.toNat]!).qC).qG,((sv[iv.toNat]!).qC).qE⟩:xh)).length) RR) 9<|Sv JK ((((sv[iv.toNat]!).qC).qG).length) I1) 10<|Sv fm QD Q4) 82<|Sv ao own.length co) 83<|yI own.length) 84 (yI c)/\((c:Int)<=own.length)/\(eh=nowTo s (⟨vG [true] s.qA.length,((sv[iv.toNat]!).qC).qG,((sv[iv.toNat]!).qC).qE⟩:xh) own iv sv.length c)/\m' =(own.length - (c:Int)).toNat/\Fresh W0.heap.size (md::aF::az::yB::Ns)/\St W0 JU ((rr fm QD Q4 29 1 g0)::Z0::Z1::Z2::Z3::Z4::Z5::Z6::Z7::Z8::ps) ((qL true yB g0 eh)::Z9::fH::fZ::iw::kH::mh::mj::sf::Γ)) _ _ _ _ _ _ _ _ _ _ _ _ _ _ _ _ _) ((own.length - (0:Int)).toNat) ⟨_,0,(List.replicate k<|ji s<|s.qA.length+1),pG,fX,uE11,qf,(by exact rep_zero qf),rfl,N,H⟩ ?_
 clear H N
 rintro m' ρ Lc ⟨xI,c,eh,g0,yB,rfl,i0,i2,rfl,N,H⟩
 have vo:=H.xe (α:=yLL) 0 rfl 0 rfl qj
 refine zcr<|sq 1<|zjn<|xH<|cD rfl (fun abN=>?_)<|fun abN=>?_
 ·refine xk (t_n<|xH<|xg<|zcr<|sp (yI c) ?_)
  obtain ⟨Ol,aa2,rfl⟩:=H.addr 6 rfl qf
  refine oI rfl rfl<|oL rfl (H.jd 6 rfl c qf)<|sp (yI c)<|sq 1<|zjcc<|sq 1<|sp (yI iv)<|sq 1<|zjn<|vk _ rfl (fun MG=>?_)<|fun MG=>?_
  ·replace MG:=bne_iff_ne.1 MG
   refine c_exit<|t_x<|b_x<|t_n<|xZ<|sw<|zV c 1 rfl rfl qf<|sq 1<|xW<|xq (m' :=(own.length - ((c+1):Int)).toNat) qf ⟨_,c+1,_,_,_,uE11,?_,?_,rfl,N,H⟩
   ·omega
   ·first | exact i2.trans (nowTo_no ‹_›).symm | exact now_end i3 e3 ‹_›
  replace MG:=xR MG
  have pl:=puts_len p0 v1 c
  refine xk<|t_n<|zcr<|sw<|zi (yS s ap cp ar cr) isAgg27 sizeOf27 rfl (qK (H.cells 6 rfl) 0 3)<|sw<|zi [Sv wy ((vG [true] s.qA.length).length) IOz,Sv Xk ((((sv[iv.toNat]!).qC).qG).length) Xi,Sv Qg ((((sv[iv.toNat]!).qC).qE).length) Qe] isAgg31 sizeOf31 rfl (qK (H.cells 3 rfl) 0 3)<|sq 1<|sp (yI c) ?_
  obtain ⟨aHg,aB3,atW⟩:=H.rowIsB 4 rfl
  obtain ⟨TJ,apL,acU⟩:=H.rowIsI 2 rfl
  have MP:=H.base.size
  have Ox:=jB (H.ltN (L:=[md,aF,az,yB]) [1,7,8,0])<|H.ltK<|K0.behind 9 rfl
  refine sw<|oc (puts_ok _ s (⟨vG [true] s.qA.length,((sv[iv.toNat]!).qC).qG,((sv[iv.toNat]!).qC).qE⟩:xh) (xw s (⟨vG [true] s.qA.length,((sv[iv.toNat]!).qC).qG,((sv[iv.toNat]!).qC).qE⟩:xh)) c (H.get 4 rfl).1 (H.get 5 rfl).1 atW (H.get 2 rfl).1 (H.get 3 rfl).1 acU qg qg qg) ?_
  rintro _ ZK ⟨Pb,afH,Pm,Md,nS,rfl,M,K⟩ _
  replace N:=N.merge MP Ox M
  replace H:=H.merge K M
  dsimp only [List.cons_append,List.nil_append] at H
  obtain rfl:=H.xe (α:=yLI) 0 rfl 0 rfl qj
  refine oN rfl<|sp (yI 0)<|zjn<|xg<|zU ((fun Z0 Z1 Z2 Z3 Z4 Z5 Z6 Z7 Z8 Z9 fH fZ iw kH mh mj sf Aw DA=>fun m' ρ MF=>∃ (xI:Env) (bQ:Nat) (aJ:List yLL) (yz:List Value) (jC:yLN),ρ=upd (upd (upd (upd (upd (upd (upd (upd (upd (upd (upd (upd (upd (upd xI 0<|pp bk 0) 1<|yI iv) 5<|pp b1<|0+(iv:Int).toNat * 16+0) 6<|pp b7 0) 7<|pp sH 0) 8<|Sv Sr ((xw s (⟨vG [true] s.qA.length,((sv[iv.toNat]!).qC).qG,((sv[iv.toNat]!).qC).qE⟩:xh)).length) RR) 9<|Sv JK ((((sv[iv.toNat]!).qC).qG).length) I1) 10<|Sv fm QD Q4) 82<|Sv (aa Ol aa2) own.length co) 83<|yI own.length) 84<|yI c) 96<|Sv Pb ((jU s (⟨vG [true] s.qA.length,((sv[iv.toNat]!).qC).qG,((sv[iv.toNat]!).qC).qE⟩:xh) (xw s (⟨vG [true] s.qA.length,((sv[iv.toNat]!).qC).qG,((sv[iv.toNat]!).qC).qE⟩:xh)) c).length) Pm) 97<|yI ((jU s (⟨vG [true] s.qA.length,((sv[iv.toNat]!).qC).qG,((sv[iv.toNat]!).qC).qE⟩:xh) (xw s (⟨vG [true] s.qA.length,((sv[iv.toNat]!).qC).qG,((sv[iv.toNat]!).qC).qE⟩:xh)) c).length)) 98 (yI bQ)/\((bQ:Int)<=((jU s (⟨vG [true] s.qA.length,((sv[iv.toNat]!).qC).qG,((sv[iv.toNat]!).qC).qE⟩:xh) (xw s (⟨vG [true] s.qA.length,((sv[iv.toNat]!).qC).qG,((sv[iv.toNat]!).qC).qE⟩:xh)) c).length))/\(aJ=addTo own (jU s (⟨vG [true] s.qA.length,((sv[iv.toNat]!).qC).qG,((sv[iv.toNat]!).qC).qE⟩:xh) (xw s (⟨vG [true] s.qA.length,((sv[iv.toNat]!).qC).qG,((sv[iv.toNat]!).qC).qE⟩:xh)) c) (nowTo s (⟨vG [true] s.qA.length,((sv[iv.toNat]!).qC).qG,((sv[iv.toNat]!).qC).qE⟩:xh) own iv sv.length c) bQ)/\m' =(((jU s (⟨vG [true] s.qA.length,((sv[iv.toNat]!).qC).qG,((sv[iv.toNat]!).qC).qE⟩:xh) (xw s (⟨vG [true] s.qA.length,((sv[iv.toNat]!).qC).qG,((sv[iv.toNat]!).qC).qE⟩:xh)) c).length) - (bQ:Int)).toNat/\Fresh W0.heap.size (nS::md::aF::az::jC::Ns)/\St W0 MF (Z0::(rr fm QD Q4 29 1 yz)::Z1::Z2::Z3::Z4::Z5::Z6::Z7::Z8::Z9::ps) (fH::(qL true jC yz aJ)::fZ::iw::kH::mh::mj::sf::Aw::DA::Γ)) _ _ _ _ _ _ _ _ _ _ _ _ _ _ _ _ _ _ _) ((((jU s (⟨vG [true] s.qA.length,((sv[iv.toNat]!).qC).qG,((sv[iv.toNat]!).qC).qE⟩:xh) (xw s (⟨vG [true] s.qA.length,((sv[iv.toNat]!).qC).qG,((sv[iv.toNat]!).qC).qE⟩:xh)) c).length) - (0:Int)).toNat) ⟨_,0,eh,g0,yB,uE14,qf,(by exact i2),rfl,N,H⟩ ?_
  clear H N
  rintro m' ρ Lu ⟨xI,bQ,aJ,yz,jC,rfl,i0,i3,rfl,N,H⟩
  have vo:=H.xe (α:=yLL) 1 rfl 1 rfl qj
  refine zcr<|sq 1<|zjn<|xH<|cD rfl (fun ayN=>?_)<|fun ayN=>?_
  ·have o1:=p0.own.at (p:=bQ) qf
   refine xk<|t_n<|xH<|xg<|zcr<|sq 1 ?_
   obtain ⟨aIi,rfl⟩:=H.jg 0 rfl qf
   refine oI rfl rfl ?_
   obtain ⟨axb,axM,avX,agQ,H⟩:=H.yC 0 rfl 0 rfl (iv:=bQ) bQ qf qf
   refine oL rfl ((H.xX 0 rfl agQ qf))<|sq 2<|zjc<|sq 3 ?_
   have H1:=H.yw 11 11 [8,0,1,2,3,4,5,6,7,9,10] [6,7,8,0,1,2,3,4,5,9,10] (by simp only [List.length_cons,List.length_append];omega)<|by simp only [List.length_cons,List.length_append];omega
   have N1:Fresh _ (nS::md::aF::az::jC::Ns):=N
   have K1:Kept (Ns) ((sF true avX axb axM ((jU s (⟨vG [true] s.qA.length,((sv[iv.toNat]!).qC).qG,((sv[iv.toNat]!).qC).qE⟩:xh) (xw s (⟨vG [true] s.qA.length,((sv[iv.toNat]!).qC).qG,((sv[iv.toNat]!).qC).qE⟩:xh)) c)[bQ]!))::(qL true nS Md<|jU s (⟨vG [true] s.qA.length,((sv[iv.toNat]!).qC).qG,((sv[iv.toNat]!).qC).qE⟩:xh) (xw s (⟨vG [true] s.qA.length,((sv[iv.toNat]!).qC).qG,((sv[iv.toNat]!).qC).qE⟩:xh)) c)::(qL true jC yz aJ)::(qL true md SQ (((sv[iv.toNat]!).qC).qG))::(sF true lD Xk Xi (((sv[iv.toNat]!).qC).qG))::(sF true f8 Qg Qe (((sv[iv.toNat]!).qC).qE))::(qL true aF bZ sv)::(qL true az bM wi)::Γ):=K0.behind 8 rfl
   replace K1:=K1.cons (F:=jC) 2 rfl rfl
   replace K1:=K1.cons (F:=az) 7 rfl rfl
   replace K1:=K1.cons (F:=aF) 6 rfl rfl
   replace K1:=K1.cons (F:=md) 3 rfl rfl
   replace K1:=K1.cons (F:=nS) 1 rfl rfl
   refine sw<|zy #[pp bk 0,yI bQ] rfl rfl call140 (owner_ok s own ap cp Fp ar cr Fr (aa Ol aa2) co Fo bk (aa b1 0) sv.length cC cM wi.length bJ bQ H1 N1 K1 qg qg qg) ?_
   clear H H1 N1 K1
   rintro _ ZO ⟨rfl,N,H⟩
   obtain ⟨n1,n2,n3,n4,n5⟩:=now_pre p0 v1 (c:=c) (bQ:=bQ) qf qf (j:=(vC own bQ).toNat) qf i3
   obtain ⟨aae,rfl⟩:=H.jg 2 rfl qf
   refine oI rfl rfl ?_
   obtain ⟨apq,aeL,aJJ,Yw,H⟩:=H.yC 2 rfl 5 rfl (iv:=vC own bQ) ((vC own bQ:Int).toNat) qf qf
   refine oL rfl ((H.xX 2 rfl Yw qf))<|sq 1<|zjn<|xZ<|sq 4 ?_
   obtain ⟨aIw,aDw,rfl⟩:=H.addr 0 rfl qf
   obtain ⟨aCK,aAW,aCk,H⟩:=H.yD 0 rfl bQ bQ qf qf qf
   refine oI rfl rfl<|oL rfl (H.vW 1 rfl 0 rfl)<|sq 1 ?_
   have aBE:=H.base.size
   have aB8:=jB (H.ltN (L:=[nS,md,aF,az,jC]) [7,9,12,13,8])<|H.ltK<|K0.behind 14 rfl
   refine sw<|oc (plus_ok _ ((aJ[(vC own bQ:Int).toNat]!)[bQ]!) ((jU s (⟨vG [true] s.qA.length,((sv[iv.toNat]!).qC).qG,((sv[iv.toNat]!).qC).qE⟩:xh) (xw s (⟨vG [true] s.qA.length,((sv[iv.toNat]!).qC).qG,((sv[iv.toNat]!).qC).qE⟩:xh)) c)[bQ]!) 1 (H.get 0 rfl).1 (H.get 6 rfl).1 qg qg qg) ?_
   rintro v146 ajy axl aw8
   replace H:=H.zI aw8 axl
   obtain ⟨ab7,aaz,rfl,aAO,aC8⟩:=H.jW 0 rfl
   refine oI rfl rfl ?_
   obtain ⟨ais,N,azp,H⟩:=H.ve 0 rfl N<|fun F hF b hb=>(List.mem_append.1<|show F∈[nS,md,aF,az,jC]++Ns from hF).elim (fun h=>(H.vg (L:=[nS,md,aF,az,jC]) [7,9,12,13,8]) F h b hb) fun h=>H.jH (K0.behind 14 rfl) F h b hb
   try dsimp only [List.set] at H
   have N0:Fresh W0.heap.size (jC::ais::nS::md::aF::az::Ns):=(N.qY 6 (5::zR 0 5)<|by simp only [List.length_cons,List.length_append];omega)
   obtain ⟨aB4,akt⟩:∃ z,z=(aJ.set ((vC own bQ:Int).toNat) ((aJ[(vC own bQ:Int).toNat]!).set bQ (vS ((aJ[(vC own bQ:Int).toNat]!)[bQ]!) ((jU s (⟨vG [true] s.qA.length,((sv[iv.toNat]!).qC).qG,((sv[iv.toNat]!).qC).qE⟩:xh) (xw s (⟨vG [true] s.qA.length,((sv[iv.toNat]!).qC).qG,((sv[iv.toNat]!).qC).qE⟩:xh)) c)[bQ]!) 1))):=⟨_,rfl⟩
   refine sw<|o_pokePart Qo.refl H 9 rfl 0 rfl N0 ((sF true ais ab7 aaz<|vS ((aJ[(vC own bQ:Int).toNat]!)[bQ]!) ((jU s (⟨vG [true] s.qA.length,((sv[iv.toNat]!).qC).qG,((sv[iv.toNat]!).qC).qE⟩:xh) (xw s (⟨vG [true] s.qA.length,((sv[iv.toNat]!).qC).qG,((sv[iv.toNat]!).qC).qE⟩:xh)) c)[bQ]!) 1)::(sF false Fp ap cp s.qA)::(sF false Fr ar cr s.qB)::(sF false Fo (aa Ol aa2) co own)::(qL true nS Md<|jU s (⟨vG [true] s.qA.length,((sv[iv.toNat]!).qC).qG,((sv[iv.toNat]!).qC).qE⟩:xh) (xw s (⟨vG [true] s.qA.length,((sv[iv.toNat]!).qC).qG,((sv[iv.toNat]!).qC).qE⟩:xh)) c)::(qL true md SQ (((sv[iv.toNat]!).qC).qG))::(sF true lD Xk Xi (((sv[iv.toNat]!).qC).qG))::(sF true f8 Qg Qe (((sv[iv.toNat]!).qC).qE))::(qL true aF bZ sv)::(qL true az bM wi)::Γ) (vw (kept 0 rfl<|QJ N0 0 rfl)<|vw (kept 4 rfl<|Xo OL 0 rfl N0)<|vw (kept 5 rfl<|Xo OL 1 rfl N0)<|vw (kept 6 rfl<|Xo OL 2 rfl N0)<|vw (kept 8 rfl<|QJ N0 1 rfl)<|vw (kept 10 rfl<|QJ N0 2 rfl)<|vw (kept 11 rfl<|away_part sb4 0 rfl<|QJ N0 3 rfl)<|vw (kept 12 rfl<|away_part sb4 1 rfl<|QJ N0 3 rfl)<|vw (kept 13 rfl<|QJ N0 3 rfl)<|vw (kept 14 rfl<|QJ N0 4 rfl)<|keeps_old 15 rfl OL 3 rfl N0) ((vC own bQ:Int).toNat) qf rfl Yw bQ qf rfl sizeOf24 rfl qf rfl akt fun au9 aGn N H=>(xW<|b_n<|t_n<|xZ<|sw<|zV bQ 1 rfl rfl qf<|sq 1<|xW<|xq (m' :=(((jU s (⟨vG [true] s.qA.length,((sv[iv.toNat]!).qC).qG,((sv[iv.toNat]!).qC).qE⟩:xh) (xw s (⟨vG [true] s.qA.length,((sv[iv.toNat]!).qC).qG,((sv[iv.toNat]!).qC).qE⟩:xh)) c).length) - ((bQ+1):Int)).toNat) qf ⟨_,bQ+1,_,_,_,uE14,?_,?_,rfl,(N.qY 5 [1,2,3,4,0]<|by simp only [List.length_cons,List.length_append];omega),H.qY 12 11 [2,3,4,5,6,7,8,9,1,10,11] [5,0,6,7,8,2,3,4,9,10] (by simp only [List.length_cons,List.length_append];omega)<|by simp only [List.length_cons,List.length_append];omega⟩)
   ·omega
   ·exact add_step i3 rfl ql
  have e3:bQ=s.qA.length+1:=by omega
  refine c_exit<|t_x<|t_x<|b_x<|b_n<|t_n<|xZ<|sw<|zV c 1 rfl rfl qf<|sq 1<|xW<|xq (m' :=(own.length - ((c+1):Int)).toNat) qf ⟨_,c+1,_,_,_,uE11,?_,?_,rfl,(N.qY 5 (zR 1 4)<|by simp only [List.length_cons,List.length_append];omega),H.qY 11 10 (zR 1 10) (zR 1 9) (by simp only [List.length_cons,List.length_append];omega)<|by simp only [List.length_cons,List.length_append];omega⟩
  ·omega
  ·first | exact i2.trans (nowTo_no ‹_›).symm | exact now_end i3 e3 ‹_›
 have e2:c=s.qA.length:=by omega
 obtain ⟨n6,n7⟩:=now_ok p0 v1 qf (j:=iv.toNat) qf i2
 refine zx4<|zcc<|sq 1<|oN rfl<|sp (yI 0)<|zjn<|xg<|zU ((fun Z0 Z1 Z2 Z3 Z4 Z5 Z6 Z7 Z8 Z9 fH fZ iw kH mh mj sf=>fun m' ρ ab4=>∃ (xI:Env) (fY:Nat) (bags:yLL) (nB:List Value) (fV:yLN),ρ=upd (upd (upd (upd (upd (upd (upd (upd (upd xI 0<|pp bk 0) 1<|yI iv) 5<|pp b1<|0+(iv:Int).toNat * 16+0) 6<|pp b7 0) 9<|Sv JK ((((sv[iv.toNat]!).qC).qG).length) I1) 10<|Sv fm QD Q4) 120<|Sv Sr ((xw s (⟨vG [true] s.qA.length,((sv[iv.toNat]!).qC).qG,((sv[iv.toNat]!).qC).qE⟩:xh)).length) RR) 121<|yI ((xw s (⟨vG [true] s.qA.length,((sv[iv.toNat]!).qC).qG,((sv[iv.toNat]!).qC).qE⟩:xh)).length)) 122 (yI fY)/\bags=restR s (⟨vG [true] s.qA.length,((sv[iv.toNat]!).qC).qG,((sv[iv.toNat]!).qC).qE⟩:xh) (xw s (⟨vG [true] s.qA.length,((sv[iv.toNat]!).qC).qG,((sv[iv.toNat]!).qC).qE⟩:xh)) fY/\((fY:Int)<=((xw s (⟨vG [true] s.qA.length,((sv[iv.toNat]!).qC).qG,((sv[iv.toNat]!).qC).qE⟩:xh)).length))/\m' =(((xw s (⟨vG [true] s.qA.length,((sv[iv.toNat]!).qC).qG,((sv[iv.toNat]!).qC).qE⟩:xh)).length) - (fY:Int)).toNat/\Fresh W0.heap.size (aF::az::yB::fV::Ns)/\St W0 ab4 (Z0::(rr JK ((((sv[iv.toNat]!).qC).qG).length) I1 24 1 nB)::Z1::Z2::Z3::Z4::Z5::Z6::Z7::Z8::ps) (Z9::(qL true fV nB bags)::fH::fZ::iw::kH::mh::mj::sf::Γ)) _ _ _ _ _ _ _ _ _ _ _ _ _ _ _ _ _) ((((xw s (⟨vG [true] s.qA.length,((sv[iv.toNat]!).qC).qG,((sv[iv.toNat]!).qC).qE⟩:xh)).length) - (0:Int)).toNat) ⟨_,0,(((sv[iv.toNat]!).qC).qG),SQ,md,uE9,(by rfl),qf,rfl,(N.qY 4 [1,2,3,0]<|by simp only [List.length_cons,List.length_append];omega),H⟩ ?_
 clear H N
 rintro m' ρ aDL ⟨xI,fY,bags,nB,fV,rfl,rfl,i0,rfl,N,H⟩
 have AA:=H.xe (α:=yLI) 1 rfl 1 rfl qj
 have rl:(restR s (⟨vG [true] s.qA.length,((sv[iv.toNat]!).qC).qG,((sv[iv.toNat]!).qC).qE⟩:xh) (xw s (⟨vG [true] s.qA.length,((sv[iv.toNat]!).qC).qG,((sv[iv.toNat]!).qC).qE⟩:xh)) fY).length=s.qA.length:=(restR_len fY).trans y1.XI
 refine zcr<|sq 1<|zjn<|xH<|cD rfl (fun as2=>?_)<|fun as2=>?_
 ·have q:=p0.sys.rule (i:=fY) qf
  have qc:=q.1
  have qk:=q.cell
  have b1:=q.2.2.2.2.1
  have p10:=c1.bd (i:=fY) qf
  obtain ⟨u1,u2⟩:=restR_row (c:=(s.qB[fY]!).qX.toNat) p0.sys v1 c1 (show fY<=_ by omega) qk
  have u3:=b1.len
  have u4:=b1.Qm (t:= -((xw s (⟨vG [true] s.qA.length,((sv[iv.toNat]!).qC).qG,((sv[iv.toNat]!).qC).qE⟩:xh))[fY]!)) qf
  refine xk<|t_n<|xH<|xg<|zcr<|sq 1 ?_
  obtain ⟨lK,rfl⟩:=H.jg 2 rfl qf
  refine oI rfl rfl<|oL rfl (H.rowInt 2 rfl (iv:=fY) (i:=fY) qf qf)<|sq 2<|zjc<|oF rfl<|oL rfl (H.cell 6 rfl rfl)<|sq 1 ?_
  obtain ⟨afS,aIe,rfl⟩:=H.addr 5 rfl qf
  obtain ⟨xj,xT,ad8,ym,wW,aeo,xr,wY,aef,yk,xo,ad3,Dd,BA,aiW,x5,x6,adH,H⟩:=H.Xh 5 rfl fY fY qf qf qf
  refine oI rfl rfl<|sw<|zi [yI ((s.qB[fY]!).qX),yI ((s.qB[fY]!).yQ),Sv xj (((s.qB[fY]!).zT).length) xT,Sv ym (((s.qB[fY]!).jV).length) wW,Sv xr (((s.qB[fY]!).jX).length) wY,Sv yk (((s.qB[fY]!).jK).length) xo,Sv Dd (((s.qB[fY]!).QP).length) BA,Sv x5 (((s.qB[fY]!).xx).length) x6,Bv ((s.qB[fY]!).jm)] isAgg110 sizeOf110 rfl (qK (H.get 6 rfl) 0 9)<|sw<|xU H ti110 [yI 0,yI 0,yN,yN,yN,yN,yN,yN,Bv false] fun aqe ap1 H=>(sw<|zC H 0 [yI ((s.qB[fY]!).qX),yI ((s.qB[fY]!).yQ),Sv xj (((s.qB[fY]!).zT).length) xT,Sv ym (((s.qB[fY]!).jV).length) wW,Sv xr (((s.qB[fY]!).jX).length) wY,Sv yk (((s.qB[fY]!).jK).length) xo,Sv Dd (((s.qB[fY]!).QP).length) BA,Sv x5 (((s.qB[fY]!).xx).length) x6,Bv ((s.qB[fY]!).jm)] sizeOf110 fun ayZ H=>?_)
  try dsimp only [List.set] at H
  refine zjn<|zY 2 rfl H [0,1,2,3,4,5,6,7,8,9,10] [0,1,2,3,4,5,6,7,8,9,10,11,12,13,14,15] fun H=>?_
  dsimp only [jR,yE]
  have S:=H.zK (zR 0 11)<|zR 0 16
  refine rtl 0 S ?_
  refine tF 1 rfl rfl S ?_
  refine tL 2 rfl rfl (fun _ h=>h.cell 0 rfl rfl) S ?_
  refine rtl 3 S ?_
  refine tF 4 rfl rfl S ?_
  refine tL 5 rfl rfl (fun _ h=>h.cell 0 rfl rfl) S ?_
  obtain ⟨ap9,rfl⟩:=H.jg 2 rfl qf
  have S:=H.zK (zR 0 11)<|zR 0 16
  refine tI 6 rfl rfl rfl S ?_
  refine tF 8 rfl rfl S ?_
  refine tL 9 rfl rfl (fun _ h=>h.cell 0 rfl rfl) S ?_
  refine rtl 10 S ?_
  refine rt 11 _ (y_neg ((xw s (⟨vG [true] s.qA.length,((sv[iv.toNat]!).qC).qG,((sv[iv.toNat]!).qC).qE⟩:xh))[fY]!) rfl qf) S ?_
  refine ro 7 rfl ?_
  obtain ⟨agp,am7,aKk,amw,H⟩:=H.yC 2 rfl 8 rfl (iv:=(s.qB[fY]!).qX) (((s.qB[fY]!).qX:Int).toNat) qf qf
  refine zB (Sv agp (((restR s (⟨vG [true] s.qA.length,((sv[iv.toNat]!).qC).qG,((sv[iv.toNat]!).qC).qE⟩:xh) (xw s (⟨vG [true] s.qA.length,((sv[iv.toNat]!).qC).qG,((sv[iv.toNat]!).qC).qE⟩:xh)) fY)[((s.qB[fY]!).qX:Int).toNat]!).length) am7) isAgg24 rfl ((H.xX 2 rfl amw qf))<|⟨H.pick (zR 0 11)<|zR 1 16,(ro 12 rfl ?_)⟩
  have aAQ:=H.base.size
  have azQ:=jB (H.ltN (L:=[aF,az,yB,fV]) [15,16,8,9])<|H.ltK<|K0.behind 17 rfl
  refine oc (plus_ok _ ((restR s (⟨vG [true] s.qA.length,((sv[iv.toNat]!).qC).qG,((sv[iv.toNat]!).qC).qE⟩:xh) (xw s (⟨vG [true] s.qA.length,((sv[iv.toNat]!).qC).qG,((sv[iv.toNat]!).qC).qE⟩:xh)) fY)[((s.qB[fY]!).qX:Int).toNat]!) ((s.qB[fY]!).zT) (-((xw s (⟨vG [true] s.qA.length,((sv[iv.toNat]!).qC).qG,((sv[iv.toNat]!).qC).qE⟩:xh))[fY]!)) (H.get 0 rfl).1 (H.get 1 rfl).1 qg qg qg) ?_
  rintro aGE auR aw5 ayP
  replace H:=H.zI ayP aw5
  obtain ⟨axL,ayz,rfl,aDf,aBG⟩:=H.jW 0 rfl
  refine ⟨H.pick (zR 1 11)<|zR 1 16,(xy qh<|xM<|oI rfl rfl ?_)⟩
  obtain ⟨aEw,N,aAl,H⟩:=H.ve 0 rfl N<|fun F hF b hb=>(List.mem_append.1<|show F∈[aF,az,yB,fV]++Ns from hF).elim (fun h=>(H.vg (L:=[aF,az,yB,fV]) [15,16,8,9]) F h b hb) fun h=>H.jH (K0.behind 17 rfl) F h b hb
  try dsimp only [List.set] at H
  refine sw<|yZ true H 3 rfl 10 rfl (Sv axL ((vS ((restR s (⟨vG [true] s.qA.length,((sv[iv.toNat]!).qC).qG,((sv[iv.toNat]!).qC).qE⟩:xh) (xw s (⟨vG [true] s.qA.length,((sv[iv.toNat]!).qC).qG,((sv[iv.toNat]!).qC).qE⟩:xh)) fY)[((s.qB[fY]!).qX:Int).toNat]!) ((s.qB[fY]!).zT) (-((xw s (⟨vG [true] s.qA.length,((sv[iv.toNat]!).qC).qG,((sv[iv.toNat]!).qC).qE⟩:xh))[fY]!))).length) ayz) 0 rfl rfl sizeOf24 rfl rfl (i:=(((s.qB[fY]!).qX:Int).toNat)) qf qf qm fun ZF aBk avu am9 H=>?_
  replace N:Fresh W0.heap.size (avu::aF::az::yB::Ns):=(N.qY 5 [4,0,1,2,3]<|by simp only [List.length_cons,List.length_append];omega).repl am9
  try dsimp only [List.set] at H
  refine xW<|b_n<|t_n<|xZ<|sw<|zV fY 1 rfl rfl qf<|sq 1<|xW<|xq (m' :=(((xw s (⟨vG [true] s.qA.length,((sv[iv.toNat]!).qC).qG,((sv[iv.toNat]!).qC).qE⟩:xh)).length) - ((fY+1):Int)).toNat) qf ⟨_,fY+1,_,_,_,uE9,?_,?_,rfl,(N.qY 4 [1,2,3,0]<|by simp only [List.length_cons,List.length_append];omega),H.qY 12 19 (zR 2 10) (10::0::zR 12 7) (by simp only [List.length_cons,List.length_append];omega)<|by simp only [List.length_cons,List.length_append];omega⟩
  ·rfl
  ·omega
 have e5:fY=s.qB.length:=by omega
 have e4:restR s (⟨vG [true] s.qA.length,((sv[iv.toNat]!).qC).qG,((sv[iv.toNat]!).qC).qE⟩:xh) (xw s (⟨vG [true] s.qA.length,((sv[iv.toNat]!).qC).qG,((sv[iv.toNat]!).qC).qE⟩:xh)) fY=bagsD s (sv[iv.toNat]!).qC:=by rw [e5];rfl
 refine zx4<|zcc<|sq 1<|sw<|zX #[Sv fm QD Q4,.func (.func 142) #[] #[]] rfl rfl call141<|en func141 ntmps141 ?_
 refine zcr<|sp (Bv false)<|zjc<|sq 1<|sp (.func (.func 142) #[] #[])<|sw<|zX #[Sv fm QD Q4,.func (.func 142) #[] #[]] rfl rfl call165<|en func165 ntmps165 ?_
 refine zcr<|sp (yI 0)<|zjcc<|sq 1<|oN rfl<|sp (yI 0)<|zjn<|xg<|zU ((fun Z0 Z1 Z2 Z3 Z4 Z5 Z6 Z7 Z8 Z9 fH fZ iw kH mh mj sf Aw DA=>fun m' ρ aaC=>∃ (xI:Env) (i:Nat),ρ=upd (upd (upd (upd xI 0<|Sv fm QD Q4) 1<|.func (.func 142) #[] #[]) 7<|yI QD) 8 (yI i)/\((i:Int)<=QD)/\(AllB3 eh i)/\m' =(QD - (i:Int)).toNat/\Fresh W0.heap.size (aF::az::yB::fV::Ns)/\St W0 aaC (Z0::Z1::Z2::Z3::Z4::Z5::Z6::Z7::Z8::Z9::ps) (fH::fZ::iw::kH::mh::mj::sf::Aw::DA::Γ)) _ _ _ _ _ _ _ _ _ _ _ _ _ _ _ _ _ _ _) ((QD - (0:Int)).toNat) ⟨_,0,uE4,qf,qx,rfl,N,H⟩ ?_
 clear H N
 rintro m' ρ awG ⟨xI,i,rfl,i0,i5,rfl,N,H⟩
 refine zcr<|sq 1<|zjn<|xH<|cD rfl (fun agU=>?_)<|fun agU=>?_
 ·refine xk (t_n<|xH<|xg<|zcr<|sp (yI i)<|sp (yI i)<|zjc<|sp (.func (.func 142) #[] #[])<|sq 1<|sp (yI i) ?_)
  obtain ⟨aDO,rfl⟩:=H.jg 0 rfl qf
  refine oI rfl rfl ?_
  obtain ⟨aua,awE,aGX,apf,H⟩:=H.yC 0 rfl 0 rfl (iv:=i) i qf qf
  refine oL rfl ((H.xX 0 rfl apf qf))<|sw<|zX #[Sv aua ((eh[i]!).length) awE] rfl rfl call142<|en func142 ntmps142 ?_
  refine zcr<|sp (Bv false)<|zjc<|sq 1<|sw<|oq (areBags_ok _ (eh[i]!) (H.get 0 rfl).1) H fun apn H=>sq 2<|zjr<|ret1 (Bv (!(dec<|yH (eh[i]!) (eh[i]!).length))) rfl rfl ⟨_,rfl,(zjn<|cQ rfl (fun Es=>?_)<|fun Es=>?_)⟩
  ·refine zcr (sp (yI i)<|sp (yI i)<|zjr<|zr5<|ret1 (yI i) rfl rfl ⟨_,rfl,(sw<|o_pure (Bv true) (by show some (Value.bool<|decide ((i:Int)>=0))=some (Value.bool true);rw [decide_eq_true qf])<|sp (Bv true)<|zjr<|ret1 (Bv true) rfl rfl ⟨_,rfl,(zjn<|cTr rfl<|zcr<|sp (yI 3)<|zjr<|t_r<|ret1 (yI 3) rfl rfl ⟨_,rfl,?_⟩)⟩)⟩)
   first | rw [workR_3 ql ql] | rw [workR_no p2.1 ql ql e2 i2 (j:=i) qf ql]
   exact ⟨bZ,aF,cM,wi.length,bJ,bM,az,rfl,(N.qY 4 [0,1]<|by simp only [List.length_cons,List.length_append];omega),H.qY 10 10 [7,8,9] (zR 5 5) (by simp only [List.length_cons,List.length_append];omega)<|by simp only [List.length_cons,List.length_append];omega⟩
  refine xk<|b_n<|t_n<|xZ<|sw<|zV i 1 rfl rfl qf<|sq 1<|xW<|xq (m' :=(QD - ((i+1):Int)).toNat) qf ⟨_,i+1,uE4,?_,?_,rfl,N,H.qY 10 10 (zR 0 10) (zR 1 9) (by simp only [List.length_cons,List.length_append];omega)<|by simp only [List.length_cons,List.length_append];omega⟩
  ·omega
  ·exact i5.succ ql
 refine zx4<|zcr<|sq 1<|zjr<|ret1 (yI (-1)) rfl rfl ⟨_,rfl,(sp (Bv false)<|sp (Bv false)<|zjr<|ret1 (Bv false) rfl rfl ⟨_,rfl,(zjn<|cFr rfl<|xk<|t_n<|zcr ?_)⟩)⟩
 refine sq 7<|sp (yI iv) ?_
 obtain ⟨ayq,rfl⟩:=H.jg 0 rfl qf
 refine oI rfl rfl ?_
 obtain ⟨aHa,aGs,aJo,aqY,H⟩:=H.yC 0 rfl 0 rfl (iv:=iv) iv.toNat qf qf
 refine oL rfl ((H.xX 0 rfl aqY qf)) ?_
 have agE:=H.base.size
 have anm:=jB (H.ltN (L:=[aF,az,yB,fV]) [8,9,1,2])<|H.ltK<|K0.behind 10 rfl
 refine sw<|oc (Q3 _ (eh[iv.toNat]!) (H.get 0 rfl).1 qg) ?_
 rintro _ Ka ⟨na,aCc,alW,aBx,r6,rfl,M,K⟩ _
 replace N:=N.merge agE anm M
 replace H:=H.merge K M
 dsimp only [List.cons_append,List.nil_append] at H
 obtain rfl:=H.xe (α:=yLI) 0 rfl 0 rfl qj
 refine sq 1<|oF rfl ?_
 have H0:=H
 obtain ⟨oC,UR,ajB,H⟩:=H.vK (α:=yLI) 2 rfl 3 rfl qj
 replace N:Fresh W0.heap.size (oC::r6::aF::az::yB::Ns):=Fresh.ice (N.qY 5 [4,0,1,2,3]<|by simp only [List.length_cons,List.length_append];omega) H0 2 UR.1 UR.2<|fun F hF b hb=>(List.mem_append.1<|show F∈[r6,aF,az,yB]++Ns from hF).elim (fun h=>(H0.vg (L:=[r6,aF,az,yB]) [0,9,10,2]) F h b hb) fun h=>H0.jH (K0.behind 11 rfl) F h b hb
 clear H0
 try dsimp only [List.set] at H
 obtain ⟨KO,LP⟩:∃ z,z=(sv.set iv.toNat { sv[iv.toNat]! with qC:={ sv[iv.toNat]!.qC with qG:=(restR s (⟨vG [true] s.qA.length,((sv[iv.toNat]!).qC).qG,((sv[iv.toNat]!).qC).qE⟩:xh) (xw s (⟨vG [true] s.qA.length,((sv[iv.toNat]!).qC).qG,((sv[iv.toNat]!).qC).qE⟩:xh)) fY)}}):=⟨_,rfl⟩
 refine sw<|Xu (v:=Sv JK ((((sv[iv.toNat]!).qC).qG).length) I1) part_Server_DeskBags H 9 rfl 10 rfl 0 rfl rfl sizeOf29 rfl rfl rfl iv.toNat qf qf LP fun ack aBh Rn amh H=>?_
 try dsimp only [List.set] at H
 replace N:Fresh W0.heap.size (Rn::r6::az::yB::Ns):=(N.qY 5 [2,0,1,3,4]<|by simp only [List.length_cons,List.length_append];omega).repl amh
 have aIT:=set_len LP
 refine sq 1<|oF rfl ?_
 have H0:=H
 obtain ⟨mE,B8,afD,H⟩:=H.vK (α:=yLL) 1 rfl 4 rfl qj
 replace N:Fresh W0.heap.size (mE::Rn::r6::az::Ns):=Fresh.ice (N.qY 4 [3,0,1,2]<|by simp only [List.length_cons,List.length_append];omega) H0 1 B8.1 B8.2<|fun F hF b hb=>(List.mem_append.1<|show F∈[Rn,r6,az]++Ns from hF).elim (fun h=>(H0.vg (L:=[Rn,r6,az]) [0,2,12]) F h b hb) fun h=>H0.jH (K0.behind 13 rfl) F h b hb
 clear H0
 try dsimp only [List.set] at H
 obtain ⟨MY,O9⟩:∃ z,z=(KO.set iv.toNat { KO[iv.toNat]! with qC:={ KO[iv.toNat]!.qC with vJ:=eh }}):=⟨_,rfl⟩
 refine sw<|Xu (v:=Sv (aa ayq 0) QD Q4) part_Server_DeskNow H 9 rfl 1 rfl 0 rfl rfl sizeOf45 rfl rfl rfl iv.toNat qf qf O9 fun aIv aA6 Sd aif H=>?_
 try dsimp only [List.set] at H
 replace N:Fresh W0.heap.size (Sd::r6::az::Ns):=(N.qY 4 [1,0,2,3]<|by simp only [List.length_cons,List.length_append];omega).repl aif
 have aFo:=set_len O9
 refine sq 1<|oF rfl ?_
 have H0:=H
 obtain ⟨amW,Yd,Ob,H⟩:=H.vK (α:=yLI) 0 rfl 4 rfl qj
 replace N:Fresh W0.heap.size (amW::Sd::az::Ns):=Fresh.ice (N.qY 3 [1,0,2]<|by simp only [List.length_cons,List.length_append];omega) H0 0 Yd.1 Yd.2<|fun F hF b hb=>(List.mem_append.1<|show F∈[Sd,az]++Ns from hF).elim (fun h=>(H0.vg (L:=[Sd,az]) [0,14]) F h b hb) fun h=>H0.jH (K0.behind 15 rfl) F h b hb
 clear H0
 try dsimp only [List.set] at H
 obtain ⟨NT,Ow⟩:∃ z,z=(MY.set iv.toNat { MY[iv.toNat]! with qC:={ MY[iv.toNat]!.qC with qJ:=(eh[iv.toNat]!)}}):=⟨_,rfl⟩
 refine sw<|Xu (v:=Sv na ((eh[iv.toNat]!).length) alW) XA H 9 rfl 1 rfl 0 rfl rfl sizeOf29 rfl rfl rfl iv.toNat qf qf Ow fun alm aAa axs aqF H=>?_
 try dsimp only [List.set] at H
 replace N:Fresh W0.heap.size (axs::az::Ns):=(N.qY 3 [1,0,2]<|by simp only [List.length_cons,List.length_append];omega).repl aqF
 have aJB:=set_len Ow
 refine sq 1<|oF rfl ?_
 obtain ⟨Py,M3⟩:∃ z,z=(NT.set iv.toNat { NT[iv.toNat]! with qC:={ NT[iv.toNat]!.qC with qQ:=true }}):=⟨_,rfl⟩
 refine sw<|o_putBool part_Server_DeskWorked H 9 rfl 0 rfl sizeOf4 rfl rfl rfl iv.toNat qf qf M3 fun ama aC5 aai akG H=>?_
 try dsimp only [List.set] at H
 replace N:Fresh W0.heap.size (aai::az::Ns):=(N.emp.qY 3 [1,0,2]<|by simp only [List.length_cons,List.length_append];omega).repl akG
 have aIY:=set_len M3
 refine zjc<|sq 3<|oF rfl<|oF rfl<|oL rfl (H.cell 8 rfl rfl)<|oN rfl<|sw<|o_makeB H underlying28 ti4 sv.length rfl rfl qf qf qf fun avd Se H=>sq 1<|oF rfl ?_
 obtain ⟨Lm,N,ae0,H⟩:=H.freezeB 0 rfl N<|fun F hF b hb=>(List.mem_append.1<|show F∈[aai,az]++Ns from hF).elim (fun h=>(H.vg (L:=[aai,az]) [0,17]) F h b hb) fun h=>H.jH (K0.behind 18 rfl) F h b hb
 try dsimp only [List.set] at H
 obtain ⟨HN,GH⟩:∃ z,z=(Py.set iv.toNat { Py[iv.toNat]! with qC:={ Py[iv.toNat]!.qC with vz:=(List.replicate sv.length<|false)}}):=⟨_,rfl⟩
 refine sw<|Xu (v:=Sv (aa avd 0) sv.length sv.length) Xn H 10 rfl 1 rfl 0 rfl rfl sizeOf28 rfl rfl rfl iv.toNat qf qf GH fun akg ai8 apb akj H=>?_
 try dsimp only [List.set] at H
 replace N:Fresh W0.heap.size (apb::az::Ns):=(N.qY 3 [1,0,2]<|by simp only [List.length_cons,List.length_append];omega).repl akj
 have aES:=set_len GH
 have aIR:=(set_got qf GH).trans List.length_replicate
 refine zjc<|sq 2<|oF rfl ?_
 obtain ⟨aew,adr,ad1,VW,V4,Ww,aoU,apg,alY,Yl,WZ,Uw,ahI,aqs,ae5,adi,ad5,ac4,G0,aAe,H⟩:=H.partS_DeskD zg 10 rfl 0 rfl rfl iv.toNat qf
 refine oL rfl (H.xX 10 rfl (G0 4 _ rfl) qf)<|sp (yI iv) ?_
 obtain ⟨aJs,aDy,rfl⟩:=H.addr 2 rfl qf
 refine oI rfl rfl ?_
 have N0:Fresh W0.heap.size (apb::az::Ns):=N
 obtain ⟨aCG,Pc⟩:∃ z,z=(HN.set iv.toNat { HN[iv.toNat]! with qC:={ HN[iv.toNat]!.qC with vz:=(((HN[iv.toNat]!).qC.vz).set iv.toNat true)}}):=⟨_,rfl⟩
 refine sw<|o_pokeBool Xn H 6 rfl N0 ((sF false Fp ap cp s.qA)::(sF false Fr ar cr s.qB)::(sF false Fo ao co own)::(qL true az bM wi)::Γ) (vw (kept 21 rfl<|Xo OL 0 rfl N0)<|vw (kept 22 rfl<|Xo OL 1 rfl N0)<|vw (kept 23 rfl<|Xo OL 2 rfl N0)<|vw (kept 25 rfl<|QJ N0 0 rfl)<|keeps_old 26 rfl OL 3 rfl N0) iv.toNat qf rfl (G0 4 _ rfl) iv.toNat qf sizeOf4 rfl qf rfl Pc fun aH3 ayI N H=>?_
 have aFs:=set_len Pc
 refine zjc<|sp (yI 0)<|zjr<|ret1 (yI 0) rfl rfl ⟨_,rfl,?_⟩
 rw [workR_0 p2.1 ql ql e2 i2 (fun j hj=>i5 j qf)<|fun z=>work_sets qf LP O9 Ow M3 GH Pc e4 z rfl]
 exact ⟨ai8,ayI,cM,wi.length,bJ,bM,az,rfl,N,H.qY 12 5 [9,10,11] [1,2,3,0,4] (by simp only [List.length_cons,List.length_append];omega)<|by simp only [List.length_cons,List.length_append];omega⟩
theorem do_ok (s:qM) (own:yLI) (ap:yOA) (cp:Nat) (Fp:yLN) (ar:yOA) (cr:Nat) (Fr:yLN) (ao:yOA) (co:Nat) (Fo:yLN) (sv:List zA) (wi:List zk) (bk:Nat) (n:Nat) (eG:yOA) (eo:Nat) (cC:Nat) (bZ:List Value) (aF:yLN) (cM:yOA) (ke:Nat) (bJ:Nat) (bM:List Value) (az:yLN) (d:xm) (H:St W0 w ((.box bk [Sv eG eo cC,Sv cM ke bJ,yI s.qP,Sv ap s.qA.length cp,Sv ar s.qB.length cr,Sv ao own.length co] 74)::(rr eG eo cC 49 16 bZ)::(rr cM ke bJ 77 4 bM)::ps) ((sF false Fp ap cp s.qA)::(sF false Fr ar cr s.qB)::(sF false Fo ao co own)::(qL true aF bZ sv)::(qL true az bM wi)::Γ)) (N:Fresh W0.heap.size (aF::az::Ns)) (K0:Kept Ns Γ) (p0:Giv s own n) (p1:Vu s own n (⟨sv,wi⟩:zQ)) (p2:DeedOk d) (OL:∀ f∈(sF false Fp ap cp s.qA::sF false Fr ar cr s.qB::sF false Fo ao co own::Γ),∀ b∈f.F,b < W0.heap.size):Calls Tryz.prog 52 #[pp bk 0,.agg #[yI d.xE,yI d.fA,yI d.fB]] w (fun e w' =>∃ v,e=.returned v/\∃ (pB:List Value) (pJ:yLN) (pN:yOA) (pK:Nat) (pi:Nat) (pC:List Value) (pq:yLN),v=yI ((doM s own (⟨sv,wi⟩:zQ) d).2)/\Fresh W0.heap.size (pJ::pq::Ns)/\St W0 w' ((.box bk [Sv eG eo cC,Sv pN pK pi,yI s.qP,Sv ap s.qA.length cp,Sv ar s.qB.length cr,Sv ao own.length co] 74)::(rr eG eo cC 49 16 pB)::(rr pN pK pi 77 4 pC)::ps) ((sF false Fp ap cp s.qA)::(sF false Fr ar cr s.qB)::(sF false Fo ao co own)::(qL true pJ pB ((doM s own (⟨sv,wi⟩:zQ) d).1.qF))::(qL true pq pC ((doM s own (⟨sv,wi⟩:zQ) d).1.zu))::Γ)):=by
 refine en func52 ntmps52 ?_
 have ug:=qO (H.get 0 rfl).1
 have th:=qO (H.get 1 rfl).1
 have sy:=qO (H.get 2 rfl).1
 obtain rfl:=H.xe (α:=zA) 1 rfl 3 rfl qj
 obtain rfl:=H.xe (α:=zk) 2 rfl 4 rfl qj
 have g1:=p0.sys
 have g2:=p0.len
 have g3:=p0.own
 have g4:=p0.few
 have l1:sv.length=n:=p1.len
 have l2:wi.length<=12:=p1.few
 have d1:=p2.1
 have d2:=p2.2.1
 have d3:=p2.2.2.1
 refine zcr<|sw<|jq H [yI d.xE,yI d.fA,yI d.fB] fun b1 w2 H=>sp (yI 0)<|zjcc<|oF rfl<|oL rfl (H.cell 0 rfl rfl)<|zjn<|xg<|zcc<|sp (Bv ((d.xE:Int) == 3))<|sp (Bv ((d.xE:Int) == 3))<|zjn<|c_cut (fun ρ w3=>∃ (xI:Env) (t8:Bool),ρ=upd (upd (upd (upd xI 0<|pp bk 0) 3<|pp b1 0) 7<|yI d.xE) 8 (Bv t8)/\(t8=true<->(d.xE=3\/d.xE=4))/\Fresh W0.heap.size (aF::az::Ns)/\St W0 w3 ((.box b1 [yI d.xE,yI d.fA,yI d.fB] 44)::(.box bk [Sv eG sv.length cC,Sv cM wi.length bJ,yI s.qP,Sv ap s.qA.length cp,Sv ar s.qB.length cr,Sv ao own.length co] 74)::(rr eG sv.length cC 49 16 bZ)::(rr cM wi.length bJ 77 4 bM)::ps) ((sF false Fp ap cp s.qA)::(sF false Fr ar cr s.qB)::(sF false Fo ao co own)::(qL true aF bZ sv)::(qL true az bM wi)::Γ)) ?_ ?_
 ·refine cE rfl (fun h4=>?_) (fun h4=>?_)
  ·try (have k8:=j8.1 ql)
   refine xk<|meet ⟨_,(d.xE:Int) == 3,uE4,?_,N,H⟩
   ·first | exact iff_of_true rfl qf | exact beq_iff_eq.trans ⟨fun h=>by omega,fun h=>by omega⟩
  try (have k8:¬ (d.xE=3\/d.xE=4):=fun z=>by have z:=j8.2 z;simp_all)
  refine xZ<|sp (Bv ((d.xE:Int) == 4))<|sp (Bv ((d.xE:Int) == 4))<|xW<|meet ⟨_,(d.xE:Int) == 4,uE4,?_,N,H⟩
  ·first | exact iff_of_true rfl qf | exact beq_iff_eq.trans ⟨fun h=>by omega,fun h=>by omega⟩
 clear H N
 rintro ρ w5 ⟨xI,t8,rfl,j8,N,H⟩
 refine t_n<|vk _ rfl (fun h6=>?_)<|fun h6=>?_
 ·try (have k8:=j8.1 ql)
  refine zcr<|sq 1<|sw<|zi [yI d.xE,yI d.fA,yI d.fB] isAgg44 sizeOf44 rfl (qK (H.cells 0 rfl) 0 3)<|sw<|zX #[pp bk 0,.agg #[yI d.xE,yI d.fA,yI d.fB]] rfl rfl call93<|en func93 ntmps93 ?_
  refine zcr<|sw<|jq H [yI d.xE,yI d.fA,yI d.fB] fun b7 w8 H=>sp (yI 0)<|zjcc<|sq 1<|oF rfl<|oL rfl (H.cell 0 rfl rfl)<|sw<|zX #[pp bk 0,yI d.fA] rfl rfl call95<|en func95 ntmps95 ?_
  refine zcr<|sp (Bv false)<|zjc<|sq 3<|oF rfl<|oF rfl<|oL rfl (H.cell 2 rfl rfl)<|sw<|zX #[Sv eG sv.length cC] rfl rfl call137<|en func137 ntmps137 ?_
  refine zcr<|sp (yI 0)<|zjc<|sq 1<|oN rfl<|sq 1<|zjr<|ret1 (yI sv.length) rfl rfl ⟨_,rfl,(sw<|o_sub sv.length 1 rfl rfl qf<|sw<|oq (Xy w8 d.fA 0<|sv.length - 1) H fun w9 H=>sq 1<|zjr<|ret1 (Bv<|inR d.fA 0<|sv.length - 1) rfl rfl ⟨_,rfl,(sp (Bv (!(inR d.fA 0<|sv.length - 1)))<|sp (Bv (!(inR d.fA 0<|sv.length - 1))) ?_)⟩)⟩
  cases dZ:(!(inR d.fA 0 (sv.length - 1)))
  ·replace dZ:=xJ dZ
   replace dZ:=Vl.1 dZ
   refine qV 12 rfl rfl<|sq 1<|qV 12 rfl rfl<|oF rfl<|qV 12 rfl rfl<|oL rfl (H.cell 0 rfl rfl)<|qV 12 rfl rfl<|sw<|zX #[pp bk 0,yI d.fB] rfl rfl call95<|en func95 ntmps95 ?_
   refine zcr<|sp (Bv false)<|zjc<|sq 3<|oF rfl<|oF rfl<|oL rfl (H.cell 2 rfl rfl)<|sw<|zX #[Sv eG sv.length cC] rfl rfl call137<|en func137 ntmps137 ?_
   refine zcr<|sp (yI 0)<|zjc<|sq 1<|oN rfl<|sq 1<|zjr<|ret1 (yI sv.length) rfl rfl ⟨_,rfl,(sw<|o_sub sv.length 1 rfl rfl qf<|sw<|oq (Xy w9 d.fB 0<|sv.length - 1) H fun KA H=>sq 1<|zjr<|ret1 (Bv<|inR d.fB 0<|sv.length - 1) rfl rfl ⟨_,rfl,(qV 12 rfl rfl<|sp (Bv (!(inR d.fB 0<|sv.length - 1)))<|sp (Bv (!(inR d.fB 0<|sv.length - 1)))<|sp (Bv (!(inR d.fB 0<|sv.length - 1))) ?_)⟩)⟩
   cases lR:(!(inR d.fB 0 (sv.length - 1)))
   ·replace lR:=xJ lR
    replace lR:=Vl.1 lR
    refine qV 19 rfl rfl<|oF rfl<|qV 19 rfl rfl<|oL rfl (H.cell 0 rfl rfl)<|qV 19 rfl rfl<|oF rfl<|qV 19 rfl rfl<|oL rfl (H.cell 0 rfl rfl)<|qV 19 rfl rfl<|sq 2<|zjn<|cE rfl (fun h15=>?_)<|fun h15=>?_
    ·refine zcr (sp (yI 2)<|zjr<|t_r<|ret1 (yI 2) rfl rfl ⟨_,rfl,?_⟩)
     replace H:=H.erases [0]
     dsimp only [zD,List.eraseIdx,List.set] at H
     refine sp (yI 2)<|zjr<|b_r<|t_r<|ret1 (yI 2) rfl rfl ⟨_,rfl,?_⟩
     first | rw [Va qf<|by show ¬ (0<=d.fA/\d.fA<=(sv.length:Int) - 1);omega] | rw [X9 qf<|by first | (left;show ¬ (0<=d.fA/\d.fA<=(sv.length:Int) - 1);omega) | (right;left;show ¬ (0<=d.fB/\d.fB<=(sv.length:Int) - 1);omega) | (right;right;omega)] | rw [X8 qf qf]
     all_goals exact ⟨bZ,aF,cM,wi.length,bJ,bM,az,rfl,N,H.qY 4 5 [1,2,3] (zR 0 5) (by simp only [List.length_cons,List.length_append];omega)<|by simp only [List.length_cons,List.length_append];omega⟩
    refine xk<|t_n<|xH<|zY 1 rfl H [0,1,2,3,4] [0,1,2,3,4] fun H=>?_
    dsimp only [jR,yE]
    have S:=H.zK (zR 0 5)<|zR 0 5
    refine rtl 0 S ?_
    refine rtl 1 S ?_
    refine tF 2 rfl rfl S ?_
    refine tF 3 rfl rfl S ?_
    refine tL 4 rfl rfl (fun _ h=>h.cell 2 rfl rfl) S ?_
    refine tF 5 rfl rfl S ?_
    refine tL 6 rfl rfl (fun _ h=>h.cell 0 rfl rfl) S ?_
    obtain ⟨lT,rfl⟩:=H.jg 3 rfl qf
    refine tI 7 rfl rfl rfl (H.pick (zR 0 5)<|zR 0 5) ?_
    obtain ⟨c7,de,lC,cw,cu,iD,dw,dv,mR,cv,cy,iQ,dx,du,mT,da,cZ,lj,cV,cT,jt,cj,cn,gV,df,c4,lN,cg,ce,gP,dc,dh,li,cW,cS,ks,aca,H⟩:=H.part_ServerD Qo.refl 3 rfl 3 rfl rfl d.fA.toNat qf
    refine rt 8 _ (yh (off:=0+(d.fA:Int).toNat * 16) (cs:=[yI (((sv[d.fA.toNat]!).qC).qN),Sv c7 ((((sv[d.fA.toNat]!).qC).qG).length) de,Sv cw ((((sv[d.fA.toNat]!).qC).qE).length) cu,Bv (((sv[d.fA.toNat]!).qC).qQ),Sv dw ((((sv[d.fA.toNat]!).qC).vz).length) dv,Sv cv ((((sv[d.fA.toNat]!).qC).qJ).length) cy,Sv dx ((((sv[d.fA.toNat]!).qC).vJ).length) du,Sv da ((((sv[d.fA.toNat]!).qC).xP).length) cZ,yI (((sv[d.fA.toNat]!).qH).qN),Sv cV ((((sv[d.fA.toNat]!).qH).qG).length) cT,Sv cj ((((sv[d.fA.toNat]!).qH).qE).length) cn,Bv (((sv[d.fA.toNat]!).qH).qQ),Sv df ((((sv[d.fA.toNat]!).qH).vz).length) c4,Sv cg ((((sv[d.fA.toNat]!).qH).qJ).length) ce,Sv dc ((((sv[d.fA.toNat]!).qH).vJ).length) dh,Sv cW ((((sv[d.fA.toNat]!).qH).xP).length) cS]) isAgg49 sizeOf49 rfl<|fun _ h=>(fun r v hv=>h.xX 3 rfl (aca r v hv) qf)) (H.pick (zR 0 5)<|zR 12 5) ?_
    refine ro 9 rfl<|xU H ti49 [yI 0,yN,yN,Bv false,yN,yN,yN,yN,yI 0,yN,yN,Bv false,yN,yN,yN,yN] fun KE SS H=>⟨H.pick (zR 1 5)<|zR 12 5,(xy qh<|xM ?_)⟩
    refine sw<|zC H 0 [yI (((sv[d.fA.toNat]!).qC).qN),Sv c7 ((((sv[d.fA.toNat]!).qC).qG).length) de,Sv cw ((((sv[d.fA.toNat]!).qC).qE).length) cu,Bv (((sv[d.fA.toNat]!).qC).qQ),Sv dw ((((sv[d.fA.toNat]!).qC).vz).length) dv,Sv cv ((((sv[d.fA.toNat]!).qC).qJ).length) cy,Sv dx ((((sv[d.fA.toNat]!).qC).vJ).length) du,Sv da ((((sv[d.fA.toNat]!).qC).xP).length) cZ,yI (((sv[d.fA.toNat]!).qH).qN),Sv cV ((((sv[d.fA.toNat]!).qH).qG).length) cT,Sv cj ((((sv[d.fA.toNat]!).qH).qE).length) cn,Bv (((sv[d.fA.toNat]!).qH).qQ),Sv df ((((sv[d.fA.toNat]!).qH).vz).length) c4,Sv cg ((((sv[d.fA.toNat]!).qH).qJ).length) ce,Sv dc ((((sv[d.fA.toNat]!).qH).vJ).length) dh,Sv cW ((((sv[d.fA.toNat]!).qH).xP).length) cS] sizeOf49 fun Ot H=>?_
    try dsimp only [List.set] at H
    refine zjc<|oF rfl<|oF rfl<|oL rfl (H.cell 0 rfl rfl)<|oF rfl<|oL rfl (H.cell 1 rfl rfl)<|oF rfl<|oL rfl (H.cell 1 rfl rfl)<|sw<|jb [yI (((sv[d.fA.toNat]!).qC).qN),yI d.fA,yI d.fB,yN] [(0,yI (((sv[d.fA.toNat]!).qC).qN)),(1,yI d.fA),(2,yI d.fB)]<|sw<|xU H ti77 [yI 0,yI 0,yI 0,yN] fun sA JE H=>sw<|zC H 0 [yI (((sv[d.fA.toNat]!).qC).qN),yI d.fA,yI d.fB,yN] sizeOf77 fun Ea H=>?_
    try dsimp only [List.set] at H
    refine zjn<|xH<|xg<|xH<|xH<|c_cut (fun ρ Ky=>∃ (xI:Env) (t56:Bool),ρ=upd (upd (upd (upd (upd xI 0<|pp bk 0) 3<|pp b7 0) 5<|pp KE 0) 6<|pp sA 0) 56 (Bv t56)/\(Sav7 t56 d.xE<|sv[d.fA.toNat]!)/\Fresh W0.heap.size (aF::az::Ns)/\St W0 Ky ((.box sA [yI (((sv[d.fA.toNat]!).qC).qN),yI d.fA,yI d.fB,yN] 77)::(.box KE [yI (((sv[d.fA.toNat]!).qC).qN),Sv c7 ((((sv[d.fA.toNat]!).qC).qG).length) de,Sv cw ((((sv[d.fA.toNat]!).qC).qE).length) cu,Bv (((sv[d.fA.toNat]!).qC).qQ),Sv dw ((((sv[d.fA.toNat]!).qC).vz).length) dv,Sv cv ((((sv[d.fA.toNat]!).qC).qJ).length) cy,Sv dx ((((sv[d.fA.toNat]!).qC).vJ).length) du,Sv da ((((sv[d.fA.toNat]!).qC).xP).length) cZ,yI (((sv[d.fA.toNat]!).qH).qN),Sv cV ((((sv[d.fA.toNat]!).qH).qG).length) cT,Sv cj ((((sv[d.fA.toNat]!).qH).qE).length) cn,Bv (((sv[d.fA.toNat]!).qH).qQ),Sv df ((((sv[d.fA.toNat]!).qH).vz).length) c4,Sv cg ((((sv[d.fA.toNat]!).qH).qJ).length) ce,Sv dc ((((sv[d.fA.toNat]!).qH).vJ).length) dh,Sv cW ((((sv[d.fA.toNat]!).qH).xP).length) cS] 49)::(.box b7 [yI d.xE,yI d.fA,yI d.fB] 44)::(.box b1 [yI d.xE,yI d.fA,yI d.fB] 44)::(.box bk [Sv (aa lT 0) sv.length cC,Sv cM wi.length bJ,yI s.qP,Sv ap s.qA.length cp,Sv ar s.qB.length cr,Sv ao own.length co] 74)::(rr (aa lT 0) sv.length cC 49 16 bZ)::(rr cM wi.length bJ 77 4 bM)::ps) ((sF true lC c7 de (((sv[d.fA.toNat]!).qC).qG))::(sF true iD cw cu (((sv[d.fA.toNat]!).qC).qE))::(sF true mR dw dv (((sv[d.fA.toNat]!).qC).vz))::(sF true iQ cv cy (((sv[d.fA.toNat]!).qC).qJ))::(sF true mT dx du (((sv[d.fA.toNat]!).qC).vJ))::(sF true lj da cZ (((sv[d.fA.toNat]!).qC).xP))::(sF true jt cV cT (((sv[d.fA.toNat]!).qH).qG))::(sF true gV cj cn (((sv[d.fA.toNat]!).qH).qE))::(sF true lN df c4 (((sv[d.fA.toNat]!).qH).vz))::(sF true gP cg ce (((sv[d.fA.toNat]!).qH).qJ))::(sF true li dc dh (((sv[d.fA.toNat]!).qH).vJ))::(sF true ks cW cS (((sv[d.fA.toNat]!).qH).xP))::(sF false Fp ap cp s.qA)::(sF false Fr ar cr s.qB)::(sF false Fo ao co own)::(qL true aF bZ sv)::(qL true az bM wi)::Γ)) ?_ ?_
    ·refine xZ (oF rfl<|oL rfl (H.cell 2 rfl rfl)<|sp (Bv ((d.xE:Int) == 3))<|sp (Bv ((d.xE:Int) == 3)) ?_)
     cases oY:((d.xE:Int) == 3)
     ·replace oY:=ne_of_beq_false oY
      refine zM [61,62,63]<|sp (Bv false)<|sp (Bv false)<|xW<|meet ⟨_,false,uE5,?_,N,H⟩
      ·first | exact sav7_1 qf ql rfl | exact sav7_2 qf ql | exact sav7_3 qf
     replace oY:=eq_of_beq oY
     refine qV 60 rfl rfl<|sw<|zi [yI (((sv[d.fA.toNat]!).qC).qN),Sv c7 ((((sv[d.fA.toNat]!).qC).qG).length) de,Sv cw ((((sv[d.fA.toNat]!).qC).qE).length) cu,Bv (((sv[d.fA.toNat]!).qC).qQ),Sv dw ((((sv[d.fA.toNat]!).qC).vz).length) dv,Sv cv ((((sv[d.fA.toNat]!).qC).qJ).length) cy,Sv dx ((((sv[d.fA.toNat]!).qC).vJ).length) du,Sv da ((((sv[d.fA.toNat]!).qC).xP).length) cZ,yI (((sv[d.fA.toNat]!).qH).qN),Sv cV ((((sv[d.fA.toNat]!).qH).qG).length) cT,Sv cj ((((sv[d.fA.toNat]!).qH).qE).length) cn,Bv (((sv[d.fA.toNat]!).qH).qQ),Sv df ((((sv[d.fA.toNat]!).qH).vz).length) c4,Sv cg ((((sv[d.fA.toNat]!).qH).qJ).length) ce,Sv dc ((((sv[d.fA.toNat]!).qH).vJ).length) dh,Sv cW ((((sv[d.fA.toNat]!).qH).xP).length) cS] isAgg49 sizeOf49 rfl (qK (H.cells 1 rfl) 0 16)<|qV 60 rfl rfl<|sw<|zX #[.agg #[yI (((sv[d.fA.toNat]!).qC).qN),Sv c7 ((((sv[d.fA.toNat]!).qC).qG).length) de,Sv cw ((((sv[d.fA.toNat]!).qC).qE).length) cu,Bv (((sv[d.fA.toNat]!).qC).qQ),Sv dw ((((sv[d.fA.toNat]!).qC).vz).length) dv,Sv cv ((((sv[d.fA.toNat]!).qC).qJ).length) cy,Sv dx ((((sv[d.fA.toNat]!).qC).vJ).length) du,Sv da ((((sv[d.fA.toNat]!).qC).xP).length) cZ,yI (((sv[d.fA.toNat]!).qH).qN),Sv cV ((((sv[d.fA.toNat]!).qH).qG).length) cT,Sv cj ((((sv[d.fA.toNat]!).qH).qE).length) cn,Bv (((sv[d.fA.toNat]!).qH).qQ),Sv df ((((sv[d.fA.toNat]!).qH).vz).length) c4,Sv cg ((((sv[d.fA.toNat]!).qH).qJ).length) ce,Sv dc ((((sv[d.fA.toNat]!).qH).vJ).length) dh,Sv cW ((((sv[d.fA.toNat]!).qH).xP).length) cS]] rfl rfl call133<|en func133 ntmps133 ?_
     refine zcr<|sw<|jq H [yI (((sv[d.fA.toNat]!).qC).qN),Sv c7 ((((sv[d.fA.toNat]!).qC).qG).length) de,Sv cw ((((sv[d.fA.toNat]!).qC).qE).length) cu,Bv (((sv[d.fA.toNat]!).qC).qQ),Sv dw ((((sv[d.fA.toNat]!).qC).vz).length) dv,Sv cv ((((sv[d.fA.toNat]!).qC).qJ).length) cy,Sv dx ((((sv[d.fA.toNat]!).qC).vJ).length) du,Sv da ((((sv[d.fA.toNat]!).qC).xP).length) cZ,yI (((sv[d.fA.toNat]!).qH).qN),Sv cV ((((sv[d.fA.toNat]!).qH).qG).length) cT,Sv cj ((((sv[d.fA.toNat]!).qH).qE).length) cn,Bv (((sv[d.fA.toNat]!).qH).qQ),Sv df ((((sv[d.fA.toNat]!).qH).vz).length) c4,Sv cg ((((sv[d.fA.toNat]!).qH).qJ).length) ce,Sv dc ((((sv[d.fA.toNat]!).qH).vJ).length) dh,Sv cW ((((sv[d.fA.toNat]!).qH).xP).length) cS] fun b28 Rf H=>(sp (Bv false)<|zjc<|oF rfl<|oF rfl<|oL rfl (H.cell 0 rfl rfl)<|oF rfl<|oF rfl<|oL rfl (H.cell 0 rfl rfl)<|sp (Bv ((((sv[d.fA.toNat]!).qH).qN:Int) == (((sv[d.fA.toNat]!).qC).qN)))<|sp (Bv ((((sv[d.fA.toNat]!).qH).qN:Int) == (((sv[d.fA.toNat]!).qC).qN))) ?_)
     cases DO:((((sv[d.fA.toNat]!).qH).qN:Int) == (((sv[d.fA.toNat]!).qC).qN))
     ·replace DO:=ne_of_beq_false DO
      refine zM [11,12,13]<|sp (Bv false)<|sp (Bv false)<|zjr<|ret1 (Bv false) rfl rfl ⟨_,rfl,?_⟩
      replace H:=H.erases [0]
      dsimp only [zD,List.eraseIdx,List.set] at H
      refine qV 60 rfl rfl<|sp (Bv true)<|sp (Bv true)<|sp (Bv true)<|xW<|meet ⟨_,true,uE5,?_,N,H⟩
      ·first | exact sav7_1 qf ql rfl | exact sav7_2 qf ql | exact sav7_3 qf
     replace DO:=eq_of_beq DO
     refine qV 10 rfl rfl<|oF rfl<|qV 10 rfl rfl<|oF rfl<|qV 10 rfl rfl<|oL rfl (H.cell 0 rfl rfl)<|sq 2<|zjr<|ret1 (Bv (((sv[d.fA.toNat]!).qH).qQ)) rfl rfl ⟨_,rfl,?_⟩
     replace H:=H.erases [0]
     dsimp only [zD,List.eraseIdx,List.set] at H
     refine qV 60 rfl rfl<|sq 3<|xW<|meet ⟨_,!(((sv[d.fA.toNat]!).qH).qQ),uE5,?_,N,H⟩
     ·first | exact sav7_1 qf ql rfl | exact sav7_2 qf ql | exact sav7_3 qf
    clear H N
    rintro ρ w31 ⟨xI,t56,rfl,j7,N,H⟩
    refine t_n<|c_cut (fun ρ Sb=>∃ (xI:Env) (OM:Bool),ρ=upd (upd (upd (upd (upd xI 0<|pp bk 0) 3<|pp b7 0) 5<|pp KE 0) 6<|pp sA 0) 56 (Bv OM)/\(Sav OM d.xE<|sv[d.fA.toNat]!)/\Fresh W0.heap.size (aF::az::Ns)/\St W0 Sb ((.box sA [yI (((sv[d.fA.toNat]!).qC).qN),yI d.fA,yI d.fB,yN] 77)::(.box KE [yI (((sv[d.fA.toNat]!).qC).qN),Sv c7 ((((sv[d.fA.toNat]!).qC).qG).length) de,Sv cw ((((sv[d.fA.toNat]!).qC).qE).length) cu,Bv (((sv[d.fA.toNat]!).qC).qQ),Sv dw ((((sv[d.fA.toNat]!).qC).vz).length) dv,Sv cv ((((sv[d.fA.toNat]!).qC).qJ).length) cy,Sv dx ((((sv[d.fA.toNat]!).qC).vJ).length) du,Sv da ((((sv[d.fA.toNat]!).qC).xP).length) cZ,yI (((sv[d.fA.toNat]!).qH).qN),Sv cV ((((sv[d.fA.toNat]!).qH).qG).length) cT,Sv cj ((((sv[d.fA.toNat]!).qH).qE).length) cn,Bv (((sv[d.fA.toNat]!).qH).qQ),Sv df ((((sv[d.fA.toNat]!).qH).vz).length) c4,Sv cg ((((sv[d.fA.toNat]!).qH).qJ).length) ce,Sv dc ((((sv[d.fA.toNat]!).qH).vJ).length) dh,Sv cW ((((sv[d.fA.toNat]!).qH).xP).length) cS] 49)::(.box b7 [yI d.xE,yI d.fA,yI d.fB] 44)::(.box b1 [yI d.xE,yI d.fA,yI d.fB] 44)::(.box bk [Sv (aa lT 0) sv.length cC,Sv cM wi.length bJ,yI s.qP,Sv ap s.qA.length cp,Sv ar s.qB.length cr,Sv ao own.length co] 74)::(rr (aa lT 0) sv.length cC 49 16 bZ)::(rr cM wi.length bJ 77 4 bM)::ps) ((sF true lC c7 de (((sv[d.fA.toNat]!).qC).qG))::(sF true iD cw cu (((sv[d.fA.toNat]!).qC).qE))::(sF true mR dw dv (((sv[d.fA.toNat]!).qC).vz))::(sF true iQ cv cy (((sv[d.fA.toNat]!).qC).qJ))::(sF true mT dx du (((sv[d.fA.toNat]!).qC).vJ))::(sF true lj da cZ (((sv[d.fA.toNat]!).qC).xP))::(sF true jt cV cT (((sv[d.fA.toNat]!).qH).qG))::(sF true gV cj cn (((sv[d.fA.toNat]!).qH).qE))::(sF true lN df c4 (((sv[d.fA.toNat]!).qH).vz))::(sF true gP cg ce (((sv[d.fA.toNat]!).qH).qJ))::(sF true li dc dh (((sv[d.fA.toNat]!).qH).vJ))::(sF true ks cW cS (((sv[d.fA.toNat]!).qH).xP))::(sF false Fp ap cp s.qA)::(sF false Fr ar cr s.qB)::(sF false Fo ao co own)::(qL true aF bZ sv)::(qL true az bM wi)::Γ)) ?_ ?_
    ·refine vk _ rfl (fun Tb=>?_) (fun Tb=>?_)
     ·refine xk (meet ⟨_,t56,uE5,?_,N,H⟩)
      ·first | exact sav7_tb j7 ql | exact sav7_t j7 ql | exact sav7_f j7 ql qf | exact sav_b4 qf
     refine xZ<|oF rfl<|oL rfl (H.cell 2 rfl rfl)<|sp (Bv ((d.xE:Int) == 4))<|sp (Bv ((d.xE:Int) == 4)) ?_
     cases DQ:((d.xE:Int) == 4)
     ·replace DQ:=ne_of_beq_false DQ
      refine zM (zR 69 4)<|sp (Bv false)<|sp (Bv false)<|xW<|meet ⟨_,false,uE5,?_,N,H⟩
      ·first | exact sav7_tb j7 ql | exact sav7_t j7 ql | exact sav7_f j7 ql qf | exact sav_b4 qf
     replace DQ:=eq_of_beq DQ
     refine qV 68 rfl rfl<|oF rfl<|qV 68 rfl rfl<|oF rfl<|qV 68 rfl rfl<|oL rfl (H.cell 1 rfl rfl)<|qV 68 rfl rfl<|sp (Bv ((((sv[d.fA.toNat]!).qC).qN:Int) == 0))<|sp (Bv ((((sv[d.fA.toNat]!).qC).qN:Int) == 0))<|sp (Bv ((((sv[d.fA.toNat]!).qC).qN:Int) == 0))<|xW<|meet ⟨_,(((sv[d.fA.toNat]!).qC).qN:Int) == 0,uE5,?_,N,H⟩
     ·first | exact sav7_tb j7 ql | exact sav7_t j7 ql | exact sav7_f j7 ql qf | exact sav_b4 qf
    clear H N
    rintro ρ P7 ⟨xI,OM,rfl,El,N,H⟩
    refine t_n<|vk _ rfl (fun h36=>?_)<|fun h36=>?_
    ·refine zcr (sp (yI 4)<|zjr<|b_r<|t_r<|ret1 (yI 4) rfl rfl ⟨_,rfl,?_⟩)
     replace H:=H.erases [2,1,0]
     dsimp only [zD,List.eraseIdx,List.set] at H
     refine sp (yI 4)<|zjr<|b_r<|t_r<|ret1 (yI 4) rfl rfl ⟨_,rfl,?_⟩
     first | (rcases El.1 ql with ⟨z1,z2⟩ | ⟨z1,z2⟩ <;> first | rw [doR_post4 z1 ⟨⟨by omega,by omega⟩,⟨by omega,by omega⟩,by omega⟩ z2] | rw [doR_back4 z1 ⟨⟨by omega,by omega⟩,⟨by omega,by omega⟩,by omega⟩ z2]) | rw [doR_adv4 qf ⟨by omega,by omega⟩ (by rintro ⟨h1,h2,h3,h4⟩;first | contradiction | exact notGot_of ql h2 | simp_all)]
     all_goals exact ⟨bZ,aF,cM,wi.length,bJ,bM,az,rfl,N,H.qY 4 17 [1,2,3] (zR 12 5) (by simp only [List.length_cons,List.length_append];omega)<|by simp only [List.length_cons,List.length_append];omega⟩
    refine zcr<|sq 2<|oF rfl<|oF rfl<|oL rfl (H.cell 4 rfl rfl)<|oN rfl<|sp (Bv ((wi.length:Int) == 12))<|sp (Bv ((wi.length:Int) == 12))<|zjn<|cE rfl (fun PY=>?_)<|fun PY=>?_
    ·refine zcr (sp (yI 3)<|zjr<|b_r<|t_r<|ret1 (yI 3) rfl rfl ⟨_,rfl,?_⟩)
     replace H:=H.erases [2,1,0]
     dsimp only [zD,List.eraseIdx,List.set] at H
     refine sp (yI 3)<|zjr<|b_r<|t_r<|ret1 (yI 3) rfl rfl ⟨_,rfl,?_⟩
     first | (rcases k8 with z1 | z1 <;> first | rw [doR_post3 z1 ⟨⟨by omega,by omega⟩,⟨by omega,by omega⟩,by omega⟩ ((El.2 ql).1 z1) qf] | rw [doR_back3 z1 ⟨⟨by omega,by omega⟩,⟨by omega,by omega⟩,by omega⟩ ((El.2 ql).2 z1) qf]) | rw [doR_come3 qf qf (fresh_and ql ql ql) ql] | rw [doR_adv3 qf ⟨by omega,by omega⟩ ⟨by assumption,allGot_of ql,by assumption,by assumption⟩ ql]
     all_goals exact ⟨bZ,aF,cM,wi.length,bJ,bM,az,rfl,N,H.qY 4 17 [1,2,3] (zR 12 5) (by simp only [List.length_cons,List.length_append];omega)<|by simp only [List.length_cons,List.length_append];omega⟩
    refine zcr<|oF rfl<|oL rfl (H.cell 2 rfl rfl)<|sp (Bv ((d.xE:Int) == 3))<|sp (Bv ((d.xE:Int) == 3))<|zjn ?_
    replace H:=H.nilRow 24 1
    replace H:=H.jZ (α:=yLI)
    refine c_cut (fun ρ TO=>∃ (xI:Env) (iZ:Int) (kM:yOA) (kz:Nat) (kC:Nat) (AX:yLL) (tK:List Value) (vh:yLN),ρ=upd (upd xI 0<|pp bk 0) 6 (pp sA 0)/\((d.xE=3/\iZ=(sv[d.fA.toNat]!).qC.qN/\AX=((sv[d.fA.toNat]!).qH.vJ)[d.fB.toNat]!)\/(d.xE=4/\iZ=(sv[d.fA.toNat]!).qC.qN - 1/\AX=((sv[d.fA.toNat]!).qC.xP)[d.fB.toNat]!))/\Fresh W0.heap.size (aF::az::vh::Ns)/\St W0 TO ((rr kM kz kC 24 1 tK)::(.box sA [yI iZ,yI d.fA,yI d.fB,Sv kM kz kC] 77)::(.box KE [yI (((sv[d.fA.toNat]!).qC).qN),Sv c7 ((((sv[d.fA.toNat]!).qC).qG).length) de,Sv cw ((((sv[d.fA.toNat]!).qC).qE).length) cu,Bv (((sv[d.fA.toNat]!).qC).qQ),Sv dw ((((sv[d.fA.toNat]!).qC).vz).length) dv,Sv cv ((((sv[d.fA.toNat]!).qC).qJ).length) cy,Sv dx ((((sv[d.fA.toNat]!).qC).vJ).length) du,Sv da ((((sv[d.fA.toNat]!).qC).xP).length) cZ,yI (((sv[d.fA.toNat]!).qH).qN),Sv cV ((((sv[d.fA.toNat]!).qH).qG).length) cT,Sv cj ((((sv[d.fA.toNat]!).qH).qE).length) cn,Bv (((sv[d.fA.toNat]!).qH).qQ),Sv df ((((sv[d.fA.toNat]!).qH).vz).length) c4,Sv cg ((((sv[d.fA.toNat]!).qH).qJ).length) ce,Sv dc ((((sv[d.fA.toNat]!).qH).vJ).length) dh,Sv cW ((((sv[d.fA.toNat]!).qH).xP).length) cS] 49)::(.box b7 [yI d.xE,yI d.fA,yI d.fB] 44)::(.box b1 [yI d.xE,yI d.fA,yI d.fB] 44)::(.box bk [Sv (aa lT 0) sv.length cC,Sv cM wi.length bJ,yI s.qP,Sv ap s.qA.length cp,Sv ar s.qB.length cr,Sv ao own.length co] 74)::(rr (aa lT 0) sv.length cC 49 16 bZ)::(rr cM wi.length bJ 77 4 bM)::ps) ((qL true vh tK AX)::(sF true lC c7 de (((sv[d.fA.toNat]!).qC).qG))::(sF true iD cw cu (((sv[d.fA.toNat]!).qC).qE))::(sF true mR dw dv (((sv[d.fA.toNat]!).qC).vz))::(sF true iQ cv cy (((sv[d.fA.toNat]!).qC).qJ))::(sF true mT dx du (((sv[d.fA.toNat]!).qC).vJ))::(sF true lj da cZ (((sv[d.fA.toNat]!).qC).xP))::(sF true jt cV cT (((sv[d.fA.toNat]!).qH).qG))::(sF true gV cj cn (((sv[d.fA.toNat]!).qH).qE))::(sF true lN df c4 (((sv[d.fA.toNat]!).qH).vz))::(sF true gP cg ce (((sv[d.fA.toNat]!).qH).qJ))::(sF true li dc dh (((sv[d.fA.toNat]!).qH).vJ))::(sF true ks cW cS (((sv[d.fA.toNat]!).qH).xP))::(sF false Fp ap cp s.qA)::(sF false Fr ar cr s.qB)::(sF false Fo ao co own)::(qL true aF bZ sv)::(qL true az bM wi)::Γ)) ?_ ?_
    ·refine cE rfl (fun Zr=>?_) (fun Zr=>?_)
     ·have y1:jf s own n d.fA.toNat (sv[d.fA.toNat]!).qC/\jf s own n d.fA.toNat (sv[d.fA.toNat]!).qH:=p1.srv d.fA.toNat qf
      have y2:=y1.2.nowIn p0 ((El.2 ql).1 ql).2 (j:=d.fB.toNat) qf
      have y3:=y2.1
      have y4:=y2.2.1
      refine xZ<|oF rfl<|oF rfl<|oL rfl (H.cell 2 rfl rfl)<|oF rfl<|oL rfl (H.cell 3 rfl rfl) ?_
      obtain ⟨WT,o41,rfl⟩:=H.addr 11 rfl qf
      obtain ⟨aKC,aKs,aEQ,H⟩:=H.yD 11 rfl d.fB d.fB.toNat qf qf qf
      refine oI rfl rfl<|oL rfl (H.vW 1 rfl 0 rfl) ?_
      have atv:=H.base.size
      have axP:=jB (H.ltN (L:=[aF,az]) [18,19])<|H.ltK<|K0.behind 20 rfl
      refine sw<|oc (Q3 _ ((((sv[d.fA.toNat]!).qH).vJ)[d.fB.toNat]!) (H.get 0 rfl).1 qg) ?_
      rintro _ w45 ⟨apE,awz,ahz,ax9,auH,rfl,M,K⟩ _
      replace N:=N.merge atv axP M
      replace H:=H.merge K M
      dsimp only [List.cons_append,List.nil_append] at H
      obtain rfl:=H.xe (α:=yLI) 0 rfl 0 rfl qj
      refine oF rfl<|sw<|xO H 2 [yI (((sv[d.fA.toNat]!).qC).qN),yI d.fA,yI d.fB,Sv apE (((((sv[d.fA.toNat]!).qH).vJ)[d.fB.toNat]!).length) ahz] sizeOf29 fun w50 H=>?_
      try dsimp only [List.set] at H
      refine xW<|meet ⟨_,((sv[d.fA.toNat]!).qC).qN,apE,((((sv[d.fA.toNat]!).qH).vJ)[d.fB.toNat]!).length,ahz,((((sv[d.fA.toNat]!).qH).vJ)[d.fB.toNat]!),ax9,auH,uE2,?_,(N.qY 3 [1,2,0]<|by simp only [List.length_cons,List.length_append];omega),H.qY 9 21 (0::zR 2 7) (0::zR 4 17) (by simp only [List.length_cons,List.length_append];omega)<|by simp only [List.length_cons,List.length_append];omega⟩
      ·first | exact .inl ⟨by omega,rfl,rfl⟩ | exact .inr ⟨by omega,rfl,rfl⟩
     have y1:jf s own n d.fA.toNat (sv[d.fA.toNat]!).qC/\jf s own n d.fA.toNat (sv[d.fA.toNat]!).qH:=p1.srv d.fA.toNat qf
     have y0:=y1.1.rnd
     have y5:=(El.2 ql).2 qf
     have y2:=y1.1.lastIn p0 y5 (j:=d.fB.toNat) qf
     have y3:=y2.1
     have y4:=y2.2.1
     refine zcr<|oF rfl<|oL rfl (H.cell 1 rfl rfl)<|sw<|o_sub (((sv[d.fA.toNat]!).qC).qN) 1 rfl rfl qf<|oF rfl<|sw<|xO H 1 [yI ((((sv[d.fA.toNat]!).qC).qN) - 1),yI d.fA,yI d.fB,yN] sizeOf2 fun w51 H=>?_
     try dsimp only [List.set] at H
     refine zjn<|xZ<|oF rfl<|oF rfl<|oL rfl (H.cell 2 rfl rfl)<|oF rfl<|oL rfl (H.cell 3 rfl rfl) ?_
     obtain ⟨b52,o53,rfl⟩:=H.addr 6 rfl qf
     obtain ⟨aD4,aJD,aHE,H⟩:=H.yD 6 rfl d.fB d.fB.toNat qf qf qf
     refine oI rfl rfl<|oL rfl (H.vW 1 rfl 0 rfl) ?_
     have aoL:=H.base.size
     have aqc:=jB (H.ltN (L:=[aF,az]) [18,19])<|H.ltK<|K0.behind 20 rfl
     refine sw<|oc (Q3 _ ((((sv[d.fA.toNat]!).qC).xP)[d.fB.toNat]!) (H.get 0 rfl).1 qg) ?_
     rintro _ w57 ⟨aoE,aGj,agR,Ni,awe,rfl,M,K⟩ _
     replace N:=N.merge aoL aqc M
     replace H:=H.merge K M
     dsimp only [List.cons_append,List.nil_append] at H
     obtain rfl:=H.xe (α:=yLI) 0 rfl 0 rfl qj
     refine oF rfl<|sw<|xO H 2 [yI ((((sv[d.fA.toNat]!).qC).qN) - 1),yI d.fA,yI d.fB,Sv aoE (((((sv[d.fA.toNat]!).qC).xP)[d.fB.toNat]!).length) agR] sizeOf29 fun w62 H=>?_
     try dsimp only [List.set] at H
     refine xW<|meet ⟨_,(((sv[d.fA.toNat]!).qC).qN) - 1,aoE,((((sv[d.fA.toNat]!).qC).xP)[d.fB.toNat]!).length,agR,((((sv[d.fA.toNat]!).qC).xP)[d.fB.toNat]!),Ni,awe,uE2,?_,(N.qY 3 [1,2,0]<|by simp only [List.length_cons,List.length_append];omega),H.qY 9 21 (0::zR 2 7) (0::zR 4 17) (by simp only [List.length_cons,List.length_append];omega)<|by simp only [List.length_cons,List.length_append];omega⟩
     ·first | exact .inl ⟨by omega,rfl,rfl⟩ | exact .inr ⟨by omega,rfl,rfl⟩
    clear H N
    rintro ρ w63 ⟨xI,iZ,kM,kz,kC,AX,tK,vh,rfl,j82,N,H⟩
    have aeg:=H.xe (α:=yLI) 0 rfl 0 rfl qj
    refine b_n<|t_n<|xH<|zY 4 rfl H [1,2,3,4,5,6] [0,1,2,3,4,5,6,7,8,9,10,11,12,13,14,15,16,17] fun H=>?_
    dsimp only [jR,yE]
    have S:=H.zK (zR 1 6)<|zR 0 18
    refine rtl 0 S ?_
    refine rtl 1 S ?_
    refine rtl 2 S ?_
    refine tF 3 rfl rfl S ?_
    refine tF 4 rfl rfl S ?_
    refine tL 5 rfl rfl (fun _ h=>h.cell 4 rfl rfl) S ?_
    refine rt 6 _ (yh (cs:=[yI iZ,yI d.fA,yI d.fB,Sv kM kz kC]) isAgg77 sizeOf77 rfl<|fun _ h=>qK (h.cells 0 rfl) 0 4) S ?_
    refine ro 7 rfl<|zx H underlying37 ti77 [yI iZ,yI d.fA,yI d.fB,Sv kM kz kC] fun NK w66 H=>⟨H.pick (zR 2 6)<|zR 0 18,(ro 8 rfl ?_)⟩
    have H0:=H
    obtain ⟨V3,MD,atD,H⟩:=H.vK (α:=yLI) 1 rfl 0 rfl qj
    replace N:Fresh W0.heap.size (V3::aF::az::Ns):=Fresh.ice (N.qY 3 [2,0,1]<|by simp only [List.length_cons,List.length_append];omega) H0 1 MD.1 MD.2<|fun F hF b hb=>(List.mem_append.1<|show F∈[aF,az]++Ns from hF).elim (fun h=>(H0.vg (L:=[aF,az]) [16,17]) F h b hb) fun h=>H0.jH (K0.behind 18 rfl) F h b hb
    clear H0
    try dsimp only [List.set] at H
    refine zJ H 8 rfl 0 rfl underlying37 ti77 rfl qj rfl rfl rfl qw qp qf fun VX U3 w69 H=>?_
    try dsimp only [List.set] at H
    replace H:=H.snoc_ParcelD 18 rfl iZ d.fA d.fB 0 rfl
    replace N:Fresh W0.heap.size ((az++V3)::aF::Ns):=(N.qY 3 [2,0,1]<|by simp only [List.length_cons,List.length_append];omega).join
    refine ⟨H.pick (zR 2 6)<|zR 2 18,(xy qh<|xM<|sq 1<|oF rfl<|oF rfl<|sw<|xO H 6 [Sv (aa lT 0) sv.length cC,Sv VX (wi.length+1) U3,yI s.qP,Sv ap s.qA.length cp,Sv ar s.qB.length cr,Sv ao own.length co] sizeOf37 fun w73 H=>?_)⟩
    try dsimp only [List.set] at H
    refine zjc<|sp (yI 0)<|zjr<|ret1 (yI 0) rfl rfl ⟨_,rfl,?_⟩
    replace H:=H.erases [4,3,2,1,0]
    dsimp only [zD,List.eraseIdx,List.set] at H
    refine sp (yI 0)<|zjr<|b_r<|t_r<|ret1 (yI 0) rfl rfl ⟨_,rfl,?_⟩
    (rcases j82 with ⟨z1,z2,z3⟩ | ⟨z1,z2,z3⟩ <;> first | rw [doR_post0 z1 ⟨⟨by omega,by omega⟩,⟨by omega,by omega⟩,by omega⟩ ((El.2 ql).1 z1) qf,← z2,← z3] | rw [doR_back0 z1 ⟨⟨by omega,by omega⟩,⟨by omega,by omega⟩,by omega⟩ ((El.2 ql).2 z1) qf,← z2,← z3])
    all_goals exact ⟨bZ,aF,VX,wi.length+1,U3,bM++[Value.int .i64 iZ,Value.int .i64 d.fA,Value.int .i64 d.fB,Value.slice kM kz kC],(az++V3),rfl,(N.qY 2 [1,0]<|by simp only [List.length_cons,List.length_append];omega),H.qY 4 20 [1,2,3] [15,16,17,18,0] (by simp only [List.length_cons,List.length_append];omega)<|by simp only [List.length_cons,List.length_append];omega⟩
   replace lR:=xN lR
   replace lR:=inR_not lR
   refine zM (zR 20 5)<|sp (Bv true)<|zjn<|cTr rfl<|zcr<|sp (yI 2)<|zjr<|t_r<|ret1 (yI 2) rfl rfl ⟨_,rfl,?_⟩
   replace H:=H.erases [0]
   dsimp only [zD,List.eraseIdx,List.set] at H
   refine sp (yI 2)<|zjr<|b_r<|t_r<|ret1 (yI 2) rfl rfl ⟨_,rfl,?_⟩
   first | rw [Va qf<|by show ¬ (0<=d.fA/\d.fA<=(sv.length:Int) - 1);omega] | rw [X9 qf<|by first | (left;show ¬ (0<=d.fA/\d.fA<=(sv.length:Int) - 1);omega) | (right;left;show ¬ (0<=d.fB/\d.fB<=(sv.length:Int) - 1);omega) | (right;right;omega)] | rw [X8 qf qf]
   all_goals exact ⟨bZ,aF,cM,wi.length,bJ,bM,az,rfl,N,H.qY 4 5 [1,2,3] (zR 0 5) (by simp only [List.length_cons,List.length_append];omega)<|by simp only [List.length_cons,List.length_append];omega⟩
  replace dZ:=xN dZ
  replace dZ:=inR_not dZ
  refine zM (zR 13 5)<|sp (Bv true)<|sp (Bv true)<|zM (zR 20 5)<|sp (Bv true)<|zjn<|cTr rfl<|zcr<|sp (yI 2)<|zjr<|t_r<|ret1 (yI 2) rfl rfl ⟨_,rfl,?_⟩
  replace H:=H.erases [0]
  dsimp only [zD,List.eraseIdx,List.set] at H
  refine sp (yI 2)<|zjr<|b_r<|t_r<|ret1 (yI 2) rfl rfl ⟨_,rfl,?_⟩
  first | rw [Va qf<|by show ¬ (0<=d.fA/\d.fA<=(sv.length:Int) - 1);omega] | rw [X9 qf<|by first | (left;show ¬ (0<=d.fA/\d.fA<=(sv.length:Int) - 1);omega) | (right;left;show ¬ (0<=d.fB/\d.fB<=(sv.length:Int) - 1);omega) | (right;right;omega)] | rw [X8 qf qf]
  all_goals exact ⟨bZ,aF,cM,wi.length,bJ,bM,az,rfl,N,H.qY 4 5 [1,2,3] (zR 0 5) (by simp only [List.length_cons,List.length_append];omega)<|by simp only [List.length_cons,List.length_append];omega⟩
 try (have k8:¬ (d.xE=3\/d.xE=4):=fun z=>by have z:=j8.2 z;simp_all)
 refine zcc<|sp (Bv ((d.xE:Int) == 6))<|sp (Bv ((d.xE:Int) == 6))<|zjn<|c_cut (fun ρ w74=>∃ (xI:Env) (t14:Bool),ρ=upd (upd (upd xI 0<|pp bk 0) 3<|pp b1 0) 14 (Bv t14)/\(t14=true<->(d.xE=6\/d.xE=7\/d.xE=8))/\Fresh W0.heap.size (aF::az::Ns)/\St W0 w74 ((.box b1 [yI d.xE,yI d.fA,yI d.fB] 44)::(.box bk [Sv eG sv.length cC,Sv cM wi.length bJ,yI s.qP,Sv ap s.qA.length cp,Sv ar s.qB.length cr,Sv ao own.length co] 74)::(rr eG sv.length cC 49 16 bZ)::(rr cM wi.length bJ 77 4 bM)::ps) ((sF false Fp ap cp s.qA)::(sF false Fr ar cr s.qB)::(sF false Fo ao co own)::(qL true aF bZ sv)::(qL true az bM wi)::Γ)) ?_ ?_
 ·refine cE rfl (fun h75=>?_) (fun h75=>?_)
  ·try (have Lf:=Ig.1 ql)
   refine xk<|meet ⟨_,(d.xE:Int) == 6,uE3,?_,N,H⟩
   ·first | exact iff_of_true rfl qf | exact beq_iff_eq.trans ⟨fun h=>by omega,fun h=>by omega⟩
  try (have Lf:¬ (d.xE=6\/d.xE=7\/d.xE=8):=fun z=>by have z:=Ig.2 z;simp_all)
  refine zcr<|sp (Bv ((d.xE:Int) == 7))<|sp (Bv ((d.xE:Int) == 7))<|zjn<|cE rfl (fun h76=>?_)<|fun h76=>?_
  ·try (have Lf:=Ig.1 ql)
   refine xk<|meet ⟨_,(d.xE:Int) == 7,uE3,?_,N,H⟩
   ·first | exact iff_of_true rfl qf | exact beq_iff_eq.trans ⟨fun h=>by omega,fun h=>by omega⟩
  try (have Lf:¬ (d.xE=6\/d.xE=7\/d.xE=8):=fun z=>by have z:=Ig.2 z;simp_all)
  refine xZ<|sp (Bv ((d.xE:Int) == 8))<|sp (Bv ((d.xE:Int) == 8))<|xW<|meet ⟨_,(d.xE:Int) == 8,uE3,?_,N,H⟩
  ·first | exact iff_of_true rfl qf | exact beq_iff_eq.trans ⟨fun h=>by omega,fun h=>by omega⟩
 clear H N
 rintro ρ w77 ⟨xI,t14,rfl,Ig,N,H⟩
 refine t_n<|vk _ rfl (fun h78=>?_)<|fun h78=>?_
 ·try (have Lf:=Ig.1 ql)
  refine zcr<|sq 1<|sw<|zi [yI d.xE,yI d.fA,yI d.fB] isAgg44 sizeOf44 rfl (qK (H.cells 0 rfl) 0 3)<|sw<|zX #[pp bk 0,.agg #[yI d.xE,yI d.fA,yI d.fB]] rfl rfl call94<|en func94 ntmps94 ?_
  refine zcr<|sw<|jq H [yI d.xE,yI d.fA,yI d.fB] fun Jq WH H=>sp (yI 0)<|zjn<|xH<|xH<|zY 1 rfl H [0,1,2,3,4] [0,1,2,3,4] fun H=>?_
  dsimp only [jR,yE]
  have S:=H.zK (zR 0 5)<|zR 0 5
  refine tF 0 rfl rfl S ?_
  refine tL 1 rfl rfl (fun _ h=>h.cell 0 rfl rfl) S ?_
  refine rtl 2 S ?_
  refine rtl 3 S ?_
  refine tF 4 rfl rfl S ?_
  refine tF 5 rfl rfl S ?_
  refine tL 6 rfl rfl (fun _ h=>h.cell 2 rfl rfl) S ?_
  refine ro 7 rfl<|zX #[Sv cM wi.length bJ] rfl rfl call134<|en func134 ntmps134 ?_
  refine zcr<|sp (yI 0)<|zjc<|sq 1<|oN rfl<|sq 1<|zjr<|ret1 (yI wi.length) rfl rfl ⟨_,rfl,(⟨H.pick (zR 0 5)<|zR 0 5,(xy qh<|xM<|sq 1<|zjn<|cD rfl (fun h82=>?_)<|fun h82=>?_)⟩)⟩
  ·refine zcr (sp (yI 2)<|zjr<|t_r<|ret1 (yI 2) rfl rfl ⟨_,rfl,?_⟩)
   replace H:=H.erases [0]
   dsimp only [zD,List.eraseIdx,List.set] at H
   refine sp (yI 2)<|zjr<|b_r<|t_r<|ret1 (yI 2) rfl rfl ⟨_,rfl,?_⟩
   first | rw [Va qf<|by show ¬ (0<=d.fA/\d.fA<=(sv.length:Int) - 1);omega] | rw [X9 qf<|by first | (left;show ¬ (0<=d.fA/\d.fA<=(sv.length:Int) - 1);omega) | (right;left;show ¬ (0<=d.fB/\d.fB<=(sv.length:Int) - 1);omega) | (right;right;omega)] | rw [X8 qf qf]
   all_goals exact ⟨bZ,aF,cM,wi.length,bJ,bM,az,rfl,N,H.qY 4 5 [1,2,3] (zR 0 5) (by simp only [List.length_cons,List.length_append];omega)<|by simp only [List.length_cons,List.length_append];omega⟩
  have y1:ParcelOk s own n (wi[d.fA.toNat]!):=p1.wire d.fA.toNat<|by show _ < wi.length;omega
  have y2:=y1.1
  have y3:=y1.2.1
  have y5:jf s own n (wi[d.fA.toNat]!).fTo.toNat (sv[(wi[d.fA.toNat]!).fTo.toNat]!).qC:=(p1.srv _ qf).1
  refine xk<|t_n<|zcc<|oF rfl<|oL rfl (H.cell 0 rfl rfl)<|sp (Bv ((d.xE:Int) != 8))<|zjn<|vk ((d.xE:Int) != 8) rfl (fun M7=>?_)<|fun M7=>?_
  ·replace M7:=bne_iff_ne.1 M7
   refine xH<|zY 2 rfl H [0,1,2,3,4] [0,1,2,3,4] fun H=>?_
   dsimp only [jR,yE]
   have S:=H.zK (zR 0 5)<|zR 0 5
   refine rtl 0 S ?_
   refine rtl 1 S ?_
   refine rtl 2 S ?_
   refine tF 3 rfl rfl S ?_
   refine tF 4 rfl rfl S ?_
   refine tL 5 rfl rfl (fun _ h=>h.cell 2 rfl rfl) S ?_
   refine tF 6 rfl rfl S ?_
   refine tL 7 rfl rfl (fun _ h=>h.cell 0 rfl rfl) S ?_
   obtain ⟨iS,rfl⟩:=H.jg 4 rfl qf
   refine tI 8 rfl rfl rfl (H.pick (zR 0 5)<|zR 0 5) ?_
   obtain ⟨wh,va,anq,agk,H⟩:=H.part_ParcelD Qo.refl 4 rfl 4 rfl rfl d.fA.toNat qf
   refine rt 9 _ (yh (off:=0+(d.fA:Int).toNat * 4) (cs:=[yI ((wi[d.fA.toNat]!).qN),yI ((wi[d.fA.toNat]!).XZ),yI ((wi[d.fA.toNat]!).fTo),Sv wh (((wi[d.fA.toNat]!).qG).length) va]) isAgg77 sizeOf77 rfl<|fun _ h=>(fun r v hv=>h.xX 4 rfl (agk r v hv) qf)) (H.pick (zR 0 5)<|zR 1 5) ?_
   refine xy qh<|xM<|sw<|zX #[pp bk 0,.agg #[yI ((wi[d.fA.toNat]!).qN),yI ((wi[d.fA.toNat]!).XZ),yI ((wi[d.fA.toNat]!).fTo),Sv wh (((wi[d.fA.toNat]!).qG).length) va]] rfl rfl call135<|en func135 ntmps135 ?_
   refine zcr<|sw<|jq H [yI ((wi[d.fA.toNat]!).qN),yI ((wi[d.fA.toNat]!).XZ),yI ((wi[d.fA.toNat]!).fTo),Sv wh (((wi[d.fA.toNat]!).qG).length) va] fun b88 w89 H=>sp (yI 0)<|zjn<|xH<|zY 3 rfl H [0,1,2,3,4,5] [0,1,2,3,4,5] fun H=>?_
   dsimp only [jR,yE]
   have S:=H.zK (zR 0 6)<|zR 0 6
   refine rtl 0 S ?_
   refine rtl 1 S ?_
   refine tF 2 rfl rfl S ?_
   refine tF 3 rfl rfl S ?_
   refine tL 4 rfl rfl (fun _ h=>h.cell 3 rfl rfl) S ?_
   refine tF 5 rfl rfl S ?_
   refine tL 6 rfl rfl (fun _ h=>h.cell 0 rfl rfl) S ?_
   refine xy qh<|xM ?_
   obtain ⟨b91,rfl⟩:=H.jg 4 rfl qf
   refine oI rfl rfl<|oF rfl<|sq 1<|zjn<|xH<|xH<|zY 1 rfl H [0,1,2,3,4,5] [0,1,2,3,4,5] fun H=>?_
   dsimp only [jR,yE]
   have S:=H.zK (zR 0 6)<|zR 0 6
   refine rtl 0 S ?_
   refine rtl 1 S ?_
   refine tF 2 rfl rfl S ?_
   obtain ⟨aoP,ajq,amA,abF,abP,acy,aq8,asK,arW,acf,Zu,aaK,asN,asc,asf,anB,afe,afB,EL,H⟩:=H.vV zg 4 rfl 4 rfl rfl (((wi[d.fA.toNat]!).fTo).toNat) qf
   have S:=H.zK (zR 0 6)<|zR 6 6
   refine rt 3 _ (jL (off:=0+((wi[d.fA.toNat]!).fTo:Int).toNat * 16+0+3) isAgg4 rfl<|fun _ h=>(h.xX 4 rfl (EL 3 _ rfl) qf)) S ?_
   refine rtp 4 (Bv (!(((sv[((wi[d.fA.toNat]!).fTo).toNat]!).qC).qQ))) S ?_
   refine rtp 5 (Bv (!(((sv[((wi[d.fA.toNat]!).fTo).toNat]!).qC).qQ))) S ?_
   cases SH:(!(((sv[((wi[d.fA.toNat]!).fTo).toNat]!).qC).qQ))
   ·replace SH:=xJ SH
    have y6:=y5.got ql
    have y7:=y6.2.1
    obtain ⟨y8,y9⟩:=plusPre p0.sys y6.2.2.1 y1.2.2.1
    have S:=H.zK (zR 0 6)<|zR 6 6
    refine rgl 6 21 S ?_
    refine rgl 7 21 S ?_
    refine gF 8 rfl rfl S ?_
    refine rg 9 _ 21 (jL (off:=0+((wi[d.fA.toNat]!).fTo:Int).toNat * 16+0+0) isAgg2 rfl<|fun _ h=>(h.xX 4 rfl (EL 0 _ rfl) qf)) S ?_
    refine gF 10 rfl rfl S ?_
    refine gL 11 rfl rfl (fun _ h=>h.cell 0 rfl rfl) S ?_
    refine rgp 12 (Bv ((((sv[((wi[d.fA.toNat]!).fTo).toNat]!).qC).qN:Int) != ((wi[d.fA.toNat]!).qN))) 21 S ?_
    refine rtp 13 (Bv ((((sv[((wi[d.fA.toNat]!).fTo).toNat]!).qC).qN:Int) != ((wi[d.fA.toNat]!).qN))) S ?_
    refine rtp 14 (Bv ((((sv[((wi[d.fA.toNat]!).fTo).toNat]!).qC).qN:Int) != ((wi[d.fA.toNat]!).qN))) S ?_
    cases RG:((((sv[((wi[d.fA.toNat]!).fTo).toNat]!).qC).qN:Int) != ((wi[d.fA.toNat]!).qN))
    ·replace RG:=xR RG
     have S:=H.zK (zR 0 6)<|zR 6 6
     refine rgl 15 30 S ?_
     refine rgl 16 30 S ?_
     refine gF 17 rfl rfl S ?_
     refine rg 18 _ 30 (jL (off:=0+((wi[d.fA.toNat]!).fTo:Int).toNat * 16+0+4) isAgg28 rfl<|fun _ h=>(h.xX 4 rfl (EL 4 _ rfl) qf)) S ?_
     refine gF 19 rfl rfl S ?_
     refine gL 20 rfl rfl (fun _ h=>h.cell 0 rfl rfl) S ?_
     obtain ⟨b97,o98,rfl⟩:=H.addr 2 rfl qf
     refine gI 21 rfl rfl rfl (H.pick (zR 0 6)<|zR 6 6)<|jw [22] qh qm<|r_opG rfl (e:=30) rfl rfl (zB (Bv ((((sv[((wi[d.fA.toNat]!).fTo).toNat]!).qC).vz)[((wi[d.fA.toNat]!).XZ).toNat]!)) isAgg4 rfl (H.elemBool 2 rfl ((wi[d.fA.toNat]!).XZ) qf qf)<|⟨H.pick (zR 0 6)<|zR 6 6,(xy qh<|xM<|sq 1<|zjn<|vk _ rfl (fun Ml=>?_)<|fun Ml=>?_)⟩) jy
     ·refine zcr (sp (yI 0)<|zjr<|t_r<|ret1 (yI 0) rfl rfl ⟨_,rfl,?_⟩)
      replace H:=H.erases [0]
      dsimp only [zD,List.eraseIdx,List.set] at H
      refine sp (yI 0)<|zjc<|sp (yI 0)<|sp (Bv false)<|zjn<|cFr rfl<|xk<|t_n<|zcc<|oF rfl<|oL rfl (H.cell 0 rfl rfl)<|sp (Bv ((d.xE:Int) != 7))<|zjn<|vk ((d.xE:Int) != 7) rfl (fun rj=>?_)<|fun rj=>?_
      ·replace rj:=bne_iff_ne.1 rj
       refine zY 4 rfl H [0,1,2,3] [0,1,2,3,4,5,6,7,8,9,10,11] fun H=>?_
       dsimp only [jR,yE]
       have S:=H.zK (zR 0 4)<|zR 0 12
       refine rtl 0 S ?_
       refine rtl 1 S ?_
       refine rtl 2 S ?_
       refine tF 3 rfl rfl S ?_
       refine tF 4 rfl rfl S ?_
       refine tL 5 rfl rfl (fun _ h=>h.cell 2 rfl rfl) S ?_
       refine tF 6 rfl rfl S ?_
       refine tL 7 rfl rfl (fun _ h=>h.cell 0 rfl rfl) S ?_
       refine tF 8 rfl rfl S ?_
       refine tL 9 rfl rfl (fun _ h=>h.cell 0 rfl rfl) S ?_
       refine rt 10 _ (y_add d.fA 1 rfl rfl qf) S ?_
       refine ro 11 rfl<|zy #[Sv (aa iS 0) wi.length bJ,yI d.fA,yI<|d.fA+1] rfl rfl call136 (delP H 4 rfl 11 rfl d.fA.toNat qf qf qf) ?_
       rintro _ JU ⟨aji,akx,rfl,V2,H⟩
       replace N:Fresh W0.heap.size (akx::aF::Ns):=Fresh.less (N.qY 2 [1,0]<|by simp only [List.length_cons,List.length_append];omega) V2.1 V2.2
       refine ⟨H.pick (zR 0 4)<|zR 1 12,(xy qh<|xM<|sq 1<|oF rfl<|oF rfl<|sw<|xO H 2 [Sv (aa b91 0) sv.length cC,Sv (aa iS 0) ((wi.eraseIdx d.fA.toNat).length) bJ,yI s.qP,Sv ap s.qA.length cp,Sv ar s.qB.length cr,Sv ao own.length co] sizeOf37 fun aaR H=>?_)⟩
       try dsimp only [List.set] at H
       refine zjc<|sp (yI 0)<|zjr<|ret1 (yI 0) rfl rfl ⟨_,rfl,?_⟩
       replace H:=H.erases [0]
       dsimp only [zD,List.eraseIdx,List.set] at H
       refine sp (yI 0)<|zjr<|b_r<|t_r<|ret1 (yI 0) rfl rfl ⟨_,rfl,?_⟩
       first | rw [doR_drop qf qf] | rw [doR_stale6 qf qf<|stale_or<|by first | exact .inl ql | exact .inr (.inl ql) | exact .inr<|.inr ql] | (exfalso;omega)
       all_goals exact ⟨bZ,aF,(aa iS 0),(wi.eraseIdx d.fA.toNat).length,bJ,aji,akx,rfl,(N.qY 2 [1,0]<|by simp only [List.length_cons,List.length_append];omega),H.qY 4 13 [1,2,3] [8,9,10,11,0] (by simp only [List.length_cons,List.length_append];omega)<|by simp only [List.length_cons,List.length_append];omega⟩
      replace rj:=xR rj
      refine xk<|t_n<|zcr<|sp (yI 0)<|zjr<|ret1 (yI 0) rfl rfl ⟨_,rfl,?_⟩
      replace H:=H.erases [0]
      dsimp only [zD,List.eraseIdx,List.set] at H
      refine sp (yI 0)<|zjr<|b_r<|t_r<|ret1 (yI 0) rfl rfl ⟨_,rfl,?_⟩
      first | rw [doR_stale7 qf qf<|stale_or<|by first | exact .inl ql | exact .inr (.inl ql) | exact .inr<|.inr ql] | (exfalso;omega)
      all_goals exact ⟨bZ,aF,(aa iS 0),wi.length,bJ,bM,az,rfl,N,H.qY 4 12 [1,2,3] (zR 7 5) (by simp only [List.length_cons,List.length_append];omega)<|by simp only [List.length_cons,List.length_append];omega⟩
     refine xk<|t_n<|xH<|zY 2 rfl H [0,1,2,3,4,5] [0,1,2,3,4,5,6,7,8,9,10,11] fun H=>?_
     dsimp only [jR,yE]
     have S:=H.zK (zR 0 6)<|zR 0 12
     refine rtl 0 S ?_
     refine rtl 1 S ?_
     refine tF 2 rfl rfl S ?_
     refine rt 3 _ (jL (off:=0+((wi[d.fA.toNat]!).fTo:Int).toNat * 16+0+5) isAgg29 rfl<|fun _ h=>(h.xX 4 rfl (EL 5 _ rfl) qf)) S ?_
     refine tF 4 rfl rfl S ?_
     refine tL 5 rfl rfl (fun _ h=>h.cell 0 rfl rfl) S ?_
     refine xy qh<|xM ?_
     have akm:=H.base.size
     have aio:=jB (H.ltN (L:=[aF,az]) [10,11])<|H.ltK<|K0.behind 12 rfl
     refine sw<|oc (added_ok _ (((sv[((wi[d.fA.toNat]!).fTo).toNat]!).qC).qJ) ((wi[d.fA.toNat]!).qG) (H.get 3 rfl).1 (H.get 6 rfl).1 qg qg) ?_
     rintro _ aiE ⟨yb,aDp,uh,aAB,aCW,rfl,M,K⟩ _
     replace N:=N.merge akm aio M
     replace H:=H.merge K M
     dsimp only [List.cons_append,List.nil_append] at H
     obtain rfl:=H.xe (α:=yLI) 0 rfl 0 rfl qj
     refine sq 1<|zjcc<|sq 1 ?_
     obtain ⟨OK,aCh,abp⟩:=H.rowIsR (α:=yLI) 0 rfl 0 rfl qj
     refine sw<|oq (areBags_ok _ (Qr (((sv[((wi[d.fA.toNat]!).fTo).toNat]!).qC).qJ) ((wi[d.fA.toNat]!).qG)) abp) H fun ayX H=>sq 1<|zjn<|cQ rfl (fun aa1=>?_)<|fun aa1=>?_
     ·refine zcr (sp (yI 3)<|zjr<|t_r<|ret1 (yI 3) rfl rfl ⟨_,rfl,?_⟩)
      replace H:=H.erases [1,0]
      dsimp only [zD,List.eraseIdx,List.set] at H
      refine sp (yI 3)<|zjc<|sp (yI 3)<|sp (Bv true)<|zjn<|cTr rfl<|zcr<|sp (yI 3)<|sp (yI 3)<|zjr<|t_r<|ret1 (yI 3) rfl rfl ⟨_,rfl,?_⟩
      replace H:=H.erases [0]
      dsimp only [zD,List.eraseIdx,List.set] at H
      refine sp (yI 3)<|zjr<|b_r<|t_r<|ret1 (yI 3) rfl rfl ⟨_,rfl,?_⟩
      first | (rcases k8 with z1 | z1 <;> first | rw [doR_post3 z1 ⟨⟨by omega,by omega⟩,⟨by omega,by omega⟩,by omega⟩ ((El.2 ql).1 z1) qf] | rw [doR_back3 z1 ⟨⟨by omega,by omega⟩,⟨by omega,by omega⟩,by omega⟩ ((El.2 ql).2 z1) qf]) | rw [doR_come3 qf qf (fresh_and ql ql ql) ql] | rw [doR_adv3 qf ⟨by omega,by omega⟩ ⟨by assumption,allGot_of ql,by assumption,by assumption⟩ ql]
      all_goals exact ⟨bZ,aF,(aa iS 0),wi.length,bJ,bM,az,rfl,(N.qY 3 [1,2]<|by simp only [List.length_cons,List.length_append];omega),H.qY 4 13 [1,2,3] (zR 8 5) (by simp only [List.length_cons,List.length_append];omega)<|by simp only [List.length_cons,List.length_append];omega⟩
     refine xk<|t_n<|zcr<|sq 3<|oF rfl ?_
     have H0:=H
     obtain ⟨aeB,Wf,aCq,H⟩:=H.vK (α:=yLI) 0 rfl 0 rfl qj
     replace N:Fresh W0.heap.size (aeB::aF::az::Ns):=Fresh.ice N H0 0 Wf.1 Wf.2<|fun F hF b hb=>(List.mem_append.1<|show F∈[aF,az]++Ns from hF).elim (fun h=>(H0.vg (L:=[aF,az]) [11,12]) F h b hb) fun h=>H0.jH (K0.behind 13 rfl) F h b hb
     clear H0
     try dsimp only [List.set] at H
     obtain ⟨FG,GQ⟩:∃ z,z=(sv.set (((wi[d.fA.toNat]!).fTo).toNat) { sv[((wi[d.fA.toNat]!).fTo).toNat]! with qC:={ sv[((wi[d.fA.toNat]!).fTo).toNat]!.qC with qJ:=Qr (((sv[((wi[d.fA.toNat]!).fTo).toNat]!).qC).qJ) ((wi[d.fA.toNat]!).qG)}}):=⟨_,rfl⟩
     refine sw<|Xu (v:=Sv yb ((Qr (((sv[((wi[d.fA.toNat]!).fTo).toNat]!).qC).qJ) ((wi[d.fA.toNat]!).qG)).length) uh) XA H 5 rfl 12 rfl 0 rfl rfl sizeOf29 rfl rfl rfl (((wi[d.fA.toNat]!).fTo).toNat) qf qf GQ fun MF YV ajH am0 H=>?_
     try dsimp only [List.set] at H
     replace N:Fresh W0.heap.size (ajH::az::Ns):=(N.qY 3 [1,0,2]<|by simp only [List.length_cons,List.length_append];omega).repl am0
     obtain ⟨u1,u2⟩:=come_len qf GQ y7
     refine zjn<|xH<|zY 2 rfl H [0,1,2,3,4,5,6] [0,1,2,3,4,5,6,7,8,9,10,11,12,13,14] fun H=>?_
     dsimp only [jR,yE]
     have S:=H.zK (zR 0 7)<|zR 0 15
     refine rtl 0 S ?_
     refine rtl 1 S ?_
     refine tF 2 rfl rfl S ?_
     obtain ⟨adP,adB,adU,UH,U2,WF,aok,agA,apa,VT,Y9,Uc,aly,aiI,aj7,adc,adO,adm,YA,H⟩:=H.vV zg 5 rfl 0 rfl rfl (((wi[d.fA.toNat]!).fTo).toNat) qf
     have S:=H.zK (zR 0 7)<|zR 6 15
     refine rt 3 _ (jL (off:=0+((wi[d.fA.toNat]!).fTo:Int).toNat * 16+0+4) isAgg28 rfl<|fun _ h=>(h.xX 5 rfl (YA 4 _ rfl) qf)) S ?_
     refine tF 4 rfl rfl S ?_
     refine tL 5 rfl rfl (fun _ h=>h.cell 1 rfl rfl) S ?_
     refine xy qh<|xM ?_
     obtain ⟨Pa,aJf,rfl⟩:=H.addr 2 rfl qf
     refine oI rfl rfl ?_
     have N0:Fresh W0.heap.size (ajH::az::Ns):=N
     obtain ⟨azK,yi⟩:∃ z,z=(FG.set (((wi[d.fA.toNat]!).fTo).toNat) { FG[((wi[d.fA.toNat]!).fTo).toNat]! with qC:={ FG[((wi[d.fA.toNat]!).fTo).toNat]!.qC with vz:=(((FG[((wi[d.fA.toNat]!).fTo).toNat]!).qC.vz).set (((wi[d.fA.toNat]!).XZ).toNat) true)}}):=⟨_,rfl⟩
     refine sw<|o_pokeBool Xn H 6 rfl N0 ((sF false Fp ap cp s.qA)::(sF false Fr ar cr s.qB)::(sF false Fo ao co own)::(qL true az bM wi)::Γ) (vw (kept 16 rfl<|Xo OL 0 rfl N0)<|vw (kept 17 rfl<|Xo OL 1 rfl N0)<|vw (kept 18 rfl<|Xo OL 2 rfl N0)<|vw (kept 20 rfl<|QJ N0 0 rfl)<|keeps_old 21 rfl OL 3 rfl N0) (((wi[d.fA.toNat]!).fTo).toNat) qf rfl (YA 4 _ rfl) (((wi[d.fA.toNat]!).XZ).toNat) qf sizeOf4 rfl qf rfl yi fun LW ab2 N H=>zjc<|sp (yI 0)<|zjr<|ret1 (yI 0) rfl rfl ⟨_,rfl,?_⟩
     replace H:=H.erases [1,0]
     dsimp only [zD,List.eraseIdx,List.set] at H
     refine sp (yI 0)<|zjc<|sp (yI 0)<|sp (Bv false)<|zjn<|cFr rfl<|xk<|t_n<|zcc<|oF rfl<|oL rfl (H.cell 0 rfl rfl)<|sp (Bv ((d.xE:Int) != 7))<|zjn<|vk ((d.xE:Int) != 7) rfl (fun N4=>?_)<|fun N4=>?_
     ·replace N4:=bne_iff_ne.1 N4
      refine zY 4 rfl H [0,1,2,3] [0,1,2,3,4] fun H=>?_
      dsimp only [jR,yE]
      have S:=H.zK (zR 0 4)<|zR 0 5
      refine rtl 0 S ?_
      refine rtl 1 S ?_
      refine rtl 2 S ?_
      refine tF 3 rfl rfl S ?_
      refine tF 4 rfl rfl S ?_
      refine tL 5 rfl rfl (fun _ h=>h.cell 2 rfl rfl) S ?_
      refine tF 6 rfl rfl S ?_
      refine tL 7 rfl rfl (fun _ h=>h.cell 0 rfl rfl) S ?_
      refine tF 8 rfl rfl S ?_
      refine tL 9 rfl rfl (fun _ h=>h.cell 0 rfl rfl) S ?_
      refine rt 10 _ (y_add d.fA 1 rfl rfl qf) S ?_
      refine ro 11 rfl<|zy #[Sv (aa iS 0) wi.length bJ,yI d.fA,yI<|d.fA+1] rfl rfl call136 (delP H 4 rfl 4 rfl d.fA.toNat qf qf qf) ?_
      rintro _ aG1 ⟨ae6,amH,rfl,YW,H⟩
      replace N:Fresh W0.heap.size (amH::ab2::Ns):=Fresh.less (N.qY 2 [1,0]<|by simp only [List.length_cons,List.length_append];omega) YW.1 YW.2
      refine ⟨H.pick (zR 0 4)<|zR 1 5,(xy qh<|xM<|sq 1<|oF rfl<|oF rfl<|sw<|xO H 2 [Sv (aa b91 0) sv.length cC,Sv (aa iS 0) ((wi.eraseIdx d.fA.toNat).length) bJ,yI s.qP,Sv ap s.qA.length cp,Sv ar s.qB.length cr,Sv ao own.length co] sizeOf37 fun axS H=>?_)⟩
      try dsimp only [List.set] at H
      refine zjc<|sp (yI 0)<|zjr<|ret1 (yI 0) rfl rfl ⟨_,rfl,?_⟩
      replace H:=H.erases [0]
      dsimp only [zD,List.eraseIdx,List.set] at H
      refine sp (yI 0)<|zjr<|b_r<|t_r<|ret1 (yI 0) rfl rfl ⟨_,rfl,?_⟩
      first | rw [doR_come6 qf qf (fresh_and ql ql ql) ql<|got_sets qf GQ yi] | (exfalso;omega)
      all_goals exact ⟨YV,ab2,(aa iS 0),(wi.eraseIdx d.fA.toNat).length,bJ,ae6,amH,rfl,(N.qY 2 [1,0]<|by simp only [List.length_cons,List.length_append];omega),H.qY 4 6 [1,2,3] [2,3,4,1,0] (by simp only [List.length_cons,List.length_append];omega)<|by simp only [List.length_cons,List.length_append];omega⟩
     replace N4:=xR N4
     refine xk<|t_n<|zcr<|sp (yI 0)<|zjr<|ret1 (yI 0) rfl rfl ⟨_,rfl,?_⟩
     replace H:=H.erases [0]
     dsimp only [zD,List.eraseIdx,List.set] at H
     refine sp (yI 0)<|zjr<|b_r<|t_r<|ret1 (yI 0) rfl rfl ⟨_,rfl,?_⟩
     first | rw [doR_save qf ⟨by omega,by omega⟩ yi] | rw [doR_crash qf ⟨by omega,by omega⟩ yi] | rw [doR_come7 qf qf (fresh_and ql ql ql) ql<|got_sets qf GQ yi] | rw [doR_adv0 qf ⟨by omega,by omega⟩ ⟨by assumption,allGot_of ql,by assumption,by assumption⟩ ql<|adv_sets qf rfl yi] | (exfalso;omega)
     all_goals exact ⟨YV,ab2,(aa iS 0),wi.length,bJ,bM,az,rfl,N,H.qY 4 5 [1,2,3] [1,2,3,0,4] (by simp only [List.length_cons,List.length_append];omega)<|by simp only [List.length_cons,List.length_append];omega⟩
    replace RG:=bne_iff_ne.1 RG
    refine jA (zR 15 8) 8 (H.pick (zR 0 6)<|zR 6 6)<|xy qh<|xM<|sp (Bv true)<|zjn<|cTr rfl<|zcr<|sp (yI 0)<|zjr<|t_r<|ret1 (yI 0) rfl rfl ⟨_,rfl,?_⟩
    replace H:=H.erases [0]
    dsimp only [zD,List.eraseIdx,List.set] at H
    refine sp (yI 0)<|zjc<|sp (yI 0)<|sp (Bv false)<|zjn<|cFr rfl<|xk<|t_n<|zcc<|oF rfl<|oL rfl (H.cell 0 rfl rfl)<|sp (Bv ((d.xE:Int) != 7))<|zjn<|vk ((d.xE:Int) != 7) rfl (fun A4=>?_)<|fun A4=>?_
    ·replace A4:=bne_iff_ne.1 A4
     refine zY 4 rfl H [0,1,2,3] [0,1,2,3,4,5,6,7,8,9,10,11] fun H=>?_
     dsimp only [jR,yE]
     have S:=H.zK (zR 0 4)<|zR 0 12
     refine rtl 0 S ?_
     refine rtl 1 S ?_
     refine rtl 2 S ?_
     refine tF 3 rfl rfl S ?_
     refine tF 4 rfl rfl S ?_
     refine tL 5 rfl rfl (fun _ h=>h.cell 2 rfl rfl) S ?_
     refine tF 6 rfl rfl S ?_
     refine tL 7 rfl rfl (fun _ h=>h.cell 0 rfl rfl) S ?_
     refine tF 8 rfl rfl S ?_
     refine tL 9 rfl rfl (fun _ h=>h.cell 0 rfl rfl) S ?_
     refine rt 10 _ (y_add d.fA 1 rfl rfl qf) S ?_
     refine ro 11 rfl<|zy #[Sv (aa iS 0) wi.length bJ,yI d.fA,yI<|d.fA+1] rfl rfl call136 (delP H 4 rfl 11 rfl d.fA.toNat qf qf qf) ?_
     rintro _ aHW ⟨ahQ,afu,rfl,UP,H⟩
     replace N:Fresh W0.heap.size (afu::aF::Ns):=Fresh.less (N.qY 2 [1,0]<|by simp only [List.length_cons,List.length_append];omega) UP.1 UP.2
     refine ⟨H.pick (zR 0 4)<|zR 1 12,(xy qh<|xM<|sq 1<|oF rfl<|oF rfl<|sw<|xO H 2 [Sv (aa b91 0) sv.length cC,Sv (aa iS 0) ((wi.eraseIdx d.fA.toNat).length) bJ,yI s.qP,Sv ap s.qA.length cp,Sv ar s.qB.length cr,Sv ao own.length co] sizeOf37 fun abQ H=>?_)⟩
     try dsimp only [List.set] at H
     refine zjc<|sp (yI 0)<|zjr<|ret1 (yI 0) rfl rfl ⟨_,rfl,?_⟩
     replace H:=H.erases [0]
     dsimp only [zD,List.eraseIdx,List.set] at H
     refine sp (yI 0)<|zjr<|b_r<|t_r<|ret1 (yI 0) rfl rfl ⟨_,rfl,?_⟩
     first | rw [doR_drop qf qf] | rw [doR_stale6 qf qf<|stale_or<|by first | exact .inl ql | exact .inr (.inl ql) | exact .inr<|.inr ql] | (exfalso;omega)
     all_goals exact ⟨bZ,aF,(aa iS 0),(wi.eraseIdx d.fA.toNat).length,bJ,ahQ,afu,rfl,(N.qY 2 [1,0]<|by simp only [List.length_cons,List.length_append];omega),H.qY 4 13 [1,2,3] [8,9,10,11,0] (by simp only [List.length_cons,List.length_append];omega)<|by simp only [List.length_cons,List.length_append];omega⟩
    replace A4:=xR A4
    refine xk<|t_n<|zcr<|sp (yI 0)<|zjr<|ret1 (yI 0) rfl rfl ⟨_,rfl,?_⟩
    replace H:=H.erases [0]
    dsimp only [zD,List.eraseIdx,List.set] at H
    refine sp (yI 0)<|zjr<|b_r<|t_r<|ret1 (yI 0) rfl rfl ⟨_,rfl,?_⟩
    first | rw [doR_stale7 qf qf<|stale_or<|by first | exact .inl ql | exact .inr (.inl ql) | exact .inr<|.inr ql] | (exfalso;omega)
    all_goals exact ⟨bZ,aF,(aa iS 0),wi.length,bJ,bM,az,rfl,N,H.qY 4 12 [1,2,3] (zR 7 5) (by simp only [List.length_cons,List.length_append];omega)<|by simp only [List.length_cons,List.length_append];omega⟩
   replace SH:=xN SH
   refine jA (zR 6 7) 7 (H.pick (zR 0 6)<|zR 6 6) ?_
   have S:=H.zK (zR 0 6)<|zR 6 6
   refine rtp 13 (Bv true) S ?_
   refine rtp 14 (Bv true) S ?_
   refine jA (zR 15 8) 8 (H.pick (zR 0 6)<|zR 6 6)<|xy qh<|xM<|sp (Bv true)<|zjn<|cTr rfl<|zcr<|sp (yI 0)<|zjr<|t_r<|ret1 (yI 0) rfl rfl ⟨_,rfl,?_⟩
   replace H:=H.erases [0]
   dsimp only [zD,List.eraseIdx,List.set] at H
   refine sp (yI 0)<|zjc<|sp (yI 0)<|sp (Bv false)<|zjn<|cFr rfl<|xk<|t_n<|zcc<|oF rfl<|oL rfl (H.cell 0 rfl rfl)<|sp (Bv ((d.xE:Int) != 7))<|zjn<|vk ((d.xE:Int) != 7) rfl (fun KJ=>?_)<|fun KJ=>?_
   ·replace KJ:=bne_iff_ne.1 KJ
    refine zY 4 rfl H [0,1,2,3] [0,1,2,3,4,5,6,7,8,9,10,11] fun H=>?_
    dsimp only [jR,yE]
    have S:=H.zK (zR 0 4)<|zR 0 12
    refine rtl 0 S ?_
    refine rtl 1 S ?_
    refine rtl 2 S ?_
    refine tF 3 rfl rfl S ?_
    refine tF 4 rfl rfl S ?_
    refine tL 5 rfl rfl (fun _ h=>h.cell 2 rfl rfl) S ?_
    refine tF 6 rfl rfl S ?_
    refine tL 7 rfl rfl (fun _ h=>h.cell 0 rfl rfl) S ?_
    refine tF 8 rfl rfl S ?_
    refine tL 9 rfl rfl (fun _ h=>h.cell 0 rfl rfl) S ?_
    refine rt 10 _ (y_add d.fA 1 rfl rfl qf) S ?_
    refine ro 11 rfl<|zy #[Sv (aa iS 0) wi.length bJ,yI d.fA,yI<|d.fA+1] rfl rfl call136 (delP H 4 rfl 11 rfl d.fA.toNat qf qf qf) ?_
    rintro _ ab4 ⟨aqg,anI,rfl,TP,H⟩
    replace N:Fresh W0.heap.size (anI::aF::Ns):=Fresh.less (N.qY 2 [1,0]<|by simp only [List.length_cons,List.length_append];omega) TP.1 TP.2
    refine ⟨H.pick (zR 0 4)<|zR 1 12,(xy qh<|xM<|sq 1<|oF rfl<|oF rfl<|sw<|xO H 2 [Sv (aa b91 0) sv.length cC,Sv (aa iS 0) ((wi.eraseIdx d.fA.toNat).length) bJ,yI s.qP,Sv ap s.qA.length cp,Sv ar s.qB.length cr,Sv ao own.length co] sizeOf37 fun ajx H=>?_)⟩
    try dsimp only [List.set] at H
    refine zjc<|sp (yI 0)<|zjr<|ret1 (yI 0) rfl rfl ⟨_,rfl,?_⟩
    replace H:=H.erases [0]
    dsimp only [zD,List.eraseIdx,List.set] at H
    refine sp (yI 0)<|zjr<|b_r<|t_r<|ret1 (yI 0) rfl rfl ⟨_,rfl,?_⟩
    first | rw [doR_drop qf qf] | rw [doR_stale6 qf qf<|stale_or<|by first | exact .inl ql | exact .inr (.inl ql) | exact .inr<|.inr ql] | (exfalso;omega)
    all_goals exact ⟨bZ,aF,(aa iS 0),(wi.eraseIdx d.fA.toNat).length,bJ,aqg,anI,rfl,(N.qY 2 [1,0]<|by simp only [List.length_cons,List.length_append];omega),H.qY 4 13 [1,2,3] [8,9,10,11,0] (by simp only [List.length_cons,List.length_append];omega)<|by simp only [List.length_cons,List.length_append];omega⟩
   replace KJ:=xR KJ
   refine xk<|t_n<|zcr<|sp (yI 0)<|zjr<|ret1 (yI 0) rfl rfl ⟨_,rfl,?_⟩
   replace H:=H.erases [0]
   dsimp only [zD,List.eraseIdx,List.set] at H
   refine sp (yI 0)<|zjr<|b_r<|t_r<|ret1 (yI 0) rfl rfl ⟨_,rfl,?_⟩
   first | rw [doR_stale7 qf qf<|stale_or<|by first | exact .inl ql | exact .inr (.inl ql) | exact .inr<|.inr ql] | (exfalso;omega)
   all_goals exact ⟨bZ,aF,(aa iS 0),wi.length,bJ,bM,az,rfl,N,H.qY 4 12 [1,2,3] (zR 7 5) (by simp only [List.length_cons,List.length_append];omega)<|by simp only [List.length_cons,List.length_append];omega⟩
  replace M7:=xR M7
  refine xk<|t_n<|zcc<|oF rfl<|oL rfl (H.cell 0 rfl rfl)<|sp (Bv ((d.xE:Int) != 7))<|zjn<|vk ((d.xE:Int) != 7) rfl (fun Oa=>?_)<|fun Oa=>?_
  ·replace Oa:=bne_iff_ne.1 Oa
   refine zY 4 rfl H [0,1,2,3] [0,1,2,3,4] fun H=>?_
   dsimp only [jR,yE]
   have S:=H.zK (zR 0 4)<|zR 0 5
   refine rtl 0 S ?_
   refine rtl 1 S ?_
   refine rtl 2 S ?_
   refine tF 3 rfl rfl S ?_
   refine tF 4 rfl rfl S ?_
   refine tL 5 rfl rfl (fun _ h=>h.cell 2 rfl rfl) S ?_
   refine tF 6 rfl rfl S ?_
   refine tL 7 rfl rfl (fun _ h=>h.cell 0 rfl rfl) S ?_
   refine tF 8 rfl rfl S ?_
   refine tL 9 rfl rfl (fun _ h=>h.cell 0 rfl rfl) S ?_
   refine rt 10 _ (y_add d.fA 1 rfl rfl qf) S ?_
   refine ro 11 rfl ?_
   obtain ⟨KL,rfl⟩:=H.jg 4 rfl qf
   refine zy #[Sv (aa KL 0) wi.length bJ,yI d.fA,yI<|d.fA+1] rfl rfl call136 (delP H 4 rfl 4 rfl d.fA.toNat qf qf qf) ?_
   rintro _ aaU ⟨ahd,ajf,rfl,WD,H⟩
   replace N:Fresh W0.heap.size (ajf::aF::Ns):=Fresh.less (N.qY 2 [1,0]<|by simp only [List.length_cons,List.length_append];omega) WD.1 WD.2
   refine ⟨H.pick (zR 0 4)<|zR 1 5,(xy qh<|xM<|sq 1<|oF rfl<|oF rfl<|sw<|xO H 2 [Sv eG sv.length cC,Sv (aa KL 0) ((wi.eraseIdx d.fA.toNat).length) bJ,yI s.qP,Sv ap s.qA.length cp,Sv ar s.qB.length cr,Sv ao own.length co] sizeOf37 fun avP H=>?_)⟩
   try dsimp only [List.set] at H
   refine zjc<|sp (yI 0)<|zjr<|ret1 (yI 0) rfl rfl ⟨_,rfl,?_⟩
   replace H:=H.erases [0]
   dsimp only [zD,List.eraseIdx,List.set] at H
   refine sp (yI 0)<|zjr<|b_r<|t_r<|ret1 (yI 0) rfl rfl ⟨_,rfl,?_⟩
   first | rw [doR_drop qf qf] | rw [doR_stale6 qf qf<|stale_or<|by first | exact .inl ql | exact .inr (.inl ql) | exact .inr<|.inr ql] | (exfalso;omega)
   all_goals exact ⟨bZ,aF,(aa KL 0),(wi.eraseIdx d.fA.toNat).length,bJ,ahd,ajf,rfl,(N.qY 2 [1,0]<|by simp only [List.length_cons,List.length_append];omega),H.qY 4 6 [1,2,3] [1,2,3,4,0] (by simp only [List.length_cons,List.length_append];omega)<|by simp only [List.length_cons,List.length_append];omega⟩
  replace Oa:=xR Oa
  refine xk<|t_n<|zcr<|sp (yI 0)<|zjr<|ret1 (yI 0) rfl rfl ⟨_,rfl,?_⟩
  replace H:=H.erases [0]
  dsimp only [zD,List.eraseIdx,List.set] at H
  refine sp (yI 0)<|zjr<|b_r<|t_r<|ret1 (yI 0) rfl rfl ⟨_,rfl,?_⟩
  first | rw [doR_stale7 qf qf<|stale_or<|by first | exact .inl ql | exact .inr (.inl ql) | exact .inr<|.inr ql] | (exfalso;omega)
  all_goals exact ⟨bZ,aF,cM,wi.length,bJ,bM,az,rfl,N,H.qY 4 5 [1,2,3] (zR 0 5) (by simp only [List.length_cons,List.length_append];omega)<|by simp only [List.length_cons,List.length_append];omega⟩
 try (have Lf:¬ (d.xE=6\/d.xE=7\/d.xE=8):=fun z=>by have z:=Ig.2 z;simp_all)
 refine xk<|b_n<|t_n<|zcc<|sq 1<|oF rfl<|oL rfl (H.cell 0 rfl rfl)<|sw<|zX #[pp bk 0,yI d.fA] rfl rfl call95<|en func95 ntmps95 ?_
 refine zcr<|sp (Bv false)<|zjc<|sq 3<|oF rfl<|oF rfl<|oL rfl (H.cell 1 rfl rfl)<|sw<|zX #[Sv eG sv.length cC] rfl rfl call137<|en func137 ntmps137 ?_
 refine zcr<|sp (yI 0)<|zjc<|sq 1<|oN rfl<|sq 1<|zjr<|ret1 (yI sv.length) rfl rfl ⟨_,rfl,(sw<|o_sub sv.length 1 rfl rfl qf<|sw<|oq (Xy w77 d.fA 0<|sv.length - 1) H fun anM H=>sq 1<|zjr<|ret1 (Bv<|inR d.fA 0<|sv.length - 1) rfl rfl ⟨_,rfl,(sp (Bv (!(inR d.fA 0<|sv.length - 1)))<|zjn<|vk _ rfl (fun yW=>?_)<|fun yW=>?_)⟩)⟩
 ·replace yW:=xN yW
  replace yW:=inR_not yW
  refine zcr<|sp (yI 2)<|zjr<|t_r<|ret1 (yI 2) rfl rfl ⟨_,rfl,?_⟩
  first | rw [Va qf<|by show ¬ (0<=d.fA/\d.fA<=(sv.length:Int) - 1);omega] | rw [X9 qf<|by first | (left;show ¬ (0<=d.fA/\d.fA<=(sv.length:Int) - 1);omega) | (right;left;show ¬ (0<=d.fB/\d.fB<=(sv.length:Int) - 1);omega) | (right;right;omega)] | rw [X8 qf qf]
  all_goals exact ⟨bZ,aF,cM,wi.length,bJ,bM,az,rfl,N,H.qY 4 5 [1,2,3] (zR 0 5) (by simp only [List.length_cons,List.length_append];omega)<|by simp only [List.length_cons,List.length_append];omega⟩
 replace yW:=xJ yW
 replace yW:=Vl.1 yW
 refine xk<|t_n<|xH<|zY 2 rfl H [0,1,2,3] [0,1,2,3,4] fun H=>?_
 dsimp only [jR,yE]
 have S:=H.zK (zR 0 4)<|zR 0 5
 refine rtl 0 S ?_
 refine rtl 1 S ?_
 refine tF 2 rfl rfl S ?_
 refine tF 3 rfl rfl S ?_
 refine tL 4 rfl rfl (fun _ h=>h.cell 1 rfl rfl) S ?_
 refine tF 5 rfl rfl S ?_
 refine tL 6 rfl rfl (fun _ h=>h.cell 0 rfl rfl) S ?_
 refine xy qh<|xM ?_
 obtain ⟨Jw,rfl⟩:=H.jg 2 rfl qf
 refine oI rfl rfl<|sq 1<|zjcc<|oF rfl<|oL rfl (H.cell 0 rfl rfl)<|zjn<|xg<|zcr<|sp (Bv ((d.xE:Int) == 1))<|sp (Bv ((d.xE:Int) == 1))<|zjn<|cE rfl (fun auN=>?_)<|fun auN=>?_
 ·refine zcr (sq 1<|oF rfl<|oL rfl (H.cell 0 rfl rfl) ?_)
  have H1:=H.yw 4 5 [1,2,3,0] [0,1,2,3,4] (by simp only [List.length_cons,List.length_append];omega)<|by simp only [List.length_cons,List.length_append];omega
  have N1:Fresh _ (aF::az::Ns):=N
  have K1:Kept (Ns) (Γ):=K0.behind 0 rfl
  refine sw<|zy #[pp bk 0,yI d.fA] rfl rfl call96 (work_ok s own ap cp Fp ar cr Fr ao co Fo sv wi bk _ (aa Jw 0) sv.length cC bZ aF cM wi.length bJ bM az d.fA H1 N1 K1 qg qg qg<|zf (zZ OL 0 rfl)<|zf (zZ OL 1 rfl)<|zf (zZ OL 2 rfl)<|olds_drop OL 3 rfl) ?_
  clear H H1 N1 K1
  rintro _ ax2 ⟨afc,an0,aeZ,aBl,anl,Lp,ajZ,rfl,N,H⟩
  obtain rfl:=H.xe (α:=zk) 2 rfl 4 rfl qj
  refine sq 1<|zjr<|b_r<|t_r<|ret1 (yI ((workM s own (⟨sv,wi⟩:zQ) d.fA.toNat).2)) rfl rfl ⟨_,rfl,?_⟩
  first | rw [doR_work qf ⟨by omega,by omega⟩]
  all_goals exact ⟨afc,an0,aeZ,((workM s own (⟨sv,wi⟩:zQ) d.fA.toNat).1.zu).length,anl,Lp,ajZ,rfl,N,H.qY 4 5 [0,1,2] (zR 0 5) (by simp only [List.length_cons,List.length_append];omega)<|by simp only [List.length_cons,List.length_append];omega⟩
 refine zcr<|sp (Bv ((d.xE:Int) == 5))<|sp (Bv ((d.xE:Int) == 5))<|zjn<|cE rfl (fun aw6=>?_)<|fun aw6=>?_
 ·refine zcr (sq 1<|oF rfl<|oL rfl (H.cell 0 rfl rfl)<|sw<|zX #[pp bk 0,yI d.fA] rfl rfl call97<|en func97 ntmps97 ?_)
  refine zcr<|sp (yI 0)<|zjc<|sq 2<|oF rfl<|oF rfl<|oL rfl (H.cell 1 rfl rfl)<|sq 1<|oI rfl rfl<|sq 1<|zjcc<|sq 2<|oF rfl<|oF rfl ?_
  obtain ⟨ac1,ada,aea,gA,gG,rT,akY,alL,aj6,mL,nf,CG,afi,agW,ajD,ael,adF,acX,ph,H⟩:=H.vV zg 2 rfl 3 rfl rfl d.fA.toNat qf
  refine oL rfl (H.xX 2 rfl (ph 3 _ rfl) qf)<|sp (Bv (!(((sv[d.fA.toNat]!).qC).qQ)))<|sp (Bv (!(((sv[d.fA.toNat]!).qC).qQ))) ?_
  cases SF:(!(((sv[d.fA.toNat]!).qC).qQ))
  ·replace SF:=xJ SF
   have y1:jf s own n d.fA.toNat (sv[d.fA.toNat]!).qC/\jf s own n d.fA.toNat (sv[d.fA.toNat]!).qH:=p1.srv d.fA.toNat qf
   have y6:=y1.1.got ql
   have y7:=y6.2.1
   obtain ⟨y8,y9⟩:=plusPre p0.sys y1.1.all y6.2.2.1
   have y10:=(y1.1.small p0).bags
   have y11:=y10.1
   have y12:=y1.1.sumLen
   have y0:=y1.1.rnd
   refine qV 21 rfl rfl<|sq 1<|qV 21 rfl rfl<|sq 1<|qV 21 rfl rfl<|oF rfl<|qV 21 rfl rfl<|oF rfl<|qV 21 rfl rfl<|oL rfl (H.xX 2 rfl (ph 4 _ rfl) qf)<|qV 21 rfl rfl<|sw<|oq (containsB_ok _ (((sv[d.fA.toNat]!).qC).vz) false (H.get 2 rfl).1) H fun aaC H=>sp (Bv<|anyTo (fun k=>false == (((sv[d.fA.toNat]!).qC).vz)[k]!) (((sv[d.fA.toNat]!).qC).vz).length)<|sp (Bv<|anyTo (fun k=>false == (((sv[d.fA.toNat]!).qC).vz)[k]!) (((sv[d.fA.toNat]!).qC).vz).length) ?_
   cases agU:(anyTo (fun k=>false == (((sv[d.fA.toNat]!).qC).vz)[k]!) (((sv[d.fA.toNat]!).qC).vz).length)
   ·refine qV 29 rfl rfl (sq 1<|qV 29 rfl rfl<|sq 1<|qV 29 rfl rfl ?_)
    obtain ⟨kj,jx,PZ,gS,gT,KC,ls,lH,Tq,gJ,gM,Kx,lO,lu,RI,jj,km,Rg,iL,iI,Mi,ga,gc,Jl,j5,ku,P0,gh,gm,I4,kq,j6,PW,iy,iA,LO,aik,H⟩:=H.part_ServerD Qo.refl 2 rfl 9 rfl rfl d.fA.toNat qf
    refine sw<|zi [yI (((sv[d.fA.toNat]!).qC).qN),Sv kj ((((sv[d.fA.toNat]!).qC).qG).length) jx,Sv gS ((((sv[d.fA.toNat]!).qC).qE).length) gT,Bv (((sv[d.fA.toNat]!).qC).qQ),Sv ls ((((sv[d.fA.toNat]!).qC).vz).length) lH,Sv gJ ((((sv[d.fA.toNat]!).qC).qJ).length) gM,Sv lO ((((sv[d.fA.toNat]!).qC).vJ).length) lu,Sv jj ((((sv[d.fA.toNat]!).qC).xP).length) km,yI (((sv[d.fA.toNat]!).qH).qN),Sv iL ((((sv[d.fA.toNat]!).qH).qG).length) iI,Sv ga ((((sv[d.fA.toNat]!).qH).qE).length) gc,Bv (((sv[d.fA.toNat]!).qH).qQ),Sv j5 ((((sv[d.fA.toNat]!).qH).vz).length) ku,Sv gh ((((sv[d.fA.toNat]!).qH).qJ).length) gm,Sv kq ((((sv[d.fA.toNat]!).qH).vJ).length) j6,Sv iy ((((sv[d.fA.toNat]!).qH).xP).length) iA] isAgg49 sizeOf49 rfl (fun r v hv=>H.xX 2 rfl (aik r v hv) qf)<|qV 29 rfl rfl<|sw<|zX #[.agg #[yI (((sv[d.fA.toNat]!).qC).qN),Sv kj ((((sv[d.fA.toNat]!).qC).qG).length) jx,Sv gS ((((sv[d.fA.toNat]!).qC).qE).length) gT,Bv (((sv[d.fA.toNat]!).qC).qQ),Sv ls ((((sv[d.fA.toNat]!).qC).vz).length) lH,Sv gJ ((((sv[d.fA.toNat]!).qC).qJ).length) gM,Sv lO ((((sv[d.fA.toNat]!).qC).vJ).length) lu,Sv jj ((((sv[d.fA.toNat]!).qC).xP).length) km,yI (((sv[d.fA.toNat]!).qH).qN),Sv iL ((((sv[d.fA.toNat]!).qH).qG).length) iI,Sv ga ((((sv[d.fA.toNat]!).qH).qE).length) gc,Bv (((sv[d.fA.toNat]!).qH).qQ),Sv j5 ((((sv[d.fA.toNat]!).qH).vz).length) ku,Sv gh ((((sv[d.fA.toNat]!).qH).qJ).length) gm,Sv kq ((((sv[d.fA.toNat]!).qH).vJ).length) j6,Sv iy ((((sv[d.fA.toNat]!).qH).xP).length) iA]] rfl rfl call133<|en func133 ntmps133 ?_
    refine zcr<|sw<|jq H [yI (((sv[d.fA.toNat]!).qC).qN),Sv kj ((((sv[d.fA.toNat]!).qC).qG).length) jx,Sv gS ((((sv[d.fA.toNat]!).qC).qE).length) gT,Bv (((sv[d.fA.toNat]!).qC).qQ),Sv ls ((((sv[d.fA.toNat]!).qC).vz).length) lH,Sv gJ ((((sv[d.fA.toNat]!).qC).qJ).length) gM,Sv lO ((((sv[d.fA.toNat]!).qC).vJ).length) lu,Sv jj ((((sv[d.fA.toNat]!).qC).xP).length) km,yI (((sv[d.fA.toNat]!).qH).qN),Sv iL ((((sv[d.fA.toNat]!).qH).qG).length) iI,Sv ga ((((sv[d.fA.toNat]!).qH).qE).length) gc,Bv (((sv[d.fA.toNat]!).qH).qQ),Sv j5 ((((sv[d.fA.toNat]!).qH).vz).length) ku,Sv gh ((((sv[d.fA.toNat]!).qH).qJ).length) gm,Sv kq ((((sv[d.fA.toNat]!).qH).vJ).length) j6,Sv iy ((((sv[d.fA.toNat]!).qH).xP).length) iA] fun Oo NE H=>(sp (Bv false)<|zjc<|oF rfl<|oF rfl<|oL rfl (H.cell 0 rfl rfl)<|oF rfl<|oF rfl<|oL rfl (H.cell 0 rfl rfl)<|sp (Bv ((((sv[d.fA.toNat]!).qH).qN:Int) == (((sv[d.fA.toNat]!).qC).qN)))<|sp (Bv ((((sv[d.fA.toNat]!).qH).qN:Int) == (((sv[d.fA.toNat]!).qC).qN))) ?_)
    cases Sa:((((sv[d.fA.toNat]!).qH).qN:Int) == (((sv[d.fA.toNat]!).qC).qN))
    ·replace Sa:=ne_of_beq_false Sa
     refine zM [11,12,13]<|sp (Bv false)<|sp (Bv false)<|zjr<|ret1 (Bv false) rfl rfl ⟨_,rfl,?_⟩
     replace H:=H.erases [0]
     dsimp only [zD,List.eraseIdx,List.set] at H
     refine qV 29 rfl rfl<|sp (Bv true)<|sp (Bv true)<|zjn<|cTr rfl<|zcr<|sp (yI 4)<|zjr<|t_r<|ret1 (yI 4) rfl rfl ⟨_,rfl,(sp (yI 4)<|zjr<|b_r<|t_r<|ret1 (yI 4) rfl rfl ⟨_,rfl,?_⟩)⟩
     first | (rcases El.1 ql with ⟨z1,z2⟩ | ⟨z1,z2⟩ <;> first | rw [doR_post4 z1 ⟨⟨by omega,by omega⟩,⟨by omega,by omega⟩,by omega⟩ z2] | rw [doR_back4 z1 ⟨⟨by omega,by omega⟩,⟨by omega,by omega⟩,by omega⟩ z2]) | rw [doR_adv4 qf ⟨by omega,by omega⟩ (by rintro ⟨h1,h2,h3,h4⟩;first | contradiction | exact notGot_of ql h2 | simp_all)]
     all_goals exact ⟨bZ,aF,cM,wi.length,bJ,bM,az,rfl,N,H.qY 4 23 [1,2,3] (zR 18 5) (by simp only [List.length_cons,List.length_append];omega)<|by simp only [List.length_cons,List.length_append];omega⟩
    replace Sa:=eq_of_beq Sa
    refine qV 10 rfl rfl<|oF rfl<|qV 10 rfl rfl<|oF rfl<|qV 10 rfl rfl<|oL rfl (H.cell 0 rfl rfl)<|sq 2<|zjr<|ret1 (Bv (((sv[d.fA.toNat]!).qH).qQ)) rfl rfl ⟨_,rfl,?_⟩
    replace H:=H.erases [0]
    dsimp only [zD,List.eraseIdx,List.set] at H
    refine qV 29 rfl rfl<|sq 2<|zjn<|vk _ rfl (fun Nd=>?_)<|fun Nd=>?_
    ·replace Nd:=xN Nd
     refine zcr<|sp (yI 4)<|zjr<|t_r<|ret1 (yI 4) rfl rfl ⟨_,rfl,(sp (yI 4)<|zjr<|b_r<|t_r<|ret1 (yI 4) rfl rfl ⟨_,rfl,?_⟩)⟩
     first | (rcases El.1 ql with ⟨z1,z2⟩ | ⟨z1,z2⟩ <;> first | rw [doR_post4 z1 ⟨⟨by omega,by omega⟩,⟨by omega,by omega⟩,by omega⟩ z2] | rw [doR_back4 z1 ⟨⟨by omega,by omega⟩,⟨by omega,by omega⟩,by omega⟩ z2]) | rw [doR_adv4 qf ⟨by omega,by omega⟩ (by rintro ⟨h1,h2,h3,h4⟩;first | contradiction | exact notGot_of ql h2 | simp_all)]
     all_goals exact ⟨bZ,aF,cM,wi.length,bJ,bM,az,rfl,N,H.qY 4 23 [1,2,3] (zR 18 5) (by simp only [List.length_cons,List.length_append];omega)<|by simp only [List.length_cons,List.length_append];omega⟩
    replace Nd:=xJ Nd
    refine xk<|t_n<|xH<|c_lateC 2 (fun ρ w203=>∃ (xI:Env) (aaD:yOA) (abv:Nat) (Mv:List Value) (Wz:yLN),ρ=upd (upd (upd (upd xI 0<|pp bk 0) 5<|pp Jw<|0+(d.fA:Int).toNat * 16) 48<|Sv aaD (((((sv[d.fA.toNat]!).qC).qG).length)+1) abv) 53 (Sv mL ((((sv[d.fA.toNat]!).qC).qJ).length) nf)/\(bZ[d.fA.toNat * 16+5]? =some (Sv mL ((((sv[d.fA.toNat]!).qC).qJ).length) nf))/\Fresh W0.heap.size (aF::az::Ns)/\St W0 w203 ((rr aaD (((((sv[d.fA.toNat]!).qC).qG).length)+1) abv 24 1<|Mv++[Sv gA ((((sv[d.fA.toNat]!).qC).qE).length) gG])::(.box b1 [yI d.xE,yI d.fA,yI d.fB] 44)::(.box bk [Sv (aa Jw 0) sv.length cC,Sv cM wi.length bJ,yI s.qP,Sv ap s.qA.length cp,Sv ar s.qB.length cr,Sv ao own.length co] 74)::(rr (aa Jw 0) sv.length cC 49 16 bZ)::(rr cM wi.length bJ 77 4 bM)::ps) ((qL true (Wz++rT) (Mv++[Sv gA ((((sv[d.fA.toNat]!).qC).qE).length) gG]) ((((sv[d.fA.toNat]!).qC).qG)++[((sv[d.fA.toNat]!).qC).qE]))::(sF true rT gA gG (((sv[d.fA.toNat]!).qC).qE))::(sF true CG mL nf (((sv[d.fA.toNat]!).qC).qJ))::(sF false Fp ap cp s.qA)::(sF false Fr ar cr s.qB)::(sF false Fo ao co own)::(qL true aF bZ sv)::(qL true az bM wi)::Γ)) rfl H [0,1,2,3] [0,1,2,3,4,5,6,7,8,9,10,11,12,13,14,15,16,17,18,19,20,21,22] (fun H=>?_) ?_
    ·dsimp only [jR,yE]
     have S:=H.zK (zR 0 4)<|zR 0 23
     refine rtl 0 S ?_
     refine rtl 1 S ?_
     refine tF 2 rfl rfl S ?_
     refine tF 3 rfl rfl S ?_
     refine rt 4 _ (jL (off:=0+(d.fA:Int).toNat * 16+0+1) isAgg29 rfl<|fun _ h=>(h.xX 2 rfl (ph 1 _ rfl) qf)) S ?_
     refine rtl 6 S ?_
     refine rtl 7 S ?_
     refine tF 8 rfl rfl S ?_
     refine tF 9 rfl rfl S ?_
     refine rt 10 _ (jL (off:=0+(d.fA:Int).toNat * 16+0+2) isAgg24 rfl<|fun _ h=>(h.xX 2 rfl (ph 2 _ rfl) qf)) S ?_
     refine rtl 13 S ?_
     refine rtl 14 S ?_
     refine tF 15 rfl rfl S ?_
     refine tF 16 rfl rfl S ?_
     refine rt 17 _ (jL (off:=0+(d.fA:Int).toNat * 16+0+5) isAgg29 rfl<|fun _ h=>(h.xX 2 rfl (ph 5 _ rfl) qf)) S ?_
     refine jw [5,11] qh qm<|jT rfl ?_<|jT rfl ?_ jy
     ·have aeU:=H.base.size
      have ajt:=jB (H.ltN (L:=[aF,az]) [21,22])<|H.ltK<|K0.behind 23 rfl
      refine oc (Q3 _ (((sv[d.fA.toNat]!).qC).qG) (H.get 12 rfl).1 qg) ?_
      rintro _ aKv ⟨aCu,aql,aBg,ajh,akS,rfl,M,K⟩ _
      replace N:=N.merge aeU ajt M
      replace H:=H.merge K M
      dsimp only [List.cons_append,List.nil_append] at H
      obtain rfl:=H.xe (α:=yLI) 0 rfl 0 rfl qj
      refine ⟨H.pick (zR 1 4)<|zR 1 23,(ro 11 rfl<|zx H underlying29 ti24 [Sv gA ((((sv[d.fA.toNat]!).qC).qE).length) gG] fun D1 aGd H=>⟨H.pick (zR 2 4)<|zR 1 23,(ro 12 rfl<|zJ H 1 rfl 0 rfl underlying29 ti24 rfl qj rfl rfl rfl qw qp qf fun at4 axI agf H=>?_)⟩)⟩
      try dsimp only [List.set] at H
      replace H:=H.QR 0 rfl 14 rfl
      refine ⟨H.pick (zR 2 4)<|zR 2 23,(xy qh ((meet ⟨_,at4,axI,ajh,akS,uE4,(ph 5 _ rfl),(N.qY 3 [1,2]<|by simp only [List.length_cons,List.length_append];omega),H.qY 6 25 (zR 1 5) (0::15::17::zR 20 5) (by simp only [List.length_cons,List.length_append];omega)<|by simp only [List.length_cons,List.length_append];omega⟩)))⟩
     refine zx H underlying29 ti24 [Sv gA ((((sv[d.fA.toNat]!).qC).qE).length) gG] fun aIL akh H=>⟨H.pick (zR 1 4)<|zR 0 23,(ro 5 rfl ?_)⟩
     have aig:=H.base.size
     have alQ:=jB (H.ltN (L:=[aF,az]) [21,22])<|H.ltK<|K0.behind 23 rfl
     refine oc (Q3 _ (((sv[d.fA.toNat]!).qC).qG) (H.get 12 rfl).1 qg) ?_
     rintro _ aGl ⟨azR,az9,aBs,ajN,aiR,rfl,M,K⟩ _
     replace N:=N.merge aig alQ M
     replace H:=H.merge K M
     dsimp only [List.cons_append,List.nil_append] at H
     obtain rfl:=H.xe (α:=yLI) 0 rfl 0 rfl qj
     refine ⟨H.pick (zR 2 4)<|zR 1 23,(ro 12 rfl<|zJ H 0 rfl 1 rfl underlying29 ti24 rfl qj rfl rfl rfl qw qp qf fun Iy Ko aFG H=>?_)⟩
     try dsimp only [List.set] at H
     replace H:=H.QR 0 rfl 14 rfl
     refine ⟨H.pick (zR 2 4)<|zR 2 23,(xy qh ((meet ⟨_,Iy,Ko,ajN,aiR,uE4,(ph 5 _ rfl),(N.qY 3 [1,2]<|by simp only [List.length_cons,List.length_append];omega),H.qY 6 25 [0,2,3,4,5] (0::15::17::zR 20 5) (by simp only [List.length_cons,List.length_append];omega)<|by simp only [List.length_cons,List.length_append];omega⟩)))⟩
    clear H N
    rintro ρ aH5 ⟨xI,aaD,abv,Mv,Wz,rfl,aCA,N,H⟩
    obtain ⟨aDC,UM,aug⟩:=H.rowIsR (α:=yLI) 0 rfl 0 rfl qj
    have aqA:=H.base.size
    have ahY:=jB (H.ltN (L:=[aF,az]) [6,7])<|H.ltK<|K0.behind 8 rfl
    refine sw<|oc (args_eq (by rw [← UM])<|added_ok _ ((((sv[d.fA.toNat]!).qC).qG)++[((sv[d.fA.toNat]!).qC).qE]) (((sv[d.fA.toNat]!).qC).qJ) (UM▸aug) (H.get 2 rfl).1 qg qg) ?_
    rintro _ alm ⟨azW,aBr,O3,az2,aAZ,rfl,M,K⟩ _
    replace N:=N.merge aqA ahY M
    replace H:=H.merge K M
    dsimp only [List.cons_append,List.nil_append] at H
    obtain rfl:=H.xe (α:=yLI) 0 rfl 0 rfl qj
    refine sq 1<|zjcc<|sq 1 ?_
    obtain ⟨pg,aie,as9⟩:=H.rowIsR (α:=yLI) 0 rfl 0 rfl qj
    refine sw<|oq (areBags_ok _ (Qr ((((sv[d.fA.toNat]!).qC).qG)++[((sv[d.fA.toNat]!).qC).qE]) (((sv[d.fA.toNat]!).qC).qJ)) as9) H fun aJF H=>sq 1<|zjn<|cQ rfl (fun auJ=>?_)<|fun auJ=>?_
    ·refine zcr (sp (yI 3)<|zjr<|t_r<|ret1 (yI 3) rfl rfl ⟨_,rfl,?_⟩)
     replace H:=H.erases [1,0]
     dsimp only [zD,List.eraseIdx,List.set] at H
     refine sp (yI 3)<|zjr<|b_r<|t_r<|ret1 (yI 3) rfl rfl ⟨_,rfl,?_⟩
     first | (rcases k8 with z1 | z1 <;> first | rw [doR_post3 z1 ⟨⟨by omega,by omega⟩,⟨by omega,by omega⟩,by omega⟩ ((El.2 ql).1 z1) qf] | rw [doR_back3 z1 ⟨⟨by omega,by omega⟩,⟨by omega,by omega⟩,by omega⟩ ((El.2 ql).2 z1) qf]) | rw [doR_come3 qf qf (fresh_and ql ql ql) ql] | rw [doR_adv3 qf ⟨by omega,by omega⟩ ⟨by assumption,allGot_of ql,by assumption,by assumption⟩ ql]
     all_goals exact ⟨bZ,aF,cM,wi.length,bJ,bM,az,rfl,(N.qY 3 [1,2]<|by simp only [List.length_cons,List.length_append];omega),H.qY 4 9 [1,2,3] (zR 4 5) (by simp only [List.length_cons,List.length_append];omega)<|by simp only [List.length_cons,List.length_append];omega⟩
    refine xk<|t_n<|zcr<|sq 2<|oF rfl<|sw<|zi (yS s ap cp ar cr) isAgg27 sizeOf27 rfl (qK (H.cells 3 rfl) 2 3)<|sw<|oq (around_ok _ s (H.get 4 rfl).1 (H.get 5 rfl).1) H fun auZ H=>sq 1<|zjn<|xH ?_
    have H0:=H
    obtain ⟨OO,VR,az0,H⟩:=H.vK (α:=yLI) 0 rfl 0 rfl qj
    replace N:Fresh W0.heap.size (OO::aF::az::Ns):=Fresh.ice N H0 0 VR.1 VR.2<|fun F hF b hb=>(List.mem_append.1<|show F∈[aF,az]++Ns from hF).elim (fun h=>(H0.vg (L:=[aF,az]) [7,8]) F h b hb) fun h=>H0.jH (K0.behind 9 rfl) F h b hb
    clear H0
    try dsimp only [List.set] at H
    have aBK:=H.isCap 0 rfl
    obtain ⟨abA,aci,rfl⟩:=H.addr 0 rfl qf
    obtain ⟨acF,aas,aoO,Lm,N,H⟩:=H.splitLast 0 rfl N s.qA.length qf
    refine zY 3 rfl H [0,1,2,3,4,5] [0,1,2,3,4,5,6,7,8,9,10,11,12] fun H=>?_
    dsimp only [jR,yE]
    have S:=H.zK (zR 0 6)<|zR 0 13
    refine rtl 0 S ?_
    refine rtl 1 S ?_
    refine rtl 2 S ?_
    refine tF 3 rfl rfl S ?_
    refine tF 4 rfl rfl S ?_
    obtain ⟨adj,adY,adp,X1,Wa,TR,aqG,aoS,agv,YN,YJ,UI,sQ,s8,aml,ad4,adw,adK,OT,H⟩:=H.vV zg 4 rfl 11 rfl rfl d.fA.toNat qf
    have S:=H.zK (zR 0 6)<|zR 6 13
    refine rt 5 _ (jL (off:=0+(d.fA:Int).toNat * 16+0+0) isAgg2 rfl<|fun _ h=>(h.xX 4 rfl (OT 0 _ rfl) qf)) S ?_
    refine rt 6 _ (y_add (((sv[d.fA.toNat]!).qC).qN) 1 rfl rfl qf) S ?_
    refine rtl 7 S ?_
    refine rtl 8 S ?_
    refine rtl 10 S ?_
    refine rtl 11 S ?_
    refine tI 12 rfl rfl rfl S ?_
    refine tL 13 rfl rfl (fun _ h=>h.vW 2 rfl 0 rfl) S ?_
    refine rtl 14 S ?_
    refine rtl 15 S ?_
    refine tF 16 rfl rfl S ?_
    refine tF 17 rfl rfl S ?_
    refine rt 18 _ (jL (off:=0+(d.fA:Int).toNat * 16+0+6) isAgg45 rfl<|fun _ h=>(h.xX 4 rfl (OT 6 _ rfl) qf)) S ?_
    refine ro 9 rfl<|o_headV s.qA.length (List.length_take_of_le (l:=Qr ((((sv[d.fA.toNat]!).qC).qG)++[((sv[d.fA.toNat]!).qC).qE]) (((sv[d.fA.toNat]!).qC).qJ)) qf) underlying29 ti24 rfl rfl qf qf<|⟨H.pick (zR 0 6)<|zR 6 13,(ro 19 rfl ?_)⟩
    refine jb [yI ((((sv[d.fA.toNat]!).qC).qN)+1),Sv (aa abA aci) (((Qr ((((sv[d.fA.toNat]!).qC).qG)++[((sv[d.fA.toNat]!).qC).qE]) (((sv[d.fA.toNat]!).qC).qJ)).take s.qA.length).length) O3,Sv acF (((Qr ((((sv[d.fA.toNat]!).qC).qG)++[((sv[d.fA.toNat]!).qC).qE]) (((sv[d.fA.toNat]!).qC).qJ))[s.qA.length]!).length) aas,Bv false,yN,yN,yN,Sv sQ ((((sv[d.fA.toNat]!).qC).vJ).length) s8] [(0,yI ((((sv[d.fA.toNat]!).qC).qN)+1)),(1,Sv (aa abA aci) (((Qr ((((sv[d.fA.toNat]!).qC).qG)++[((sv[d.fA.toNat]!).qC).qE]) (((sv[d.fA.toNat]!).qC).qJ)).take s.qA.length).length) O3),(2,Sv acF (((Qr ((((sv[d.fA.toNat]!).qC).qG)++[((sv[d.fA.toNat]!).qC).qE]) (((sv[d.fA.toNat]!).qC).qJ))[s.qA.length]!).length) aas),(7,Sv sQ ((((sv[d.fA.toNat]!).qC).vJ).length) s8)]<|⟨H.pick (zR 0 6)<|zR 6 13,(xy qh<|xM<|sq 1<|oF rfl ?_)⟩
    replace H:=H.addNil (α:=Bool)
    replace H:=H.addNil (α:=yLI)
    replace H:=H.addNil (α:=yLL)
    replace N:Fresh W0.heap.size (aF::aoO::Lm::az::Ns):=(N.qY 4 [2,0,1,3]<|by simp only [List.length_cons,List.length_append];omega)
    obtain ⟨aI9,aDJ,axK,ax1,aAN,N,H⟩:=H.takePart part_Server_DeskNow 20 rfl N d.fA.toNat qf rfl<|OT 6 _ rfl
    replace H:=H.mk_DeskD ((((sv[d.fA.toNat]!).qC).qN)+1) 11 rfl 12 rfl false 4 rfl 3 rfl 2 rfl 0 rfl
    replace N:Fresh W0.heap.size ((aoO++Lm++[]++[]++[]++axK)::ax1::az::Ns):=(N.emp.emp.emp.qY 8 [5,6,0,1,2,3,4,7]<|by simp only [List.length_cons,List.length_append];omega).join.join.join.join.join
    obtain ⟨azm,GJ⟩:∃ z,z=((sv.set d.fA.toNat { sv[d.fA.toNat]! with qC:={ sv[d.fA.toNat]!.qC with vJ:=[]}}).set d.fA.toNat { ((sv.set d.fA.toNat { sv[d.fA.toNat]! with qC:={ sv[d.fA.toNat]!.qC with vJ:=[]}})[d.fA.toNat]!) with qC:=(⟨(((sv[d.fA.toNat]!).qC).qN)+1,((Qr ((((sv[d.fA.toNat]!).qC).qG)++[((sv[d.fA.toNat]!).qC).qE]) (((sv[d.fA.toNat]!).qC).qJ)).take s.qA.length),(Qr ((((sv[d.fA.toNat]!).qC).qG)++[((sv[d.fA.toNat]!).qC).qE]) (((sv[d.fA.toNat]!).qC).qJ))[s.qA.length]!,false,([]:List Bool),([]:yLL),([]:List yLL),((sv[d.fA.toNat]!).qC).vJ⟩:zn)}):=⟨_,rfl⟩
    refine sw<|o_putHole (v:=.agg #[yI ((((sv[d.fA.toNat]!).qC).qN)+1),Sv (aa abA aci) (((Qr ((((sv[d.fA.toNat]!).qC).qG)++[((sv[d.fA.toNat]!).qC).qE]) (((sv[d.fA.toNat]!).qC).qJ)).take s.qA.length).length) O3,Sv acF (((Qr ((((sv[d.fA.toNat]!).qC).qG)++[((sv[d.fA.toNat]!).qC).qE]) (((sv[d.fA.toNat]!).qC).qJ))[s.qA.length]!).length) aas,Bv false,yN,yN,yN,Sv sQ ((((sv[d.fA.toNat]!).qC).vJ).length) s8]) zg H 4 rfl 2 rfl 0 rfl rfl sizeOf47 rfl rfl rfl d.fA.toNat qf qf GJ ⟨by show _<=_ * 16+_;omega,by show _ * 16+_ < _+8;omega⟩ fun ahq al6 afw aoW H=>?_
    try dsimp only [List.set] at H
    replace N:Fresh W0.heap.size (afw::az::Ns):=(N.qY 3 [1,0,2]<|by simp only [List.length_cons,List.length_append];omega).repl aoW
    refine zjc<|sp (yI 0)<|zjr<|ret1 (yI 0) rfl rfl ⟨_,rfl,?_⟩
    replace H:=H.erases [1,0]
    dsimp only [zD,List.eraseIdx,List.set] at H
    refine sp (yI 0)<|zjr<|b_r<|t_r<|ret1 (yI 0) rfl rfl ⟨_,rfl,?_⟩
    first | rw [doR_save qf ⟨by omega,by omega⟩ GJ] | rw [doR_crash qf ⟨by omega,by omega⟩ GJ] | rw [doR_adv0 qf ⟨by omega,by omega⟩ ⟨by assumption,allGot_of ql,by assumption,by assumption⟩ ql<|adv_sets qf rfl GJ] | (exfalso;omega)
    all_goals exact ⟨al6,afw,cM,wi.length,bJ,bM,az,rfl,N,H.qY 4 26 [1,2,3] [21,22,23,0,25] (by simp only [List.length_cons,List.length_append];omega)<|by simp only [List.length_cons,List.length_append];omega⟩
   refine zM (zR 30 5)<|sp (Bv true)<|zjn<|cTr rfl<|zcr<|sp (yI 4)<|zjr<|t_r<|ret1 (yI 4) rfl rfl ⟨_,rfl,(sp (yI 4)<|zjr<|b_r<|t_r<|ret1 (yI 4) rfl rfl ⟨_,rfl,?_⟩)⟩
   first | (rcases El.1 ql with ⟨z1,z2⟩ | ⟨z1,z2⟩ <;> first | rw [doR_post4 z1 ⟨⟨by omega,by omega⟩,⟨by omega,by omega⟩,by omega⟩ z2] | rw [doR_back4 z1 ⟨⟨by omega,by omega⟩,⟨by omega,by omega⟩,by omega⟩ z2]) | rw [doR_adv4 qf ⟨by omega,by omega⟩ (by rintro ⟨h1,h2,h3,h4⟩;first | contradiction | exact notGot_of ql h2 | simp_all)]
   all_goals exact ⟨bZ,aF,cM,wi.length,bJ,bM,az,rfl,N,H.qY 4 11 [1,2,3] (zR 6 5) (by simp only [List.length_cons,List.length_append];omega)<|by simp only [List.length_cons,List.length_append];omega⟩
  replace SF:=xN SF
  refine zM (zR 22 6)<|sp (Bv true)<|sp (Bv true)<|zM (zR 30 5)<|sp (Bv true)<|zjn<|cTr rfl<|zcr<|sp (yI 4)<|zjr<|t_r<|ret1 (yI 4) rfl rfl ⟨_,rfl,(sp (yI 4)<|zjr<|b_r<|t_r<|ret1 (yI 4) rfl rfl ⟨_,rfl,?_⟩)⟩
  first | (rcases El.1 ql with ⟨z1,z2⟩ | ⟨z1,z2⟩ <;> first | rw [doR_post4 z1 ⟨⟨by omega,by omega⟩,⟨by omega,by omega⟩,by omega⟩ z2] | rw [doR_back4 z1 ⟨⟨by omega,by omega⟩,⟨by omega,by omega⟩,by omega⟩ z2]) | rw [doR_adv4 qf ⟨by omega,by omega⟩ (by rintro ⟨h1,h2,h3,h4⟩;first | contradiction | exact notGot_of ql h2 | simp_all)]
  all_goals exact ⟨bZ,aF,cM,wi.length,bJ,bM,az,rfl,N,H.qY 4 11 [1,2,3] (zR 6 5) (by simp only [List.length_cons,List.length_append];omega)<|by simp only [List.length_cons,List.length_append];omega⟩
 refine zcr<|sp (Bv ((d.xE:Int) == 2))<|sp (Bv ((d.xE:Int) == 2))<|zjn<|cE rfl (fun ayu=>?_)<|fun ayu=>?_
 ·refine xZ (sq 3<|oF rfl ?_)
  obtain ⟨IN,Jx,ac8,Dw,Cl,UG,Px,MA,agM,BJ,Bo,Up,OR,O8,aeS,JG,JA,adt,alk,H⟩:=H.vV zg 2 rfl 3 rfl rfl d.fA.toNat qf
  refine sw<|zi [yI (((sv[d.fA.toNat]!).qC).qN),Sv IN ((((sv[d.fA.toNat]!).qC).qG).length) Jx,Sv Dw ((((sv[d.fA.toNat]!).qC).qE).length) Cl,Bv (((sv[d.fA.toNat]!).qC).qQ),Sv Px ((((sv[d.fA.toNat]!).qC).vz).length) MA,Sv BJ ((((sv[d.fA.toNat]!).qC).qJ).length) Bo,Sv OR ((((sv[d.fA.toNat]!).qC).vJ).length) O8,Sv JG ((((sv[d.fA.toNat]!).qC).xP).length) JA] isAgg47 sizeOf47 rfl (fun r v hv=>H.xX 2 rfl (alk r v hv) qf) ?_
  have y1:jf s own n d.fA.toNat (sv[d.fA.toNat]!).qC/\jf s own n d.fA.toNat (sv[d.fA.toNat]!).qH:=p1.srv d.fA.toNat qf
  have y2:=y1.1.small p0
  have y3:=y1.2.small p0
  have alO:=H.base.size
  have ahi:=jB (H.ltN (L:=[aF,az]) [9,10])<|H.ltK<|K0.behind 11 rfl
  refine sw<|oc (X0 _ ((sv[d.fA.toNat]!).qC) (H.get 0 rfl).1 (H.get 1 rfl).1 (H.get 2 rfl).1 (H.get 3 rfl).1 (H.get 4 rfl).1 (H.get 5 rfl).1 qg) ?_
  rintro _ aHz ⟨Jt,JB,JD,BP,Cj,B4,Me,KI,MB,Bn,C9,CK,Ou,O2,O4,JN,Kd,JY,rfl,M,K⟩ _
  replace N:=N.merge alO ahi M
  replace H:=H.merge K M
  dsimp only [List.cons_append,List.nil_append] at H
  refine sq 1<|oF rfl ?_
  replace H:=H.mk_DeskD (((sv[d.fA.toNat]!).qC).qN) 0 rfl 1 rfl (((sv[d.fA.toNat]!).qC).qQ) 2 rfl 3 rfl 4 rfl 5 rfl
  replace N:Fresh W0.heap.size ((JD++B4++MB++CK++O4++JY)::aF::az::Ns):=N.join.join.join.join.join
  obtain ⟨aDi,H5⟩:∃ z,z=(sv.set d.fA.toNat { sv[d.fA.toNat]! with qH:=(⟨((sv[d.fA.toNat]!).qC).qN,((sv[d.fA.toNat]!).qC).qG,((sv[d.fA.toNat]!).qC).qE,((sv[d.fA.toNat]!).qC).qQ,((sv[d.fA.toNat]!).qC).vz,((sv[d.fA.toNat]!).qC).qJ,((sv[d.fA.toNat]!).qC).vJ,((sv[d.fA.toNat]!).qC).xP⟩:zn)}):=⟨_,rfl⟩
  refine sw<|Xu (v:=.agg #[yI (((sv[d.fA.toNat]!).qC).qN),Sv Jt ((((sv[d.fA.toNat]!).qC).qG).length) JB,Sv BP ((((sv[d.fA.toNat]!).qC).qE).length) Cj,Bv (((sv[d.fA.toNat]!).qC).qQ),Sv Me ((((sv[d.fA.toNat]!).qC).vz).length) KI,Sv Bn ((((sv[d.fA.toNat]!).qC).qJ).length) C9,Sv Ou ((((sv[d.fA.toNat]!).qC).vJ).length) O2,Sv JN ((((sv[d.fA.toNat]!).qC).xP).length) Kd]) jI H 2 rfl 16 rfl 0 rfl rfl sizeOf47 rfl rfl rfl d.fA.toNat qf qf H5 fun ak3 aiT aps amO H=>?_
  try dsimp only [List.set] at H
  replace N:Fresh W0.heap.size (aps::az::Ns):=(N.qY 3 [1,0,2]<|by simp only [List.length_cons,List.length_append];omega).repl amO
  refine xW<|b_n<|t_n<|zcr<|sp (yI 0)<|zjr<|ret1 (yI 0) rfl rfl ⟨_,rfl,?_⟩
  first | rw [doR_save qf ⟨by omega,by omega⟩ H5] | rw [doR_crash qf ⟨by omega,by omega⟩ H5] | rw [doR_adv0 qf ⟨by omega,by omega⟩ ⟨by assumption,allGot_of ql,by assumption,by assumption⟩ ql<|adv_sets qf rfl H5] | (exfalso;omega)
  all_goals exact ⟨aiT,aps,cM,wi.length,bJ,bM,az,rfl,N,H.qY 4 19 [1,2,3] [14,15,16,0,18] (by simp only [List.length_cons,List.length_append];omega)<|by simp only [List.length_cons,List.length_append];omega⟩
 refine zcr<|sp (Bv ((d.xE:Int) == 9))<|sp (Bv ((d.xE:Int) == 9))<|zjn<|cE rfl (fun as4=>?_)<|fun as4=>?_
 ·refine xZ (sq 3<|oF rfl ?_)
  obtain ⟨JF,Ji,aeq,C1,Dy,T5,Ng,Lt,af2,CR,Cn,Wx,OB,Pu,aiM,J6,J4,aes,ajl,H⟩:=H.vV jI 2 rfl 3 rfl rfl d.fA.toNat qf
  refine sw<|zi [yI (((sv[d.fA.toNat]!).qH).qN),Sv JF ((((sv[d.fA.toNat]!).qH).qG).length) Ji,Sv C1 ((((sv[d.fA.toNat]!).qH).qE).length) Dy,Bv (((sv[d.fA.toNat]!).qH).qQ),Sv Ng ((((sv[d.fA.toNat]!).qH).vz).length) Lt,Sv CR ((((sv[d.fA.toNat]!).qH).qJ).length) Cn,Sv OB ((((sv[d.fA.toNat]!).qH).vJ).length) Pu,Sv J6 ((((sv[d.fA.toNat]!).qH).xP).length) J4] isAgg47 sizeOf47 rfl (fun r v hv=>H.xX 2 rfl (ajl r v hv) qf) ?_
  have y1:jf s own n d.fA.toNat (sv[d.fA.toNat]!).qC/\jf s own n d.fA.toNat (sv[d.fA.toNat]!).qH:=p1.srv d.fA.toNat qf
  have y2:=y1.1.small p0
  have y3:=y1.2.small p0
  have ajo:=H.base.size
  have aqo:=jB (H.ltN (L:=[aF,az]) [9,10])<|H.ltK<|K0.behind 11 rfl
  refine sw<|oc (X0 _ ((sv[d.fA.toNat]!).qH) (H.get 0 rfl).1 (H.get 1 rfl).1 (H.get 2 rfl).1 (H.get 3 rfl).1 (H.get 4 rfl).1 (H.get 5 rfl).1 qg) ?_
  rintro _ aJ1 ⟨I2,Jy,Ju,BH,Bs,Bx,Mc,KK,Oy,Cv,CL,B5,PQ,Nb,PK,IT,J1,Id,rfl,M,K⟩ _
  replace N:=N.merge ajo aqo M
  replace H:=H.merge K M
  dsimp only [List.cons_append,List.nil_append] at H
  refine sq 1<|oF rfl ?_
  replace H:=H.mk_DeskD (((sv[d.fA.toNat]!).qH).qN) 0 rfl 1 rfl (((sv[d.fA.toNat]!).qH).qQ) 2 rfl 3 rfl 4 rfl 5 rfl
  replace N:Fresh W0.heap.size ((Ju++Bx++Oy++B5++PK++Id)::aF::az::Ns):=N.join.join.join.join.join
  obtain ⟨aBO,GR⟩:∃ z,z=(sv.set d.fA.toNat { sv[d.fA.toNat]! with qC:=(⟨((sv[d.fA.toNat]!).qH).qN,((sv[d.fA.toNat]!).qH).qG,((sv[d.fA.toNat]!).qH).qE,((sv[d.fA.toNat]!).qH).qQ,((sv[d.fA.toNat]!).qH).vz,((sv[d.fA.toNat]!).qH).qJ,((sv[d.fA.toNat]!).qH).vJ,((sv[d.fA.toNat]!).qH).xP⟩:zn)}):=⟨_,rfl⟩
  refine sw<|Xu (v:=.agg #[yI (((sv[d.fA.toNat]!).qH).qN),Sv I2 ((((sv[d.fA.toNat]!).qH).qG).length) Jy,Sv BH ((((sv[d.fA.toNat]!).qH).qE).length) Bs,Bv (((sv[d.fA.toNat]!).qH).qQ),Sv Mc ((((sv[d.fA.toNat]!).qH).vz).length) KK,Sv Cv ((((sv[d.fA.toNat]!).qH).qJ).length) CL,Sv PQ ((((sv[d.fA.toNat]!).qH).vJ).length) Nb,Sv IT ((((sv[d.fA.toNat]!).qH).xP).length) J1]) zg H 2 rfl 16 rfl 0 rfl rfl sizeOf47 rfl rfl rfl d.fA.toNat qf qf GR fun aDD ap7 afF anX H=>?_
  try dsimp only [List.set] at H
  replace N:Fresh W0.heap.size (afF::az::Ns):=(N.qY 3 [1,0,2]<|by simp only [List.length_cons,List.length_append];omega).repl anX
  refine xW<|b_n<|t_n<|zcr<|sp (yI 0)<|zjr<|ret1 (yI 0) rfl rfl ⟨_,rfl,?_⟩
  first | rw [doR_save qf ⟨by omega,by omega⟩ GR] | rw [doR_crash qf ⟨by omega,by omega⟩ GR] | rw [doR_adv0 qf ⟨by omega,by omega⟩ ⟨by assumption,allGot_of ql,by assumption,by assumption⟩ ql<|adv_sets qf rfl GR] | (exfalso;omega)
  all_goals exact ⟨ap7,afF,cM,wi.length,bJ,bM,az,rfl,N,H.qY 4 19 [1,2,3] [14,15,16,0,18] (by simp only [List.length_cons,List.length_append];omega)<|by simp only [List.length_cons,List.length_append];omega⟩
 refine xk<|b_n<|t_n<|zcr<|sp (yI 0)<|zjr<|ret1 (yI 0) rfl rfl ⟨_,rfl,?_⟩
 first | rw [doR_stale7 qf qf<|stale_or<|by first | exact .inl ql | exact .inr (.inl ql) | exact .inr<|.inr ql] | (exfalso;omega)
 all_goals exact ⟨bZ,aF,cM,wi.length,bJ,bM,az,rfl,N,H.qY 4 5 [1,2,3] (zR 0 5) (by simp only [List.length_cons,List.length_append];omega)<|by simp only [List.length_cons,List.length_append];omega⟩
theorem maxI_ok (w:World) (l:yLI) {al:yOA} {cl:Nat} {Fl:yLN} (hl:zP w Fl al cl l) (p0:1<=l.length):Calls Tryz.prog 114 #[Sv al l.length cl] w (Ret (fun v w' =>v=yI (maxL l)) w):=by
 refine en func114 ntmps114 ?_
 have H:=(St.start w).arg hl
 have rS:=qO hl
 clear hl
 have N:=Fresh.nil w.heap.size
 refine zcr<|sp (yI 0)<|zjcc<|sq 1<|oN rfl<|sp (Bv<|decide ((l.length:Int) < 1))<|zjn<|cD rfl (fun h1=>?_)<|fun h1=>?_
 ·exfalso;omega
 refine xk<|t_n<|zcr<|sq 1 ?_
 obtain ⟨b2,o3,rfl⟩:=H.addr 0 rfl qf
 refine oI rfl rfl<|oL rfl (H.jd 0 rfl 0 qf)<|sq 1<|zjcc<|sp (yI 1)<|zjn<|xg<|zU ((fun Z0=>fun m' ρ w5=>∃ (xI:Env) (m:Int) (i:Nat),ρ=upd (upd (upd xI 0<|Sv (aa b2 o3) l.length cl) 3<|yI m) 4 (yI i)/\m=maxTo l i/\((i:Int)<=l.length)/\(1<=i)/\m' =(l.length - (i:Int)).toNat/\Fresh w.heap.size []/\St w w5 [] [Z0]) _) ((l.length - (1:Int)).toNat) ⟨_,l[0]!,1,uE3,(by exact (maxTo_one l).symm),qf,qf,rfl,N,H⟩ ?_
 clear H N
 rintro m' ρ w6 ⟨xI,m,i,rfl,rfl,i0,i2,rfl,N,H⟩
 refine zcc<|sp (yI i)<|sq 1<|oN rfl<|sq 1<|zjn<|cD rfl (fun h7=>?_)<|fun h7=>?_
 ·refine xk (t_n<|xH<|xg<|xZ<|sq 2<|sp (yI i)<|oI rfl rfl<|oL rfl (H.jd 0 rfl i qf)<|sw<|o_max (maxTo l i) (l[i]!) rfl rfl<|sq 1<|xW<|b_n<|t_n<|xZ<|sp (yI i)<|sw<|zV i 1 rfl rfl qf<|sq 1<|xW<|xq (m' :=(l.length - ((i+1):Int)).toNat) qf ⟨_,_,i+1,uE3,?_,?_,?_,rfl,N,H⟩)
  ·rfl
  ·omega
  ·omega
 refine zx4<|zcr<|sq 2<|zjr<|rH1 (yI<|maxTo l i) H ?_
 obtain rfl:i=l.length:=by omega
 rfl
theorem validOwners_ok (w:World) (s:qM) (own:yLI) (xu:zP w zH xf qZ s.qA) (xY:zP w vX xG xC s.qB) (gj:zP w Bq q8 rD own) (p0:QC s) (p1:Still s) (p2:own.length=s.qA.length) (p3:∃ n,Vt own n):Calls Tryz.prog 110 #[.agg #[yI s.qP,Sv xf s.qA.length qZ,Sv xG s.qB.length xC],Sv q8 own.length rD] w (Ret (fun v w' =>v=Bv true) w):=by
 refine en func110 ntmps110 ?_
 have H:=(((St.start w).arg gj).arg xY).arg xu
 have jJ:=qO xu
 have Qb:=qO xY
 have LK:=qO gj
 clear xu xY gj
 have N:=Fresh.nil w.heap.size
 obtain ⟨n,p4⟩:=p3
 have e1:=max_own p4
 have e2:=p4.one
 have e3:=min_own p4
 have e4:=p4.bds.1
 refine zcr<|sw<|jq H (yS s xf qZ xG xC) fun b1 w2 H=>sp (Bv false)<|zjcc<|sw<|zi (yS s xf qZ xG xC) isAgg27 sizeOf27 rfl (qK (H.cells 0 rfl) 0 3)<|sw<|oq (validSystem_ok _ s (H.get 0 rfl).1 (H.get 1 rfl).1) H fun w4 H=>sp (Bv (!(dec<|QC s)))<|sp (Bv (!(dec<|QC s))) ?_
 cases h6:(!(dec (QC s)))
 ·replace h6:=xJ h6
  replace h6:=of_dec h6
  refine qV 9 rfl rfl<|sw<|zi (yS s xf qZ xG xC) isAgg27 sizeOf27 rfl (qK (H.cells 0 rfl) 0 3)<|qV 9 rfl rfl<|sw<|oq (canMeltAny_ok _ s (H.get 0 rfl).1 (H.get 1 rfl).1) H fun w8 H=>sp (Bv<|dec (¬ Still s))<|sp (Bv<|dec (¬ Still s)) ?_
  cases fe:(dec (¬ Still s))
  ·replace fe:=Qd fe
   refine qV 13 rfl rfl<|sq 1<|qV 13 rfl rfl<|oN rfl<|qV 13 rfl rfl<|oF rfl<|qV 13 rfl rfl<|oL rfl (H.cell 0 rfl rfl)<|qV 13 rfl rfl<|oN rfl<|qV 13 rfl rfl<|sq 2<|zjn<|vk _ rfl (fun dZ=>?_)<|fun dZ=>?_
   ·replace dZ:=bne_iff_ne.1 dZ
    exfalso;omega
   replace dZ:=xR dZ
   refine xk<|t_n<|zcc<|sq 1<|sw<|oq (maxI_ok _ own (H.get 2 rfl).1 qg) H fun II H=>sw<|zV (maxL own) 1 rfl rfl qf<|sp (yI 0)<|zjn<|xg<|zU ((fun Z0 Z1 Z2 Z3=>fun m' ρ PG=>∃ (xI:Env) (i:Nat),ρ=upd (upd (upd xI 1<|Sv q8 own.length rD) 23<|yI ((maxL own)+1)) 24 (yI i)/\((i:Int)<=((maxL own)+1))/\m' =(((maxL own)+1) - (i:Int)).toNat/\Fresh w.heap.size []/\St w PG [Z0] [Z1,Z2,Z3]) _ _ _ _) ((((maxL own)+1) - (0:Int)).toNat) ⟨_,0,uE3,qf,rfl,N,H⟩ ?_
   clear H N
   rintro m' ρ UJ ⟨xI,i,rfl,i0,rfl,N,H⟩
   refine zcr<|sq 1<|zjn<|xH<|cD rfl (fun Kw=>?_)<|fun Kw=>?_
   ·refine xk (t_n<|xH<|xg<|zcr<|sp (yI i)<|sp (yI i)<|zjc<|sp (yI i)<|sp (Bv ((i:Int) == 4))<|sp (Bv ((i:Int) == 4)) ?_)
    cases Dp:((i:Int) == 4)
    ·replace Dp:=ne_of_beq_false Dp
     refine qV 29 rfl rfl<|sq 1<|qV 29 rfl rfl<|sp (yI i)<|qV 29 rfl rfl<|sw<|oq (containsI_ok _ own i (H.get 2 rfl).1) H fun Rr H=>qV 29 rfl rfl<|sq 2<|zjn<|cQ rfl (fun Bi=>?_)<|fun Bi=>?_
     ·exfalso;first | omega | exact absurd (p4.all i qf qf) ql
     refine xk<|b_n<|t_n<|xZ<|sw<|zV i 1 rfl rfl qf<|sq 1<|xW<|xq (m' :=(((maxL own)+1) - ((i+1):Int)).toNat) qf ⟨_,i+1,uE3,?_,rfl,N,H⟩
     ·omega
    replace Dp:=eq_of_beq Dp
    refine zM (zR 30 4)<|sp (Bv true)<|zjn<|cTr rfl<|zcr<|sp (Bv false)<|zjr<|zr5<|rH1 (Bv false) H ?_
    exfalso;omega
   refine zx4<|zcr<|sq 1<|sw<|oq (minI_ok _ own (H.get 2 rfl).1 qg) H fun JE H=>sp (Bv<|decide ((minL own:Int)>=0))<|sp (Bv<|decide ((minL own:Int)>=0))<|zjr<|rH1 (Bv<|decide ((minL own:Int)>=0)) H ?_
   rw [decide_eq_true<|show minL own>=0 by omega]
  ·exact absurd p1<|of_dec fe
 ·exact absurd p0<|Qd<|xN h6
theorem tissueCode_ok (w:World) (s:qM) (own:yLI) (t:xh) {zS:yOA} {zO:Nat} {Qa:yLN} {vZ:yOA} {vT:Nat} {QG:yLN} {zq:yOA} {zo:Nat} {jY:yLN} (xu:zP w zH xf qZ s.qA) (xY:zP w vX xG xC s.qB) (gj:zP w Bq q8 rD own) (vF:zP w Qa zS zO t.xn) (jM:zP w QG vZ vT t.qG) (zN:zP w jY zq zo t.qE) (p0:QC s) (p1:Still s) (p2:own.length=s.qA.length) (p3:∃ n,Vt own n) (p4:vM s t) (p5:Whole t):Calls Tryz.prog 66 #[.agg #[yI s.qP,Sv xf s.qA.length qZ,Sv xG s.qB.length xC],Sv q8 own.length rD,.agg #[Sv zS t.xn.length zO,Sv vZ t.qG.length vT,Sv zq t.qE.length zo]] w (Ret (fun v w' =>v=yI 0) w):=by
 refine en func66 ntmps66 ?_
 have H:=((((((St.start w).arg zN).arg jM).arg vF).arg gj).arg xY).arg xu
 have jJ:=qO xu
 have Qb:=qO xY
 have LK:=qO gj
 have XE:=qO vF
 have eJ:=qO jM
 have QW:=qO zN
 clear xu xY gj vF jM zN
 have N:=Fresh.nil w.heap.size
 refine zcr<|sw<|jq H (yS s xf qZ xG xC) fun b1 w2 H=>sw<|jq H (yT t zS zO vZ vT zq zo) fun b3 w4 H=>sp (yI 0)<|zjcc<|sw<|zi (yS s xf qZ xG xC) isAgg27 sizeOf27 rfl (qK (H.cells 1 rfl) 0 3)<|sq 1<|sw<|oq (validOwners_ok _ s own (H.get 0 rfl).1 (H.get 1 rfl).1 (H.get 2 rfl).1 qg qg qg qg) H fun w6 H=>sp (Bv !true)<|sp (Bv !true) ?_
 cases h8:(!true)
 ·replace h8:=xJ h8
  refine qV 11 rfl rfl<|sw<|zi (yS s xf qZ xG xC) isAgg27 sizeOf27 rfl (qK (H.cells 1 rfl) 0 3)<|qV 11 rfl rfl<|sw<|zi (yT t zS zO vZ vT zq zo) isAgg31 sizeOf31 rfl (qK (H.cells 0 rfl) 0 3)<|qV 11 rfl rfl<|sw<|oq (isWhole_ok _ s t (H.get 0 rfl).1 (H.get 1 rfl).1 (H.get 3 rfl).1 (H.get 4 rfl).1 (H.get 5 rfl).1) H fun DN H=>qV 11 rfl rfl<|sq 2<|zjn<|vk _ rfl (fun h=>absurd ⟨⟨p0,p4⟩,p5⟩<|Qd<|xN h)<|fun qb=>?_
  replace qb:=xJ qb
  replace qb:=of_dec qb
  refine xk<|t_n<|zcr<|sp (yI 0)<|zjr<|rH1 (yI 0) H ?_
  rfl
 replace h8:=xN h8
 refine zM (zR 12 4)<|sp (Bv true)<|zjn<|cTr rfl<|zcr<|sp (yI 1)<|zjr<|t_r<|rH1 (yI 1) H ?_
 exfalso;contradiction
end
end Go.Proofs.YtghikkinnchndaaGreat
