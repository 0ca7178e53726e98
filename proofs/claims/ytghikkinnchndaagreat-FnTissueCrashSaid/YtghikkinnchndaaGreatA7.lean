/- Walks and laws, printed by program and by hand: what each function comes to, for all arguments, part 7. -/
import Derived.Test.YtghikkinnchndaaGreatA6
import Derived.BigQuiet
import Derived.Test.YtghikkinnchndaaGreatRows
import Derived.ProofKit
import Derived.OpenShut
import Derived.Carry
import Derived.Lib.SmallJoins
namespace Go.Proofs.YtghikkinnchndaaGreat
open Go.Proofs.Tryz
set_option linter.unusedVariables false
set_option linter.unusedSimpArgs false
set_option maxRecDepth 100000
set_option maxHeartbeats 4000000
open Go.RowKit
open Go.Proofs.Tryz
open Go.Proofs.YtghikkinnchndaaGreat.Tot (tot)
open Go.Proofs.YtghikkinnchndaaGreat.Mark (cnt mrk mkd mkd_mark cnt_mark)
variable {Fds Bq QG Qa jY vX zH:yLN} {Ns:List yLN} {P:Program} {W0 w:World} {P5 q8 vZ xG xf zS zq:yOA} {e t:TypeId} {hi k lo n:Int} {ps:List Prv} {v:Value} {Γ:List Fact}
section
theorem newMill_ok (s:qM) (own:yLI) (ap:yOA) (cp:Nat) (Fp:yLN) (ar:yOA) (cr:Nat) (Fr:yLN) (ao:yOA) (co:Nat) (Fo:yLN) (t:xh) (tA:yOA) (cA:Nat) (FA:yLN) (tB:yOA) (cB:Nat) (FB:yLN) (tU:yOA) (cU:Nat) (FU:yLN) (n:Nat) (H:St W0 w (ps) ((sF false Fp ap cp s.qA)::(sF false Fr ar cr s.qB)::(sF false Fo ao co own)::(sF false FA tA cA t.xn)::(sF false FB tB cB t.qG)::(sF false FU tU cU t.qE)::Γ)) (N:Fresh W0.heap.size (Ns)) (K0:Kept Ns Γ) (p0:Giv s own n) (p1:Vt own n) (p2:vM s t):Calls Tryz.prog 70 #[.agg #[yI s.qP,Sv ap s.qA.length cp,Sv ar s.qB.length cr],Sv ao own.length co,.agg #[Sv tA t.xn.length cA,Sv tB t.qG.length cB,Sv tU t.qE.length cU]] w (fun e w' =>∃ v,e=.returned v/\∃ (bk:Nat) (eG:yOA) (eo:Nat) (cC:Nat) (bZ:List Value) (aF:yLN) (cM:yOA) (ke:Nat) (bJ:Nat) (bM:List Value) (az:yLN),v=pp bk 0/\Fresh W0.heap.size (aF::az::Ns)/\St W0 w' ((.box bk [Sv eG eo cC,Sv cM ke bJ,yI s.qP,Sv ap s.qA.length cp,Sv ar s.qB.length cr,Sv ao own.length co] 74)::(rr eG eo cC 49 16 bZ)::(rr cM ke bJ 77 4 bM)::ps) ((sF false Fp ap cp s.qA)::(sF false Fr ar cr s.qB)::(sF false Fo ao co own)::(sF false FA tA cA t.xn)::(sF false FB tB cB t.qG)::(sF false FU tU cU t.qE)::(qL true aF bZ ((qW s own t n).qF))::(qL true az bM ((qW s own t n).zu))::Γ)):=by
 refine en func70 ntmps70 ?_
 have ug:=qO (H.get 0 rfl).1
 have th:=qO (H.get 1 rfl).1
 have sy:=qO (H.get 2 rfl).1
 have RB:=qO (H.get 3 rfl).1
 have TG:=qO (H.get 4 rfl).1
 have RD:=qO (H.get 5 rfl).1
 have e1:=max_own p1
 have e2:=p1.one
 have e4:=p1.bds.1
 have p6:own.length=s.qA.length:=p0.len
 have p7:=p0.sys.1.2.1
 have p8:zF s=s.qA.length:=rfl
 have p9:=p0.sys.1.1
 have p10:=zeros_len s<|s.qA.length+1
 have p11:=p2.2.1
 have p5:=p0.sys.1
 have b3:=(jc p2.2.2.2.1).1
 refine zcr<|sw<|jq H (yS s ap cp ar cr) fun b1 w2 H=>sw<|jq H (yT t tA cA tB cB tU cU) fun b3 w4 H=>sq 1<|zjc<|sw<|zi (yS s ap cp ar cr) isAgg27 sizeOf27 rfl (qK (H.cells 1 rfl) 0 3)<|sq 1<|sw<|jb [yN,yN,yI s.qP,Sv ap s.qA.length cp,Sv ar s.qB.length cr,Sv ao own.length co] [(1,.agg #[yI s.qP,Sv ap s.qA.length cp,Sv ar s.qB.length cr]),(2,Sv ao own.length co)]<|sw<|jq H [yN,yN,yI s.qP,Sv ap s.qA.length cp,Sv ar s.qB.length cr,Sv ao own.length co] fun b5 w6 H=>sq 1<|zjcc<|sq 1<|sw<|oq (maxI_ok _ own (H.get 2 rfl).1 qg) H fun w8 H=>(sw<|zV (maxL own) 1 rfl rfl qf<|sp (yI 0)<|zjn<|xg ?_)
 replace H:=H.nilRow 49 16
 replace H:=H.jZ (α:=zA)
 refine zU ((fun Z0 Z1 Z2 Z3 Z4 Z5 Z6 Z7=>fun m' ρ DN=>∃ (xI:Env) (i:Nat) (x9:yOA) (xQ:Nat) (x8:Nat) (dr:List zA) (xK:List Value) (qR:yLN),ρ=upd (upd (upd (upd (upd (upd xI 1<|Sv ao own.length co) 3<|pp b1 0) 5<|pp b3 0) 7<|pp b5 0) 18<|yI ((maxL own)+1)) 19 (yI i)/\dr=QB s own t i/\((i:Int)<=((maxL own)+1))/\m' =(((maxL own)+1) - (i:Int)).toNat/\Fresh W0.heap.size (qR::Ns)/\St W0 DN ((rr x9 xQ x8 49 16 xK)::(.box b5 [Sv x9 xQ x8,yN,yI s.qP,Sv ap s.qA.length cp,Sv ar s.qB.length cr,Sv ao own.length co] 74)::Z0::Z1::ps) ((qL true qR xK dr)::Z2::Z3::Z4::Z5::Z6::Z7::Γ)) _ _ _ _ _ _ _ _) ((((maxL own)+1) - (0:Int)).toNat) ⟨_,0,none,0,0,([]:List zA),[],[],uE6,(by rfl),qf,rfl,N.emp,H⟩ ?_
 clear H N
 rintro m' ρ KD ⟨xI,i,x9,xQ,x8,dr,xK,qR,rfl,rfl,i0,rfl,N,H⟩
 have nM:=H.xe (α:=zA) 0 rfl 0 rfl qj
 have kl:=beginTo_len s own t i
 refine zcr<|sq 1<|zjn<|xH<|cD rfl (fun qb=>?_)<|fun qb=>?_
 ·refine xk (t_n<|xH<|xg<|zcr<|sp (yI i)<|sp (yI i)<|zjn<|xH<|c_lateC 1 (fun ρ Ov=>∃ (xI:Env) (xz:Nat) (gC:Nat) (GV:Nat) (YQ:Nat) (S1:List Value) (F18:yLN),ρ=upd (upd (upd (upd (upd (upd (upd (upd (upd xI 1<|Sv ao own.length co) 3<|pp b1 0) 5<|pp b3 0) 7<|pp b5 0) 8<|yI i) 9<|pp YQ 0) 18<|yI ((maxL own)+1)) 19<|yI i) 30 (.agg #[yI 0,Sv (aa xz 0) s.qA.length gC,Sv (aa GV 0) s.qP.toNat s.qP.toNat,Bv false,yN,yN,yN,yN])/\Fresh W0.heap.size (F18::qR::Ns)/\St W0 Ov ((.box YQ [yI 0,yN,yN,Bv false,yN,yN,yN,yN] 47)::(rr (aa GV 0) s.qP.toNat s.qP.toNat 2 1 ((List.replicate s.qP.toNat (0:Int)).map<|Value.int .i64))::(rr (aa xz 0) s.qA.length gC 24 1 S1)::(rr x9 xQ x8 49 16 xK)::(.box b5 [Sv x9 xQ x8,yN,yI s.qP,Sv ap s.qA.length cp,Sv ar s.qB.length cr,Sv ao own.length co] 74)::(.box b3 (yT t tA cA tB cB tU cU) 31)::(.box b1 (yS s ap cp ar cr) 27)::ps) ((qL true F18 S1 ((ji s<|s.qA.length+1).take s.qA.length))::(qL true qR xK<|QB s own t i)::(sF false Fp ap cp s.qA)::(sF false Fr ar cr s.qB)::(sF false Fo ao co own)::(sF false FA tA cA t.xn)::(sF false FB tB cB t.qG)::(sF false FU tU cU t.qE)::Γ)) rfl H [0,1,2,3] [0,1,2,3,4,5,6] (fun H=>?_) ?_)
  ·dsimp only [jR,yE]
   refine yR (fun ρ P6=>∃ (xI:Env) (ws:Nat) (bW:Nat) (sA:Nat) (TH:Nat) (Tp:List Value) (F26:yLN),ρ=upd (upd (upd (upd (upd (upd (upd (upd (upd (upd xI 1<|Sv ao own.length co) 3<|pp b1 0) 5<|pp b3 0) 7<|pp b5 0) 8<|yI i) 9<|pp TH 0) 18<|yI ((maxL own)+1)) 19<|yI i) 26<|Sv (aa ws 0) s.qA.length bW) 29 (Sv (aa sA 0) s.qP.toNat s.qP.toNat)/\Fresh W0.heap.size (F26::qR::Ns)/\St W0 P6 ((.box TH [yI 0,yN,yN,Bv false,yN,yN,yN,yN] 47)::(rr (aa sA 0) s.qP.toNat s.qP.toNat 2 1 ((List.replicate s.qP.toNat (0:Int)).map<|Value.int .i64))::(rr (aa ws 0) s.qA.length bW 24 1 Tp)::(rr x9 xQ x8 49 16 xK)::(.box b5 [Sv x9 xQ x8,yN,yI s.qP,Sv ap s.qA.length cp,Sv ar s.qB.length cr,Sv ao own.length co] 74)::(.box b3 (yT t tA cA tB cB tU cU) 31)::(.box b1 (yS s ap cp ar cr) 27)::ps) ((qL true F26 Tp ((ji s<|s.qA.length+1).take s.qA.length))::(qL true qR xK<|QB s own t i)::(sF false Fp ap cp s.qA)::(sF false Fr ar cr s.qB)::(sF false Fo ao co own)::(sF false FA tA cA t.xn)::(sF false FB tB cB t.qG)::(sF false FU tU cU t.qE)::Γ)) 1 #[true,true,true,true,true,true,true,true,false,true] ?_ fun L27=>?_
   ·rintro ρ Rf ⟨xI,ws,bW,sA,TH,Tp,F26,rfl,N,H⟩
    refine ro 8 rfl<|jb [yI 0,Sv (aa ws 0) s.qA.length bW,Sv (aa sA 0) s.qP.toNat s.qP.toNat,Bv false,yN,yN,yN,yN] [(1,Sv (aa ws 0) s.qA.length bW),(2,Sv (aa sA 0) s.qP.toNat s.qP.toNat)]<|⟨H.pick (zR 3 4)<|zR 1 7,(xy qh ((meet ⟨_,ws,bW,sA,TH,Tp,F26,uE9,N,H⟩)))⟩
   refine yR (fun ρ PJ=>∃ (xI:Env) (JZ:Nat) (Ey:Nat) (SI:Nat) (Pn:List Value) (F34:yLN),ρ=upd (upd (upd (upd (upd (upd (upd (upd (upd xI 1<|Sv ao own.length co) 3<|pp b1 0) 5<|pp b3 0) 7<|pp b5 0) 8<|yI i) 18<|yI ((maxL own)+1)) 19<|yI i) 26<|Sv (aa JZ 0) s.qA.length Ey) 29 (Sv (aa SI 0) s.qP.toNat s.qP.toNat)/\Fresh W0.heap.size (F34::qR::Ns)/\St W0 PJ ((rr (aa SI 0) s.qP.toNat s.qP.toNat 2 1 ((List.replicate s.qP.toNat (0:Int)).map<|Value.int .i64))::(rr (aa JZ 0) s.qA.length Ey 24 1 Pn)::(rr x9 xQ x8 49 16 xK)::(.box b5 [Sv x9 xQ x8,yN,yI s.qP,Sv ap s.qA.length cp,Sv ar s.qB.length cr,Sv ao own.length co] 74)::(.box b3 (yT t tA cA tB cB tU cU) 31)::(.box b1 (yS s ap cp ar cr) 27)::ps) ((qL true F34 Pn ((ji s<|s.qA.length+1).take s.qA.length))::(qL true qR xK<|QB s own t i)::(sF false Fp ap cp s.qA)::(sF false Fr ar cr s.qB)::(sF false Fo ao co own)::(sF false FA tA cA t.xn)::(sF false FB tB cB t.qG)::(sF false FU tU cU t.qE)::Γ)) 2 #[true,true,true,true,true,true,true,true,false,false] ?_ fun L35=>?_
   ·rintro ρ w37 ⟨xI,JZ,Ey,SI,Pn,F34,rfl,N,H⟩
    refine jw [8,9] qh qm<|jT rfl ?_<|jT rfl ?_ jy
    ·refine jb [yI 0,Sv (aa JZ 0) s.qA.length Ey,Sv (aa SI 0) s.qP.toNat s.qP.toNat,Bv false,yN,yN,yN,yN] [(1,Sv (aa JZ 0) s.qA.length Ey),(2,Sv (aa SI 0) s.qP.toNat s.qP.toNat)]<|⟨H.pick (zR 2 4)<|zR 1 7,(ro 9 rfl<|xU H ti47 [yI 0,yN,yN,Bv false,yN,yN,yN,yN] fun b38 U7 H=>⟨H.pick (zR 3 4)<|zR 1 7,(xy qh ((meet ⟨_,JZ,Ey,SI,b38,Pn,F34,uE9,N,H⟩)))⟩)⟩
    refine xU H ti47 [yI 0,yN,yN,Bv false,yN,yN,yN,yN] fun WT w41 H=>⟨H.pick (zR 3 4)<|zR 1 7,(je L27 ⟨_,JZ,Ey,SI,WT,Pn,F34,uE10,N,H⟩)⟩
   refine yR (fun ρ w48=>∃ (xI:Env) (Tx:Nat) (TC:Nat) (b44:Nat) (Tu:List Value) (F46:yLN),ρ=upd (upd (upd (upd (upd (upd (upd (upd (upd (upd xI 1<|Sv ao own.length co) 3<|pp b1 0) 5<|pp b3 0) 7<|pp b5 0) 8<|yI i) 9<|pp b44 0) 18<|yI ((maxL own)+1)) 19<|yI i) 26<|Sv (aa Tx 0) s.qA.length TC) 28 (yI s.qP)/\Fresh W0.heap.size (F46::qR::Ns)/\St W0 w48 ((.box b44 [yI 0,yN,yN,Bv false,yN,yN,yN,yN] 47)::(rr (aa Tx 0) s.qA.length TC 24 1 Tu)::(rr x9 xQ x8 49 16 xK)::(.box b5 [Sv x9 xQ x8,yN,yI s.qP,Sv ap s.qA.length cp,Sv ar s.qB.length cr,Sv ao own.length co] 74)::(.box b3 (yT t tA cA tB cB tU cU) 31)::(.box b1 (yS s ap cp ar cr) 27)::ps) ((qL true F46 Tu ((ji s<|s.qA.length+1).take s.qA.length))::(qL true qR xK<|QB s own t i)::(sF false Fp ap cp s.qA)::(sF false Fr ar cr s.qB)::(sF false Fo ao co own)::(sF false FA tA cA t.xn)::(sF false FB tB cB t.qG)::(sF false FU tU cU t.qE)::Γ)) 2 #[true,true,true,true,true,true,true,false,false,true] ?_ fun L47=>?_
   ·rintro ρ w49 ⟨xI,Tx,TC,b44,Tu,F46,rfl,N,H⟩
    refine ro 7 rfl<|jE H underlying24 ti2 s.qP.toNat rfl rfl qf qf qf fun b50 w51 H=>⟨H.pick (zR 3 4)<|zR 1 7,(je L27 ⟨_,Tx,TC,b50,b44,Tu,F46,uE10,N,H.qY 7 8 (1::0::zR 2 5) (zR 0 8) (by simp only [List.length_cons,List.length_append];omega)<|by simp only [List.length_cons,List.length_append];omega⟩)⟩
   refine yR (fun ρ w59=>∃ (xI:Env) (abg:yOA) (RT:Nat) (Wh:Nat) (PU:Nat) (Ni:List Value) (abT:yLN),ρ=upd (upd (upd (upd (upd (upd (upd (upd (upd (upd (upd xI 1<|Sv ao own.length co) 3<|pp b1 0) 5<|pp b3 0) 7<|pp b5 0) 8<|yI i) 9<|pp PU 0) 18<|yI ((maxL own)+1)) 19<|yI i) 23<|Sv abg ((ji s<|s.qA.length+1).length) RT) 25<|yI s.qA.length) 29 (Sv (aa Wh 0) s.qP.toNat s.qP.toNat)/\Fresh W0.heap.size (abT::qR::Ns)/\St W0 w59 ((.box PU [yI 0,yN,yN,Bv false,yN,yN,yN,yN] 47)::(rr (aa Wh 0) s.qP.toNat s.qP.toNat 2 1 ((List.replicate s.qP.toNat (0:Int)).map<|Value.int .i64))::(rr abg ((ji s<|s.qA.length+1).length) RT 24 1 Ni)::(rr x9 xQ x8 49 16 xK)::(.box b5 [Sv x9 xQ x8,yN,yI s.qP,Sv ap s.qA.length cp,Sv ar s.qB.length cr,Sv ao own.length co] 74)::(.box b3 (yT t tA cA tB cB tU cU) 31)::(.box b1 (yS s ap cp ar cr) 27)::ps) ((qL true abT Ni<|ji s<|s.qA.length+1)::(qL true qR xK<|QB s own t i)::(sF false Fp ap cp s.qA)::(sF false Fr ar cr s.qB)::(sF false Fo ao co own)::(sF false FA tA cA t.xn)::(sF false FB tB cB t.qG)::(sF false FU tU cU t.qE)::Γ)) 2 #[true,true,true,true,false,true,true,true,false,true] ?_ fun L58=>?_
   ·rintro ρ w60 ⟨xI,abg,RT,Wh,PU,Ni,abT,rfl,N,H⟩
    refine ro 4 rfl ?_
    obtain ⟨b61,rfl⟩:=H.jg 2 rfl qf
    have aGh:=H.rowCap 2 rfl
    refine o_up s.qA.length underlying29 ti24 rfl rfl qf ?_
    obtain ⟨axo,F64,ag7,H⟩:=H.rowHead 2 rfl 0 rfl s.qA.length qf qf
    try dsimp only [List.set] at H
    replace N:Fresh W0.heap.size (F64::qR::Ns):=Fresh.less N ag7.1 ag7.2
    refine ⟨H.pick (zR 3 4)<|zR 2 7,(je L27 ⟨_,b61,RT,Wh,PU,axo,F64,uE10,N,H.qY 7 9 (zR 0 7) (0::zR 2 7) (by simp only [List.length_cons,List.length_append];omega)<|by simp only [List.length_cons,List.length_append];omega⟩)⟩
   refine yR (fun ρ Rh=>∃ (xI:Env) (Sz:yOA) (MI:Nat) (b68:Nat) (S2:List Value) (SP:yLN),ρ=upd (upd (upd (upd (upd (upd (upd (upd (upd (upd xI 1<|Sv ao own.length co) 3<|pp b1 0) 5<|pp b3 0) 7<|pp b5 0) 8<|yI i) 18<|yI ((maxL own)+1)) 19<|yI i) 23<|Sv Sz ((ji s<|s.qA.length+1).length) MI) 25<|yI s.qA.length) 29 (Sv (aa b68 0) s.qP.toNat s.qP.toNat)/\Fresh W0.heap.size (SP::qR::Ns)/\St W0 Rh ((rr (aa b68 0) s.qP.toNat s.qP.toNat 2 1 ((List.replicate s.qP.toNat (0:Int)).map<|Value.int .i64))::(rr Sz ((ji s<|s.qA.length+1).length) MI 24 1 S2)::(rr x9 xQ x8 49 16 xK)::(.box b5 [Sv x9 xQ x8,yN,yI s.qP,Sv ap s.qA.length cp,Sv ar s.qB.length cr,Sv ao own.length co] 74)::(.box b3 (yT t tA cA tB cB tU cU) 31)::(.box b1 (yS s ap cp ar cr) 27)::ps) ((qL true SP S2<|ji s<|s.qA.length+1)::(qL true qR xK<|QB s own t i)::(sF false Fp ap cp s.qA)::(sF false Fr ar cr s.qB)::(sF false Fo ao co own)::(sF false FA tA cA t.xn)::(sF false FB tB cB t.qG)::(sF false FU tU cU t.qE)::Γ)) 3 #[true,true,true,true,false,true,true,true,false,false] ?_ fun L71=>?_
   ·rintro ρ w73 ⟨xI,Sz,MI,b68,S2,SP,rfl,N,H⟩
    refine jw [4,9] qh qm<|jT rfl ?_<|jT rfl ?_ jy
    ·obtain ⟨b74,rfl⟩:=H.jg 1 rfl qf
     have aJU:=H.rowCap 1 rfl
     refine o_up s.qA.length underlying29 ti24 rfl rfl qf ?_
     obtain ⟨aqX,F77,acT,H⟩:=H.rowHead 1 rfl 0 rfl s.qA.length qf qf
     try dsimp only [List.set] at H
     replace N:Fresh W0.heap.size (F77::qR::Ns):=Fresh.less N acT.1 acT.2
     refine ⟨H.pick (zR 2 4)<|zR 2 7,(je L35 ⟨_,b74,MI,b68,aqX,F77,uE9,N,H.qY 6 9 (zR 0 6) (0::zR 2 7) (by simp only [List.length_cons,List.length_append];omega)<|by simp only [List.length_cons,List.length_append];omega⟩)⟩
    refine xU H ti47 [yI 0,yN,yN,Bv false,yN,yN,yN,yN] fun Jq WH H=>⟨H.pick (zR 3 4)<|zR 1 7,(je L58 ⟨_,Sz,MI,b68,Jq,S2,SP,uE11,N,H⟩)⟩
   refine yR (fun ρ w87=>∃ (xI:Env) (Sy:yOA) (Il:Nat) (b83:Nat) (R2:List Value) (Dg:yLN),ρ=upd (upd (upd (upd (upd (upd (upd (upd (upd (upd (upd xI 1<|Sv ao own.length co) 3<|pp b1 0) 5<|pp b3 0) 7<|pp b5 0) 8<|yI i) 9<|pp b83 0) 18<|yI ((maxL own)+1)) 19<|yI i) 23<|Sv Sy ((ji s<|s.qA.length+1).length) Il) 25<|yI s.qA.length) 28 (yI s.qP)/\Fresh W0.heap.size (Dg::qR::Ns)/\St W0 w87 ((.box b83 [yI 0,yN,yN,Bv false,yN,yN,yN,yN] 47)::(rr Sy ((ji s<|s.qA.length+1).length) Il 24 1 R2)::(rr x9 xQ x8 49 16 xK)::(.box b5 [Sv x9 xQ x8,yN,yI s.qP,Sv ap s.qA.length cp,Sv ar s.qB.length cr,Sv ao own.length co] 74)::(.box b3 (yT t tA cA tB cB tU cU) 31)::(.box b1 (yS s ap cp ar cr) 27)::ps) ((qL true Dg R2<|ji s<|s.qA.length+1)::(qL true qR xK<|QB s own t i)::(sF false Fp ap cp s.qA)::(sF false Fr ar cr s.qB)::(sF false Fo ao co own)::(sF false FA tA cA t.xn)::(sF false FB tB cB t.qG)::(sF false FU tU cU t.qE)::Γ)) 3 #[true,true,true,true,false,true,true,false,false,true] ?_ fun L86=>?_
   ·rintro ρ w88 ⟨xI,Sy,Il,b83,R2,Dg,rfl,N,H⟩
    refine jw [4,7] qh qm<|jT rfl ?_<|jT rfl ?_ jy
    ·obtain ⟨xV,rfl⟩:=H.jg 1 rfl qf
     have aKa:=H.rowCap 1 rfl
     refine o_up s.qA.length underlying29 ti24 rfl rfl qf ?_
     obtain ⟨awS,F92,ago,H⟩:=H.rowHead 1 rfl 0 rfl s.qA.length qf qf
     try dsimp only [List.set] at H
     replace N:Fresh W0.heap.size (F92::qR::Ns):=Fresh.less N ago.1 ago.2
     refine ⟨H.pick (zR 2 4)<|zR 2 7,(je L47 ⟨_,xV,Il,b83,awS,F92,uE10,N,H.qY 6 9 (zR 0 6) (0::zR 2 7) (by simp only [List.length_cons,List.length_append];omega)<|by simp only [List.length_cons,List.length_append];omega⟩)⟩
    refine jE H underlying24 ti2 s.qP.toNat rfl rfl qf qf qf fun b94 w95 H=>⟨H.pick (zR 3 4)<|zR 1 7,(je L58 ⟨_,Sy,Il,b94,b83,R2,Dg,uE11,N,H.qY 7 8 (1::0::zR 2 5) (zR 0 8) (by simp only [List.length_cons,List.length_append];omega)<|by simp only [List.length_cons,List.length_append];omega⟩)⟩
   refine yR (fun ρ JU=>∃ (xI:Env) (wB:yOA) (sk:Nat) (tT:Nat) (b99:Nat) (F7:List Value) (Hi:yLN),ρ=upd (upd (upd (upd (upd (upd (upd (upd (upd (upd (upd xI 1<|Sv ao own.length co) 3<|pp b1 0) 5<|pp b3 0) 7<|pp b5 0) 8<|yI i) 9<|pp b99 0) 18<|yI ((maxL own)+1)) 19<|yI i) 23<|Sv wB ((ji s<|s.qA.length+1).length) sk) 24<|.agg #[yI s.qP,Sv ap s.qA.length cp,Sv ar s.qB.length cr]) 29 (Sv (aa tT 0) s.qP.toNat s.qP.toNat)/\Fresh W0.heap.size (Hi::qR::Ns)/\St W0 JU ((.box b99 [yI 0,yN,yN,Bv false,yN,yN,yN,yN] 47)::(rr (aa tT 0) s.qP.toNat s.qP.toNat 2 1 ((List.replicate s.qP.toNat (0:Int)).map<|Value.int .i64))::(rr wB ((ji s<|s.qA.length+1).length) sk 24 1 F7)::(rr x9 xQ x8 49 16 xK)::(.box b5 [Sv x9 xQ x8,yN,yI s.qP,Sv ap s.qA.length cp,Sv ar s.qB.length cr,Sv ao own.length co] 74)::(.box b3 (yT t tA cA tB cB tU cU) 31)::(.box b1 (yS s ap cp ar cr) 27)::ps) ((qL true Hi F7<|ji s<|s.qA.length+1)::(qL true qR xK<|QB s own t i)::(sF false Fp ap cp s.qA)::(sF false Fr ar cr s.qB)::(sF false Fo ao co own)::(sF false FA tA cA t.xn)::(sF false FB tB cB t.qG)::(sF false FU tU cU t.qE)::Γ)) 3 #[true,true,true,false,false,true,true,true,false,true] ?_ fun abn=>?_
   ·rintro ρ Lc ⟨xI,wB,sk,tT,b99,F7,Hi,rfl,N,H⟩
    refine ro 3 rfl<|oq (around_ok _ s (H.get 2 rfl).1 (H.get 3 rfl).1) H fun Ln H=>⟨H.pick (zR 3 4)<|zR 1 7,(je L58 ⟨_,wB,sk,tT,b99,F7,Hi,uE11,N,H⟩)⟩
   refine yR (fun ρ Pv=>∃ (xI:Env) (CE:yOA) (uh:Nat) (Oq:Nat) (Bl:List Value) (C2:yLN),ρ=upd (upd (upd (upd (upd (upd (upd (upd (upd (upd xI 1<|Sv ao own.length co) 3<|pp b1 0) 5<|pp b3 0) 7<|pp b5 0) 8<|yI i) 18<|yI ((maxL own)+1)) 19<|yI i) 23<|Sv CE ((ji s<|s.qA.length+1).length) uh) 24<|.agg #[yI s.qP,Sv ap s.qA.length cp,Sv ar s.qB.length cr]) 29 (Sv (aa Oq 0) s.qP.toNat s.qP.toNat)/\Fresh W0.heap.size (C2::qR::Ns)/\St W0 Pv ((rr (aa Oq 0) s.qP.toNat s.qP.toNat 2 1 ((List.replicate s.qP.toNat (0:Int)).map<|Value.int .i64))::(rr CE ((ji s<|s.qA.length+1).length) uh 24 1 Bl)::(rr x9 xQ x8 49 16 xK)::(.box b5 [Sv x9 xQ x8,yN,yI s.qP,Sv ap s.qA.length cp,Sv ar s.qB.length cr,Sv ao own.length co] 74)::(.box b3 (yT t tA cA tB cB tU cU) 31)::(.box b1 (yS s ap cp ar cr) 27)::ps) ((qL true C2 Bl<|ji s<|s.qA.length+1)::(qL true qR xK<|QB s own t i)::(sF false Fp ap cp s.qA)::(sF false Fr ar cr s.qB)::(sF false Fo ao co own)::(sF false FA tA cA t.xn)::(sF false FB tB cB t.qG)::(sF false FU tU cU t.qE)::Γ)) 4 #[true,true,true,false,false,true,true,true,false,false] ?_ fun ap2=>?_
   ·rintro ρ ZY ⟨xI,CE,uh,Oq,Bl,C2,rfl,N,H⟩
    refine jw [3,9] qh qm<|jT rfl ?_<|jT rfl ?_ jy
    ·refine oq (around_ok _ s (H.get 2 rfl).1 (H.get 3 rfl).1) H fun ZK H=>⟨H.pick (zR 2 4)<|zR 1 7,(je L71 ⟨_,CE,uh,Oq,Bl,C2,uE10,N,H⟩)⟩
    refine xU H ti47 [yI 0,yN,yN,Bv false,yN,yN,yN,yN] fun auU Rv H=>⟨H.pick (zR 3 4)<|zR 1 7,(je abn ⟨_,CE,uh,Oq,auU,Bl,C2,uE11,N,H⟩)⟩
   refine yR (fun ρ alq=>∃ (xI:Env) (Cp:yOA) (DI:Nat) (D9:Nat) (C3:List Value) (BE:yLN),ρ=upd (upd (upd (upd (upd (upd (upd (upd (upd (upd (upd xI 1<|Sv ao own.length co) 3<|pp b1 0) 5<|pp b3 0) 7<|pp b5 0) 8<|yI i) 9<|pp D9 0) 18<|yI ((maxL own)+1)) 19<|yI i) 23<|Sv Cp ((ji s<|s.qA.length+1).length) DI) 24<|.agg #[yI s.qP,Sv ap s.qA.length cp,Sv ar s.qB.length cr]) 28 (yI s.qP)/\Fresh W0.heap.size (BE::qR::Ns)/\St W0 alq ((.box D9 [yI 0,yN,yN,Bv false,yN,yN,yN,yN] 47)::(rr Cp ((ji s<|s.qA.length+1).length) DI 24 1 C3)::(rr x9 xQ x8 49 16 xK)::(.box b5 [Sv x9 xQ x8,yN,yI s.qP,Sv ap s.qA.length cp,Sv ar s.qB.length cr,Sv ao own.length co] 74)::(.box b3 (yT t tA cA tB cB tU cU) 31)::(.box b1 (yS s ap cp ar cr) 27)::ps) ((qL true BE C3<|ji s<|s.qA.length+1)::(qL true qR xK<|QB s own t i)::(sF false Fp ap cp s.qA)::(sF false Fr ar cr s.qB)::(sF false Fo ao co own)::(sF false FA tA cA t.xn)::(sF false FB tB cB t.qG)::(sF false FU tU cU t.qE)::Γ)) 4 #[true,true,true,false,false,true,true,false,false,true] ?_ fun aeI=>?_
   ·rintro ρ abw ⟨xI,Cp,DI,D9,C3,BE,rfl,N,H⟩
    refine jw [3,7] qh qm<|jT rfl ?_<|jT rfl ?_ jy
    ·refine oq (around_ok _ s (H.get 2 rfl).1 (H.get 3 rfl).1) H fun ZO H=>⟨H.pick (zR 2 4)<|zR 1 7,(je L86 ⟨_,Cp,DI,D9,C3,BE,uE11,N,H⟩)⟩
    refine jE H underlying24 ti2 s.qP.toNat rfl rfl qf qf qf fun aae auI H=>⟨H.pick (zR 3 4)<|zR 1 7,(je abn ⟨_,Cp,DI,aae,D9,C3,BE,uE11,N,H.qY 7 8 (1::0::zR 2 5) (zR 0 8) (by simp only [List.length_cons,List.length_append];omega)<|by simp only [List.length_cons,List.length_append];omega⟩)⟩
   refine yR (fun ρ LW=>∃ (xI:Env) (Pa:Nat) (Sc:Nat),ρ=upd (upd (upd (upd (upd (upd (upd (upd (upd (upd (upd xI 1<|Sv ao own.length co) 3<|pp b1 0) 5<|pp b3 0) 7<|pp b5 0) 8<|yI i) 9<|pp Sc 0) 18<|yI ((maxL own)+1)) 19<|yI i) 22<|.agg #[yI s.qP,Sv ap s.qA.length cp,Sv ar s.qB.length cr]) 24<|.agg #[yI s.qP,Sv ap s.qA.length cp,Sv ar s.qB.length cr]) 29 (Sv (aa Pa 0) s.qP.toNat s.qP.toNat)/\Fresh W0.heap.size (qR::Ns)/\St W0 LW ((.box Sc [yI 0,yN,yN,Bv false,yN,yN,yN,yN] 47)::(rr (aa Pa 0) s.qP.toNat s.qP.toNat 2 1 ((List.replicate s.qP.toNat (0:Int)).map<|Value.int .i64))::(rr x9 xQ x8 49 16 xK)::(.box b5 [Sv x9 xQ x8,yN,yI s.qP,Sv ap s.qA.length cp,Sv ar s.qB.length cr,Sv ao own.length co] 74)::(.box b3 (yT t tA cA tB cB tU cU) 31)::(.box b1 (yS s ap cp ar cr) 27)::ps) ((qL true qR xK<|QB s own t i)::(sF false Fp ap cp s.qA)::(sF false Fr ar cr s.qB)::(sF false Fo ao co own)::(sF false FA tA cA t.xn)::(sF false FB tB cB t.qG)::(sF false FU tU cU t.qE)::Γ)) 4 #[true,false,true,false,false,true,true,true,false,true] ?_ fun af7=>?_
   ·rintro ρ an2 ⟨xI,Pa,Sc,rfl,N,H⟩
    refine ro 1 rfl ?_
    have PD:=H.base.size
    have K7:=jB (H.ltN (L:=[qR]) [0])<|H.ltK<|K0.behind 7 rfl
    refine oc (noBags_ok _ s (H.get 1 rfl).1 (H.get 2 rfl).1 qg) ?_
    rintro _ agz ⟨NR,Wd,Pp,Pf,Ok,rfl,M,K⟩ _
    replace N:=N.merge PD K7 M
    replace H:=H.merge K M
    dsimp only [List.cons_append,List.nil_append] at H
    obtain rfl:=H.xe (α:=yLI) 0 rfl 0 rfl qj
    refine ⟨H.pick (zR 3 4)<|zR 1 7,(je abn ⟨_,NR,Pp,Pa,Sc,Pf,Ok,uE11,N,H.qY 7 8 [1,2,0,3,4,5,6] (zR 0 8) (by simp only [List.length_cons,List.length_append];omega)<|by simp only [List.length_cons,List.length_append];omega⟩)⟩
   have S:=H.zK (zR 0 4)<|zR 0 7
   refine rt 0 _ (yh (cs:=(yS s ap cp ar cr)) isAgg27 sizeOf27 rfl<|fun _ h=>qK (h.cells 3 rfl) 0 3) S ?_
   refine rt 2 _ (yh (cs:=(yS s ap cp ar cr)) isAgg27 sizeOf27 rfl<|fun _ h=>qK (h.cells 3 rfl) 0 3) S ?_
   refine tF 5 rfl rfl S ?_
   refine tL 6 rfl rfl (fun _ h=>h.cell 3 rfl rfl) S ?_
   refine jw [1,7,9] qh qm<|jT rfl ?_<|jT rfl ?_<|jT rfl ?_ jy
   ·have ajv:=H.base.size
    have afl:=jB (H.ltN (L:=[qR]) [0])<|H.ltK<|K0.behind 7 rfl
    refine oc (noBags_ok _ s (H.get 1 rfl).1 (H.get 2 rfl).1 qg) ?_
    rintro _ NP ⟨Fw,aoH,ye,Hh,Ic,rfl,M,K⟩ _
    replace N:=N.merge ajv afl M
    replace H:=H.merge K M
    dsimp only [List.cons_append,List.nil_append] at H
    obtain rfl:=H.xe (α:=yLI) 0 rfl 0 rfl qj
    refine ⟨H.pick (zR 1 4)<|zR 1 7,(jw [3,7,9] qh qm<|jT rfl ?_<|jT rfl ?_<|jT rfl ?_ jy)⟩
    ·refine oq (around_ok _ s (H.get 2 rfl).1 (H.get 3 rfl).1) H fun aHP H=>⟨H.pick (zR 1 4)<|zR 1 7,(jw [4,7,9] qh qm<|jT rfl ?_<|jT rfl ?_<|jT rfl ?_ jy)⟩
     ·obtain ⟨aqx,rfl⟩:=H.jg 0 rfl qf
      have azD:=H.rowCap 0 rfl
      refine o_up s.qA.length underlying29 ti24 rfl rfl qf ?_
      obtain ⟨Uu,Zj,Wn,H⟩:=H.rowHead 0 rfl 0 rfl s.qA.length qf qf
      try dsimp only [List.set] at H
      replace N:Fresh W0.heap.size (Zj::qR::Ns):=Fresh.less N Wn.1 Wn.2
      refine ⟨H.pick (zR 1 4)<|zR 2 7,(jw [7,9] qh qm<|jT rfl ?_<|jT rfl ?_ jy)⟩
      ·refine jE H underlying24 ti2 s.qP.toNat rfl rfl qf qf qf fun J9 abK H=>⟨H.pick (zR 2 4)<|zR 2 7,(je L35 ⟨_,aqx,ye,J9,Uu,Zj,uE9,N,H.qY 6 9 (zR 0 6) (0::zR 2 7) (by simp only [List.length_cons,List.length_append];omega)<|by simp only [List.length_cons,List.length_append];omega⟩)⟩
      refine xU H ti47 [yI 0,yN,yN,Bv false,yN,yN,yN,yN] fun afS alV H=>⟨H.pick (zR 2 4)<|zR 2 7,(je L47 ⟨_,aqx,ye,afS,Uu,Zj,uE10,N,H.qY 6 9 (zR 0 6) (0::zR 2 7) (by simp only [List.length_cons,List.length_append];omega)<|by simp only [List.length_cons,List.length_append];omega⟩)⟩
     ·refine jE H underlying24 ti2 s.qP.toNat rfl rfl qf qf qf fun aw2 ayh H=>⟨H.pick (zR 2 4)<|zR 1 7,(je L71 ⟨_,Fw,ye,aw2,Hh,Ic,uE10,N,H⟩)⟩
     refine xU H ti47 [yI 0,yN,yN,Bv false,yN,yN,yN,yN] fun aqe ap1 H=>⟨H.pick (zR 2 4)<|zR 1 7,(je L86 ⟨_,Fw,ye,aqe,Hh,Ic,uE11,N,H⟩)⟩
    ·refine jE H underlying24 ti2 s.qP.toNat rfl rfl qf qf qf fun Ze aty H=>⟨H.pick (zR 2 4)<|zR 1 7,(je ap2 ⟨_,Fw,ye,Ze,Hh,Ic,uE10,N,H⟩)⟩
    refine xU H ti47 [yI 0,yN,yN,Bv false,yN,yN,yN,yN] fun ap9 anM H=>⟨H.pick (zR 2 4)<|zR 1 7,(je aeI ⟨_,Fw,ye,ap9,Hh,Ic,uE11,N,H⟩)⟩
   ·refine jE H underlying24 ti2 s.qP.toNat rfl rfl qf qf qf fun afb Sj H=>⟨H.pick (zR 1 4)<|zR 0 7,(jw [1,9] qh qm<|jT rfl ?_<|jT rfl ?_ jy)⟩
    ·have aid:=H.base.size
     have ak6:=jB (H.ltN (L:=[qR]) [0])<|H.ltK<|K0.behind 7 rfl
     refine oc (noBags_ok _ s (H.get 1 rfl).1 (H.get 2 rfl).1 qg) ?_
     rintro _ axx ⟨ajb,azM,xS,akK,aqn,rfl,M,K⟩ _
     replace N:=N.merge aid ak6 M
     replace H:=H.merge K M
     dsimp only [List.cons_append,List.nil_append] at H
     obtain rfl:=H.xe (α:=yLI) 0 rfl 0 rfl qj
     refine ⟨H.pick (zR 2 4)<|zR 1 7,(je ap2 ⟨_,ajb,xS,afb,akK,aqn,uE10,N,H.qY 6 8 [1,0,2,3,4,5] (zR 0 8) (by simp only [List.length_cons,List.length_append];omega)<|by simp only [List.length_cons,List.length_append];omega⟩)⟩
    refine xU H ti47 [yI 0,yN,yN,Bv false,yN,yN,yN,yN] fun azf apc H=>⟨H.pick (zR 2 4)<|zR 0 7,(je af7 ⟨_,afb,azf,uE11,N,H⟩)⟩
   refine xU H ti47 [yI 0,yN,yN,Bv false,yN,yN,yN,yN] fun apD aiQ H=>⟨H.pick (zR 1 4)<|zR 0 7,(jw [1,7] qh qm<|jT rfl ?_<|jT rfl ?_ jy)⟩
   ·have aog:=H.base.size
    have anJ:=jB (H.ltN (L:=[qR]) [0])<|H.ltK<|K0.behind 7 rfl
    refine oc (noBags_ok _ s (H.get 1 rfl).1 (H.get 2 rfl).1 qg) ?_
    rintro _ ZF ⟨ak0,azO,ajs,Lp,aju,rfl,M,K⟩ _
    replace N:=N.merge aog anJ M
    replace H:=H.merge K M
    dsimp only [List.cons_append,List.nil_append] at H
    obtain rfl:=H.xe (α:=yLI) 0 rfl 0 rfl qj
    refine ⟨H.pick (zR 2 4)<|zR 1 7,(je aeI ⟨_,ak0,ajs,apD,Lp,aju,uE11,N,H.qY 6 8 [1,0,2,3,4,5] (zR 0 8) (by simp only [List.length_cons,List.length_append];omega)<|by simp only [List.length_cons,List.length_append];omega⟩)⟩
   refine jE H underlying24 ti2 s.qP.toNat rfl rfl qf qf qf fun kn aaC H=>⟨H.pick (zR 2 4)<|zR 0 7,(je af7 ⟨_,kn,apD,uE11,N,H.qY 6 7 [1,0,2,3,4,5] (zR 0 7) (by simp only [List.length_cons,List.length_append];omega)<|by simp only [List.length_cons,List.length_append];omega⟩)⟩
  clear H N
  rintro ρ awG ⟨xI,xz,gC,GV,YQ,S1,F18,rfl,N,H⟩
  refine sw<|zC H 0 [yI 0,Sv (aa xz 0) s.qA.length gC,Sv (aa GV 0) s.qP.toNat s.qP.toNat,Bv false,yN,yN,yN,yN] sizeOf47 fun aFp H=>?_
  try dsimp only [List.set] at H
  refine zjcc<|oF rfl<|oL rfl (H.cell 5 rfl rfl)<|oN rfl<|sp (yI 0)<|zjn<|xg<|zU ((fun Z0 Z1 Z2 Z3 Z4 Z5 Z6 Z7 Z8 Z9 fH fZ iw=>fun m' ρ awB=>∃ (xI:Env) (c:Nat) (aV:yLL) (QV:List Value) (vU:yLN),ρ=upd (upd (upd (upd (upd (upd (upd (upd (upd (upd (upd xI 1<|Sv ao own.length co) 3<|pp b1 0) 5<|pp b3 0) 7<|pp b5 0) 8<|yI i) 9<|pp YQ 0) 18<|yI ((maxL own)+1)) 19<|yI i) 32<|Sv tB t.qG.length cB) 33<|yI t.qG.length) 34 (yI c)/\((c:Int)<=t.qG.length)/\(aV=begB s own t i c)/\m' =(t.qG.length - (c:Int)).toNat/\Fresh W0.heap.size (qR::vU::Ns)/\St W0 awB (Z0::Z1::(rr (aa xz 0) s.qA.length gC 24 1 QV)::Z2::Z3::Z4::Z5::ps) ((qL true vU QV aV)::Z6::Z7::Z8::Z9::fH::fZ::iw::Γ)) _ _ _ _ _ _ _ _ _ _ _ _ _) ((t.qG.length - (0:Int)).toNat) ⟨_,0,((ji s<|s.qA.length+1).take s.qA.length),S1,F18,uE11,qf,(by exact beg_zero),rfl,(N.qY 2 [1,0]<|by simp only [List.length_cons,List.length_append];omega),H⟩ ?_
  clear H N
  rintro m' ρ aDB ⟨xI,c,aV,QV,vU,rfl,i0,i2,rfl,N,H⟩
  have rE:=H.xe (α:=yLI) 2 rfl 0 rfl qj
  have bl:aV.length=s.qA.length:=by rw [i2];exact Vf
  refine zcr<|sq 1<|zjn<|xH<|cD rfl (fun ay6=>?_)<|fun ay6=>?_
  ·refine xk (t_n<|xH<|xg<|zcr<|sp (yI c) ?_)
   obtain ⟨aGx,aFk,rfl⟩:=H.addr 6 rfl qf
   obtain ⟨aBi,azk,aC2,H⟩:=H.yD 6 rfl c c qf qf qf
   refine oI rfl rfl<|oL rfl (H.vW 1 rfl 0 rfl)<|sp (yI c)<|sq 1<|zjc<|sq 1<|sp (yI c) ?_
   obtain ⟨ap4,aFE,rfl⟩:=H.addr 6 rfl qf
   refine oI rfl rfl<|oL rfl (H.jd 6 rfl c qf)<|sp (yI i)<|sq 1<|zjn<|cE rfl (fun avj=>?_)<|fun avj=>?_
   ·refine zY 2 rfl H [0,1,2,3,4,5,6] [0,1,2,3,4,5,6,7,8,9] fun H=>?_
    dsimp only [jR,yE]
    have S:=H.zK (zR 0 7)<|zR 0 10
    refine tF 0 rfl rfl S ?_
    refine tL 1 rfl rfl (fun _ h=>h.cell 0 rfl rfl) S ?_
    refine rtp 2 (yI c) S ?_
    refine rtl 3 S ?_
    refine ro 4 rfl ?_
    try (have b2:=(jc (p2.2.2.2.2 c qf).1).1)
    have aBX:=H.base.size
    have aAv:=jB (H.ltN (L:=[qR,vU]) [3,2])<|H.ltK<|K0.behind 10 rfl
    refine oc (cloneI_ok _ (t.qG[c]!) (H.get 0 rfl).1 qg) ?_
    rintro aDP Ka ayT awm
    replace H:=H.zI awm ayT
    obtain ⟨ayv,atc,rfl,aAb,aA5⟩:=H.jW 0 rfl
    refine ⟨H.pick (zR 1 7)<|zR 0 10,(xy qh<|xM<|oI rfl rfl ?_)⟩
    obtain ⟨aDQ,N,azr,H⟩:=H.ve 0 rfl N<|fun F hF b hb=>(List.mem_append.1<|show F∈[qR,vU]++Ns from hF).elim (fun h=>(H.vg (L:=[qR,vU]) [3,2]) F h b hb) fun h=>H.jH (K0.behind 10 rfl) F h b hb
    try dsimp only [List.set] at H
    refine sw<|yZ true H 3 rfl 3 rfl (Sv ayv ((t.qG[c]!).length) atc) 0 rfl rfl sizeOf24 rfl rfl (i:=c) qf qf qm fun agf aAt axe anE H=>?_
    replace N:Fresh W0.heap.size (axe::qR::Ns):=(N.qY 3 [2,0,1]<|by simp only [List.length_cons,List.length_append];omega).repl anE
    try dsimp only [List.set] at H
    refine xW<|b_n<|t_n<|xZ<|sw<|zV c 1 rfl rfl qf<|sq 1<|xW<|xq (m' :=(t.qG.length - ((c+1):Int)).toNat) qf ⟨_,c+1,_,_,_,uE11,?_,?_,rfl,(N.qY 2 [1,0]<|by simp only [List.length_cons,List.length_append];omega),H.qY 8 12 (zR 1 7) (0::zR 5 7) (by simp only [List.length_cons,List.length_append];omega)<|by simp only [List.length_cons,List.length_append];omega⟩
    ·omega
    ·first | (subst i2;exact beg_yes ql qf) | exact i2.trans<|beg_no ql
   refine xk<|b_n<|t_n<|xZ<|sw<|zV c 1 rfl rfl qf<|sq 1<|xW<|xq (m' :=(t.qG.length - ((c+1):Int)).toNat) qf ⟨_,c+1,_,_,_,uE11,?_,?_,rfl,N,H.qY 7 10 (zR 0 7) (zR 2 8) (by simp only [List.length_cons,List.length_append];omega)<|by simp only [List.length_cons,List.length_append];omega⟩
   ·omega
   ·first | (subst i2;exact beg_yes ql qf) | exact i2.trans<|beg_no ql
  refine zx4<|zcc<|sq 1 ?_
  obtain ⟨alP,akw,rfl⟩:=H.addr 4 rfl qf
  refine oI rfl rfl<|oL rfl (H.jd 4 rfl 0 qf)<|sp (yI i)<|sq 1<|zjn<|cE rfl (fun au7=>?_)<|fun au7=>?_
  ·refine xZ (oF rfl<|oL rfl (H.cell 5 rfl rfl) ?_)
   try (have b2:=(jc (p2.2.2.2.2 c qf).1).1)
   have aAS:=H.base.size
   have aCz:=jB (H.ltN (L:=[qR,vU]) [1,0])<|H.ltK<|K0.behind 8 rfl
   refine sw<|oc (cloneI_ok _ t.qE (H.get 7 rfl).1 qg) ?_
   rintro aJS aGy awY atG
   replace H:=H.zI atG awY
   obtain ⟨I6,J0,rfl,aBb,aAo⟩:=H.jW 0 rfl
   refine oF rfl<|sw<|xO H 1 [yI 0,Sv (aa xz 0) s.qA.length gC,Sv I6 t.qE.length J0,Bv false,yN,yN,yN,yN] sizeOf24 fun auA H=>?_
   try dsimp only [List.set] at H
   refine zjn<|zY 4 rfl H [1,2,5,6,7] [0,1,2,3,4,5,6,7] fun H=>?_
   dsimp only [jR,yE]
   have S:=H.zK [1,2,5,6,7]<|zR 0 8
   refine rtl 0 S ?_
   refine rtl 1 S ?_
   refine rtl 2 S ?_
   refine tF 3 rfl rfl S ?_
   refine tF 4 rfl rfl S ?_
   refine tL 5 rfl rfl (fun _ h=>h.cell 2 rfl rfl) S ?_
   refine rt 6 _ (yh (cs:=[yI 0,Sv (aa xz 0) s.qA.length gC,Sv I6 t.qE.length J0,Bv false,yN,yN,yN,yN]) isAgg47 sizeOf47 rfl<|fun _ h=>qK (h.cells 0 rfl) 0 8) S ?_
   refine rt 7 _ (yh (cs:=[yI 0,Sv (aa xz 0) s.qA.length gC,Sv I6 t.qE.length J0,Bv false,yN,yN,yN,yN]) isAgg47 sizeOf47 rfl<|fun _ h=>qK (h.cells 0 rfl) 0 8) S ?_
   refine ro 8 rfl ?_
   obtain ⟨amW,Ob,awI⟩:=H.rowIsR (α:=yLI) 3 rfl 0 rfl qj
   obtain ⟨wz,aj9,aui⟩:=H.rowIsI 0 rfl
   replace H:=H.addNil (α:=Bool)
   replace H:=H.addNil (α:=yLI)
   replace H:=H.addNil (α:=yLL)
   have an9:=H.base.size
   have afk:=jB (H.ltN (L:=[qR,vU]) [4,3])<|H.ltK<|K0.behind 11 rfl
   refine oc (args_eq (by rw [← Ob])<|X0 _ (⟨0,aV,t.qE,false,([]:List Bool),([]:yLL),([]:List yLL),([]:List yLL)⟩:zn) (Ob▸awI) aui (H.get 2 rfl).1 (H.get 1 rfl).1 (H.get 0 rfl).1 (H.get 0 rfl).1<|by exact beg_sm p0.sys p2 i2<|by first | omega | (rw [List.length_replicate];omega)) ?_
   rintro _ aHD ⟨rL,rO,hY,m9,m6,fC,tt,sS,kB,mu,mS,fF,ut,tZ,kQ,rN,rd,ic,rfl,M,K⟩ _
   replace N:=N.merge an9 afk M
   replace H:=H.merge K M
   dsimp only [List.cons_append,List.nil_append] at H
   refine ⟨H.pick [1,2,5,6,7]<|zR 9 8,(ro 9 rfl ?_)⟩
   refine jb [yI 0,Sv (aa xz 0) s.qA.length gC,Sv I6 t.qE.length J0,Bv false,yN,yN,yN,yN,yI ((⟨0,aV,t.qE,false,([]:List Bool),([]:yLL),([]:List yLL),([]:List yLL)⟩:zn).qN),Sv rL (((⟨0,aV,t.qE,false,([]:List Bool),([]:yLL),([]:List yLL),([]:List yLL)⟩:zn).qG).length) rO,Sv m9 (((⟨0,aV,t.qE,false,([]:List Bool),([]:yLL),([]:List yLL),([]:List yLL)⟩:zn).qE).length) m6,Bv ((⟨0,aV,t.qE,false,([]:List Bool),([]:yLL),([]:List yLL),([]:List yLL)⟩:zn).qQ),Sv tt (((⟨0,aV,t.qE,false,([]:List Bool),([]:yLL),([]:List yLL),([]:List yLL)⟩:zn).vz).length) sS,Sv mu (((⟨0,aV,t.qE,false,([]:List Bool),([]:yLL),([]:List yLL),([]:List yLL)⟩:zn).qJ).length) mS,Sv ut (((⟨0,aV,t.qE,false,([]:List Bool),([]:yLL),([]:List yLL),([]:List yLL)⟩:zn).vJ).length) tZ,Sv rN (((⟨0,aV,t.qE,false,([]:List Bool),([]:yLL),([]:List yLL),([]:List yLL)⟩:zn).xP).length) rd] [(0,.agg #[yI 0,Sv (aa xz 0) s.qA.length gC,Sv I6 t.qE.length J0,Bv false,yN,yN,yN,yN]),(1,.agg #[yI ((⟨0,aV,t.qE,false,([]:List Bool),([]:yLL),([]:List yLL),([]:List yLL)⟩:zn).qN),Sv rL (((⟨0,aV,t.qE,false,([]:List Bool),([]:yLL),([]:List yLL),([]:List yLL)⟩:zn).qG).length) rO,Sv m9 (((⟨0,aV,t.qE,false,([]:List Bool),([]:yLL),([]:List yLL),([]:List yLL)⟩:zn).qE).length) m6,Bv ((⟨0,aV,t.qE,false,([]:List Bool),([]:yLL),([]:List yLL),([]:List yLL)⟩:zn).qQ),Sv tt (((⟨0,aV,t.qE,false,([]:List Bool),([]:yLL),([]:List yLL),([]:List yLL)⟩:zn).vz).length) sS,Sv mu (((⟨0,aV,t.qE,false,([]:List Bool),([]:yLL),([]:List yLL),([]:List yLL)⟩:zn).qJ).length) mS,Sv ut (((⟨0,aV,t.qE,false,([]:List Bool),([]:yLL),([]:List yLL),([]:List yLL)⟩:zn).vJ).length) tZ,Sv rN (((⟨0,aV,t.qE,false,([]:List Bool),([]:yLL),([]:List yLL),([]:List yLL)⟩:zn).xP).length) rd])]<|⟨H.pick [1,2,5,6,7]<|zR 9 8,(ro 10 rfl ?_)⟩
   refine zx H underlying36 ti49 [yI 0,Sv (aa xz 0) s.qA.length gC,Sv I6 t.qE.length J0,Bv false,yN,yN,yN,yN,yI ((⟨0,aV,t.qE,false,([]:List Bool),([]:yLL),([]:List yLL),([]:List yLL)⟩:zn).qN),Sv rL (((⟨0,aV,t.qE,false,([]:List Bool),([]:yLL),([]:List yLL),([]:List yLL)⟩:zn).qG).length) rO,Sv m9 (((⟨0,aV,t.qE,false,([]:List Bool),([]:yLL),([]:List yLL),([]:List yLL)⟩:zn).qE).length) m6,Bv ((⟨0,aV,t.qE,false,([]:List Bool),([]:yLL),([]:List yLL),([]:List yLL)⟩:zn).qQ),Sv tt (((⟨0,aV,t.qE,false,([]:List Bool),([]:yLL),([]:List yLL),([]:List yLL)⟩:zn).vz).length) sS,Sv mu (((⟨0,aV,t.qE,false,([]:List Bool),([]:yLL),([]:List yLL),([]:List yLL)⟩:zn).qJ).length) mS,Sv ut (((⟨0,aV,t.qE,false,([]:List Bool),([]:yLL),([]:List yLL),([]:List yLL)⟩:zn).vJ).length) tZ,Sv rN (((⟨0,aV,t.qE,false,([]:List Bool),([]:yLL),([]:List yLL),([]:List yLL)⟩:zn).xP).length) rd] fun aD2 aza H=>(⟨H.pick [2,3,6,7,8]<|zR 9 8,(ro 11 rfl ?_)⟩)
   have H0:=H
   obtain ⟨Jk,Dq,aky,H⟩:=H.vK (α:=yLI) 4 rfl 9 rfl qj
   replace N:Fresh W0.heap.size (Jk::hY::fC::kB::fF::kQ::ic::qR::Ns):=Fresh.ice (N.qY 8 (7::zR 0 7)<|by simp only [List.length_cons,List.length_append];omega) H0 4 Dq.1 Dq.2<|fun F hF b hb=>(List.mem_append.1<|show F∈[hY,fC,kB,fF,kQ,ic,qR]++Ns from hF).elim (fun h=>(H0.vg (L:=[hY,fC,kB,fF,kQ,ic,qR]) [0,1,2,3,4,5,10]) F h b hb) fun h=>H0.jH (K0.behind 17 rfl) F h b hb
   clear H0
   try dsimp only [List.set] at H
   obtain ⟨Lm,N,ae0,H⟩:=H.ve 1 rfl N<|fun F hF b hb=>(List.mem_append.1<|show F∈[Jk,hY,fC,kB,fF,kQ,ic,qR]++Ns from hF).elim (fun h=>(H.vg (L:=[Jk,hY,fC,kB,fF,kQ,ic,qR]) [0,1,2,3,4,5,6,11]) F h b hb) fun h=>H.jH (K0.behind 18 rfl) F h b hb
   try dsimp only [List.set] at H
   refine zJ H 5 rfl 0 rfl underlying36 ti49 rfl qj rfl rfl rfl qw qp qf fun atI axt akg H=>?_
   try dsimp only [List.set] at H
   replace H:=H.snoc_ServerD 12 rfl 0 1 rfl 0 rfl false 10 rfl 9 rfl 8 rfl 8 rfl ((⟨0,aV,t.qE,false,([]:List Bool),([]:yLL),([]:List yLL),([]:List yLL)⟩:zn).qN) 2 rfl 3 rfl ((⟨0,aV,t.qE,false,([]:List Bool),([]:yLL),([]:List yLL),([]:List yLL)⟩:zn).qQ) 4 rfl 5 rfl 6 rfl 7 rfl
   replace N:Fresh W0.heap.size ((qR++(Jk++Lm++[]++[]++[]++[]++hY++fC++kB++fF++kQ++ic))::Ns):=(N.emp.emp.emp.emp.qY 13 (5::4::0::1::2::3::zR 6 7)<|by simp only [List.length_cons,List.length_append];omega).join.join.join.join.join.join.join.join.join.join.join.swap.join
   refine ⟨H.pick [2,3,6,7,8]<|zR 12 8,(xy qh<|xM<|sq 1<|oF rfl<|oF rfl<|sw<|xO H 6 [Sv atI (xQ+1) axt,yN,yI s.qP,Sv ap s.qA.length cp,Sv ar s.qB.length cr,Sv (aa alP akw) own.length co] sizeOf36 fun auT H=>?_)⟩
   try dsimp only [List.set] at H
   refine xW<|b_n<|t_n<|xZ<|sw<|zV i 1 rfl rfl qf<|sq 1<|xW<|xq (m' :=(((maxL own)+1) - ((i+1):Int)).toNat) qf ⟨_,i+1,_,_,_,_,_,_,uE6,?_,?_,rfl,N,H.qY 9 20 (zR 5 4) (0::zR 14 6) (by simp only [List.length_cons,List.length_append];omega)<|by simp only [List.length_cons,List.length_append];omega⟩
   ·exact begin_snoc i2 qf<|by first | exact (if_pos ql).symm | exact (if_neg ql).symm
   ·omega
  refine xk<|t_n<|zY 4 rfl H [0,4,5,6] [0,1,2,3,4,5,6,7] fun H=>?_
  dsimp only [jR,yE]
  have S:=H.zK [0,4,5,6]<|zR 0 8
  refine rtl 0 S ?_
  refine rtl 1 S ?_
  refine rtl 2 S ?_
  refine tF 3 rfl rfl S ?_
  refine tF 4 rfl rfl S ?_
  refine tL 5 rfl rfl (fun _ h=>h.cell 1 rfl rfl) S ?_
  refine rt 6 _ (yh (cs:=[yI 0,Sv (aa xz 0) s.qA.length gC,Sv (aa GV 0) s.qP.toNat s.qP.toNat,Bv false,yN,yN,yN,yN]) isAgg47 sizeOf47 rfl<|fun _ h=>qK (h.cells 0 rfl) 0 8) S ?_
  refine rt 7 _ (yh (cs:=[yI 0,Sv (aa xz 0) s.qA.length gC,Sv (aa GV 0) s.qP.toNat s.qP.toNat,Bv false,yN,yN,yN,yN]) isAgg47 sizeOf47 rfl<|fun _ h=>qK (h.cells 0 rfl) 0 8) S ?_
  refine ro 8 rfl ?_
  obtain ⟨aiL,YX,awF⟩:=H.rowIsR (α:=yLI) 2 rfl 0 rfl qj
  obtain ⟨aKc,WC,auk⟩:=H.rowIsI 1 rfl
  replace H:=H.addNil (α:=Bool)
  replace H:=H.addNil (α:=yLI)
  replace H:=H.addNil (α:=yLL)
  have ajK:=H.base.size
  have aiX:=jB (H.ltN (L:=[qR,vU]) [4,3])<|H.ltK<|K0.behind 11 rfl
  refine oc (args_eq (by rw [← YX,← WC])<|X0 _ (⟨0,aV,(List.replicate s.qP.toNat (0:Int)),false,([]:List Bool),([]:yLL),([]:List yLL),([]:List yLL)⟩:zn) (YX▸awF) (rep_at WC auk) (H.get 2 rfl).1 (H.get 1 rfl).1 (H.get 0 rfl).1 (H.get 0 rfl).1<|by exact beg_sm p0.sys p2 i2<|by first | omega | (rw [List.length_replicate];omega)) ?_
  rintro _ aHH ⟨qq,rC,ii,mr,mZ,fD,tG,vB,kX,mI,mz,fz,uI,uE,kJ,rv,rz,ib,rfl,M,K⟩ _
  replace N:=N.merge ajK aiX M
  replace H:=H.merge K M
  dsimp only [List.cons_append,List.nil_append] at H
  refine ⟨H.pick [0,4,5,6]<|zR 9 8,(ro 9 rfl ?_)⟩
  refine jb [yI 0,Sv (aa xz 0) s.qA.length gC,Sv (aa GV 0) s.qP.toNat s.qP.toNat,Bv false,yN,yN,yN,yN,yI ((⟨0,aV,(List.replicate s.qP.toNat (0:Int)),false,([]:List Bool),([]:yLL),([]:List yLL),([]:List yLL)⟩:zn).qN),Sv qq (((⟨0,aV,(List.replicate s.qP.toNat (0:Int)),false,([]:List Bool),([]:yLL),([]:List yLL),([]:List yLL)⟩:zn).qG).length) rC,Sv mr (((⟨0,aV,(List.replicate s.qP.toNat (0:Int)),false,([]:List Bool),([]:yLL),([]:List yLL),([]:List yLL)⟩:zn).qE).length) mZ,Bv ((⟨0,aV,(List.replicate s.qP.toNat (0:Int)),false,([]:List Bool),([]:yLL),([]:List yLL),([]:List yLL)⟩:zn).qQ),Sv tG (((⟨0,aV,(List.replicate s.qP.toNat (0:Int)),false,([]:List Bool),([]:yLL),([]:List yLL),([]:List yLL)⟩:zn).vz).length) vB,Sv mI (((⟨0,aV,(List.replicate s.qP.toNat (0:Int)),false,([]:List Bool),([]:yLL),([]:List yLL),([]:List yLL)⟩:zn).qJ).length) mz,Sv uI (((⟨0,aV,(List.replicate s.qP.toNat (0:Int)),false,([]:List Bool),([]:yLL),([]:List yLL),([]:List yLL)⟩:zn).vJ).length) uE,Sv rv (((⟨0,aV,(List.replicate s.qP.toNat (0:Int)),false,([]:List Bool),([]:yLL),([]:List yLL),([]:List yLL)⟩:zn).xP).length) rz] [(0,.agg #[yI 0,Sv (aa xz 0) s.qA.length gC,Sv (aa GV 0) s.qP.toNat s.qP.toNat,Bv false,yN,yN,yN,yN]),(1,.agg #[yI ((⟨0,aV,(List.replicate s.qP.toNat (0:Int)),false,([]:List Bool),([]:yLL),([]:List yLL),([]:List yLL)⟩:zn).qN),Sv qq (((⟨0,aV,(List.replicate s.qP.toNat (0:Int)),false,([]:List Bool),([]:yLL),([]:List yLL),([]:List yLL)⟩:zn).qG).length) rC,Sv mr (((⟨0,aV,(List.replicate s.qP.toNat (0:Int)),false,([]:List Bool),([]:yLL),([]:List yLL),([]:List yLL)⟩:zn).qE).length) mZ,Bv ((⟨0,aV,(List.replicate s.qP.toNat (0:Int)),false,([]:List Bool),([]:yLL),([]:List yLL),([]:List yLL)⟩:zn).qQ),Sv tG (((⟨0,aV,(List.replicate s.qP.toNat (0:Int)),false,([]:List Bool),([]:yLL),([]:List yLL),([]:List yLL)⟩:zn).vz).length) vB,Sv mI (((⟨0,aV,(List.replicate s.qP.toNat (0:Int)),false,([]:List Bool),([]:yLL),([]:List yLL),([]:List yLL)⟩:zn).qJ).length) mz,Sv uI (((⟨0,aV,(List.replicate s.qP.toNat (0:Int)),false,([]:List Bool),([]:yLL),([]:List yLL),([]:List yLL)⟩:zn).vJ).length) uE,Sv rv (((⟨0,aV,(List.replicate s.qP.toNat (0:Int)),false,([]:List Bool),([]:yLL),([]:List yLL),([]:List yLL)⟩:zn).xP).length) rz])]<|⟨H.pick [0,4,5,6]<|zR 9 8,(ro 10 rfl ?_)⟩
  refine zx H underlying36 ti49 [yI 0,Sv (aa xz 0) s.qA.length gC,Sv (aa GV 0) s.qP.toNat s.qP.toNat,Bv false,yN,yN,yN,yN,yI ((⟨0,aV,(List.replicate s.qP.toNat (0:Int)),false,([]:List Bool),([]:yLL),([]:List yLL),([]:List yLL)⟩:zn).qN),Sv qq (((⟨0,aV,(List.replicate s.qP.toNat (0:Int)),false,([]:List Bool),([]:yLL),([]:List yLL),([]:List yLL)⟩:zn).qG).length) rC,Sv mr (((⟨0,aV,(List.replicate s.qP.toNat (0:Int)),false,([]:List Bool),([]:yLL),([]:List yLL),([]:List yLL)⟩:zn).qE).length) mZ,Bv ((⟨0,aV,(List.replicate s.qP.toNat (0:Int)),false,([]:List Bool),([]:yLL),([]:List yLL),([]:List yLL)⟩:zn).qQ),Sv tG (((⟨0,aV,(List.replicate s.qP.toNat (0:Int)),false,([]:List Bool),([]:yLL),([]:List yLL),([]:List yLL)⟩:zn).vz).length) vB,Sv mI (((⟨0,aV,(List.replicate s.qP.toNat (0:Int)),false,([]:List Bool),([]:yLL),([]:List yLL),([]:List yLL)⟩:zn).qJ).length) mz,Sv uI (((⟨0,aV,(List.replicate s.qP.toNat (0:Int)),false,([]:List Bool),([]:yLL),([]:List yLL),([]:List yLL)⟩:zn).vJ).length) uE,Sv rv (((⟨0,aV,(List.replicate s.qP.toNat (0:Int)),false,([]:List Bool),([]:yLL),([]:List yLL),([]:List yLL)⟩:zn).xP).length) rz] fun aKy aGP H=>(⟨H.pick [1,5,6,7]<|zR 9 8,(ro 11 rfl ?_)⟩)
  have H0:=H
  obtain ⟨SU,Uh,aDb,H⟩:=H.vK (α:=yLI) 3 rfl 9 rfl qj
  replace N:Fresh W0.heap.size (SU::ii::fD::kX::fz::kJ::ib::qR::Ns):=Fresh.ice (N.qY 8 (7::zR 0 7)<|by simp only [List.length_cons,List.length_append];omega) H0 3 Uh.1 Uh.2<|fun F hF b hb=>(List.mem_append.1<|show F∈[ii,fD,kX,fz,kJ,ib,qR]++Ns from hF).elim (fun h=>(H0.vg (L:=[ii,fD,kX,fz,kJ,ib,qR]) [0,1,2,3,4,5,10]) F h b hb) fun h=>H0.jH (K0.behind 17 rfl) F h b hb
  clear H0
  try dsimp only [List.set] at H
  obtain ⟨aw0,N,aAI,H⟩:=H.ve 2 rfl N<|fun F hF b hb=>(List.mem_append.1<|show F∈[SU,ii,fD,kX,fz,kJ,ib,qR]++Ns from hF).elim (fun h=>(H.vg (L:=[SU,ii,fD,kX,fz,kJ,ib,qR]) [0,1,2,3,4,5,6,11]) F h b hb) fun h=>H.jH (K0.behind 18 rfl) F h b hb
  try dsimp only [List.set] at H
  refine zJ H 4 rfl 0 rfl underlying36 ti49 rfl qj rfl rfl rfl qw qp qf fun as5 awi aGf H=>?_
  try dsimp only [List.set] at H
  replace H:=H.snoc_ServerD 12 rfl 0 1 rfl 0 rfl false 10 rfl 9 rfl 8 rfl 8 rfl ((⟨0,aV,(List.replicate s.qP.toNat (0:Int)),false,([]:List Bool),([]:yLL),([]:List yLL),([]:List yLL)⟩:zn).qN) 2 rfl 3 rfl ((⟨0,aV,(List.replicate s.qP.toNat (0:Int)),false,([]:List Bool),([]:yLL),([]:List yLL),([]:List yLL)⟩:zn).qQ) 4 rfl 5 rfl 6 rfl 7 rfl
  replace N:Fresh W0.heap.size ((qR++(SU++aw0++[]++[]++[]++[]++ii++fD++kX++fz++kJ++ib))::Ns):=(N.emp.emp.emp.emp.qY 13 (5::4::0::1::2::3::zR 6 7)<|by simp only [List.length_cons,List.length_append];omega).join.join.join.join.join.join.join.join.join.join.join.swap.join
  refine ⟨H.pick [1,5,6,7]<|zR 12 8,(xy qh<|xM<|sq 1<|oF rfl<|oF rfl<|sw<|xO H 5 [Sv as5 (xQ+1) awi,yN,yI s.qP,Sv ap s.qA.length cp,Sv ar s.qB.length cr,Sv (aa alP akw) own.length co] sizeOf36 fun aDE H=>?_)⟩
  try dsimp only [List.set] at H
  refine xW<|b_n<|t_n<|xZ<|sw<|zV i 1 rfl rfl qf<|sq 1<|xW<|xq (m' :=(((maxL own)+1) - ((i+1):Int)).toNat) qf ⟨_,i+1,_,_,_,_,_,_,uE6,?_,?_,rfl,N,H.qY 8 20 (zR 4 4) (0::zR 14 6) (by simp only [List.length_cons,List.length_append];omega)<|by simp only [List.length_cons,List.length_append];omega⟩
  ·exact begin_snoc i2 qf<|by first | exact (if_pos ql).symm | exact (if_neg ql).symm
  ·omega
 refine zx4<|zcr<|sq 2<|zjr ?_
 replace H:=H.nilRow 77 4
 replace H:=H.jZ (α:=zk)
 refine ret1 (pp b5 0) rfl rfl ⟨_,rfl,?_⟩
 obtain rfl:i=n:=by omega
 exact ⟨b5,x9,xQ,x8,xK,qR,none,0,0,[],[],rfl,(N.emp.qY 2 [1,0]<|by simp only [List.length_cons,List.length_append];omega),H.qY 5 8 [2,1,0] [2,3,4,5,6,7,1,0] (by simp only [List.length_cons,List.length_append];omega)<|by simp only [List.length_cons,List.length_append];omega⟩
theorem after_ok (s:qM) (own:yLI) (ap:yOA) (cp:Nat) (Fp:yLN) (ar:yOA) (cr:Nat) (Fr:yLN) (ao:yOA) (co:Nat) (Fo:yLN) (t:xh) (tA:yOA) (cA:Nat) (FA:yLN) (tB:yOA) (cB:Nat) (FB:yLN) (tU:yOA) (cU:Nat) (FU:yLN) (n:Nat) (ds:List xm) (ad:yOA) (cd:Nat) (Fd:yLN) (H:St W0 w (ps) ((sF false Fp ap cp s.qA)::(sF false Fr ar cr s.qB)::(sF false Fo ao co own)::(sF false FA tA cA t.xn)::(sF false FB tB cB t.qG)::(sF false FU tU cU t.qE)::(sF false Fd ad cd ds)::Γ)) (N:Fresh W0.heap.size (Ns)) (K0:Kept Ns Γ) (p0:Giv s own n) (p1:Vt own n) (p2:vM s t) (p3:ds.length<=400) (p4:∀ k,k < ds.length->DeedOk (ds[k]!)) (OL:∀ f∈(sF false Fp ap cp s.qA::sF false Fr ar cr s.qB::sF false Fo ao co own::sF false FA tA cA t.xn::sF false FB tB cB t.qG::sF false FU tU cU t.qE::sF false Fd ad cd ds::Γ),∀ b∈f.F,b < W0.heap.size):Calls Tryz.prog 27 #[.agg #[yI s.qP,Sv ap s.qA.length cp,Sv ar s.qB.length cr],Sv ao own.length co,.agg #[Sv tA t.xn.length cA,Sv tB t.qG.length cB,Sv tU t.qE.length cU],Sv ad ds.length cd] w (fun e w' =>∃ v,e=.returned v/\∃ (bk:Nat) (eG:yOA) (eo:Nat) (cC:Nat) (bZ:List Value) (aF:yLN) (cM:yOA) (ke:Nat) (bJ:Nat) (bM:List Value) (az:yLN),v=.tuple #[pp bk 0,yI ((xF s own (qW s own t n) ds ds.length).2)]/\Fresh W0.heap.size (aF::az::Ns)/\St W0 w' ((.box bk [Sv eG eo cC,Sv cM ke bJ,yI s.qP,Sv ap s.qA.length cp,Sv ar s.qB.length cr,Sv ao own.length co] 74)::(rr eG eo cC 49 16 bZ)::(rr cM ke bJ 77 4 bM)::ps) ((sF false Fp ap cp s.qA)::(sF false Fr ar cr s.qB)::(sF false Fo ao co own)::(sF false FA tA cA t.xn)::(sF false FB tB cB t.qG)::(sF false FU tU cU t.qE)::(sF false Fd ad cd ds)::(qL true aF bZ ((xF s own (qW s own t n) ds ds.length).1.qF))::(qL true az bM ((xF s own (qW s own t n) ds ds.length).1.zu))::Γ)):=by
 refine en func27 ntmps27 ?_
 have ug:=qO (H.get 0 rfl).1
 have th:=qO (H.get 1 rfl).1
 have sy:=qO (H.get 2 rfl).1
 have RB:=qO (H.get 3 rfl).1
 have TG:=qO (H.get 4 rfl).1
 have RD:=qO (H.get 5 rfl).1
 have aKA:=qO (H.get 6 rfl).1
 have tb:=begin_ok p0 p2
 refine zcr<|sw<|jq H (yS s ap cp ar cr) fun b1 w2 H=>sw<|jq H (yT t tA cA tB cB tU cU) fun b3 w4 H=>sq 1<|sp (yI 0)<|zjc<|sw<|zi (yS s ap cp ar cr) isAgg27 sizeOf27 rfl (qK (H.cells 1 rfl) 0 3)<|sq 1<|sw<|zi (yT t tA cA tB cB tU cU) isAgg31 sizeOf31 rfl (qK (H.cells 0 rfl) 0 3) ?_
 have H1:=H.yw 2 7 [0,1] [0,1,2,3,4,5,6] (by simp only [List.length_cons,List.length_append];omega)<|by simp only [List.length_cons,List.length_append];omega
 have N1:Fresh _ (Ns):=N
 have K1:Kept (Ns) ((sF false Fd ad cd ds)::Γ):=K0.behind 1 rfl
 refine sw<|zy #[.agg #[yI s.qP,Sv ap s.qA.length cp,Sv ar s.qB.length cr],Sv ao own.length co,.agg #[Sv tA t.xn.length cA,Sv tB t.qG.length cB,Sv tU t.qE.length cU]] rfl rfl call70 (newMill_ok s own ap cp Fp ar cr Fr ao co Fo t tA cA FA tB cB FB tU cU FU n H1 N1 K1 qg qg qg) ?_
 clear H H1 N1 K1
 rintro _ w5 ⟨bk7,mc,rn9,kp,awP,atY,vc,ajp,aby,EF,wE,rfl,N,H⟩
 obtain rfl:=H.xe (α:=zA) 1 rfl 6 rfl qj
 obtain rfl:=H.xe (α:=zk) 2 rfl 7 rfl qj
 refine sq 1<|sp (yI 0)<|zjcc<|sq 1<|oN rfl<|sp (yI 0)<|zjn<|xg<|zU ((fun Z0 Z1 Z2 Z3 Z4 Z5 Z6 Z7 Z8=>fun m' ρ ZH=>∃ (xI:Env) (done:Int) (cf:Nat) (XU:yOA) (XN:Nat) (XP:Nat) (ju:List zk) (XK:List Value) (Xl:yLN) (dr:List zA) (xK:List Value) (qR:yLN),ρ=upd (upd (upd (upd (upd xI 10<|pp bk7 0) 11<|yI done) 18<|Sv ad ds.length cd) 19<|yI ds.length) 20 (yI cf)/\ju=(xF s own (qW s own t n) ds cf).1.zu/\dr=(xF s own (qW s own t n) ds cf).1.qF/\((cf:Int)<=ds.length)/\(done=(xF s own (qW s own t n) ds cf).2)/\m' =(ds.length - (cf:Int)).toNat/\Fresh W0.heap.size (Xl::qR::Ns)/\St W0 ZH ((.box bk7 [Sv mc (((qW s own t n).qF).length) kp,Sv XU XN XP,yI s.qP,Sv ap s.qA.length cp,Sv ar s.qB.length cr,Sv ao own.length co] 74)::(rr mc (((qW s own t n).qF).length) kp 49 16 xK)::(rr XU XN XP 77 4 XK)::Z0::Z1::ps) (Z2::Z3::Z4::Z5::Z6::Z7::(qL true qR xK dr)::(qL true Xl XK ju)::Z8::Γ)) _ _ _ _ _ _ _ _ _) ((ds.length - (0:Int)).toNat) ⟨_,0,0,vc,((qW s own t n).zu).length,aby,(qW s own t n).zu,EF,wE,(qW s own t n).qF,awP,atY,uE5,(by rfl),(by rfl),qf,(by rfl),rfl,(N.qY 2 [1,0]<|by simp only [List.length_cons,List.length_append];omega),H⟩ ?_
 clear H N
 rintro m' ρ Ov ⟨xI,done,cf,XU,XN,XP,ju,XK,Xl,dr,xK,qR,rfl,rfl,rfl,i0,i2,rfl,N,H⟩
 have JT:=H.xe (α:=zk) 2 rfl 7 rfl qj
 have nM:=H.xe (α:=zA) 1 rfl 6 rfl qj
 have tk:Vu s own n (⟨(xF s own (qW s own t n) ds cf).1.qF,(xF s own (qW s own t n) ds cf).1.zu⟩:zQ):=run_ok p0 tb p4 cf qf
 have rc:=run_cnt s own (qW s own t n) ds cf
 refine zcr<|sq 1<|zjn<|xH<|cD rfl (fun Bk=>?_)<|fun Bk=>?_
 ·have dk:=p4 cf qf
  refine xk<|t_n<|xH<|xg<|zcr ?_
  obtain ⟨ws,o22,rfl⟩:=H.addr 8 rfl qf
  obtain ⟨_,H⟩:=H.elem_DeedD 8 rfl cf cf qf qf qf
  refine oI rfl rfl<|sw<|zi [yI ((ds[cf]!).xE),yI ((ds[cf]!).fA),yI ((ds[cf]!).fB)] isAgg44 sizeOf44 rfl (qK (H.get 0 rfl) 0 3)<|sw<|xU H ti44 [yI 0,yI 0,yI 0] fun b25 Ky H=>sw<|zC H 0 [yI ((ds[cf]!).xE),yI ((ds[cf]!).fA),yI ((ds[cf]!).fB)] sizeOf44 fun SD H=>?_
  try dsimp only [List.set] at H
  refine zjc<|sq 1<|sw<|zi [yI ((ds[cf]!).xE),yI ((ds[cf]!).fA),yI ((ds[cf]!).fB)] isAgg44 sizeOf44 rfl (qK (H.cells 0 rfl) 0 3) ?_
  have H1:=H.yw 6 10 [1,2,3,0,4,5] [1,2,3,7,8,4,5,6,9] (by simp only [List.length_cons,List.length_append];omega)<|by simp only [List.length_cons,List.length_append];omega
  have N1:Fresh _ (qR::Xl::Ns):=(N.qY 2 [1,0]<|by simp only [List.length_cons,List.length_append];omega)
  have K1:Kept (Ns) ((sF false FA tA cA t.xn)::(sF false FB tB cB t.qG)::(sF false FU tU cU t.qE)::(sF false Fd (aa ws o22) cd ds)::Γ):=K0.behind 4 rfl
  refine sw<|zy #[pp bk7 0,.agg #[yI ((ds[cf]!).xE),yI ((ds[cf]!).fA),yI ((ds[cf]!).fB)]] rfl rfl call52 (do_ok s own ap cp Fp ar cr Fr ao co Fo ((xF s own (qW s own t n) ds cf).1.qF) ((xF s own (qW s own t n) ds cf).1.zu) bk7 _ mc (((qW s own t n).qF).length) kp xK qR XU XN XP XK Xl (ds[cf]!) H1 N1 K1 qg qg qg<|zf (zZ OL 0 rfl)<|zf (zZ OL 1 rfl)<|zf (zZ OL 2 rfl)<|zf (zZ OL 3 rfl)<|zf (zZ OL 4 rfl)<|zf (zZ OL 5 rfl)<|zf (zZ OL 6 rfl)<|olds_drop OL 7 rfl) ?_
  clear H H1 N1 K1
  rintro _ P6 ⟨alN,ah3,aaG,awb,rM,aKe,aGi,rfl,N,H⟩
  obtain rfl:=H.xe (α:=zk) 2 rfl 4 rfl qj
  refine sp (Bv (((doM s own (⟨((xF s own (qW s own t n) ds cf).1.qF),((xF s own (qW s own t n) ds cf).1.zu)⟩:zQ)<|ds[cf]!).2:Int) == 0))<|zjn<|cE rfl (fun PY=>?_)<|fun PY=>?_
  ·refine xZ (sq 1<|sw<|zV done 1 rfl rfl qf (sq 1<|xW<|b_n<|t_n<|xZ<|sw<|zV cf 1 rfl rfl qf<|sq 1<|xW<|xq (m' :=(ds.length - ((cf+1):Int)).toNat) qf ⟨_,_,cf+1,_,_,_,_,_,_,_,_,_,uE5,?_,?_,?_,?_,rfl,(N.qY 2 [1,0]<|by simp only [List.length_cons,List.length_append];omega),H.qY 6 9 [0,1,2,4,5] [0,1,2,5,6,7,3,4,8] (by simp only [List.length_cons,List.length_append];omega)<|by simp only [List.length_cons,List.length_append];omega⟩))
   ·rfl
   ·rfl
   ·omega
   ·first | (rw [i2];exact run_yes ql) | exact i2.trans<|run_no ql
  refine xk<|b_n<|t_n<|xZ<|sw<|zV cf 1 rfl rfl qf<|sq 1<|xW<|xq (m' :=(ds.length - ((cf+1):Int)).toNat) qf ⟨_,_,cf+1,_,_,_,_,_,_,_,_,_,uE5,?_,?_,?_,?_,rfl,(N.qY 2 [1,0]<|by simp only [List.length_cons,List.length_append];omega),H.qY 6 9 [0,1,2,4,5] [0,1,2,5,6,7,3,4,8] (by simp only [List.length_cons,List.length_append];omega)<|by simp only [List.length_cons,List.length_append];omega⟩
  ·rfl
  ·rfl
  ·omega
  ·first | (rw [i2];exact run_yes ql) | exact i2.trans<|run_no ql
 refine zx4<|zcr<|sq 4<|zjr<|ret2 (pp bk7 0) (yI done) rfl rfl rfl ⟨_,rfl,?_⟩
 obtain rfl:cf=ds.length:=by omega
 subst i2
 exact ⟨bk7,mc,((qW s own t n).qF).length,kp,xK,qR,XU,XN,XP,XK,Xl,rfl,(N.qY 2 [1,0]<|by simp only [List.length_cons,List.length_append];omega),H.qY 5 9 [0,1,2] [0,1,2,3,4,5,8,6,7] (by simp only [List.length_cons,List.length_append];omega)<|by simp only [List.length_cons,List.length_append];omega⟩
end
section
namespace VDeed
theorem ret_bool {a b:Bool} (h:a=b):Ending.returned (Bv a)=.returned (Bv b):=by rw [h]
theorem own:ownKnob Tryz.prog.godebug=none:=by kernel_rfl
def inR (n lo hi:Int):Bool:=decide (lo<=n) && decide (n<=hi)
theorem inR_yes (h:lo<=n):inR n lo hi=decide (n<=hi):=by simp [inR,h]
theorem inR_no (h:n < lo):inR n lo hi=false:=by simp [inR];omega
theorem inRange_any (n lo hi:Int) (w:World):Calls Tryz.prog 37 #[.int .i64 n,.int .i64 lo,.int .i64 hi] w fun e w' =>e=.returned (Bv<|inR n lo hi)/\w=w' :=by
 go_enter Tryz.func37,Tryz.ntmps37
 go_wp2
 ·go_ret
  exact ⟨by rw [inR_yes ‹_›];rfl,rfl⟩
 ·go_ret
  exact ⟨by rw [inR_no ‹_›];rfl,rfl⟩
def word (k:Int):List UInt8:=
 if k=1 then [119,111,114,107] else if k=2 then [115,97,118,101] else if k=3 then [112,111,115,116] else if k=4 then [98,97,99,107]
 else if k=5 then [97,100,118,97,110,99,101] else if k=6 then [100,101,108,105,118,101,114] else if k=7 then [99,111,112,121]
 else if k=8 then [100,114,111,112] else if k=9 then [99,114,97,115,104] else []
def many (k:Int):Int:=if k=3\/k=4 then 2 else if 1<=k/\k<=9 then 1 else 0
theorem deedWord_any (k:Int) (w:World):Calls Tryz.prog 113 #[.int .i64 k] w fun e w' =>e=.returned (.tuple #[.string ⟨(word k).toArray⟩,.int .i64<|many k])/\w=w' :=by
 by_cases hk:1<=k/\k<=9
 ·obtain ⟨h1,h9⟩:=hk
  have hc:k=1\/k=2\/k=3\/k=4\/k=5\/k=6\/k=7\/k=8\/k=9:=by omega
  rcases hc with rfl | rfl | rfl | rfl | rfl | rfl | rfl | rfl | rfl
  all_goals
   go_enter Tryz.func113,Tryz.ntmps113
   go_wp2
   go_ret2
   exact ⟨rfl,rfl⟩
 ·have e:word k=[]/\many k=0:=by unfold word many;constructor <;> (repeat' split) <;> first | rfl | omega
  obtain ⟨e1,e2⟩:=e
  have n1:(k == 1)=false:=by simp;omega
  have n2:(k == 2)=false:=by simp;omega
  have n3:(k == 3)=false:=by simp;omega
  have n4:(k == 4)=false:=by simp;omega
  have n5:(k == 5)=false:=by simp;omega
  have n6:(k == 6)=false:=by simp;omega
  have n7:(k == 7)=false:=by simp;omega
  have n8:(k == 8)=false:=by simp;omega
  have n9:(k == 9)=false:=by simp;omega
  rw [e1,e2]
  clear e1 e2 hk
  go_enter Tryz.func113,Tryz.ntmps113
  go_wp2
  go_ret2
  exact ⟨rfl,rfl⟩
def kindB (k:Int):Bool:=decide (1<=k) && decide (k<=9)
theorem word_nil (h:word k=[]):kindB k=false:=by
 unfold kindB;unfold word at h
 by_cases h1:1<=k <;> by_cases h9:k<=9 <;> simp [h1,h9]
 have hc:k=1\/k=2\/k=3\/k=4\/k=5\/k=6\/k=7\/k=8\/k=9:=by omega
 rcases hc with rfl | rfl | rfl | rfl | rfl | rfl | rfl | rfl | rfl <;> simp at h
theorem word_some (h:¬ word k=[]):kindB k=true:=by
 unfold kindB
 by_cases h1:1<=k <;> by_cases h9:k<=9 <;> simp [h1,h9] <;> exact h<|by unfold word;(repeat' split) <;> first | rfl | omega
def validB (k a b:Int):Bool:=kindB k && inR a 0 999 && inR b 0 999 && (decide (1 < many k) || decide (b=0))
theorem impl_any (k a b:Int) (w:World):Calls Tryz.prog 69 #[.agg #[.int .i64 k,.int .i64 a,.int .i64 b]] w fun e w' =>e=.returned (Bv<|validB k a b)/\Below w.heap.size w w' :=by
 obtain ⟨B,hB⟩:∃ B,B=validB k a b:=⟨_,rfl⟩
 rw [← hB]
 have HB:=hid hB
 clear hB
 go_enter Tryz.func69,Tryz.ntmps69
 go_wp2_with (first | (go_at_call 113;refine (deedWord_any _ _).mono ?_;rintro e w' ⟨rfl,rfl⟩) | (go_at_call 37;refine (inRange_any _ _ _ _).mono ?_;rintro e w' ⟨rfl,rfl⟩))
 all_goals go_ret
 all_goals refine ⟨?_,(Below.refl _ _).alloc (Nat.le_refl _) _⟩
 all_goals rw [HB.out]
 all_goals refine ret_bool ?_
 all_goals first
  | (have k1:=word_nil ‹_›;simp [validB,k1];done)
  | (have k1:=word_some ‹_›;have k2:(!(word k).isEmpty)=true:=(by simp [*]);rw [validB,k1];simp_all;done)
  | (have k1:=word_some ‹_›;have k2:(!(word k).isEmpty)=true:=(by simp [*]);have k3:decide (1 < many k)=false:=(by simp [*]);rw [validB,k1];simp [*];rfl)
end VDeed
theorem validDeed_ok (w:World) (d:xm) (p0:DeedOk d):Calls Tryz.prog 69 #[.agg #[.int .i64 d.xE,.int .i64 d.fA,.int .i64 d.fB]] w (Ret (fun v _=>v=Bv true) w):=by
 refine (VDeed.impl_any d.xE d.fA d.fB w).mono ?_
 rintro e w' ⟨rfl,hb⟩
 refine ⟨_,rfl,?_,hb⟩
 obtain ⟨h1,h2,h3,h4⟩:=p0
 have e1:VDeed.kindB d.xE=true:=by simp [VDeed.kindB];omega
 have e2:VDeed.inR d.fA 0 999=true:=by simp [VDeed.inR];omega
 have e3:VDeed.inR d.fB 0 999=true:=by simp [VDeed.inR];omega
 rw [VDeed.validB,e1,e2,e3]
 congr 1
 by_cases hk:d.xE=3\/d.xE=4
 ·have:VDeed.many d.xE=2:=by rw [VDeed.many,if_pos hk]
  simp [this]
 ·have:d.fB=0:=by omega
  simp [this]
end
section
variable {qZ xC rD zO vT zo P1 : Nat}
theorem deedsCode_ok (w:World) (s:qM) (own:yLI) (t:xh) (ds:List xm) (xu:zP w zH xf qZ s.qA) (xY:zP w vX xG xC s.qB) (gj:zP w Bq q8 rD own) (vF:zP w Qa zS zO t.xn) (jM:zP w QG vZ vT t.qG) (zN:zP w jY zq zo t.qE) (hds:zP w Fds P5 P1 ds) (p0:QC s) (p1:Still s) (p2:own.length=s.qA.length) (p3:∃ n,Vt own n) (p4:vM s t) (p5:Whole t) (p6:∀ k,k < ds.length->DeedOk (ds[k]!)) (p7:ds.length<=400):Calls Tryz.prog 26 #[.agg #[yI s.qP,Sv xf s.qA.length qZ,Sv xG s.qB.length xC],Sv q8 own.length rD,.agg #[Sv zS t.xn.length zO,Sv vZ t.qG.length vT,Sv zq t.qE.length zo],Sv P5 ds.length P1] w (Ret (fun v w' =>v=yI 0) w):=by
 refine en func26 ntmps26 ?_
 have H:=(((((((St.start w).arg hds).arg zN).arg jM).arg vF).arg gj).arg xY).arg xu
 have jJ:=qO xu
 have Qb:=qO xY
 have LK:=qO gj
 have XE:=qO vF
 have eJ:=qO jM
 have QW:=qO zN
 have ayJ:=qO hds
 clear xu xY gj vF jM zN hds
 have N:=Fresh.nil w.heap.size
 refine zcr<|sw<|jq H (yS s xf qZ xG xC) fun b1 w2 H=>sw<|jq H (yT t zS zO vZ vT zq zo) fun b3 w4 H=>sp (yI 0)<|zjn<|xH<|xg<|zcr<|sw<|zi (yS s xf qZ xG xC) isAgg27 sizeOf27 rfl (qK (H.cells 1 rfl) 0 3)<|sq 1<|sw<|zi (yT t zS zO vZ vT zq zo) isAgg31 sizeOf31 rfl (qK (H.cells 0 rfl) 0 3)<|sw<|oq (tissueCode_ok _ s own t (H.get 0 rfl).1 (H.get 1 rfl).1 (H.get 2 rfl).1 (H.get 3 rfl).1 (H.get 4 rfl).1 (H.get 5 rfl).1 qg qg qg qg qg qg) H fun w6 H=>sp (Bv false)<|sp (Bv false)<|qV 15 rfl rfl<|sq 1<|qV 15 rfl rfl<|sw<|zX #[Sv P5 ds.length P1,.func (.func 68) #[] #[]] rfl rfl call67<|en func67 ntmps67 ?_
 refine zcr<|sp (Bv false)<|zjc<|sq 1<|sp (.func (.func 68) #[] #[])<|sw<|zX #[Sv P5 ds.length P1,.func (.func 68) #[] #[]] rfl rfl call112<|en func112 ntmps112 ?_
 refine zcr<|sp (yI 0)<|zjcc<|sq 1<|oN rfl<|sp (yI 0)<|zjn<|xg<|zU ((fun Z0 Z1 Z2 Z3 Z4 Z5 Z6 Z7 Z8=>fun m' ρ w8=>∃ (xI:Env) (i:Nat),ρ=upd (upd (upd (upd xI 0<|Sv P5 ds.length P1) 1<|.func (.func 68) #[] #[]) 7<|yI ds.length) 8 (yI i)/\((i:Int)<=ds.length)/\m' =(ds.length - (i:Int)).toNat/\Fresh w.heap.size []/\St w w8 [Z0,Z1] [Z2,Z3,Z4,Z5,Z6,Z7,Z8]) _ _ _ _ _ _ _ _ _) ((ds.length - (0:Int)).toNat) ⟨_,0,uE4,qf,rfl,N,H⟩ ?_
 clear H N
 rintro m' ρ w9 ⟨xI,i,rfl,i0,rfl,N,H⟩
 refine zcr<|sq 1<|zjn<|xH<|cD rfl (fun fe=>?_)<|fun fe=>?_
 ·refine xk (t_n<|xH<|xg<|zcr<|sp (yI i)<|sp (yI i)<|zjc<|sp (.func (.func 68) #[] #[])<|sq 1<|sp (yI i) ?_)
  obtain ⟨sI,o12,rfl⟩:=H.addr 6 rfl qf
  obtain ⟨_,H⟩:=H.elem_DeedD 6 rfl i i qf qf qf
  refine oI rfl rfl<|sw<|zi [yI ((ds[i]!).xE),yI ((ds[i]!).fA),yI ((ds[i]!).fB)] isAgg44 sizeOf44 rfl (qK (H.get 0 rfl) 0 3)<|sw<|zX #[.agg #[yI ((ds[i]!).xE),yI ((ds[i]!).fA),yI ((ds[i]!).fB)]] rfl rfl call68<|en func68 ntmps68 ?_
  refine zcr<|sw<|jq H [yI ((ds[i]!).xE),yI ((ds[i]!).fA),yI ((ds[i]!).fB)] fun GV UJ H=>sp (Bv false)<|zjc<|sw<|zi [yI ((ds[i]!).xE),yI ((ds[i]!).fA),yI ((ds[i]!).fB)] isAgg44 sizeOf44 rfl (qK (H.cells 0 rfl) 0 3) ?_
  have dk:=p6 i qf
  refine sw<|oq (validDeed_ok UJ (ds[i]!) qg) H fun ZH H=>sp (Bv !true)<|sp (Bv !true)<|zjr<|ret1 (Bv !true) rfl rfl ⟨_,rfl,?_⟩
  replace H:=H.erases [0]
  dsimp only [zD,List.eraseIdx,List.set] at H
  refine zjn<|vk _ rfl (fun Bk=>?_)<|fun Bk=>?_
  ·replace Bk:=xN Bk
   refine zcr<|sp (yI i)<|sp (yI i)<|zjr<|zr5<|ret1 (yI i) rfl rfl ⟨_,rfl,(sw<|o_pure (Bv true) (by show some (Value.bool<|decide ((i:Int)>=0))=some (Value.bool true);rw [decide_eq_true qf])<|sp (Bv true)<|zjr<|ret1 (Bv true) rfl rfl ⟨_,rfl,(sp (Bv true)<|sp (Bv true)<|zjn<|cTr rfl<|zcr<|sp (yI 1)<|zjr<|b_r<|t_r<|rH1 (yI 1) H ?_)⟩)⟩
   exfalso;first | contradiction | omega | simp_all
  replace Bk:=xJ Bk
  refine xk<|b_n<|t_n<|xZ<|sw<|zV i 1 rfl rfl qf<|sq 1<|xW<|xq (m' :=(ds.length - ((i+1):Int)).toNat) qf ⟨_,i+1,uE4,?_,rfl,N,H.pick [0,1]<|zR 1 7⟩
  ·omega
 refine zx4<|zcr<|sq 1<|zjr<|ret1 (yI (-1)) rfl rfl ⟨_,rfl,(sp (Bv false)<|sp (Bv false)<|zjr<|ret1 (Bv false) rfl rfl ⟨_,rfl,(sp (Bv false)<|sp (Bv false)<|zjn<|cFr rfl<|zcr<|sq 1<|oN rfl<|sp (Bv<|decide ((ds.length:Int) > 400))<|sp (Bv<|decide ((ds.length:Int) > 400))<|zjn<|cD rfl (fun J2=>?_)<|fun J2=>?_)⟩)⟩
 ·refine zcr (sp (yI 2)<|zjr<|b_r<|t_r<|rH1 (yI 2) H ?_)
  exfalso;first | contradiction | omega | simp_all
 refine xk<|b_n<|t_n<|zcr<|sp (yI 0)<|zjr<|rH1 (yI 0) H ?_
 rfl
theorem tissueAfter_ok (w:World) (s:qM) (own:yLI) (t:xh) (ds:List xm) (xu:zP w zH xf qZ s.qA) (xY:zP w vX xG xC s.qB) (gj:zP w Bq q8 rD own) (vF:zP w Qa zS zO t.xn) (jM:zP w QG vZ vT t.qG) (zN:zP w jY zq zo t.qE) (hds:zP w Fds P5 P1 ds) (p0:Giv s own (Xm own)) (p1:Vt own (Xm own)) (p2:vM s t) (p3:ds.length<=400) (p4:∀ k,k < ds.length->DeedOk (ds[k]!)) (p5:Still s) (p6:Whole t):Calls Tryz.prog 10 #[.agg #[yI s.qP,Sv xf s.qA.length qZ,Sv xG s.qB.length xC],Sv q8 own.length rD,.agg #[Sv zS t.xn.length zO,Sv vZ t.qG.length vT,Sv zq t.qE.length zo],Sv P5 ds.length P1] w (Ret (fun v w' =>∃ (uF:yOA) (uY:Nat) (tx:Nat) (tw:List Value) (uA:yLN) (FV:yOA) (H8:Nat) (GS:Nat) (Hn:List Value) (Ib:yLN),v=.tuple #[.agg #[Sv uF uY tx,Sv FV H8 GS],yI ((xF s own (qW s own t<|Xm own) ds ds.length).2),yI 0]/\Fresh w.heap.size [uA,Ib]/\St w w' [rr uF uY tx 49 16 tw,rr FV H8 GS 77 4 Hn] [qL true uA tw (((xF s own (qW s own t<|Xm own) ds ds.length).1).qF),qL true Ib Hn (((xF s own (qW s own t<|Xm own) ds ds.length).1).zu)]) w):=by
 refine en func10 ntmps10 ?_
 have H:=(((((((St.start w).arg hds).arg zN).arg jM).arg vF).arg gj).arg xY).arg xu
 have jJ:=qO xu
 have Qb:=qO xY
 have LK:=qO gj
 have XE:=qO vF
 have eJ:=qO jM
 have QW:=qO zN
 have ayJ:=qO hds
 clear xu xY gj vF jM zN hds
 have N:=Fresh.nil w.heap.size
 have A:=H.ltN (L:=[zH,vX,Bq,Qa,QG,jY,Fds])<|zR 0 7
 obtain ⟨n,hn⟩:∃ z,Xm own=z:=⟨_,rfl⟩
 rw [hn] at p0 p1 ⊢
 have q1:=p0.sys
 have q2:own.length=s.qA.length:=p0.len
 have q3:∃ n,Vt own n:=⟨n,p1⟩
 have tk:Vu s own n (xF s own (qW s own t n) ds ds.length).1:=run_ok p0 (begin_ok p0 p2) p4 ds.length<|Nat.le_refl _
 have tl:=tk.len
 have tf:=tk.few
 have q4:=p0.few
 refine zcr<|sw<|jq H (yS s xf qZ xG xC) fun b1 w2 H=>sw<|jq H (yT t zS zO vZ vT zq zo) fun b3 w4 H=>sw<|xU H ti39 [yN,yN] fun b5 w6 H=>sp (yI 0)<|sp (yI 0)<|zjcc<|sw<|zi (yS s xf qZ xG xC) isAgg27 sizeOf27 rfl (qK (H.cells 2 rfl) 0 3)<|sq 1<|sw<|zi (yT t zS zO vZ vT zq zo) isAgg31 sizeOf31 rfl (qK (H.cells 1 rfl) 0 3)<|sq 1<|sw<|oq (deedsCode_ok _ s own t ds (H.get 0 rfl).1 (H.get 1 rfl).1 (H.get 2 rfl).1 (H.get 3 rfl).1 (H.get 4 rfl).1 (H.get 5 rfl).1 (H.get 6 rfl).1 qg qg qg qg qg qg qg qg) H fun w8 H=>sp (yI 0)<|zjc<|sp (yI 0)<|sp (Bv false)<|zjn<|cFr rfl<|xk<|t_n<|zcr<|sw<|zi (yS s xf qZ xG xC) isAgg27 sizeOf27 rfl (qK (H.cells 2 rfl) 0 3)<|sq 1<|sw<|zi (yT t zS zO vZ vT zq zo) isAgg31 sizeOf31 rfl (qK (H.cells 1 rfl) 0 3)<|sq 1 ?_
 have H1:St w w8 [.box b5 [yN,yN] 39,.box b3 (yT t zS zO vZ vT zq zo) 31,.box b1 (yS s xf qZ xG xC) 27] [sF false zH xf qZ s.qA,sF false vX xG xC s.qB,sF false Bq q8 rD own,sF false Qa zS zO t.xn,sF false QG vZ vT t.qG,sF false jY zq zo t.qE,sF false Fds P5 P1 ds]:=H.pick [0,1,2]<|zR 0 7
 have N1:Fresh _ []:=N
 have K1:Kept [] []:=Kept.nil _
 refine sw<|zy #[.agg #[yI s.qP,Sv xf s.qA.length qZ,Sv xG s.qB.length xC],Sv q8 own.length rD,.agg #[Sv zS t.xn.length zO,Sv vZ t.qG.length vT,Sv zq t.qE.length zo],Sv P5 ds.length P1] rfl rfl call27 (after_ok s own xf qZ zH xG xC vX q8 rD Bq t zS zO Qa vZ vT QG zq zo jY n ds P5 P1 Fds H1 N1 K1 qg qg qg qg qg<|zf (A _<|List.mem_of_getElem? (i:=0) rfl)<|zf (A _<|List.mem_of_getElem? (i:=1) rfl)<|zf (A _<|List.mem_of_getElem? (i:=2) rfl)<|zf (A _<|List.mem_of_getElem? (i:=3) rfl)<|zf (A _<|List.mem_of_getElem? (i:=4) rfl)<|zf (A _<|List.mem_of_getElem? (i:=5) rfl)<|zf (A _<|List.mem_of_getElem? (i:=6) rfl) olds_none) ?_
 clear H H1 N1 K1
 rintro _ DN ⟨au5,vc,ajp,aby,EF,wE,azb,aHn,nZ,aG9,qS,rfl,N,H⟩
 obtain rfl:=H.xe (α:=zA) 1 rfl 7 rfl qj
 obtain rfl:=H.xe (α:=zk) 2 rfl 8 rfl qj
 refine sq 5<|zjc<|sw<|jb [yN,yN] []<|sw<|xU H ti39 [yN,yN] fun sA JE H=>sw<|zC H 0 [yN,yN] sizeOf39 fun Ea H=>zjcc<|sq 2<|oF rfl<|oF rfl<|oL rfl (H.cell 1 rfl rfl)<|oN rfl<|sp (yI 0)<|zjn<|xg ?_
 replace H:=H.nilRow 49 16
 replace H:=H.jZ (α:=zA)
 refine zU ((fun Z0 Z1 Z2 Z3 Z4 Z5 Z6 Z7 Z8 Z9 fH fZ iw kH=>fun m' ρ Ky=>∃ (xI:Env) (cf:Nat) (QZ:yOA) (QH:Nat) (QY:Nat) (mp:List zA) (gr:List Value) (Qp:yLN),ρ=upd (upd (upd (upd (upd (upd (upd xI 8<|pp b5 0) 12<|pp au5 0) 13<|yI ((xF s own (qW s own t n) ds ds.length).2)) 14<|pp sA 0) 41<|Sv vc (((xF s own (qW s own t n) ds ds.length).1.qF).length) aby) 42<|yI (((xF s own (qW s own t n) ds ds.length).1.qF).length)) 43 (yI cf)/\mp=(xF s own (qW s own t n) ds ds.length).1.qF.take cf/\((cf:Int)<=(((xF s own (qW s own t n) ds ds.length).1.qF).length))/\m' =((((xF s own (qW s own t n) ds ds.length).1.qF).length) - (cf:Int)).toNat/\Fresh w.heap.size [wE,qS,Qp]/\St w Ky [rr QZ QH QY 49 16 gr,.box sA [Sv QZ QH QY,yN] 39,Z0,Z1,Z2,Z3,Z4,Z5] [qL true Qp gr mp,Z6,Z7,Z8,Z9,fH,fZ,iw,kH]) _ _ _ _ _ _ _ _ _ _ _ _ _ _) (((((xF s own (qW s own t n) ds ds.length).1.qF).length) - (0:Int)).toNat) ⟨_,0,none,0,0,([]:List zA),[],[],uE7,(by rfl),qf,rfl,(N.emp.pick [1,2,0]),H.pick (zR 0 8) [0,1,2,3,4,5,6,8,9]⟩ ?_
 clear H N
 rintro m' ρ SD ⟨xI,cf,QZ,QH,QY,mp,gr,Qp,rfl,rfl,i0,rfl,N,H⟩
 have Ny:=H.xe (α:=zA) 0 rfl 0 rfl qj
 have hl:((xF s own (qW s own t n) ds ds.length).1.qF.take cf).length=cf:=List.length_take_of_le qf
 refine zcr<|sq 1<|zjn<|xH<|cD rfl (fun oZ=>?_)<|fun oZ=>?_
 ·have y1:=tk.srv cf qf
  have y2:=y1.1.small p0
  have y3:=y1.2.small p0
  refine xk<|t_n<|xH<|xg<|zcr ?_
  obtain ⟨Eq,rfl⟩:=H.jg 3 rfl qf
  refine oI rfl rfl ?_
  obtain ⟨lI,lL,SO,ir,iJ,Pl,mP,nz,Um,iC,iB,ME,mF,mK,Yf,lw,lr,Ru,ki,kf,Re,gQ,gR,KB,lA,lM,SC,gU,gW,KF,lF,lp,RJ,kv,kt,Rb,TK,H⟩:=H.part_ServerD Qo.refl 3 rfl 7 rfl rfl cf qf
  refine sw<|zi [yI (((((xF s own (qW s own t n) ds ds.length).1.qF)[cf]!).qC).qN),Sv lI ((((((xF s own (qW s own t n) ds ds.length).1.qF)[cf]!).qC).qG).length) lL,Sv ir ((((((xF s own (qW s own t n) ds ds.length).1.qF)[cf]!).qC).qE).length) iJ,Bv (((((xF s own (qW s own t n) ds ds.length).1.qF)[cf]!).qC).qQ),Sv mP ((((((xF s own (qW s own t n) ds ds.length).1.qF)[cf]!).qC).vz).length) nz,Sv iC ((((((xF s own (qW s own t n) ds ds.length).1.qF)[cf]!).qC).qJ).length) iB,Sv mF ((((((xF s own (qW s own t n) ds ds.length).1.qF)[cf]!).qC).vJ).length) mK,Sv lw ((((((xF s own (qW s own t n) ds ds.length).1.qF)[cf]!).qC).xP).length) lr,yI (((((xF s own (qW s own t n) ds ds.length).1.qF)[cf]!).qH).qN),Sv ki ((((((xF s own (qW s own t n) ds ds.length).1.qF)[cf]!).qH).qG).length) kf,Sv gQ ((((((xF s own (qW s own t n) ds ds.length).1.qF)[cf]!).qH).qE).length) gR,Bv (((((xF s own (qW s own t n) ds ds.length).1.qF)[cf]!).qH).qQ),Sv lA ((((((xF s own (qW s own t n) ds ds.length).1.qF)[cf]!).qH).vz).length) lM,Sv gU ((((((xF s own (qW s own t n) ds ds.length).1.qF)[cf]!).qH).qJ).length) gW,Sv lF ((((((xF s own (qW s own t n) ds ds.length).1.qF)[cf]!).qH).vJ).length) lp,Sv kv ((((((xF s own (qW s own t n) ds ds.length).1.qF)[cf]!).qH).xP).length) kt] isAgg49 sizeOf49 rfl (fun r v hv=>H.xX 3 rfl (TK r v hv) qf)<|sw<|xU H ti49 [yI 0,yN,yN,Bv false,yN,yN,yN,yN,yI 0,yN,yN,Bv false,yN,yN,yN,yN] fun SI w33 H=>?_
  refine sw<|zC H 0 [yI (((((xF s own (qW s own t n) ds ds.length).1.qF)[cf]!).qC).qN),Sv lI ((((((xF s own (qW s own t n) ds ds.length).1.qF)[cf]!).qC).qG).length) lL,Sv ir ((((((xF s own (qW s own t n) ds ds.length).1.qF)[cf]!).qC).qE).length) iJ,Bv (((((xF s own (qW s own t n) ds ds.length).1.qF)[cf]!).qC).qQ),Sv mP ((((((xF s own (qW s own t n) ds ds.length).1.qF)[cf]!).qC).vz).length) nz,Sv iC ((((((xF s own (qW s own t n) ds ds.length).1.qF)[cf]!).qC).qJ).length) iB,Sv mF ((((((xF s own (qW s own t n) ds ds.length).1.qF)[cf]!).qC).vJ).length) mK,Sv lw ((((((xF s own (qW s own t n) ds ds.length).1.qF)[cf]!).qC).xP).length) lr,yI (((((xF s own (qW s own t n) ds ds.length).1.qF)[cf]!).qH).qN),Sv ki ((((((xF s own (qW s own t n) ds ds.length).1.qF)[cf]!).qH).qG).length) kf,Sv gQ ((((((xF s own (qW s own t n) ds ds.length).1.qF)[cf]!).qH).qE).length) gR,Bv (((((xF s own (qW s own t n) ds ds.length).1.qF)[cf]!).qH).qQ),Sv lA ((((((xF s own (qW s own t n) ds ds.length).1.qF)[cf]!).qH).vz).length) lM,Sv gU ((((((xF s own (qW s own t n) ds ds.length).1.qF)[cf]!).qH).qJ).length) gW,Sv lF ((((((xF s own (qW s own t n) ds ds.length).1.qF)[cf]!).qH).vJ).length) lp,Sv kv ((((((xF s own (qW s own t n) ds ds.length).1.qF)[cf]!).qH).xP).length) kt] sizeOf49 fun w34 H=>(zjn<|zY 3 rfl H [0,1,2,3,4,5,6,7,8] [0,1,2,3,4,5,6,7,8,9,10,11,12,13,14,15,16,17,18,19,20] fun H=>?_)
  dsimp only [jR,yE]
  refine tF 0 rfl rfl H ?_
  refine tL 1 rfl rfl (fun _ h=>h.cell 2 rfl rfl) H ?_
  refine tF 2 rfl rfl H ?_
  refine rt 3 _ (yh (cs:=[yI (((((xF s own (qW s own t n) ds ds.length).1.qF)[cf]!).qC).qN),Sv lI ((((((xF s own (qW s own t n) ds ds.length).1.qF)[cf]!).qC).qG).length) lL,Sv ir ((((((xF s own (qW s own t n) ds ds.length).1.qF)[cf]!).qC).qE).length) iJ,Bv (((((xF s own (qW s own t n) ds ds.length).1.qF)[cf]!).qC).qQ),Sv mP ((((((xF s own (qW s own t n) ds ds.length).1.qF)[cf]!).qC).vz).length) nz,Sv iC ((((((xF s own (qW s own t n) ds ds.length).1.qF)[cf]!).qC).qJ).length) iB,Sv mF ((((((xF s own (qW s own t n) ds ds.length).1.qF)[cf]!).qC).vJ).length) mK,Sv lw ((((((xF s own (qW s own t n) ds ds.length).1.qF)[cf]!).qC).xP).length) lr]) isAgg47 sizeOf47 rfl<|fun _ h=>qK (h.cells 0 rfl) 0 8) H ?_
  refine tF 5 rfl rfl H ?_
  refine rt 6 _ (yh (cs:=[yI (((((xF s own (qW s own t n) ds ds.length).1.qF)[cf]!).qH).qN),Sv ki ((((((xF s own (qW s own t n) ds ds.length).1.qF)[cf]!).qH).qG).length) kf,Sv gQ ((((((xF s own (qW s own t n) ds ds.length).1.qF)[cf]!).qH).qE).length) gR,Bv (((((xF s own (qW s own t n) ds ds.length).1.qF)[cf]!).qH).qQ),Sv lA ((((((xF s own (qW s own t n) ds ds.length).1.qF)[cf]!).qH).vz).length) lM,Sv gU ((((((xF s own (qW s own t n) ds ds.length).1.qF)[cf]!).qH).qJ).length) gW,Sv lF ((((((xF s own (qW s own t n) ds ds.length).1.qF)[cf]!).qH).vJ).length) lp,Sv kv ((((((xF s own (qW s own t n) ds ds.length).1.qF)[cf]!).qH).xP).length) kt]) isAgg47 sizeOf47 rfl<|fun _ h=>qK (h.cells 0 rfl) 8 8) H ?_
  refine ro 4 rfl ?_
  have avY:=H.base.size
  have axa:=H.ltN (L:=[wE,qS,Qp]) [19,20,12]
  refine oc (X0 _ ((((xF s own (qW s own t n) ds ds.length).1.qF)[cf]!).qC) (H.get 0 rfl).1 (H.get 1 rfl).1 (H.get 2 rfl).1 (H.get 3 rfl).1 (H.get 4 rfl).1 (H.get 5 rfl).1 qg) ?_
  rintro _ w37 ⟨vl,t6,DD,oO,ou,t0,Au,A5,FW,ow,oe,uV,zc,Be,GD,uO,s0,CA,rfl,M,K⟩ _
  replace N:=N.merge avY axa M
  replace H:=H.merge K M
  refine ⟨H.pick (zR 0 9)<|zR 6 21,(ro 7 rfl ?_)⟩
  have ayY:=H.base.size
  have atr:=H.ltN (L:=[DD,t0,FW,uV,GD,CA,wE,qS,Qp]) [0,1,2,3,4,5,25,26,18]
  refine oc (X0 _ ((((xF s own (qW s own t n) ds ds.length).1.qF)[cf]!).qH) (H.get 12 rfl).1 (H.get 13 rfl).1 (H.get 14 rfl).1 (H.get 15 rfl).1 (H.get 16 rfl).1 (H.get 17 rfl).1 qg) ?_
  rintro _ TT ⟨wo,tS,Mw,oG,ol,EN,zm,A2,RZ,oz,ob,D8,Bf,Av,RS,ui,u9,PT,rfl,M,K⟩ _
  replace N:=N.merge ayY atr M
  replace H:=H.merge K M
  refine ⟨H.pick (zR 0 9)<|zR 12 21,(ro 8 rfl ?_)⟩
  refine jb [yI (((((xF s own (qW s own t n) ds ds.length).1.qF)[cf]!).qC).qN),Sv vl ((((((xF s own (qW s own t n) ds ds.length).1.qF)[cf]!).qC).qG).length) t6,Sv oO ((((((xF s own (qW s own t n) ds ds.length).1.qF)[cf]!).qC).qE).length) ou,Bv (((((xF s own (qW s own t n) ds ds.length).1.qF)[cf]!).qC).qQ),Sv Au ((((((xF s own (qW s own t n) ds ds.length).1.qF)[cf]!).qC).vz).length) A5,Sv ow ((((((xF s own (qW s own t n) ds ds.length).1.qF)[cf]!).qC).qJ).length) oe,Sv zc ((((((xF s own (qW s own t n) ds ds.length).1.qF)[cf]!).qC).vJ).length) Be,Sv uO ((((((xF s own (qW s own t n) ds ds.length).1.qF)[cf]!).qC).xP).length) s0,yI (((((xF s own (qW s own t n) ds ds.length).1.qF)[cf]!).qH).qN),Sv wo ((((((xF s own (qW s own t n) ds ds.length).1.qF)[cf]!).qH).qG).length) tS,Sv oG ((((((xF s own (qW s own t n) ds ds.length).1.qF)[cf]!).qH).qE).length) ol,Bv (((((xF s own (qW s own t n) ds ds.length).1.qF)[cf]!).qH).qQ),Sv zm ((((((xF s own (qW s own t n) ds ds.length).1.qF)[cf]!).qH).vz).length) A2,Sv oz ((((((xF s own (qW s own t n) ds ds.length).1.qF)[cf]!).qH).qJ).length) ob,Sv Bf ((((((xF s own (qW s own t n) ds ds.length).1.qF)[cf]!).qH).vJ).length) Av,Sv ui ((((((xF s own (qW s own t n) ds ds.length).1.qF)[cf]!).qH).xP).length) u9] [(0,.agg #[yI (((((xF s own (qW s own t n) ds ds.length).1.qF)[cf]!).qC).qN),Sv vl ((((((xF s own (qW s own t n) ds ds.length).1.qF)[cf]!).qC).qG).length) t6,Sv oO ((((((xF s own (qW s own t n) ds ds.length).1.qF)[cf]!).qC).qE).length) ou,Bv (((((xF s own (qW s own t n) ds ds.length).1.qF)[cf]!).qC).qQ),Sv Au ((((((xF s own (qW s own t n) ds ds.length).1.qF)[cf]!).qC).vz).length) A5,Sv ow ((((((xF s own (qW s own t n) ds ds.length).1.qF)[cf]!).qC).qJ).length) oe,Sv zc ((((((xF s own (qW s own t n) ds ds.length).1.qF)[cf]!).qC).vJ).length) Be,Sv uO ((((((xF s own (qW s own t n) ds ds.length).1.qF)[cf]!).qC).xP).length) s0]),(1,.agg #[yI (((((xF s own (qW s own t n) ds ds.length).1.qF)[cf]!).qH).qN),Sv wo ((((((xF s own (qW s own t n) ds ds.length).1.qF)[cf]!).qH).qG).length) tS,Sv oG ((((((xF s own (qW s own t n) ds ds.length).1.qF)[cf]!).qH).qE).length) ol,Bv (((((xF s own (qW s own t n) ds ds.length).1.qF)[cf]!).qH).qQ),Sv zm ((((((xF s own (qW s own t n) ds ds.length).1.qF)[cf]!).qH).vz).length) A2,Sv oz ((((((xF s own (qW s own t n) ds ds.length).1.qF)[cf]!).qH).qJ).length) ob,Sv Bf ((((((xF s own (qW s own t n) ds ds.length).1.qF)[cf]!).qH).vJ).length) Av,Sv ui ((((((xF s own (qW s own t n) ds ds.length).1.qF)[cf]!).qH).xP).length) u9])] ?_
  refine ⟨H.pick (zR 0 9)<|zR 12 21,(ro 9 rfl ?_)⟩
  refine zx H underlying36 ti49 [yI (((((xF s own (qW s own t n) ds ds.length).1.qF)[cf]!).qC).qN),Sv vl ((((((xF s own (qW s own t n) ds ds.length).1.qF)[cf]!).qC).qG).length) t6,Sv oO ((((((xF s own (qW s own t n) ds ds.length).1.qF)[cf]!).qC).qE).length) ou,Bv (((((xF s own (qW s own t n) ds ds.length).1.qF)[cf]!).qC).qQ),Sv Au ((((((xF s own (qW s own t n) ds ds.length).1.qF)[cf]!).qC).vz).length) A5,Sv ow ((((((xF s own (qW s own t n) ds ds.length).1.qF)[cf]!).qC).qJ).length) oe,Sv zc ((((((xF s own (qW s own t n) ds ds.length).1.qF)[cf]!).qC).vJ).length) Be,Sv uO ((((((xF s own (qW s own t n) ds ds.length).1.qF)[cf]!).qC).xP).length) s0,yI (((((xF s own (qW s own t n) ds ds.length).1.qF)[cf]!).qH).qN),Sv wo ((((((xF s own (qW s own t n) ds ds.length).1.qF)[cf]!).qH).qG).length) tS,Sv oG ((((((xF s own (qW s own t n) ds ds.length).1.qF)[cf]!).qH).qE).length) ol,Bv (((((xF s own (qW s own t n) ds ds.length).1.qF)[cf]!).qH).qQ),Sv zm ((((((xF s own (qW s own t n) ds ds.length).1.qF)[cf]!).qH).vz).length) A2,Sv oz ((((((xF s own (qW s own t n) ds ds.length).1.qF)[cf]!).qH).qJ).length) ob,Sv Bf ((((((xF s own (qW s own t n) ds ds.length).1.qF)[cf]!).qH).vJ).length) Av,Sv ui ((((((xF s own (qW s own t n) ds ds.length).1.qF)[cf]!).qH).xP).length) u9] fun b46 w47 H=>(⟨H.pick (zR 1 9)<|zR 12 21,(xy qh<|xM<|sw<|zJ H 2 rfl 0 rfl underlying36 ti49 rfl qj rfl rfl rfl qw qp qf fun a48 c49 w50 H=>?_)⟩)
  replace H:=H.snoc_ServerD 24 rfl (((((xF s own (qW s own t n) ds ds.length).1.qF)[cf]!).qC).qN) 6 rfl 7 rfl (((((xF s own (qW s own t n) ds ds.length).1.qF)[cf]!).qC).qQ) 8 rfl 9 rfl 10 rfl 11 rfl (((((xF s own (qW s own t n) ds ds.length).1.qF)[cf]!).qH).qN) 0 rfl 1 rfl (((((xF s own (qW s own t n) ds ds.length).1.qF)[cf]!).qH).qQ) 2 rfl 3 rfl 4 rfl 5 rfl
  replace N:Fresh w.heap.size [(Qp++(DD++t0++FW++uV++GD++CA++Mw++EN++RZ++D8++RS++PT)),wE,qS]:=(N.pick [6,7,8,9,10,11,0,1,2,3,4,5,14,12,13]).join.join.join.join.join.join.join.join.join.join.join.swap.join
  refine oF rfl<|sw<|xO H 3 [Sv a48 (QH+1) c49,yN] sizeOf36 fun w51 H=>xW<|b_n<|t_n<|xZ<|sw<|zV cf 1 rfl rfl qf<|sq 1<|xW<|xq (m' :=((((xF s own (qW s own t n) ds ds.length).1.qF).length) - ((cf+1):Int)).toNat) qf ⟨_,cf+1,_,_,_,_,_,_,uE7,?_,?_,rfl,(N.pick [1,2,0]),H.pick (zR 2 8) (0::zR 26 8)⟩
  ·exact take_snoc qf
  ·omega
 refine zx4<|zcc<|sq 2<|oF rfl<|oF rfl<|oL rfl (H.cell 2 rfl rfl)<|oN rfl<|sp (yI 0)<|zjn<|xg ?_
 replace H:=H.nilRow 77 4
 replace H:=H.jZ (α:=zk)
 refine zU ((fun Z0 Z1 Z2 Z3 Z4 Z5 Z6 Z7 Z8 Z9 fH fZ iw kH mh mj=>fun m' ρ w52=>∃ (xI:Env) (eI:Nat) (gi:yOA) (fx:Nat) (gg:Nat) (sT:List zk) (lP:List Value) (fw:yLN),ρ=upd (upd (upd (upd (upd (upd xI 8<|pp b5 0) 13<|yI ((xF s own (qW s own t n) ds ds.length).2)) 14<|pp sA 0) 64<|Sv azb (((xF s own (qW s own t n) ds ds.length).1.zu).length) nZ) 65<|yI (((xF s own (qW s own t n) ds ds.length).1.zu).length)) 66 (yI eI)/\sT=(xF s own (qW s own t n) ds ds.length).1.zu.take eI/\((eI:Int)<=(((xF s own (qW s own t n) ds ds.length).1.zu).length))/\m' =((((xF s own (qW s own t n) ds ds.length).1.zu).length) - (eI:Int)).toNat/\Fresh w.heap.size [wE,qS,Qp,fw]/\St w w52 [rr gi fx gg 77 4 lP,Z0,.box sA [Sv QZ QH QY,Sv gi fx gg] 39,Z1,Z2,Z3,Z4,Z5,Z6] [qL true fw lP sT,Z7,Z8,Z9,fH,fZ,iw,kH,mh,mj]) _ _ _ _ _ _ _ _ _ _ _ _ _ _ _ _) (((((xF s own (qW s own t n) ds ds.length).1.zu).length) - (0:Int)).toNat) ⟨_,0,none,0,0,([]:List zk),[],[],uE6,(by rfl),qf,rfl,(N.emp.pick [1,2,3,0]),H⟩ ?_
 clear H N
 rintro m' ρ w53 ⟨xI,eI,gi,fx,gg,sT,lP,fw,rfl,rfl,i0,rfl,N,H⟩
 have V8:=H.xe (α:=zk) 0 rfl 0 rfl qj
 have hl:((xF s own (qW s own t n) ds ds.length).1.zu.take eI).length=eI:=List.length_take_of_le qf
 refine zcr<|sq 1<|zjn<|xH<|cD rfl (fun h54=>?_)<|fun h54=>?_
 ·have y4:=((tk.wire eI qf).2.2.1).small p0.sys
  refine xk<|t_n<|xH<|xg<|zcr ?_
  obtain ⟨PU,rfl⟩:=H.jg 5 rfl qf
  refine oI rfl rfl ?_
  obtain ⟨CU,By,aiG,ak4,H⟩:=H.part_ParcelD Qo.refl 5 rfl 9 rfl rfl eI qf
  refine sw<|zi [yI ((((xF s own (qW s own t n) ds ds.length).1.zu)[eI]!).qN),yI ((((xF s own (qW s own t n) ds ds.length).1.zu)[eI]!).XZ),yI ((((xF s own (qW s own t n) ds ds.length).1.zu)[eI]!).fTo),Sv CU (((((xF s own (qW s own t n) ds ds.length).1.zu)[eI]!).qG).length) By] isAgg77 sizeOf77 rfl (fun r v hv=>H.xX 5 rfl (ak4 r v hv) qf)<|sw<|xU H ti77 [yI 0,yI 0,yI 0,yN] fun b58 w59 H=>(sw<|zC H 0 [yI ((((xF s own (qW s own t n) ds ds.length).1.zu)[eI]!).qN),yI ((((xF s own (qW s own t n) ds ds.length).1.zu)[eI]!).XZ),yI ((((xF s own (qW s own t n) ds ds.length).1.zu)[eI]!).fTo),Sv CU (((((xF s own (qW s own t n) ds ds.length).1.zu)[eI]!).qG).length) By] sizeOf77 fun w60 H=>zjc<|oF rfl<|oL rfl (H.cell 0 rfl rfl) ?_)
  have abu:=H.base.size
  have ZC:=H.ltN (L:=[wE,qS,Qp,fw]) [9,10,2,1]
  refine sw<|oc (Q3 _ ((((xF s own (qW s own t n) ds ds.length).1.zu)[eI]!).qG) (H.get 0 rfl).1 qg) ?_
  rintro _ w62 ⟨LG,ay1,NA,agw,aqr,rfl,M,K⟩ _
  replace N:=N.merge abu ZC M
  replace H:=H.merge K M
  obtain rfl:=H.xe (α:=yLI) 0 rfl 0 rfl qj
  refine oF rfl<|sw<|xO H 1 [yI ((((xF s own (qW s own t n) ds ds.length).1.zu)[eI]!).qN),yI ((((xF s own (qW s own t n) ds ds.length).1.zu)[eI]!).XZ),yI ((((xF s own (qW s own t n) ds ds.length).1.zu)[eI]!).fTo),Sv LG (((((xF s own (qW s own t n) ds ds.length).1.zu)[eI]!).qG).length) NA] sizeOf29 fun w67 H=>zjn<|xZ<|oF rfl<|oL rfl (H.cell 4 rfl rfl)<|sw<|zi [yI ((((xF s own (qW s own t n) ds ds.length).1.zu)[eI]!).qN),yI ((((xF s own (qW s own t n) ds ds.length).1.zu)[eI]!).XZ),yI ((((xF s own (qW s own t n) ds ds.length).1.zu)[eI]!).fTo),Sv LG (((((xF s own (qW s own t n) ds ds.length).1.zu)[eI]!).qG).length) NA] isAgg77 sizeOf77 rfl (qK (H.cells 1 rfl) 0 4)<|sw<|zx H underlying37 ti77 [yI ((((xF s own (qW s own t n) ds ds.length).1.zu)[eI]!).qN),yI ((((xF s own (qW s own t n) ds ds.length).1.zu)[eI]!).XZ),yI ((((xF s own (qW s own t n) ds ds.length).1.zu)[eI]!).fTo),Sv LG (((((xF s own (qW s own t n) ds ds.length).1.zu)[eI]!).qG).length) NA] fun b68 w69 H=>?_
  have H0:=H
  obtain ⟨G73,ahb,aJz,H⟩:=H.vK (α:=yLI) 1 rfl 0 rfl qj
  replace N:Fresh w.heap.size [G73,wE,qS,Qp,fw]:=Fresh.ice N H0 1 ahb.1 ahb.2<|H0.vg [10,11,3,2]
  clear H0
  refine sw<|zJ H 3 rfl 0 rfl underlying37 ti77 rfl qj rfl rfl rfl qw qp qf fun a70 c71 Rh H=>?_
  replace H:=H.snoc_ParcelD 3 rfl ((((xF s own (qW s own t n) ds ds.length).1.zu)[eI]!).qN) ((((xF s own (qW s own t n) ds ds.length).1.zu)[eI]!).XZ) ((((xF s own (qW s own t n) ds ds.length).1.zu)[eI]!).fTo) 0 rfl
  replace N:Fresh w.heap.size [(fw++G73),wE,qS,Qp]:=(N.pick [4,0,1,2,3]).join
  refine oF rfl<|sw<|xO H 5 [Sv QZ QH QY,Sv a70 (fx+1) c71] sizeOf37 fun w76 H=>xW<|b_n<|t_n<|xZ<|sw<|zV eI 1 rfl rfl qf<|sq 1<|xW<|xq (m' :=((((xF s own (qW s own t n) ds ds.length).1.zu).length) - ((eI+1):Int)).toNat) qf ⟨_,eI+1,_,_,_,_,_,_,uE6,?_,?_,rfl,(N.pick [1,2,3,0]),H.pick (zR 3 9) (0::zR 5 9)⟩
  ·exact take_snoc qf
  ·omega
 refine zx4<|zcr<|sw<|zi [Sv QZ QH QY,Sv gi fx gg] isAgg39 sizeOf39 rfl (qK (H.cells 2 rfl) 0 2)<|sq 1<|sw<|zC H 6 [Sv QZ QH QY,Sv gi fx gg] sizeOf39 fun w77 H=>sq 1<|sp (yI 0)<|zjr<|retC3 H 6 rfl (yI ((xF s own (qW s own t n) ds ds.length).2)) (yI 0) rfl isAgg39 sizeOf39 rfl rfl rfl ⟨_,rfl,?_,H.base⟩
 obtain rfl:cf=(xF s own (qW s own t n) ds ds.length).1.qF.length:=by omega
 obtain rfl:eI=(xF s own (qW s own t n) ds ds.length).1.zu.length:=by omega
 rw [List.take_length,List.take_length] at H
 exact ⟨QZ,QH,QY,gr,Qp,gi,fx,gg,lP,fw,rfl,(N.pick [2,3]),H.pick [1,0] [1,0]⟩
end
section
section
variable {s : qM} {own : yLI} {v : zQ} {l m : List xm}
theorem get_left {α:Type} [Inhabited α] {a b:List α} {j:Nat} (h:j < a.length):(a++b)[j]! =a[j]! :=by
 rw [getElem!_pos (a++b) j<|by rw [List.length_append];omega,getElem!_pos a j h,List.getElem_append_left h]
theorem runTo_app:∀ k,k<=l.length->xF s own v (l++m) k=xF s own v l k
 | 0,_=>rfl
 | k+1,hk=>by
  rw [xF,xF,runTo_app k qf,get_left qf]
structure CrashAt (V W:zQ×Int) (k:Int):Prop where
 cnt:W.2=V.2+1
 len:W.1.qF.length=V.1.qF.length
 wire:W.1.zu=V.1.zu
 saved:∀ i,i < V.1.qF.length->(W.1.qF[i]!).qH=(V.1.qF[i]!).qH
 desk:∀ i:Nat,i < V.1.qF.length->(W.1.qF[i]!).qC=if (i:Int)=k then (V.1.qF[i]!).qH else (V.1.qF[i]!).qC
theorem crash_run {l2:List xm} (h0:0<=k) (h1:k<=((xF s own v l l.length).1.qF.length:Int) - 1) (h2:l2=l++[⟨9,k,0⟩]):CrashAt (xF s own v l l.length) (xF s own v l2 l2.length) k:=by
 subst h2
 have e:(l++[(⟨9,k,0⟩:xm)]).length=l.length+1:=by simp
 have g:(l++[(⟨9,k,0⟩:xm)])[l.length]! =⟨9,k,0⟩:=by
  rw [getElem!_pos (l++[(⟨9,k,0⟩:xm)]) l.length qm];simp
 have r:xF s own v (l++[⟨9,k,0⟩]) (l.length+1)=(Xe (xF s own v l l.length).1 k.toNat (((xF s own v l l.length).1.qF)[k.toNat]!).qH,(xF s own v l l.length).2+1):=by
  rw [xF,runTo_app l.length<|Nat.le_refl _,g,do_crash (d:=(⟨9,k,0⟩:xm)) rfl ⟨h0,h1⟩]
  simp
 rw [e,r]
 have hk:k.toNat < (xF s own v l l.length).1.qF.length:=by omega
 refine ⟨rfl,by simp [Xe],rfl,fun i hi=>?_,fun i hi=>?_⟩
 ·show (((xF s own v l l.length).1.qF.set k.toNat _)[i]!).qH=_
  rw [getset hk]
  split
  ·rename_i h;rw [h]
  ·rfl
 ·show (((xF s own v l l.length).1.qF.set k.toNat _)[i]!).qC=_
  rw [getset hk]
  by_cases h:i=k.toNat
  ·rw [if_pos h,if_pos qf,h]
  ·rw [if_neg h,if_neg qf]
theorem Deeds.crash (h:Deeds l) (h0:0<=k/\k<=999):Deeds (l++[⟨9,k,0⟩]):=h.snoc ⟨⟨by show (1:Int)<=9;decide,by show (9:Int)<=9;decide⟩,h0,⟨Int.le_refl _,by show (0:Int)<=999;decide⟩,.inr<|.inr rfl⟩
theorem own_all {n:Nat} (h:OwnDr n own):∃ m,Vt own m/\m<=4:=by
 obtain ⟨h1,m,h2,h3,h4,h5,h6⟩:=h
 refine ⟨m,⟨⟨h2,by omega⟩,⟨by omega,h5⟩,fun i hi0 hi1=>?_⟩,by omega⟩
 obtain ⟨j,hj,e⟩:=h6 i.toNat qf
 have:own[j]! =i:=by omega
 rw [getElem!_pos own j hj] at this
 exact this▸List.getElem_mem hj
theorem giv_of {m:Nat} (hs:QC s) (h:OwnDr s.qA.length own) (hm:Vt own m):Giv s own m:=⟨hs,h.1,hm.bds,hm.one.2⟩
theorem still_of (h:MildTo s.qB s.qB.length):Still s:=fun i hi=>h i hi
theorem whole_of {t:xh} (h:AllTo t.xn):Whole t:=fun i hi=>h i hi
end
end
end Go.Proofs.YtghikkinnchndaaGreat
